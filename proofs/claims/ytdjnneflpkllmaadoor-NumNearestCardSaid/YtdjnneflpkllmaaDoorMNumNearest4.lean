/- Part 4 of the proof of NumNearest. -/
import Derived.Test.YtdjnneflpkllmaaDoorMNumNearest3

namespace Go.Proofs.YtdjnneflpkllmaaDoor.Q
open Go.RowKit Go.Proofs.YtdjnneflpkllmaaDoorW.PrintWords Go.Proofs.YtdjnneflpkllmaaDoorW.PrintLast Go.Proofs.YtdjnneflpkllmaaDoorW.PrintMore
attribute [local go_sem] max2_int min2_int max_two min_two max_three min_three max_four min_four   -- for this text's walks alone
set_option linter.unusedVariables false
set_option linter.unusedSimpArgs false
mutual
def merinoref01_addD.l0 : Nat → List Int → List Int → List Int → Int → Int → Option (List Int)
  | 0, _, _, _, _, _ => none
  | k + 1, x0, x1, x5, x6, x7 => if x7 < (x0.length : Int) then (merinoref01_addD.j1 k x0 x1 x5 x6 x7 true) else (if x7 < (x1.length : Int) then (merinoref01_addD.j1 k x0 x1 x5 x6 x7 true) else (merinoref01_addD.j1 k x0 x1 x5 x6 x7 (decide (x6 > 0))))
def merinoref01_addD.j1 : Nat → List Int → List Int → List Int → Int → Int → Bool → Option (List Int)
  | 0, _, _, _, _, _, _ => none
  | k + 1, x0, x1, x5, x6, x7, x22 => if x22 = true then (if x7 < (x0.length : Int) then (if 0 ≤ x7 then (if x7 < (x1.length : Int) then (if x5.length < 17592186044416 then (merinoref01_addD.l0 k x0 x1 (x5 ++ [Int.tmod (wrap64 ((wrap64 (x6 + (rd x0 x7))) + (rd x1 x7))) 10000]) (wrap64 (Int.tdiv (wrap64 ((wrap64 (x6 + (rd x0 x7))) + (rd x1 x7))) 10000)) (wrap64 (x7 + 1))) else (none)) else (if x5.length < 17592186044416 then (merinoref01_addD.l0 k x0 x1 (x5 ++ [Int.tmod (wrap64 (x6 + (rd x0 x7))) 10000]) (wrap64 (Int.tdiv (wrap64 (x6 + (rd x0 x7))) 10000)) (wrap64 (x7 + 1))) else (none))) else (none)) else (if x7 < (x1.length : Int) then (if 0 ≤ x7 then (if x5.length < 17592186044416 then (merinoref01_addD.l0 k x0 x1 (x5 ++ [Int.tmod (wrap64 (x6 + (rd x1 x7))) 10000]) (wrap64 (Int.tdiv (wrap64 (x6 + (rd x1 x7))) 10000)) (wrap64 (x7 + 1))) else (none)) else (none)) else (if x5.length < 17592186044416 then (merinoref01_addD.l0 k x0 x1 (x5 ++ [Int.tmod x6 10000]) (wrap64 (Int.tdiv x6 10000)) (wrap64 (x7 + 1))) else (none)))) else (some x5)
end
def merinoref01_addD.f (k : Nat) (l0 : List Int) (l1 : List Int) : Option (List Int) := merinoref01_addD.l0 k l0 l1 ([] : List Int) 0 0
theorem merinoref01_addD.mono_l : ∀ k, (∀ y0 y1 y2 y3 y4, LeO (merinoref01_addD.l0 k y0 y1 y2 y3 y4) (merinoref01_addD.l0 (k + 1) y0 y1 y2 y3 y4)) ∧ (∀ y0 y1 y2 y3 y4 y5, LeO (merinoref01_addD.j1 k y0 y1 y2 y3 y4 y5) (merinoref01_addD.j1 (k + 1) y0 y1 y2 y3 y4 y5))
  | 0 => ⟨fun _ _ _ _ _ r h => by simp [merinoref01_addD.l0] at h, fun _ _ _ _ _ _ r h => by simp [merinoref01_addD.j1] at h⟩
  | k + 1 => by
    obtain ⟨ih0, ih1⟩ := merinoref01_addD.mono_l k
    refine ⟨?_, ?_⟩
    · intro y0 y1 y2 y3 y4
      unfold merinoref01_addD.l0
      repeat' first
      | (with_reducible exact ih0 _ _ _ _ _)
      | (with_reducible exact ih1 _ _ _ _ _ _)
      | (with_reducible exact LeO.refl _)
      | (with_reducible exact LeO.none _)
      | (with_reducible refine LeO.ite ?_ ?_)
      | (with_reducible refine LeO.bind ?_ (fun _ => ?_))
      | exact ih0 _ _ _ _ _
      | exact ih1 _ _ _ _ _ _
      | exact LeO.none _
      | refine LeO.ite ?_ ?_
      | refine LeO.bind ?_ (fun _ => ?_)
    · intro y0 y1 y2 y3 y4 y5
      unfold merinoref01_addD.j1
      repeat' first
      | (with_reducible exact ih0 _ _ _ _ _)
      | (with_reducible exact ih1 _ _ _ _ _ _)
      | (with_reducible exact LeO.refl _)
      | (with_reducible exact LeO.none _)
      | (with_reducible refine LeO.ite ?_ ?_)
      | (with_reducible refine LeO.bind ?_ (fun _ => ?_))
      | exact ih0 _ _ _ _ _
      | exact ih1 _ _ _ _ _ _
      | exact LeO.none _
      | refine LeO.ite ?_ ?_
      | refine LeO.bind ?_ (fun _ => ?_)
theorem merinoref01_addD.mono : ∀ a0 a1 k, LeO (merinoref01_addD.f k a0 a1) (merinoref01_addD.f (k + 1) a0 a1) := by
  intro a0 a1 k
  obtain ⟨ih0, ih1⟩ := merinoref01_addD.mono_l k
  unfold merinoref01_addD.f
  repeat' first
      | (with_reducible exact ih0 _ _ _ _ _)
      | (with_reducible exact ih1 _ _ _ _ _ _)
      | (with_reducible exact LeO.refl _)
      | (with_reducible exact LeO.none _)
      | (with_reducible refine LeO.ite ?_ ?_)
      | (with_reducible refine LeO.bind ?_ (fun _ => ?_))
      | exact ih0 _ _ _ _ _
      | exact ih1 _ _ _ _ _ _
      | exact LeO.none _
      | refine LeO.ite ?_ ?_
      | refine LeO.bind ?_ (fun _ => ?_)
set_option maxHeartbeats 8000000 in
set_option maxRecDepth 100000 in
theorem merinoref01_addD.calls (k : Nat) (A0 : Option Addr) (c0 : Nat) (l0 : List Int) (A1 : Option Addr) (c1 : Nat) (l1 : List Int) (r : List Int) (w : World) (hr0 : Kd.C (Kd.int .i64) w A0 l0.length l0) (hc0 : l0.length ≤ c0) (hr1 : Kd.C (Kd.int .i64) w A1 l1.length l1) (hc1 : l1.length ≤ c1) (h : merinoref01_addD.f k l0 l1 = some r) :
    Calls Tryd.prog 106 #[.slice A0 l0.length c0, .slice A1 l1.length c1] w fun e w' => ∃ v0_ : Value, e = .returned (v0_) ∧ Kd.R (Kd.int .i64) 3 w' w.heap.size (fun _ => True) v0_ r ∧ Below w.heap.size w w' := by
  have HR0 := Aside0.mk hr0
  have HC0 := Aside0.mk hc0
  clear hr0 hc0
  have HR1 := Aside0.mk hr1
  have HC1 := Aside0.mk hc1
  clear hr1 hc1
  have HB := Aside0.mk (Below.refl w.heap.size w)
  have H : (merinoref01_addD.l0 k l0 l1 ([] : List Int) 0 0) = some r := h
  clear h
  have H' := Aside0.mk H
  clear H
  go_enter Tryd.func106, Tryd.ntmps106
  go_wp2
  go_loopg [5, 6, 7] k (fun kq v5 v6 v7 w' => ∃ (x5_1 : List Int) (x6_1 : Int) (x7_1 : Int), v6 = .int .i64 x6_1 ∧ v7 = .int .i64 x7_1 ∧ Aside0 (merinoref01_addD.l0 kq l0 l1 x5_1 x6_1 x7_1 = some r) ∧ Aside0 (kq ≤ k) ∧ Aside0 (Kd.R (Kd.int .i64) 3 w' w.heap.size (fun _ => True) v5 x5_1) ∧ Aside0 (Below w.heap.size w w'))
  case atStart => exact ⟨(([] : List Int)), (0), (0), (by first | rfl | (simp; done) | (simp [*]; done)), (by first | rfl | (simp; done) | (simp [*]; done)), H', ⟨Nat.le_refl _⟩, ⟨by first | exact Kd.R_nil _ _ _ _ _ | exact Kd.N_nil _ _ _ _ _ | exact Kd.V_nil _ _ _ _ _ | exact Kd.Q_nil _ _ _ _ _ | exact Kd.S_nil _ _ _ _ _⟩, ⟨(q0_ HB.out)⟩⟩
  case round =>
    clear H'
    try clear c1
    try clear p2
    obtain ⟨x5_1, x6_1, x7_1, rfl, rfl, HA, HK1, HO_5, HB⟩ := hrel
    cases gk with
    | zero => exact absurd HA.out (by simp [merinoref01_addD.l0])
    | succ k1 =>
      have H := HA.out
      clear HA
      simp only [merinoref01_addD.l0] at H
      have HC3 := Aside0.mk H
      clear H
      go_upto_region 4 with (fail)
      go_cut [22] (fun v22 wc => ∃ (kq : Nat) (x22_2 : Bool), v22 = .bool x22_2 ∧ Aside0 (merinoref01_addD.j1 kq l0 l1 x5_1 x6_1 x7_1 x22_2 = some r) ∧ Aside0 (kq ≤ k1) ∧ Aside0 (Kd.R (Kd.int .i64) 3 wc w.heap.size (fun _ => True) u5 x5_1) ∧ Aside0 (Below w.heap.size w wc))
      case first =>
        have H := HC3.out
        clear HC3
        by_cases c4 : x7_1 < (l0.length : Int)
        · rw [if_pos c4] at H
          have c4b0 : decide (x7_1 < (l0.length : Int)) = true := decide_eq_true c4
          clear c4
          (first | rw [c4b0] | (simp only [i64_w, i32_w]; rw [c4b0]) | skip)
          have H' := Aside0.mk H
          clear H
          go_wp2
          go_meet
          case rel => exact ⟨_, (true), (by first | rfl | (simp; done) | (simp [*]; done)), H', ⟨by have := HK1.out; first | omega | exact Nat.le_refl _⟩, ⟨by (with_reducible repeat (first | apply Kd.R_alloc | apply Kd.R_drewN | apply Kd.R_drew)); exact HO_5.out⟩, ⟨(q0_ HB.out)⟩⟩
        · rw [if_neg c4] at H
          have c4b0 : decide (x7_1 < (l0.length : Int)) = false := decide_eq_false c4
          clear c4
          (first | rw [c4b0] | (simp only [i64_w, i32_w]; rw [c4b0]) | skip)
          by_cases c5 : x7_1 < (l1.length : Int)
          · rw [if_pos c5] at H
            have c5b0 : decide (x7_1 < (l1.length : Int)) = true := decide_eq_true c5
            clear c5
            have H' := Aside0.mk H
            clear H
            go_wp2
            go_meet
            case rel => exact ⟨_, (true), (by first | rfl | (simp; done) | (simp [*]; done)), H', ⟨by have := HK1.out; first | omega | exact Nat.le_refl _⟩, ⟨by (with_reducible repeat (first | apply Kd.R_alloc | apply Kd.R_drewN | apply Kd.R_drew)); exact HO_5.out⟩, ⟨(q0_ HB.out)⟩⟩
          · rw [if_neg c5] at H
            have c5b0 : decide (x7_1 < (l1.length : Int)) = false := decide_eq_false c5
            clear c5
            have H' := Aside0.mk H
            clear H
            go_wp2
            go_meet
            case rel => exact ⟨_, (decide (x6_1 > 0)), (by first | rfl | (simp; done) | (simp [*]; done)), H', ⟨by have := HK1.out; first | omega | exact Nat.le_refl _⟩, ⟨by (with_reducible repeat (first | apply Kd.R_alloc | apply Kd.R_drewN | apply Kd.R_drew)); exact HO_5.out⟩, ⟨(q0_ HB.out)⟩⟩
      case rest =>
        clear HC3
        try clear c1
        try clear p2
        try clear c4
        try clear c4b0
        try clear c5
        try clear c5b0
        try clear p2
        obtain ⟨kq, x22_2, rfl, HA, HJ2, HO_5, HB⟩ := hcut
        cases kq with
        | zero => exact absurd HA.out (by simp [merinoref01_addD.j1])
        | succ kj2 =>
          have H := HA.out
          clear HA
          simp only [merinoref01_addD.j1] at H
          by_cases c6 : x22_2 = true
          · subst c6
            have H1 : (if x7_1 < (l0.length : Int) then (if 0 ≤ x7_1 then (if x7_1 < (l1.length : Int) then (if x5_1.length < 17592186044416 then (merinoref01_addD.l0 kj2 l0 l1 (x5_1 ++ [Int.tmod (wrap64 ((wrap64 (x6_1 + (rd l0 x7_1))) + (rd l1 x7_1))) 10000]) (wrap64 (Int.tdiv (wrap64 ((wrap64 (x6_1 + (rd l0 x7_1))) + (rd l1 x7_1))) 10000)) (wrap64 (x7_1 + 1))) else (none)) else (if x5_1.length < 17592186044416 then (merinoref01_addD.l0 kj2 l0 l1 (x5_1 ++ [Int.tmod (wrap64 (x6_1 + (rd l0 x7_1))) 10000]) (wrap64 (Int.tdiv (wrap64 (x6_1 + (rd l0 x7_1))) 10000)) (wrap64 (x7_1 + 1))) else (none))) else (none)) else (if x7_1 < (l1.length : Int) then (if 0 ≤ x7_1 then (if x5_1.length < 17592186044416 then (merinoref01_addD.l0 kj2 l0 l1 (x5_1 ++ [Int.tmod (wrap64 (x6_1 + (rd l1 x7_1))) 10000]) (wrap64 (Int.tdiv (wrap64 (x6_1 + (rd l1 x7_1))) 10000)) (wrap64 (x7_1 + 1))) else (none)) else (none)) else (if x5_1.length < 17592186044416 then (merinoref01_addD.l0 kj2 l0 l1 (x5_1 ++ [Int.tmod x6_1 10000]) (wrap64 (Int.tdiv x6_1 10000)) (wrap64 (x7_1 + 1))) else (none)))) = some r := by rw [if_pos rfl] at H; exact H
            clear H
            have H := H1
            clear H1
            by_cases c7 : x7_1 < (l0.length : Int)
            · rw [if_pos c7] at H
              have c7b0 : decide (x7_1 < (l0.length : Int)) = true := decide_eq_true c7
              clear c7
              by_cases c8 : 0 ≤ x7_1
              · rw [if_pos c8] at H
                have c8b0 : decide (0 ≤ x7_1) = true := decide_eq_true c8
                clear c8
                by_cases c9 : x7_1 < (l1.length : Int)
                · rw [if_pos c9] at H
                  have c9b0 : decide (x7_1 < (l1.length : Int)) = true := decide_eq_true c9
                  clear c9
                  by_cases c10 : x5_1.length < 17592186044416
                  · rw [if_pos c10] at H
                    have LMc10 := Aside0.mk c10
                    clear c10
                    obtain ⟨y225, hy225⟩ : ∃ y_ : List Int, y_ = (x5_1 ++ [Int.tmod (wrap64 ((wrap64 (x6_1 + (rd l0 x7_1))) + (rd l1 x7_1))) 10000]) := ⟨_, rfl⟩
                    replace H : (merinoref01_addD.l0 kj2 l0 l1 y225 (wrap64 (Int.tdiv (wrap64 ((wrap64 (x6_1 + (rd l0 x7_1))) + (rd l1 x7_1))) 10000)) (wrap64 (x7_1 + 1))) = some r := by first | (rw [hy225]; with_reducible exact H) | (have H2_ := (Option.bind_some _ _).symm.trans H; rw [hy225]; with_reducible exact H2_) | (have H2_ := (Option.bind_some _ _).symm.trans H; with_reducible exact H2_) | with_reducible exact H | (rw [hy225]; exact H) | exact H
                    have Ny225 := Aside0.mk hy225
                    clear hy225
                    have H' := Aside0.mk H
                    clear H
                    have p223 : 0 ≤ (x7_1 : Int) := of_decide_eq_true (by first | (with_reducible assumption) | assumption)
                    have q223 : x7_1 < (l0.length : Int) := of_decide_eq_true (by first | (with_reducible assumption) | assumption)
                    obtain ⟨ad223, e223, hx223_0⟩ := Kd.at_int HR0.out x7_1 p223 q223
                    cases e223
                    replace hx223_0 := (HB.out.cell (World.block_lt_of_cell? w _ hx223_0)).trans hx223_0
                    replace p223 := eq_true p223
                    replace q223 := eq_true q223
                    have p224 : 0 ≤ (x7_1 : Int) := of_decide_eq_true (by first | (with_reducible assumption) | assumption)
                    have q224 : x7_1 < (l1.length : Int) := of_decide_eq_true (by first | (with_reducible assumption) | assumption)
                    obtain ⟨ad224, e224, hx224_0⟩ := Kd.at_int HR1.out x7_1 p224 q224
                    cases e224
                    replace hx224_0 := (HB.out.cell (World.block_lt_of_cell? w _ hx224_0)).trans hx224_0
                    replace p224 := eq_true p224
                    replace q224 := eq_true q224
                    go_wp2_with (first | ((with_reducible refine gate_builtin (b := .append) (xs := #[.tmp 46, .tmp 49]) rfl ?_); (try (refine gate_guard (by rfl) ?_; dsimp only)); at_builtin; refine Kd.R_append (Kd.int .i64) (w0 := w) w.heap.size rfl (.tmp 46) (.tmp 49) 29 3 (.int .i64 0) 8 rfl Tryd.underlying29 info3 rfl (by decide) (by omega) u5 x5_1 (Int.tmod (wrap64 ((wrap64 (x6_1 + (rd l0 x7_1))) + (rd l1 x7_1))) 10000) [.int .i64 (Int.tmod (wrap64 ((wrap64 (x6_1 + (rd l0 x7_1))) + (rd l1 x7_1))) 10000)] (fun _ => True) (fun _ => False) rfl rfl ?aP (fun _ hk => hk.elim) ?aF ?aO ?aB ?aS ?aL ?_; (case aP => exact rfl); (case aB => exact (q0_ HB.out)); (case aF => exact (fun _ _ => trivial)); (case aO => exact (qr_ HO_5.out)); (case aS => exact (below_size (q0_ HB.out))); (case aL => have := LMc10.out; omega); intro v226 w11 ho hb hg hat; rw [← Ny225.out] at ho; have n0_ := Aside0.mk (hb); have n1_ := Aside0.mk (ho); clear HB; clear HO_5; have HB := n0_; have HO227 := n1_; clear n0_ n1_; clear ho hb hg hat))
                    go_roundg kj2
                    case measure => have := HK1.out; have := HJ2.out; omega
                    case rel => exact ⟨(y225), (wrap64 (Int.tdiv (wrap64 ((wrap64 (x6_1 + (rd l0 x7_1))) + (rd l1 x7_1))) 10000)), (wrap64 (x7_1 + 1)), (by first | rfl | (simp; done) | (simp [*]; done)), (by first | rfl | (simp; done) | (simp [*]; done)), H', ⟨by have := HK1.out; have := HJ2.out; omega⟩, ⟨by (with_reducible repeat (first | apply Kd.R_alloc | apply Kd.R_drewN | apply Kd.R_drew)); exact HO227.out⟩, ⟨(q0_ HB.out)⟩⟩
                  · rw [if_neg c10] at H
                    exact absurd H (by simp)
                · rw [if_neg c9] at H
                  have c9b0 : decide (x7_1 < (l1.length : Int)) = false := decide_eq_false c9
                  clear c9
                  by_cases c12 : x5_1.length < 17592186044416
                  · rw [if_pos c12] at H
                    have LMc12 := Aside0.mk c12
                    clear c12
                    obtain ⟨y228, hy228⟩ : ∃ y_ : List Int, y_ = (x5_1 ++ [Int.tmod (wrap64 (x6_1 + (rd l0 x7_1))) 10000]) := ⟨_, rfl⟩
                    replace H : (merinoref01_addD.l0 kj2 l0 l1 y228 (wrap64 (Int.tdiv (wrap64 (x6_1 + (rd l0 x7_1))) 10000)) (wrap64 (x7_1 + 1))) = some r := by first | (rw [hy228]; with_reducible exact H) | (have H2_ := (Option.bind_some _ _).symm.trans H; rw [hy228]; with_reducible exact H2_) | (have H2_ := (Option.bind_some _ _).symm.trans H; with_reducible exact H2_) | with_reducible exact H | (rw [hy228]; exact H) | exact H
                    have Ny228 := Aside0.mk hy228
                    clear hy228
                    have H' := Aside0.mk H
                    clear H
                    have p223 : 0 ≤ (x7_1 : Int) := of_decide_eq_true (by first | (with_reducible assumption) | assumption)
                    have q223 : x7_1 < (l0.length : Int) := of_decide_eq_true (by first | (with_reducible assumption) | assumption)
                    obtain ⟨ad223, e223, hx223_0⟩ := Kd.at_int HR0.out x7_1 p223 q223
                    cases e223
                    replace hx223_0 := (HB.out.cell (World.block_lt_of_cell? w _ hx223_0)).trans hx223_0
                    replace p223 := eq_true p223
                    replace q223 := eq_true q223
                    go_wp2_with (first | ((with_reducible refine gate_builtin (b := .append) (xs := #[.tmp 46, .tmp 49]) rfl ?_); (try (refine gate_guard (by rfl) ?_; dsimp only)); at_builtin; refine Kd.R_append (Kd.int .i64) (w0 := w) w.heap.size rfl (.tmp 46) (.tmp 49) 29 3 (.int .i64 0) 8 rfl Tryd.underlying29 info3 rfl (by decide) (by omega) u5 x5_1 (Int.tmod (wrap64 (x6_1 + (rd l0 x7_1))) 10000) [.int .i64 (Int.tmod (wrap64 (x6_1 + (rd l0 x7_1))) 10000)] (fun _ => True) (fun _ => False) rfl rfl ?aP (fun _ hk => hk.elim) ?aF ?aO ?aB ?aS ?aL ?_; (case aP => exact rfl); (case aB => exact (q0_ HB.out)); (case aF => exact (fun _ _ => trivial)); (case aO => exact (qr_ HO_5.out)); (case aS => exact (below_size (q0_ HB.out))); (case aL => have := LMc12.out; omega); intro v229 w13 ho hb hg hat; rw [← Ny228.out] at ho; have n0_ := Aside0.mk (hb); have n1_ := Aside0.mk (ho); clear HB; clear HO_5; have HB := n0_; have HO230 := n1_; clear n0_ n1_; clear ho hb hg hat))
                    go_roundg kj2
                    case measure => have := HK1.out; have := HJ2.out; omega
                    case rel => exact ⟨(y228), (wrap64 (Int.tdiv (wrap64 (x6_1 + (rd l0 x7_1))) 10000)), (wrap64 (x7_1 + 1)), (by first | rfl | (simp; done) | (simp [*]; done)), (by first | rfl | (simp; done) | (simp [*]; done)), H', ⟨by have := HK1.out; have := HJ2.out; omega⟩, ⟨by (with_reducible repeat (first | apply Kd.R_alloc | apply Kd.R_drewN | apply Kd.R_drew)); exact HO230.out⟩, ⟨(q0_ HB.out)⟩⟩
                  · rw [if_neg c12] at H
                    exact absurd H (by simp)
              · rw [if_neg c8] at H
                exact absurd H (by simp)
            · rw [if_neg c7] at H
              have c7b0 : decide (x7_1 < (l0.length : Int)) = false := decide_eq_false c7
              clear c7
              by_cases c14 : x7_1 < (l1.length : Int)
              · rw [if_pos c14] at H
                have c14b0 : decide (x7_1 < (l1.length : Int)) = true := decide_eq_true c14
                clear c14
                by_cases c15 : 0 ≤ x7_1
                · rw [if_pos c15] at H
                  have c15b0 : decide (0 ≤ x7_1) = true := decide_eq_true c15
                  clear c15
                  by_cases c16 : x5_1.length < 17592186044416
                  · rw [if_pos c16] at H
                    have LMc16 := Aside0.mk c16
                    clear c16
                    obtain ⟨y232, hy232⟩ : ∃ y_ : List Int, y_ = (x5_1 ++ [Int.tmod (wrap64 (x6_1 + (rd l1 x7_1))) 10000]) := ⟨_, rfl⟩
                    replace H : (merinoref01_addD.l0 kj2 l0 l1 y232 (wrap64 (Int.tdiv (wrap64 (x6_1 + (rd l1 x7_1))) 10000)) (wrap64 (x7_1 + 1))) = some r := by first | (rw [hy232]; with_reducible exact H) | (have H2_ := (Option.bind_some _ _).symm.trans H; rw [hy232]; with_reducible exact H2_) | (have H2_ := (Option.bind_some _ _).symm.trans H; with_reducible exact H2_) | with_reducible exact H | (rw [hy232]; exact H) | exact H
                    have Ny232 := Aside0.mk hy232
                    clear hy232
                    have H' := Aside0.mk H
                    clear H
                    have p231 : 0 ≤ (x7_1 : Int) := of_decide_eq_true (by first | (with_reducible assumption) | assumption)
                    have q231 : x7_1 < (l1.length : Int) := of_decide_eq_true (by first | (with_reducible assumption) | assumption)
                    obtain ⟨ad231, e231, hx231_0⟩ := Kd.at_int HR1.out x7_1 p231 q231
                    cases e231
                    replace hx231_0 := (HB.out.cell (World.block_lt_of_cell? w _ hx231_0)).trans hx231_0
                    replace p231 := eq_true p231
                    replace q231 := eq_true q231
                    go_wp2_with (first | ((with_reducible refine gate_builtin (b := .append) (xs := #[.tmp 46, .tmp 49]) rfl ?_); (try (refine gate_guard (by rfl) ?_; dsimp only)); at_builtin; refine Kd.R_append (Kd.int .i64) (w0 := w) w.heap.size rfl (.tmp 46) (.tmp 49) 29 3 (.int .i64 0) 8 rfl Tryd.underlying29 info3 rfl (by decide) (by omega) u5 x5_1 (Int.tmod (wrap64 (x6_1 + (rd l1 x7_1))) 10000) [.int .i64 (Int.tmod (wrap64 (x6_1 + (rd l1 x7_1))) 10000)] (fun _ => True) (fun _ => False) rfl rfl ?aP (fun _ hk => hk.elim) ?aF ?aO ?aB ?aS ?aL ?_; (case aP => exact rfl); (case aB => exact (q0_ HB.out)); (case aF => exact (fun _ _ => trivial)); (case aO => exact (qr_ HO_5.out)); (case aS => exact (below_size (q0_ HB.out))); (case aL => have := LMc16.out; omega); intro v233 w17 ho hb hg hat; rw [← Ny232.out] at ho; have n0_ := Aside0.mk (hb); have n1_ := Aside0.mk (ho); clear HB; clear HO_5; have HB := n0_; have HO234 := n1_; clear n0_ n1_; clear ho hb hg hat))
                    go_roundg kj2
                    case measure => have := HK1.out; have := HJ2.out; omega
                    case rel => exact ⟨(y232), (wrap64 (Int.tdiv (wrap64 (x6_1 + (rd l1 x7_1))) 10000)), (wrap64 (x7_1 + 1)), (by first | rfl | (simp; done) | (simp [*]; done)), (by first | rfl | (simp; done) | (simp [*]; done)), H', ⟨by have := HK1.out; have := HJ2.out; omega⟩, ⟨by (with_reducible repeat (first | apply Kd.R_alloc | apply Kd.R_drewN | apply Kd.R_drew)); exact HO234.out⟩, ⟨(q0_ HB.out)⟩⟩
                  · rw [if_neg c16] at H
                    exact absurd H (by simp)
                · rw [if_neg c15] at H
                  exact absurd H (by simp)
              · rw [if_neg c14] at H
                have c14b0 : decide (x7_1 < (l1.length : Int)) = false := decide_eq_false c14
                clear c14
                by_cases c18 : x5_1.length < 17592186044416
                · rw [if_pos c18] at H
                  have LMc18 := Aside0.mk c18
                  clear c18
                  obtain ⟨y235, hy235⟩ : ∃ y_ : List Int, y_ = (x5_1 ++ [Int.tmod x6_1 10000]) := ⟨_, rfl⟩
                  replace H : (merinoref01_addD.l0 kj2 l0 l1 y235 (wrap64 (Int.tdiv x6_1 10000)) (wrap64 (x7_1 + 1))) = some r := by first | (rw [hy235]; with_reducible exact H) | (have H2_ := (Option.bind_some _ _).symm.trans H; rw [hy235]; with_reducible exact H2_) | (have H2_ := (Option.bind_some _ _).symm.trans H; with_reducible exact H2_) | with_reducible exact H | (rw [hy235]; exact H) | exact H
                  have Ny235 := Aside0.mk hy235
                  clear hy235
                  have H' := Aside0.mk H
                  clear H
                  go_wp2_with (first | ((with_reducible refine gate_builtin (b := .append) (xs := #[.tmp 46, .tmp 49]) rfl ?_); (try (refine gate_guard (by rfl) ?_; dsimp only)); at_builtin; refine Kd.R_append (Kd.int .i64) (w0 := w) w.heap.size rfl (.tmp 46) (.tmp 49) 29 3 (.int .i64 0) 8 rfl Tryd.underlying29 info3 rfl (by decide) (by omega) u5 x5_1 (Int.tmod x6_1 10000) [.int .i64 (Int.tmod x6_1 10000)] (fun _ => True) (fun _ => False) rfl rfl ?aP (fun _ hk => hk.elim) ?aF ?aO ?aB ?aS ?aL ?_; (case aP => exact rfl); (case aB => exact (q0_ HB.out)); (case aF => exact (fun _ _ => trivial)); (case aO => exact (qr_ HO_5.out)); (case aS => exact (below_size (q0_ HB.out))); (case aL => have := LMc18.out; omega); intro v236 w19 ho hb hg hat; rw [← Ny235.out] at ho; have n0_ := Aside0.mk (hb); have n1_ := Aside0.mk (ho); clear HB; clear HO_5; have HB := n0_; have HO237 := n1_; clear n0_ n1_; clear ho hb hg hat))
                  go_roundg kj2
                  case measure => have := HK1.out; have := HJ2.out; omega
                  case rel => exact ⟨(y235), (wrap64 (Int.tdiv x6_1 10000)), (wrap64 (x7_1 + 1)), (by first | rfl | (simp; done) | (simp [*]; done)), (by first | rfl | (simp; done) | (simp [*]; done)), H', ⟨by have := HK1.out; have := HJ2.out; omega⟩, ⟨by (with_reducible repeat (first | apply Kd.R_alloc | apply Kd.R_drewN | apply Kd.R_drew)); exact HO237.out⟩, ⟨(q0_ HB.out)⟩⟩
                · rw [if_neg c18] at H
                  exact absurd H (by simp)
          · replace c6 := Bool.eq_false_iff.mpr c6
            subst c6
            have H1 : (some x5_1) = some r := by rw [if_neg (show ¬ (false = true) by decide)] at H; exact H
            clear H
            have H := H1
            clear H1
            obtain rfl := Option.some.inj H
            go_wp2
            go_ret
            exact ⟨_, by first | rfl | (simp [errW_none, errW_some] <;> rfl) | (simp [*, errW_none, errW_some] <;> rfl), by (with_reducible repeat (first | apply Kd.R_alloc | apply Kd.R_drewN | apply Kd.R_drew)); exact HO_5.out, (q0_ HB.out)⟩
def merinoref01_Plus.f (k : Nat) (a0_0 : Bool) (l0_1 : List Int) (a1_0 : Bool) (l1_1 : List Int) : Option (Bool × List Int) := if (a0_0 == a1_0) = true then ((merinoref01_addD.f k l0_1 l1_1).bind fun t258 => ((merinoref01_whole.f k a0_0 t258).bind fun bt261 => (some (bt261.1, bt261.2)))) else ((merinoref01_cmpD.f k l0_1 l1_1).bind fun t265 => (if t265 ≥ 0 then ((merinoref01_subD.f k l0_1 l1_1).bind fun t266 => ((merinoref01_whole.f k a0_0 t266).bind fun bt269 => (some (bt269.1, bt269.2)))) else ((merinoref01_subD.f k l1_1 l0_1).bind fun t273 => ((merinoref01_whole.f k a1_0 t273).bind fun bt276 => (some (bt276.1, bt276.2))))))
theorem merinoref01_Plus.mono : ∀ a0 a1 a2 a3 k, LeO (merinoref01_Plus.f k a0 a1 a2 a3) (merinoref01_Plus.f (k + 1) a0 a1 a2 a3) := by
  intro a0 a1 a2 a3 k
  unfold merinoref01_Plus.f
  repeat' first
      | (with_reducible exact merinoref01_addD.mono _ _ _)
      | (with_reducible exact merinoref01_cmpD.mono _ _ _)
      | (with_reducible exact merinoref01_subD.mono _ _ _)
      | (with_reducible exact merinoref01_whole.mono _ _ _)
      | (with_reducible exact LeO.refl _)
      | (with_reducible exact LeO.none _)
      | (with_reducible refine LeO.ite ?_ ?_)
      | (with_reducible refine LeO.bind ?_ (fun _ => ?_))
      | exact merinoref01_addD.mono _ _ _
      | exact merinoref01_cmpD.mono _ _ _
      | exact merinoref01_subD.mono _ _ _
      | exact merinoref01_whole.mono _ _ _
      | exact LeO.none _
      | refine LeO.ite ?_ ?_
      | refine LeO.bind ?_ (fun _ => ?_)
def merinoref01_Plus.T2 : Bool × List (List Nat × List Nat) := (true, [([], []), ([0], [0]), ([], []), ([2], [2]), ([], []), ([4], [4]), ([3, 5], [3, 5]), ([1, 6, 6], [1, 6]), ([7, 7, 0, 1, 2, 3, 4, 5, 6, 7], [7])])
def merinoref01_Plus.B2 : List Nat := [0, 1, 0, 4, 0, 16, 60, 127, 255]
theorem merinoref01_Plus.tab2 : rtab .any (opsOf Tryd.f84 2) = merinoref01_Plus.T2 := by kernel_rfl
theorem merinoref01_Plus.bits2 : waitsOk merinoref01_Plus.T2.2 merinoref01_Plus.B2 = true := by kernel_rfl
def merinoref01_Plus.T4 : Bool × List (List Nat × List Nat) := (true, [([], []), ([0], [0]), ([], []), ([2], [2]), ([], []), ([4], [4]), ([3, 5], [3, 5]), ([1, 6, 6], [1, 6]), ([7, 7, 0, 1, 2, 3, 4, 5, 6, 7], [7])])
def merinoref01_Plus.B4 : List Nat := [0, 1, 0, 4, 0, 16, 60, 127, 255]
theorem merinoref01_Plus.tab4 : rtab .any (opsOf Tryd.f84 4) = merinoref01_Plus.T4 := by kernel_rfl
theorem merinoref01_Plus.bits4 : waitsOk merinoref01_Plus.T4.2 merinoref01_Plus.B4 = true := by kernel_rfl
def merinoref01_Plus.T5 : Bool × List (List Nat × List Nat) := (true, [([], []), ([0], [0]), ([], []), ([2], [2]), ([], []), ([4], [4]), ([3, 5], [3, 5]), ([1, 6, 6], [1, 6]), ([7, 7, 0, 1, 2, 3, 4, 5, 6, 7], [7])])
def merinoref01_Plus.B5 : List Nat := [0, 1, 0, 4, 0, 16, 60, 127, 255]
theorem merinoref01_Plus.tab5 : rtab .any (opsOf Tryd.f84 5) = merinoref01_Plus.T5 := by kernel_rfl
theorem merinoref01_Plus.bits5 : waitsOk merinoref01_Plus.T5.2 merinoref01_Plus.B5 = true := by kernel_rfl
set_option maxHeartbeats 8000000 in
set_option maxRecDepth 100000 in
theorem merinoref01_Plus.calls (k : Nat) (a0_0 : Bool) (A0_1 : Option Addr) (c0_1 : Nat) (l0_1 : List Int) (a1_0 : Bool) (A1_1 : Option Addr) (c1_1 : Nat) (l1_1 : List Int) (r1 : Bool) (r2 : List Int) (w : World) (hr0_1 : Kd.C (Kd.int .i64) w A0_1 l0_1.length l0_1) (hc0_1 : l0_1.length ≤ c0_1) (hr1_1 : Kd.C (Kd.int .i64) w A1_1 l1_1.length l1_1) (hc1_1 : l1_1.length ≤ c1_1) (h : merinoref01_Plus.f k a0_0 l0_1 a1_0 l1_1 = some (r1, r2)) :
    Calls Tryd.prog 84 #[.agg #[.bool a0_0, .slice A0_1 l0_1.length c0_1], .agg #[.bool a1_0, .slice A1_1 l1_1.length c1_1]] w fun e w' => ∃ v1_ : Value, e = .returned (.agg #[.bool r1, v1_]) ∧ Kd.R (Kd.int .i64) 3 w' w.heap.size (fun _ => True) v1_ r2 ∧ Below w.heap.size w w' := by
  have hu31 := Tryd.underlying31
  have HR0_1 := Aside0.mk hr0_1
  have HC0_1 := Aside0.mk hc0_1
  clear hr0_1 hc0_1
  have HR1_1 := Aside0.mk hr1_1
  have HC1_1 := Aside0.mk hc1_1
  clear hr1_1 hc1_1
  have HB := Aside0.mk (Below.refl w.heap.size w)
  have H : (if (a0_0 == a1_0) = true then ((merinoref01_addD.f k l0_1 l1_1).bind fun t258 => ((merinoref01_whole.f k a0_0 t258).bind fun bt261 => (some (bt261.1, bt261.2)))) else ((merinoref01_cmpD.f k l0_1 l1_1).bind fun t265 => (if t265 ≥ 0 then ((merinoref01_subD.f k l0_1 l1_1).bind fun t266 => ((merinoref01_whole.f k a0_0 t266).bind fun bt269 => (some (bt269.1, bt269.2)))) else ((merinoref01_subD.f k l1_1 l0_1).bind fun t273 => ((merinoref01_whole.f k a1_0 t273).bind fun bt276 => (some (bt276.1, bt276.2))))))) = some (r1, r2) := h
  clear h
  by_cases c3 : (a0_0 == a1_0) = true
  · rw [if_pos c3] at H
    have c3b0 : (a0_0 == a1_0) = true := c3
    (try (have c3b1 : decide (a0_0 = a1_0) = true := by simpa using c3))
    (try (have c3b2 : (a0_0 == a1_0) = true := by simpa using c3))
    clear c3
    replace H := Option.bind_eq_some_iff.mp H
    obtain ⟨t258, A40, H⟩ := H
    replace H : ((merinoref01_whole.f k a0_0 t258).bind fun bt261 => (some (bt261.1, bt261.2))) = some (r1, r2) := H
    have A4 := Aside0.mk A40
    clear A40
    replace H := Option.bind_eq_some_iff.mp H
    obtain ⟨⟨t261, t262⟩, A50, H⟩ := H
    replace H : (some (t261, t262)) = some (r1, r2) := H
    have A5 := Aside0.mk A50
    clear A50
    simp only [Option.some.injEq, Prod.mk.injEq] at H
    obtain ⟨rfl, rfl⟩ := H
    go_enter Tryd.func84, Tryd.ntmps84
    try go_wp2_with (first | ((with_reducible refine gate_dst (N := 2) rfl ?_); refine box_event ?hg (N := 2) ?hd (cs := #[.bool a0_0, .slice A0_1 l0_1.length c0_1]) (t := 31) ?hr ?_; (case hd => rfl); (case hg => rfl); (case hr => first | (go_simp; done) | (go_simp; rfl)); intro gb255 hg w6 hbox hb; have n0_ := Aside0.mk (below_step (q0_ HB.out) hb); have n1_ := Aside0.mk (hbox); have n2_ := Aside0.mk ((by rw [hg]; exact (below_size (q0_ HB.out)) : w.heap.size ≤ gb255)); have n3_ := Aside0.mk ((by rw [hg]; exact (below_size (q0_ HB.out)) : w.heap.size ≤ gb255)); clear HB; have HB := n0_; have BK255 := n1_; have GW255 := n2_; have GE255 := n3_; clear n0_ n1_ n2_ n3_; clear hb hbox hg) | ((with_reducible refine gate_dst (N := 3) rfl ?_); refine box_event ?hg (N := 3) ?hd (cs := #[.bool a1_0, .slice A1_1 l1_1.length c1_1]) (t := 31) ?hr ?_; (case hd => rfl); (case hg => rfl); (case hr => first | (go_simp; done) | (go_simp; rfl)); intro gb256 hg w7 hbox hb; have n0_ := Aside0.mk (blk_below (g := gb255) (o := .cells #[.bool a0_0, .slice A0_1 l0_1.length c0_1] 31 (0, 0)) (qb_ BK255.out) hb); have n1_ := Aside0.mk (below_step (q1_ HB.out GE255.out) hb); have n2_ := Aside0.mk (hbox); have n3_ := Aside0.mk ((by rw [hg]; exact (below_size (q1_ HB.out GE255.out)) : w.heap.size ≤ gb256)); have n4_ := Aside0.mk ((by rw [hg]; exact (below_size (q1_ HB.out GE255.out)) : w.heap.size ≤ gb256)); have n5_ := Aside0.mk ((by rw [hg]; exact Nat.ne_of_lt (blk_lt (g := gb255) (o := .cells #[.bool a0_0, .slice A0_1 l0_1.length c0_1] 31 (0, 0)) (qb_ BK255.out)) : gb255 ≠ gb256)); have n6_ := Aside0.mk ((by rw [hg]; exact Nat.ne_of_gt (blk_lt (g := gb255) (o := .cells #[.bool a0_0, .slice A0_1 l0_1.length c0_1] 31 (0, 0)) (qb_ BK255.out)) : gb256 ≠ gb255)); clear BK255; clear HB; have BK255 := n0_; have HB := n1_; have BK256 := n2_; have GW256 := n3_; have GE256 := n4_; have NB255_256 := n5_; have NB256_255 := n6_; clear n0_ n1_ n2_ n3_ n4_ n5_ n6_; clear hb hbox hg) | ((with_reducible refine gate_dst (N := 4) rfl ?_); refine box_event ?hg (N := 4) ?hd (cs := #[.bool false, .slice none 0 0]) (t := 31) ?hr ?_; (case hd => rfl); (case hg => rfl); (case hr => first | (go_simp; done) | (go_simp; rfl)); intro gb257 hg w8 hbox hb; have n0_ := Aside0.mk (blk_below (g := gb255) (o := .cells #[.bool a0_0, .slice A0_1 l0_1.length c0_1] 31 (0, 0)) (qb_ BK255.out) hb); have n1_ := Aside0.mk (blk_below (g := gb256) (o := .cells #[.bool a1_0, .slice A1_1 l1_1.length c1_1] 31 (0, 0)) (qb_ BK256.out) hb); have n2_ := Aside0.mk (below_step (q2_ HB.out GE255.out GE256.out) hb); have n3_ := Aside0.mk (hbox); have n4_ := Aside0.mk ((by rw [hg]; exact (below_size (q2_ HB.out GE255.out GE256.out)) : w.heap.size ≤ gb257)); have n5_ := Aside0.mk ((by rw [hg]; exact (below_size (q2_ HB.out GE255.out GE256.out)) : w.heap.size ≤ gb257)); have n6_ := Aside0.mk ((by rw [hg]; exact Nat.ne_of_lt (blk_lt (g := gb255) (o := .cells #[.bool a0_0, .slice A0_1 l0_1.length c0_1] 31 (0, 0)) (qb_ BK255.out)) : gb255 ≠ gb257)); have n7_ := Aside0.mk ((by rw [hg]; exact Nat.ne_of_gt (blk_lt (g := gb255) (o := .cells #[.bool a0_0, .slice A0_1 l0_1.length c0_1] 31 (0, 0)) (qb_ BK255.out)) : gb257 ≠ gb255)); have n8_ := Aside0.mk ((by rw [hg]; exact Nat.ne_of_lt (blk_lt (g := gb256) (o := .cells #[.bool a1_0, .slice A1_1 l1_1.length c1_1] 31 (0, 0)) (qb_ BK256.out)) : gb256 ≠ gb257)); have n9_ := Aside0.mk ((by rw [hg]; exact Nat.ne_of_gt (blk_lt (g := gb256) (o := .cells #[.bool a1_0, .slice A1_1 l1_1.length c1_1] 31 (0, 0)) (qb_ BK256.out)) : gb257 ≠ gb256)); clear BK255; clear BK256; clear HB; have BK255 := n0_; have BK256 := n1_; have HB := n2_; have BK257 := n3_; have GW257 := n4_; have GE257 := n5_; have NB255_257 := n6_; have NB257_255 := n7_; have NB256_257 := n8_; have NB257_256 := n9_; clear n0_ n1_ n2_ n3_ n4_ n5_ n6_ n7_ n8_ n9_; clear hb hbox hg; have hnb9 := NB255_256.out; have hnc9 := NB256_255.out; have hnb10 := NB255_257.out; have hnc10 := NB257_255.out; have hcz11_0 : w8.cell? ⟨gb255, 0, none⟩ = some (.bool a0_0) := (blk_cell BK255.out 0).trans rfl; have hcz11_1 : w8.cell? ⟨gb255, 1, none⟩ = some (.slice A0_1 l0_1.length c0_1) := (blk_cell BK255.out 1).trans rfl; have hfz11_0 := blk_frozen BK255.out 0; have hfz11_1 := blk_frozen BK255.out 1; have hnb12 := NB256_257.out; have hnc12 := NB257_256.out; have hcz13_0 : w8.cell? ⟨gb256, 0, none⟩ = some (.bool a1_0) := (blk_cell BK256.out 0).trans rfl; have hcz13_1 : w8.cell? ⟨gb256, 1, none⟩ = some (.slice A1_1 l1_1.length c1_1) := (blk_cell BK256.out 1).trans rfl; have hfz13_0 := blk_frozen BK256.out 0; have hfz13_1 := blk_frozen BK256.out 1))
    have n0_ := Aside0.mk (blk_drew BK255.out)
    have n1_ := Aside0.mk (blk_drew BK256.out)
    have n2_ := Aside0.mk (blk_drew BK257.out)
    have n3_ := Aside0.mk (below_drew1 HB.out)
    clear BK255
    clear BK256
    clear BK257
    clear HB
    have BK255 := n0_
    have BK256 := n1_
    have BK257 := n2_
    have HB := n3_
    clear n0_ n1_ n2_ n3_
    refine start_ (n := 9) (S := fun w' => w'.cell? ⟨gb255, 0, none⟩ = some (.bool a0_0) ∧ w'.cell? ⟨gb255, 1, none⟩ = some (.slice A0_1 l0_1.length c0_1) ∧ w'.cell? ⟨gb256, 0, none⟩ = some (.bool a1_0) ∧ w'.cell? ⟨gb256, 1, none⟩ = some (.slice A1_1 l1_1.length c1_1)) (ds := []) #[false, false, false, false, false, false, false, false, false] (by kernel_rfl) rfl rfl ⟨(blk_cell BK255.out 0).trans rfl, (blk_cell BK255.out 1).trans rfl, (blk_cell BK256.out 0).trans rfl, (blk_cell BK256.out 1).trans rfl⟩ (fun hHeld => ?_); refine with_tabW merinoref01_Plus.tab2 merinoref01_Plus.bits2 (fun HT_ HW_ => ?_)
    generalize w8.drew = w14 at BK255 BK256 BK257 HB hHeld ⊢
    refine pure_ (i := 0) (N := some 10) (v := ?_) (a' := ?_) #[true, false, false, false, false, false, false, false, false] rfl rfl (any_of HT_.out (by kernel_rfl)) (fun _ _ _ h => h) (Or.inl ⟨by rfl, ?_⟩) ?_ ?_
    rotate_left
    · intro w'
      go_simp
      with_reducible rfl
    rotate_left
    · simp only [Act.put, List.setIfInBounds_toArray, List.set_cons_zero, List.set_cons_succ, i64_w, i32_w]
      rfl
    refine pure_ (i := 2) (N := some 12) (v := ?_) (a' := ?_) #[true, false, true, false, false, false, false, false, false] rfl rfl (any_of HT_.out (by kernel_rfl)) (fun _ _ _ h => h) (Or.inl ⟨by rfl, ?_⟩) ?_ ?_
    rotate_left
    · intro w'
      go_simp
      with_reducible rfl
    rotate_left
    · simp only [Act.put, List.setIfInBounds_toArray, List.set_cons_zero, List.set_cons_succ, i64_w, i32_w]
      rfl
    refine pure_ (i := 4) (N := some 14) (v := ?_) (a' := ?_) #[true, false, true, false, true, false, false, false, false] rfl rfl (any_of HT_.out (by kernel_rfl)) (fun _ _ _ h => h) (Or.inl ⟨by rfl, ?_⟩) ?_ ?_
    rotate_left
    · intro w'
      go_simp
      with_reducible rfl
    rotate_left
    · simp only [Act.put, List.setIfInBounds_toArray, List.set_cons_zero, List.set_cons_succ, i64_w, i32_w]
      rfl
    refine take_ (i := 1) (N := some 11) (v := ?_) (a' := ?_) #[true, true, true, false, true, false, false, false, false] rfl rfl (take_ofW HT_.out HW_.out (by kernel_rfl)) (fun _ _ _ h => h) (Or.inl ⟨by rfl, ?_⟩) hHeld ?_ ?_
    rotate_left
    · rintro w' ⟨s0, s1, s2, s3⟩
      go_simp
      with_reducible rfl
    rotate_left
    · simp only [Act.put, List.setIfInBounds_toArray, List.set_cons_zero, List.set_cons_succ, i64_w, i32_w]
      rfl
    refine take_ (i := 3) (N := some 13) (v := ?_) (a' := ?_) #[true, true, true, true, true, false, false, false, false] rfl rfl (take_ofW HT_.out HW_.out (by kernel_rfl)) (fun _ _ _ h => h) (Or.inl ⟨by rfl, ?_⟩) hHeld ?_ ?_
    rotate_left
    · rintro w' ⟨s0, s1, s2, s3⟩
      go_simp
      with_reducible rfl
    rotate_left
    · simp only [Act.put, List.setIfInBounds_toArray, List.set_cons_zero, List.set_cons_succ, i64_w, i32_w]
      rfl
    refine take_ (i := 5) (N := some 15) (v := ?_) (a' := ?_) #[true, true, true, true, true, true, false, false, false] rfl rfl (take_ofW HT_.out HW_.out (by kernel_rfl)) (fun _ _ _ h => h) (Or.inl ⟨by rfl, ?_⟩) hHeld ?_ ?_
    rotate_left
    · rintro w' ⟨s0, s1, s2, s3⟩
      go_simp
      with_reducible rfl
    rotate_left
    · simp only [Act.put, List.setIfInBounds_toArray, List.set_cons_zero, List.set_cons_succ, i64_w, i32_w]
      rfl
    refine one_ (i := 6) (N := some 16) #[true, true, true, true, true, true, true, false, false] rfl rfl (one_of HT_.out (by kernel_rfl)) (by decide) (fun K hK => ?_)
    refine goes_ Tryd.func106 (by kernel_rfl) rfl #[.slice A0_1 l0_1.length c0_1, .slice A1_1 l1_1.length c1_1] (by rfl) rfl rfl qe_ ?_
    with_reducible refine (merinoref01_addD.calls k _ _ l0_1 _ _ l1_1 t258 _ ?side1 ?side2 ?side3 ?side4 A4.out).mono ?_
    (case side1 => exact qc_ (Kd.C_below HR0_1.out HB.out))
    (case side2 => exact HC0_1.out)
    (case side3 => exact qc_ (Kd.C_below HR1_1.out HB.out))
    (case side4 => exact HC1_1.out)
    rintro e w15 ⟨v259, rfl, ho0, hb⟩
    refine ⟨_, rfl, ?_⟩
    have n0_ := Aside0.mk (Kd.R_lower ho0 (below_size (q3_ HB.out GE255.out GE256.out GE257.out)))
    have n1_ := Aside0.mk (blk_below (g := gb255) (o := .cells #[.bool a0_0, .slice A0_1 l0_1.length c0_1] 31 (0, 0)) (qb_ BK255.out) hb)
    have n2_ := Aside0.mk (blk_below (g := gb256) (o := .cells #[.bool a1_0, .slice A1_1 l1_1.length c1_1] 31 (0, 0)) (qb_ BK256.out) hb)
    have n3_ := Aside0.mk (blk_below (g := gb257) (o := .cells #[.bool false, .slice none 0 0] 31 (0, 0)) (qb_ BK257.out) hb)
    have n4_ := Aside0.mk (below_step (q3_ HB.out GE255.out GE256.out GE257.out) hb)
    clear BK255
    clear BK256
    clear BK257
    clear HB
    have HO260 := n0_
    have BK255 := n1_
    have BK256 := n2_
    have BK257 := n3_
    have HB := n4_
    clear n0_ n1_ n2_ n3_ n4_
    (try clear hb)
    (try clear hb2)
    (try clear hk)
    (try clear hi)
    (try clear ho0)
    obtain ⟨Ao16, co16, eo16⟩ := Kd.R_slice HO260.out
    (first | subst eo16 | (injection eo16 with f1_ f2_ f3_; have f4_ := f1_.symm; have f5_ := f3_.symm; clear f1_ f2_ f3_; subst f4_; subst f5_))
    refine hK.out _ _ ⟨(blk_cell BK255.out 0).trans rfl, (blk_cell BK255.out 1).trans rfl, (blk_cell BK256.out 0).trans rfl, (blk_cell BK256.out 1).trans rfl⟩ (fun hHeld => ?_)
    clear hK K
    refine norm_ (a' := ?_) ?_ ?_
    rotate_left
    · show Act.put _ (some 16) _ = _
      simp only [Act.put, List.setIfInBounds_toArray, List.set_cons_zero, List.set_cons_succ, i64_w, i32_w]
      rfl
    refine one_ (i := 7) (N := some 17) #[true, true, true, true, true, true, true, true, false] rfl rfl (one_of HT_.out (by kernel_rfl)) (by decide) (fun K hK => ?_)
    refine goes_ Tryd.func73 (by kernel_rfl) rfl #[.bool a0_0, .slice Ao16 t258.length co16] (by rfl) rfl rfl qe_ ?_
    with_reducible refine (merinoref01_whole.calls k a0_0 _ _ t258 t261 t262 _ ?side1 ?side2 A5.out).mono ?_
    (case side1 => exact qc_ (Kd.R_reads' HO260.out).2.2)
    (case side2 => exact (Kd.R_reads' HO260.out).2.1)
    rintro e w17 ⟨v263, rfl, ho0, hb⟩
    refine ⟨_, rfl, ?_⟩
    have n0_ := Aside0.mk (Kd.R_elder' (qr_ HO260.out) (Kd.R_base ho0) hb)
    have n1_ := Aside0.mk (Kd.R_lower (Kd.R_new' ho0 (Kd.R_lt (qr_ HO260.out))) (below_size (q3_ HB.out GE255.out GE256.out GE257.out)))
    have n2_ := Aside0.mk (blk_below (g := gb255) (o := .cells #[.bool a0_0, .slice A0_1 l0_1.length c0_1] 31 (0, 0)) (qb_ BK255.out) hb)
    have n3_ := Aside0.mk (blk_below (g := gb256) (o := .cells #[.bool a1_0, .slice A1_1 l1_1.length c1_1] 31 (0, 0)) (qb_ BK256.out) hb)
    have n4_ := Aside0.mk (blk_below (g := gb257) (o := .cells #[.bool false, .slice none 0 0] 31 (0, 0)) (qb_ BK257.out) hb)
    have n5_ := Aside0.mk (below_step (q3_ HB.out GE255.out GE256.out GE257.out) hb)
    clear HO260
    clear BK255
    clear BK256
    clear BK257
    clear HB
    have HO260 := n0_
    have HO264 := n1_
    have BK255 := n2_
    have BK256 := n3_
    have BK257 := n4_
    have HB := n5_
    clear n0_ n1_ n2_ n3_ n4_ n5_
    (try clear hb)
    (try clear hb2)
    (try clear hk)
    (try clear hi)
    (try clear ho0)
    obtain ⟨Ao19, co19, eo19⟩ := Kd.R_slice HO264.out
    (first | subst eo19 | (injection eo19 with f1_ f2_ f3_; have f4_ := f1_.symm; have f5_ := f3_.symm; clear f1_ f2_ f3_; subst f4_; subst f5_))
    refine hK.out _ _ ⟨(blk_cell BK255.out 0).trans rfl, (blk_cell BK255.out 1).trans rfl, (blk_cell BK256.out 0).trans rfl, (blk_cell BK256.out 1).trans rfl⟩ (fun hHeld => ?_)
    clear hK K
    refine norm_ (a' := ?_) ?_ ?_
    rotate_left
    · show Act.put _ (some 17) _ = _
      simp only [Act.put, List.setIfInBounds_toArray, List.set_cons_zero, List.set_cons_succ, i64_w, i32_w]
      rfl
    refine one_ (i := 8) (N := none) #[true, true, true, true, true, true, true, true, true] rfl rfl (one_of HT_.out (by kernel_rfl)) (by decide) (fun K hK => ?_)
    have hs18 : w17.cell? ⟨gb257, 0, none⟩ = some (.bool false) := (blk_cell BK257.out 0).trans rfl
    have hfs18 := blk_frozen BK257.out 0
    have hns18_0 := NB255_257.out
    have hns18_1 := NB256_257.out
    have hms18_0 := NB257_255.out
    have hms18_1 := NB257_256.out
    have hs20 : w17.cell? ⟨gb257, 1, none⟩ = some (.slice none 0 0) := (blk_cell BK257.out 1).trans rfl
    have hfs20 := blk_frozen BK257.out 1
    have hns20_0 := NB255_257.out
    have hns20_1 := NB256_257.out
    have hms20_0 := NB257_255.out
    have hms20_1 := NB257_256.out
    refine skip_ (w1 := ?_) (by rfl) rfl ?_ ?_
    rotate_left
    · go_simp
      rfl
    refine hK.out _ _ ⟨((cell_far (p := ⟨gb257, _, none⟩) NB255_257.out _).trans (((cell_far (p := ⟨gb257, _, none⟩) NB255_257.out _).trans (hHeld.1)))), ((cell_far (p := ⟨gb257, _, none⟩) NB255_257.out _).trans (((cell_far (p := ⟨gb257, _, none⟩) NB255_257.out _).trans (hHeld.2.1)))), ((cell_far (p := ⟨gb257, _, none⟩) NB256_257.out _).trans (((cell_far (p := ⟨gb257, _, none⟩) NB256_257.out _).trans (hHeld.2.2.1)))), ((cell_far (p := ⟨gb257, _, none⟩) NB256_257.out _).trans (((cell_far (p := ⟨gb257, _, none⟩) NB256_257.out _).trans (hHeld.2.2.2))))⟩ (fun hHeld => ?_)
    clear hK K
    refine done_ (done_of HT_.out (by kernel_rfl)) ?_
    try go_wp2
    refine bodyPost_ret (results_cell_row rfl _ _ gb257 31 #[.bool t261, .slice Ao19 t262.length co19] (0, 0) _ rfl (by (with_reducible repeat (first | refine blk_drewN ?_ _ | refine blk_drew ?_ | refine blk_alloc ?_ _)); refine blk_put (cs := #[.bool t261, .slice none 0 0]) ?_ 1 _ rfl; (with_reducible repeat (first | refine blk_drewN ?_ _ | refine blk_drew ?_ | refine blk_alloc ?_ _)); refine blk_put (cs := #[.bool false, .slice none 0 0]) ?_ 0 _ rfl; (with_reducible repeat (first | refine blk_drewN ?_ _ | refine blk_drew ?_ | refine blk_alloc ?_ _)); exact BK257.out) Tryd.underlying31 rfl (by kernel_rfl)) rfl ?_
    exact ⟨_, by first | rfl | (simp [errW_none, errW_some] <;> rfl) | (simp [*, errW_none, errW_some] <;> rfl), by (with_reducible repeat (first | apply Kd.R_alloc | apply Kd.R_drewN | apply Kd.R_drew)); exact Kd.R_mono (Kd.R_far (p := ⟨gb257, 1, none⟩) (Kd.R_far (p := ⟨gb257, 0, none⟩) (Kd.R_types HO264.out BK257.out (by decide)) (fun _ hk => hk.2) (.bool t261)) (fun _ hk => hk.2) (.slice Ao19 t262.length co19)) (fun _ hk => trivial), (q3_ HB.out GE255.out GE256.out GE257.out)⟩
  · rw [if_neg c3] at H
    have c3b0 : (a0_0 == a1_0) = false := by simpa using c3
    (try (have c3b1 : decide (a0_0 = a1_0) = false := by simpa using c3))
    (try (have c3b2 : (a0_0 == a1_0) = false := by simpa using c3))
    (try (have c3b3 : ¬ (a0_0 = a1_0) := by simpa using c3))
    clear c3
    replace H := Option.bind_eq_some_iff.mp H
    obtain ⟨t265, A210, H⟩ := H
    replace H : (if t265 ≥ 0 then ((merinoref01_subD.f k l0_1 l1_1).bind fun t266 => ((merinoref01_whole.f k a0_0 t266).bind fun bt269 => (some (bt269.1, bt269.2)))) else ((merinoref01_subD.f k l1_1 l0_1).bind fun t273 => ((merinoref01_whole.f k a1_0 t273).bind fun bt276 => (some (bt276.1, bt276.2))))) = some (r1, r2) := H
    have A21 := Aside0.mk A210
    clear A210
    by_cases c22 : t265 ≥ 0
    · rw [if_pos c22] at H
      have c22b0 : decide (0 ≤ t265) = true := decide_eq_true c22
      clear c22
      replace H := Option.bind_eq_some_iff.mp H
      obtain ⟨t266, A230, H⟩ := H
      replace H : ((merinoref01_whole.f k a0_0 t266).bind fun bt269 => (some (bt269.1, bt269.2))) = some (r1, r2) := H
      have A23 := Aside0.mk A230
      clear A230
      replace H := Option.bind_eq_some_iff.mp H
      obtain ⟨⟨t269, t270⟩, A240, H⟩ := H
      replace H : (some (t269, t270)) = some (r1, r2) := H
      have A24 := Aside0.mk A240
      clear A240
      simp only [Option.some.injEq, Prod.mk.injEq] at H
      obtain ⟨rfl, rfl⟩ := H
      go_enter Tryd.func84, Tryd.ntmps84
      try go_wp2_with (first | ((with_reducible refine gate_dst (N := 2) rfl ?_); refine box_event ?hg (N := 2) ?hd (cs := #[.bool a0_0, .slice A0_1 l0_1.length c0_1]) (t := 31) ?hr ?_; (case hd => rfl); (case hg => rfl); (case hr => first | (go_simp; done) | (go_simp; rfl)); intro gb255 hg w25 hbox hb; have n0_ := Aside0.mk (below_step (q0_ HB.out) hb); have n1_ := Aside0.mk (hbox); have n2_ := Aside0.mk ((by rw [hg]; exact (below_size (q0_ HB.out)) : w.heap.size ≤ gb255)); have n3_ := Aside0.mk ((by rw [hg]; exact (below_size (q0_ HB.out)) : w.heap.size ≤ gb255)); clear HB; have HB := n0_; have BK255 := n1_; have GW255 := n2_; have GE255 := n3_; clear n0_ n1_ n2_ n3_; clear hb hbox hg) | ((with_reducible refine gate_dst (N := 3) rfl ?_); refine box_event ?hg (N := 3) ?hd (cs := #[.bool a1_0, .slice A1_1 l1_1.length c1_1]) (t := 31) ?hr ?_; (case hd => rfl); (case hg => rfl); (case hr => first | (go_simp; done) | (go_simp; rfl)); intro gb256 hg w26 hbox hb; have n0_ := Aside0.mk (blk_below (g := gb255) (o := .cells #[.bool a0_0, .slice A0_1 l0_1.length c0_1] 31 (0, 0)) (qb_ BK255.out) hb); have n1_ := Aside0.mk (below_step (q1_ HB.out GE255.out) hb); have n2_ := Aside0.mk (hbox); have n3_ := Aside0.mk ((by rw [hg]; exact (below_size (q1_ HB.out GE255.out)) : w.heap.size ≤ gb256)); have n4_ := Aside0.mk ((by rw [hg]; exact (below_size (q1_ HB.out GE255.out)) : w.heap.size ≤ gb256)); have n5_ := Aside0.mk ((by rw [hg]; exact Nat.ne_of_lt (blk_lt (g := gb255) (o := .cells #[.bool a0_0, .slice A0_1 l0_1.length c0_1] 31 (0, 0)) (qb_ BK255.out)) : gb255 ≠ gb256)); have n6_ := Aside0.mk ((by rw [hg]; exact Nat.ne_of_gt (blk_lt (g := gb255) (o := .cells #[.bool a0_0, .slice A0_1 l0_1.length c0_1] 31 (0, 0)) (qb_ BK255.out)) : gb256 ≠ gb255)); clear BK255; clear HB; have BK255 := n0_; have HB := n1_; have BK256 := n2_; have GW256 := n3_; have GE256 := n4_; have NB255_256 := n5_; have NB256_255 := n6_; clear n0_ n1_ n2_ n3_ n4_ n5_ n6_; clear hb hbox hg) | ((with_reducible refine gate_dst (N := 4) rfl ?_); refine box_event ?hg (N := 4) ?hd (cs := #[.bool false, .slice none 0 0]) (t := 31) ?hr ?_; (case hd => rfl); (case hg => rfl); (case hr => first | (go_simp; done) | (go_simp; rfl)); intro gb257 hg w27 hbox hb; have n0_ := Aside0.mk (blk_below (g := gb255) (o := .cells #[.bool a0_0, .slice A0_1 l0_1.length c0_1] 31 (0, 0)) (qb_ BK255.out) hb); have n1_ := Aside0.mk (blk_below (g := gb256) (o := .cells #[.bool a1_0, .slice A1_1 l1_1.length c1_1] 31 (0, 0)) (qb_ BK256.out) hb); have n2_ := Aside0.mk (below_step (q2_ HB.out GE255.out GE256.out) hb); have n3_ := Aside0.mk (hbox); have n4_ := Aside0.mk ((by rw [hg]; exact (below_size (q2_ HB.out GE255.out GE256.out)) : w.heap.size ≤ gb257)); have n5_ := Aside0.mk ((by rw [hg]; exact (below_size (q2_ HB.out GE255.out GE256.out)) : w.heap.size ≤ gb257)); have n6_ := Aside0.mk ((by rw [hg]; exact Nat.ne_of_lt (blk_lt (g := gb255) (o := .cells #[.bool a0_0, .slice A0_1 l0_1.length c0_1] 31 (0, 0)) (qb_ BK255.out)) : gb255 ≠ gb257)); have n7_ := Aside0.mk ((by rw [hg]; exact Nat.ne_of_gt (blk_lt (g := gb255) (o := .cells #[.bool a0_0, .slice A0_1 l0_1.length c0_1] 31 (0, 0)) (qb_ BK255.out)) : gb257 ≠ gb255)); have n8_ := Aside0.mk ((by rw [hg]; exact Nat.ne_of_lt (blk_lt (g := gb256) (o := .cells #[.bool a1_0, .slice A1_1 l1_1.length c1_1] 31 (0, 0)) (qb_ BK256.out)) : gb256 ≠ gb257)); have n9_ := Aside0.mk ((by rw [hg]; exact Nat.ne_of_gt (blk_lt (g := gb256) (o := .cells #[.bool a1_0, .slice A1_1 l1_1.length c1_1] 31 (0, 0)) (qb_ BK256.out)) : gb257 ≠ gb256)); clear BK255; clear BK256; clear HB; have BK255 := n0_; have BK256 := n1_; have HB := n2_; have BK257 := n3_; have GW257 := n4_; have GE257 := n5_; have NB255_257 := n6_; have NB257_255 := n7_; have NB256_257 := n8_; have NB257_256 := n9_; clear n0_ n1_ n2_ n3_ n4_ n5_ n6_ n7_ n8_ n9_; clear hb hbox hg; have hnb28 := NB255_256.out; have hnc28 := NB256_255.out; have hnb29 := NB255_257.out; have hnc29 := NB257_255.out; have hcz30_0 : w27.cell? ⟨gb255, 0, none⟩ = some (.bool a0_0) := (blk_cell BK255.out 0).trans rfl; have hcz30_1 : w27.cell? ⟨gb255, 1, none⟩ = some (.slice A0_1 l0_1.length c0_1) := (blk_cell BK255.out 1).trans rfl; have hfz30_0 := blk_frozen BK255.out 0; have hfz30_1 := blk_frozen BK255.out 1; have hnb31 := NB256_257.out; have hnc31 := NB257_256.out; have hcz32_0 : w27.cell? ⟨gb256, 0, none⟩ = some (.bool a1_0) := (blk_cell BK256.out 0).trans rfl; have hcz32_1 : w27.cell? ⟨gb256, 1, none⟩ = some (.slice A1_1 l1_1.length c1_1) := (blk_cell BK256.out 1).trans rfl; have hfz32_0 := blk_frozen BK256.out 0; have hfz32_1 := blk_frozen BK256.out 1) | ((with_reducible refine gate_callee (f := 76) rfl ?_); refine goesL_ (some 22) rfl rfl Tryd.func76 (by kernel_rfl) rfl #[.slice A0_1 l0_1.length c0_1, .slice A1_1 l1_1.length c1_1] rfl qe_ ?_; (with_reducible refine (merinoref01_cmpD.calls k _ _ l0_1 _ _ l1_1 t265 _ ?side1 ?side2 ?side3 ?side4 A21.out).mono ?_); (case side1 => exact qc_ (Kd.C_below HR0_1.out HB.out)); (case side2 => exact HC0_1.out); (case side3 => exact qc_ (Kd.C_below HR1_1.out HB.out)); (case side4 => exact HC1_1.out); rintro e w' ⟨rfl, ⟨nd, rfl⟩⟩; refine ⟨_, rfl, ?_⟩; (try (rw [drewN_self w27]; generalize hq_ : World.drewN w27 _ = w27; have n0_ : Aside0 (w27.heap[gb255]? = some (.cells #[.bool a0_0, .slice A0_1 l0_1.length c0_1] 31 (0, 0))) := ⟨by rw [← hq_]; exact (qb_ BK255.out)⟩; have n1_ : Aside0 (w27.heap[gb256]? = some (.cells #[.bool a1_0, .slice A1_1 l1_1.length c1_1] 31 (0, 0))) := ⟨by rw [← hq_]; exact (qb_ BK256.out)⟩; have n2_ : Aside0 (w27.heap[gb257]? = some (.cells #[.bool false, .slice none 0 0] 31 (0, 0))) := ⟨by rw [← hq_]; exact (qb_ BK257.out)⟩; have n3_ : Aside0 (Below w.heap.size w w27) := ⟨by rw [← hq_]; exact (q3_ HB.out GE255.out GE256.out GE257.out)⟩; clear BK255 BK256 BK257 HB hq_; have BK255 := n0_; have BK256 := n1_; have BK257 := n2_; have HB := n3_; clear n0_ n1_ n2_ n3_))))
      have n0_ := Aside0.mk (blk_drew BK255.out)
      have n1_ := Aside0.mk (blk_drew BK256.out)
      have n2_ := Aside0.mk (blk_drew BK257.out)
      have n3_ := Aside0.mk (below_drew1 HB.out)
      clear BK255
      clear BK256
      clear BK257
      clear HB
      have BK255 := n0_
      have BK256 := n1_
      have BK257 := n2_
      have HB := n3_
      clear n0_ n1_ n2_ n3_
      refine start_ (n := 9) (S := fun w' => w'.cell? ⟨gb255, 0, none⟩ = some (.bool a0_0) ∧ w'.cell? ⟨gb255, 1, none⟩ = some (.slice A0_1 l0_1.length c0_1) ∧ w'.cell? ⟨gb256, 0, none⟩ = some (.bool a1_0) ∧ w'.cell? ⟨gb256, 1, none⟩ = some (.slice A1_1 l1_1.length c1_1)) (ds := []) #[false, false, false, false, false, false, false, false, false] (by kernel_rfl) rfl rfl ⟨(blk_cell BK255.out 0).trans rfl, (blk_cell BK255.out 1).trans rfl, (blk_cell BK256.out 0).trans rfl, (blk_cell BK256.out 1).trans rfl⟩ (fun hHeld => ?_); refine with_tabW merinoref01_Plus.tab4 merinoref01_Plus.bits4 (fun HT_ HW_ => ?_)
      generalize w27.drew = w33 at BK255 BK256 BK257 HB hHeld ⊢
      refine pure_ (i := 0) (N := some 24) (v := ?_) (a' := ?_) #[true, false, false, false, false, false, false, false, false] rfl rfl (any_of HT_.out (by kernel_rfl)) (fun _ _ _ h => h) (Or.inl ⟨by rfl, ?_⟩) ?_ ?_
      rotate_left
      · intro w'
        go_simp
        with_reducible rfl
      rotate_left
      · simp only [Act.put, List.setIfInBounds_toArray, List.set_cons_zero, List.set_cons_succ, i64_w, i32_w]
        rfl
      refine pure_ (i := 2) (N := some 26) (v := ?_) (a' := ?_) #[true, false, true, false, false, false, false, false, false] rfl rfl (any_of HT_.out (by kernel_rfl)) (fun _ _ _ h => h) (Or.inl ⟨by rfl, ?_⟩) ?_ ?_
      rotate_left
      · intro w'
        go_simp
        with_reducible rfl
      rotate_left
      · simp only [Act.put, List.setIfInBounds_toArray, List.set_cons_zero, List.set_cons_succ, i64_w, i32_w]
        rfl
      refine pure_ (i := 4) (N := some 28) (v := ?_) (a' := ?_) #[true, false, true, false, true, false, false, false, false] rfl rfl (any_of HT_.out (by kernel_rfl)) (fun _ _ _ h => h) (Or.inl ⟨by rfl, ?_⟩) ?_ ?_
      rotate_left
      · intro w'
        go_simp
        with_reducible rfl
      rotate_left
      · simp only [Act.put, List.setIfInBounds_toArray, List.set_cons_zero, List.set_cons_succ, i64_w, i32_w]
        rfl
      refine take_ (i := 1) (N := some 25) (v := ?_) (a' := ?_) #[true, true, true, false, true, false, false, false, false] rfl rfl (take_ofW HT_.out HW_.out (by kernel_rfl)) (fun _ _ _ h => h) (Or.inl ⟨by rfl, ?_⟩) hHeld ?_ ?_
      rotate_left
      · rintro w' ⟨s0, s1, s2, s3⟩
        go_simp
        with_reducible rfl
      rotate_left
      · simp only [Act.put, List.setIfInBounds_toArray, List.set_cons_zero, List.set_cons_succ, i64_w, i32_w]
        rfl
      refine take_ (i := 3) (N := some 27) (v := ?_) (a' := ?_) #[true, true, true, true, true, false, false, false, false] rfl rfl (take_ofW HT_.out HW_.out (by kernel_rfl)) (fun _ _ _ h => h) (Or.inl ⟨by rfl, ?_⟩) hHeld ?_ ?_
      rotate_left
      · rintro w' ⟨s0, s1, s2, s3⟩
        go_simp
        with_reducible rfl
      rotate_left
      · simp only [Act.put, List.setIfInBounds_toArray, List.set_cons_zero, List.set_cons_succ, i64_w, i32_w]
        rfl
      refine take_ (i := 5) (N := some 29) (v := ?_) (a' := ?_) #[true, true, true, true, true, true, false, false, false] rfl rfl (take_ofW HT_.out HW_.out (by kernel_rfl)) (fun _ _ _ h => h) (Or.inl ⟨by rfl, ?_⟩) hHeld ?_ ?_
      rotate_left
      · rintro w' ⟨s0, s1, s2, s3⟩
        go_simp
        with_reducible rfl
      rotate_left
      · simp only [Act.put, List.setIfInBounds_toArray, List.set_cons_zero, List.set_cons_succ, i64_w, i32_w]
        rfl
      refine one_ (i := 6) (N := some 30) #[true, true, true, true, true, true, true, false, false] rfl rfl (one_of HT_.out (by kernel_rfl)) (by decide) (fun K hK => ?_)
      refine goes_ Tryd.func107 (by kernel_rfl) rfl #[.slice A0_1 l0_1.length c0_1, .slice A1_1 l1_1.length c1_1] (by rfl) rfl rfl qe_ ?_
      with_reducible refine (merinoref01_subD.calls k _ _ l0_1 _ _ l1_1 t266 _ ?side1 ?side2 ?side3 ?side4 A23.out).mono ?_
      (case side1 => exact qc_ (Kd.C_below HR0_1.out HB.out))
      (case side2 => exact HC0_1.out)
      (case side3 => exact qc_ (Kd.C_below HR1_1.out HB.out))
      (case side4 => exact HC1_1.out)
      rintro e w34 ⟨v267, rfl, ho0, hb⟩
      refine ⟨_, rfl, ?_⟩
      have n0_ := Aside0.mk (Kd.R_lower ho0 (below_size (q3_ HB.out GE255.out GE256.out GE257.out)))
      have n1_ := Aside0.mk (blk_below (g := gb255) (o := .cells #[.bool a0_0, .slice A0_1 l0_1.length c0_1] 31 (0, 0)) (qb_ BK255.out) hb)
      have n2_ := Aside0.mk (blk_below (g := gb256) (o := .cells #[.bool a1_0, .slice A1_1 l1_1.length c1_1] 31 (0, 0)) (qb_ BK256.out) hb)
      have n3_ := Aside0.mk (blk_below (g := gb257) (o := .cells #[.bool false, .slice none 0 0] 31 (0, 0)) (qb_ BK257.out) hb)
      have n4_ := Aside0.mk (below_step (q3_ HB.out GE255.out GE256.out GE257.out) hb)
      clear BK255
      clear BK256
      clear BK257
      clear HB
      have HO268 := n0_
      have BK255 := n1_
      have BK256 := n2_
      have BK257 := n3_
      have HB := n4_
      clear n0_ n1_ n2_ n3_ n4_
      (try clear hb)
      (try clear hb2)
      (try clear hk)
      (try clear hi)
      (try clear ho0)
      obtain ⟨Ao35, co35, eo35⟩ := Kd.R_slice HO268.out
      (first | subst eo35 | (injection eo35 with f1_ f2_ f3_; have f4_ := f1_.symm; have f5_ := f3_.symm; clear f1_ f2_ f3_; subst f4_; subst f5_))
      refine hK.out _ _ ⟨(blk_cell BK255.out 0).trans rfl, (blk_cell BK255.out 1).trans rfl, (blk_cell BK256.out 0).trans rfl, (blk_cell BK256.out 1).trans rfl⟩ (fun hHeld => ?_)
      clear hK K
      refine norm_ (a' := ?_) ?_ ?_
      rotate_left
      · show Act.put _ (some 30) _ = _
        simp only [Act.put, List.setIfInBounds_toArray, List.set_cons_zero, List.set_cons_succ, i64_w, i32_w]
        rfl
      refine one_ (i := 7) (N := some 31) #[true, true, true, true, true, true, true, true, false] rfl rfl (one_of HT_.out (by kernel_rfl)) (by decide) (fun K hK => ?_)
      refine goes_ Tryd.func73 (by kernel_rfl) rfl #[.bool a0_0, .slice Ao35 t266.length co35] (by rfl) rfl rfl qe_ ?_
      with_reducible refine (merinoref01_whole.calls k a0_0 _ _ t266 t269 t270 _ ?side1 ?side2 A24.out).mono ?_
      (case side1 => exact qc_ (Kd.R_reads' HO268.out).2.2)
      (case side2 => exact (Kd.R_reads' HO268.out).2.1)
      rintro e w36 ⟨v271, rfl, ho0, hb⟩
      refine ⟨_, rfl, ?_⟩
      have n0_ := Aside0.mk (Kd.R_elder' (qr_ HO268.out) (Kd.R_base ho0) hb)
      have n1_ := Aside0.mk (Kd.R_lower (Kd.R_new' ho0 (Kd.R_lt (qr_ HO268.out))) (below_size (q3_ HB.out GE255.out GE256.out GE257.out)))
      have n2_ := Aside0.mk (blk_below (g := gb255) (o := .cells #[.bool a0_0, .slice A0_1 l0_1.length c0_1] 31 (0, 0)) (qb_ BK255.out) hb)
      have n3_ := Aside0.mk (blk_below (g := gb256) (o := .cells #[.bool a1_0, .slice A1_1 l1_1.length c1_1] 31 (0, 0)) (qb_ BK256.out) hb)
      have n4_ := Aside0.mk (blk_below (g := gb257) (o := .cells #[.bool false, .slice none 0 0] 31 (0, 0)) (qb_ BK257.out) hb)
      have n5_ := Aside0.mk (below_step (q3_ HB.out GE255.out GE256.out GE257.out) hb)
      clear HO268
      clear BK255
      clear BK256
      clear BK257
      clear HB
      have HO268 := n0_
      have HO272 := n1_
      have BK255 := n2_
      have BK256 := n3_
      have BK257 := n4_
      have HB := n5_
      clear n0_ n1_ n2_ n3_ n4_ n5_
      (try clear hb)
      (try clear hb2)
      (try clear hk)
      (try clear hi)
      (try clear ho0)
      obtain ⟨Ao38, co38, eo38⟩ := Kd.R_slice HO272.out
      (first | subst eo38 | (injection eo38 with f1_ f2_ f3_; have f4_ := f1_.symm; have f5_ := f3_.symm; clear f1_ f2_ f3_; subst f4_; subst f5_))
      refine hK.out _ _ ⟨(blk_cell BK255.out 0).trans rfl, (blk_cell BK255.out 1).trans rfl, (blk_cell BK256.out 0).trans rfl, (blk_cell BK256.out 1).trans rfl⟩ (fun hHeld => ?_)
      clear hK K
      refine norm_ (a' := ?_) ?_ ?_
      rotate_left
      · show Act.put _ (some 31) _ = _
        simp only [Act.put, List.setIfInBounds_toArray, List.set_cons_zero, List.set_cons_succ, i64_w, i32_w]
        rfl
      refine one_ (i := 8) (N := none) #[true, true, true, true, true, true, true, true, true] rfl rfl (one_of HT_.out (by kernel_rfl)) (by decide) (fun K hK => ?_)
      have hs37 : w36.cell? ⟨gb257, 0, none⟩ = some (.bool false) := (blk_cell BK257.out 0).trans rfl
      have hfs37 := blk_frozen BK257.out 0
      have hns37_0 := NB255_257.out
      have hns37_1 := NB256_257.out
      have hms37_0 := NB257_255.out
      have hms37_1 := NB257_256.out
      have hs39 : w36.cell? ⟨gb257, 1, none⟩ = some (.slice none 0 0) := (blk_cell BK257.out 1).trans rfl
      have hfs39 := blk_frozen BK257.out 1
      have hns39_0 := NB255_257.out
      have hns39_1 := NB256_257.out
      have hms39_0 := NB257_255.out
      have hms39_1 := NB257_256.out
      refine skip_ (w1 := ?_) (by rfl) rfl ?_ ?_
      rotate_left
      · go_simp
        rfl
      refine hK.out _ _ ⟨((cell_far (p := ⟨gb257, _, none⟩) NB255_257.out _).trans (((cell_far (p := ⟨gb257, _, none⟩) NB255_257.out _).trans (hHeld.1)))), ((cell_far (p := ⟨gb257, _, none⟩) NB255_257.out _).trans (((cell_far (p := ⟨gb257, _, none⟩) NB255_257.out _).trans (hHeld.2.1)))), ((cell_far (p := ⟨gb257, _, none⟩) NB256_257.out _).trans (((cell_far (p := ⟨gb257, _, none⟩) NB256_257.out _).trans (hHeld.2.2.1)))), ((cell_far (p := ⟨gb257, _, none⟩) NB256_257.out _).trans (((cell_far (p := ⟨gb257, _, none⟩) NB256_257.out _).trans (hHeld.2.2.2))))⟩ (fun hHeld => ?_)
      clear hK K
      refine done_ (done_of HT_.out (by kernel_rfl)) ?_
      try go_wp2
      refine bodyPost_ret (results_cell_row rfl _ _ gb257 31 #[.bool t269, .slice Ao38 t270.length co38] (0, 0) _ rfl (by (with_reducible repeat (first | refine blk_drewN ?_ _ | refine blk_drew ?_ | refine blk_alloc ?_ _)); refine blk_put (cs := #[.bool t269, .slice none 0 0]) ?_ 1 _ rfl; (with_reducible repeat (first | refine blk_drewN ?_ _ | refine blk_drew ?_ | refine blk_alloc ?_ _)); refine blk_put (cs := #[.bool false, .slice none 0 0]) ?_ 0 _ rfl; (with_reducible repeat (first | refine blk_drewN ?_ _ | refine blk_drew ?_ | refine blk_alloc ?_ _)); exact BK257.out) Tryd.underlying31 rfl (by kernel_rfl)) rfl ?_
      exact ⟨_, by first | rfl | (simp [errW_none, errW_some] <;> rfl) | (simp [*, errW_none, errW_some] <;> rfl), by (with_reducible repeat (first | apply Kd.R_alloc | apply Kd.R_drewN | apply Kd.R_drew)); exact Kd.R_mono (Kd.R_far (p := ⟨gb257, 1, none⟩) (Kd.R_far (p := ⟨gb257, 0, none⟩) (Kd.R_types HO272.out BK257.out (by decide)) (fun _ hk => hk.2) (.bool t269)) (fun _ hk => hk.2) (.slice Ao38 t270.length co38)) (fun _ hk => trivial), (q3_ HB.out GE255.out GE256.out GE257.out)⟩
    · rw [if_neg c22] at H
      have c22b0 : decide (0 ≤ t265) = false := decide_eq_false c22
      clear c22
      replace H := Option.bind_eq_some_iff.mp H
      obtain ⟨t273, A400, H⟩ := H
      replace H : ((merinoref01_whole.f k a1_0 t273).bind fun bt276 => (some (bt276.1, bt276.2))) = some (r1, r2) := H
      have A40 := Aside0.mk A400
      clear A400
      replace H := Option.bind_eq_some_iff.mp H
      obtain ⟨⟨t276, t277⟩, A410, H⟩ := H
      replace H : (some (t276, t277)) = some (r1, r2) := H
      have A41 := Aside0.mk A410
      clear A410
      simp only [Option.some.injEq, Prod.mk.injEq] at H
      obtain ⟨rfl, rfl⟩ := H
      go_enter Tryd.func84, Tryd.ntmps84
      try go_wp2_with (first | ((with_reducible refine gate_dst (N := 2) rfl ?_); refine box_event ?hg (N := 2) ?hd (cs := #[.bool a0_0, .slice A0_1 l0_1.length c0_1]) (t := 31) ?hr ?_; (case hd => rfl); (case hg => rfl); (case hr => first | (go_simp; done) | (go_simp; rfl)); intro gb255 hg w42 hbox hb; have n0_ := Aside0.mk (below_step (q0_ HB.out) hb); have n1_ := Aside0.mk (hbox); have n2_ := Aside0.mk ((by rw [hg]; exact (below_size (q0_ HB.out)) : w.heap.size ≤ gb255)); have n3_ := Aside0.mk ((by rw [hg]; exact (below_size (q0_ HB.out)) : w.heap.size ≤ gb255)); clear HB; have HB := n0_; have BK255 := n1_; have GW255 := n2_; have GE255 := n3_; clear n0_ n1_ n2_ n3_; clear hb hbox hg) | ((with_reducible refine gate_dst (N := 3) rfl ?_); refine box_event ?hg (N := 3) ?hd (cs := #[.bool a1_0, .slice A1_1 l1_1.length c1_1]) (t := 31) ?hr ?_; (case hd => rfl); (case hg => rfl); (case hr => first | (go_simp; done) | (go_simp; rfl)); intro gb256 hg w43 hbox hb; have n0_ := Aside0.mk (blk_below (g := gb255) (o := .cells #[.bool a0_0, .slice A0_1 l0_1.length c0_1] 31 (0, 0)) (qb_ BK255.out) hb); have n1_ := Aside0.mk (below_step (q1_ HB.out GE255.out) hb); have n2_ := Aside0.mk (hbox); have n3_ := Aside0.mk ((by rw [hg]; exact (below_size (q1_ HB.out GE255.out)) : w.heap.size ≤ gb256)); have n4_ := Aside0.mk ((by rw [hg]; exact (below_size (q1_ HB.out GE255.out)) : w.heap.size ≤ gb256)); have n5_ := Aside0.mk ((by rw [hg]; exact Nat.ne_of_lt (blk_lt (g := gb255) (o := .cells #[.bool a0_0, .slice A0_1 l0_1.length c0_1] 31 (0, 0)) (qb_ BK255.out)) : gb255 ≠ gb256)); have n6_ := Aside0.mk ((by rw [hg]; exact Nat.ne_of_gt (blk_lt (g := gb255) (o := .cells #[.bool a0_0, .slice A0_1 l0_1.length c0_1] 31 (0, 0)) (qb_ BK255.out)) : gb256 ≠ gb255)); clear BK255; clear HB; have BK255 := n0_; have HB := n1_; have BK256 := n2_; have GW256 := n3_; have GE256 := n4_; have NB255_256 := n5_; have NB256_255 := n6_; clear n0_ n1_ n2_ n3_ n4_ n5_ n6_; clear hb hbox hg) | ((with_reducible refine gate_dst (N := 4) rfl ?_); refine box_event ?hg (N := 4) ?hd (cs := #[.bool false, .slice none 0 0]) (t := 31) ?hr ?_; (case hd => rfl); (case hg => rfl); (case hr => first | (go_simp; done) | (go_simp; rfl)); intro gb257 hg w44 hbox hb; have n0_ := Aside0.mk (blk_below (g := gb255) (o := .cells #[.bool a0_0, .slice A0_1 l0_1.length c0_1] 31 (0, 0)) (qb_ BK255.out) hb); have n1_ := Aside0.mk (blk_below (g := gb256) (o := .cells #[.bool a1_0, .slice A1_1 l1_1.length c1_1] 31 (0, 0)) (qb_ BK256.out) hb); have n2_ := Aside0.mk (below_step (q2_ HB.out GE255.out GE256.out) hb); have n3_ := Aside0.mk (hbox); have n4_ := Aside0.mk ((by rw [hg]; exact (below_size (q2_ HB.out GE255.out GE256.out)) : w.heap.size ≤ gb257)); have n5_ := Aside0.mk ((by rw [hg]; exact (below_size (q2_ HB.out GE255.out GE256.out)) : w.heap.size ≤ gb257)); have n6_ := Aside0.mk ((by rw [hg]; exact Nat.ne_of_lt (blk_lt (g := gb255) (o := .cells #[.bool a0_0, .slice A0_1 l0_1.length c0_1] 31 (0, 0)) (qb_ BK255.out)) : gb255 ≠ gb257)); have n7_ := Aside0.mk ((by rw [hg]; exact Nat.ne_of_gt (blk_lt (g := gb255) (o := .cells #[.bool a0_0, .slice A0_1 l0_1.length c0_1] 31 (0, 0)) (qb_ BK255.out)) : gb257 ≠ gb255)); have n8_ := Aside0.mk ((by rw [hg]; exact Nat.ne_of_lt (blk_lt (g := gb256) (o := .cells #[.bool a1_0, .slice A1_1 l1_1.length c1_1] 31 (0, 0)) (qb_ BK256.out)) : gb256 ≠ gb257)); have n9_ := Aside0.mk ((by rw [hg]; exact Nat.ne_of_gt (blk_lt (g := gb256) (o := .cells #[.bool a1_0, .slice A1_1 l1_1.length c1_1] 31 (0, 0)) (qb_ BK256.out)) : gb257 ≠ gb256)); clear BK255; clear BK256; clear HB; have BK255 := n0_; have BK256 := n1_; have HB := n2_; have BK257 := n3_; have GW257 := n4_; have GE257 := n5_; have NB255_257 := n6_; have NB257_255 := n7_; have NB256_257 := n8_; have NB257_256 := n9_; clear n0_ n1_ n2_ n3_ n4_ n5_ n6_ n7_ n8_ n9_; clear hb hbox hg; have hnb45 := NB255_256.out; have hnc45 := NB256_255.out; have hnb46 := NB255_257.out; have hnc46 := NB257_255.out; have hcz47_0 : w44.cell? ⟨gb255, 0, none⟩ = some (.bool a0_0) := (blk_cell BK255.out 0).trans rfl; have hcz47_1 : w44.cell? ⟨gb255, 1, none⟩ = some (.slice A0_1 l0_1.length c0_1) := (blk_cell BK255.out 1).trans rfl; have hfz47_0 := blk_frozen BK255.out 0; have hfz47_1 := blk_frozen BK255.out 1; have hnb48 := NB256_257.out; have hnc48 := NB257_256.out; have hcz49_0 : w44.cell? ⟨gb256, 0, none⟩ = some (.bool a1_0) := (blk_cell BK256.out 0).trans rfl; have hcz49_1 : w44.cell? ⟨gb256, 1, none⟩ = some (.slice A1_1 l1_1.length c1_1) := (blk_cell BK256.out 1).trans rfl; have hfz49_0 := blk_frozen BK256.out 0; have hfz49_1 := blk_frozen BK256.out 1) | ((with_reducible refine gate_callee (f := 76) rfl ?_); refine goesL_ (some 22) rfl rfl Tryd.func76 (by kernel_rfl) rfl #[.slice A0_1 l0_1.length c0_1, .slice A1_1 l1_1.length c1_1] rfl qe_ ?_; (with_reducible refine (merinoref01_cmpD.calls k _ _ l0_1 _ _ l1_1 t265 _ ?side1 ?side2 ?side3 ?side4 A21.out).mono ?_); (case side1 => exact qc_ (Kd.C_below HR0_1.out HB.out)); (case side2 => exact HC0_1.out); (case side3 => exact qc_ (Kd.C_below HR1_1.out HB.out)); (case side4 => exact HC1_1.out); rintro e w' ⟨rfl, ⟨nd, rfl⟩⟩; refine ⟨_, rfl, ?_⟩; (try (rw [drewN_self w44]; generalize hq_ : World.drewN w44 _ = w44; have n0_ : Aside0 (w44.heap[gb255]? = some (.cells #[.bool a0_0, .slice A0_1 l0_1.length c0_1] 31 (0, 0))) := ⟨by rw [← hq_]; exact (qb_ BK255.out)⟩; have n1_ : Aside0 (w44.heap[gb256]? = some (.cells #[.bool a1_0, .slice A1_1 l1_1.length c1_1] 31 (0, 0))) := ⟨by rw [← hq_]; exact (qb_ BK256.out)⟩; have n2_ : Aside0 (w44.heap[gb257]? = some (.cells #[.bool false, .slice none 0 0] 31 (0, 0))) := ⟨by rw [← hq_]; exact (qb_ BK257.out)⟩; have n3_ : Aside0 (Below w.heap.size w w44) := ⟨by rw [← hq_]; exact (q3_ HB.out GE255.out GE256.out GE257.out)⟩; clear BK255 BK256 BK257 HB hq_; have BK255 := n0_; have BK256 := n1_; have BK257 := n2_; have HB := n3_; clear n0_ n1_ n2_ n3_))))
      have n0_ := Aside0.mk (blk_drew BK255.out)
      have n1_ := Aside0.mk (blk_drew BK256.out)
      have n2_ := Aside0.mk (blk_drew BK257.out)
      have n3_ := Aside0.mk (below_drew1 HB.out)
      clear BK255
      clear BK256
      clear BK257
      clear HB
      have BK255 := n0_
      have BK256 := n1_
      have BK257 := n2_
      have HB := n3_
      clear n0_ n1_ n2_ n3_
      refine start_ (n := 9) (S := fun w' => w'.cell? ⟨gb256, 0, none⟩ = some (.bool a1_0) ∧ w'.cell? ⟨gb256, 1, none⟩ = some (.slice A1_1 l1_1.length c1_1) ∧ w'.cell? ⟨gb255, 0, none⟩ = some (.bool a0_0) ∧ w'.cell? ⟨gb255, 1, none⟩ = some (.slice A0_1 l0_1.length c0_1)) (ds := []) #[false, false, false, false, false, false, false, false, false] (by kernel_rfl) rfl rfl ⟨(blk_cell BK256.out 0).trans rfl, (blk_cell BK256.out 1).trans rfl, (blk_cell BK255.out 0).trans rfl, (blk_cell BK255.out 1).trans rfl⟩ (fun hHeld => ?_); refine with_tabW merinoref01_Plus.tab5 merinoref01_Plus.bits5 (fun HT_ HW_ => ?_)
      generalize w44.drew = w50 at BK255 BK256 BK257 HB hHeld ⊢
      refine pure_ (i := 0) (N := some 32) (v := ?_) (a' := ?_) #[true, false, false, false, false, false, false, false, false] rfl rfl (any_of HT_.out (by kernel_rfl)) (fun _ _ _ h => h) (Or.inl ⟨by rfl, ?_⟩) ?_ ?_
      rotate_left
      · intro w'
        go_simp
        with_reducible rfl
      rotate_left
      · simp only [Act.put, List.setIfInBounds_toArray, List.set_cons_zero, List.set_cons_succ, i64_w, i32_w]
        rfl
      refine pure_ (i := 2) (N := some 34) (v := ?_) (a' := ?_) #[true, false, true, false, false, false, false, false, false] rfl rfl (any_of HT_.out (by kernel_rfl)) (fun _ _ _ h => h) (Or.inl ⟨by rfl, ?_⟩) ?_ ?_
      rotate_left
      · intro w'
        go_simp
        with_reducible rfl
      rotate_left
      · simp only [Act.put, List.setIfInBounds_toArray, List.set_cons_zero, List.set_cons_succ, i64_w, i32_w]
        rfl
      refine pure_ (i := 4) (N := some 36) (v := ?_) (a' := ?_) #[true, false, true, false, true, false, false, false, false] rfl rfl (any_of HT_.out (by kernel_rfl)) (fun _ _ _ h => h) (Or.inl ⟨by rfl, ?_⟩) ?_ ?_
      rotate_left
      · intro w'
        go_simp
        with_reducible rfl
      rotate_left
      · simp only [Act.put, List.setIfInBounds_toArray, List.set_cons_zero, List.set_cons_succ, i64_w, i32_w]
        rfl
      refine take_ (i := 1) (N := some 33) (v := ?_) (a' := ?_) #[true, true, true, false, true, false, false, false, false] rfl rfl (take_ofW HT_.out HW_.out (by kernel_rfl)) (fun _ _ _ h => h) (Or.inl ⟨by rfl, ?_⟩) hHeld ?_ ?_
      rotate_left
      · rintro w' ⟨s0, s1, s2, s3⟩
        go_simp
        with_reducible rfl
      rotate_left
      · simp only [Act.put, List.setIfInBounds_toArray, List.set_cons_zero, List.set_cons_succ, i64_w, i32_w]
        rfl
      refine take_ (i := 3) (N := some 35) (v := ?_) (a' := ?_) #[true, true, true, true, true, false, false, false, false] rfl rfl (take_ofW HT_.out HW_.out (by kernel_rfl)) (fun _ _ _ h => h) (Or.inl ⟨by rfl, ?_⟩) hHeld ?_ ?_
      rotate_left
      · rintro w' ⟨s0, s1, s2, s3⟩
        go_simp
        with_reducible rfl
      rotate_left
      · simp only [Act.put, List.setIfInBounds_toArray, List.set_cons_zero, List.set_cons_succ, i64_w, i32_w]
        rfl
      refine take_ (i := 5) (N := some 37) (v := ?_) (a' := ?_) #[true, true, true, true, true, true, false, false, false] rfl rfl (take_ofW HT_.out HW_.out (by kernel_rfl)) (fun _ _ _ h => h) (Or.inl ⟨by rfl, ?_⟩) hHeld ?_ ?_
      rotate_left
      · rintro w' ⟨s0, s1, s2, s3⟩
        go_simp
        with_reducible rfl
      rotate_left
      · simp only [Act.put, List.setIfInBounds_toArray, List.set_cons_zero, List.set_cons_succ, i64_w, i32_w]
        rfl
      refine one_ (i := 6) (N := some 38) #[true, true, true, true, true, true, true, false, false] rfl rfl (one_of HT_.out (by kernel_rfl)) (by decide) (fun K hK => ?_)
      refine goes_ Tryd.func107 (by kernel_rfl) rfl #[.slice A1_1 l1_1.length c1_1, .slice A0_1 l0_1.length c0_1] (by rfl) rfl rfl qe_ ?_
      with_reducible refine (merinoref01_subD.calls k _ _ l1_1 _ _ l0_1 t273 _ ?side1 ?side2 ?side3 ?side4 A40.out).mono ?_
      (case side1 => exact qc_ (Kd.C_below HR1_1.out HB.out))
      (case side2 => exact HC1_1.out)
      (case side3 => exact qc_ (Kd.C_below HR0_1.out HB.out))
      (case side4 => exact HC0_1.out)
      rintro e w51 ⟨v274, rfl, ho0, hb⟩
      refine ⟨_, rfl, ?_⟩
      have n0_ := Aside0.mk (Kd.R_lower ho0 (below_size (q3_ HB.out GE255.out GE256.out GE257.out)))
      have n1_ := Aside0.mk (blk_below (g := gb255) (o := .cells #[.bool a0_0, .slice A0_1 l0_1.length c0_1] 31 (0, 0)) (qb_ BK255.out) hb)
      have n2_ := Aside0.mk (blk_below (g := gb256) (o := .cells #[.bool a1_0, .slice A1_1 l1_1.length c1_1] 31 (0, 0)) (qb_ BK256.out) hb)
      have n3_ := Aside0.mk (blk_below (g := gb257) (o := .cells #[.bool false, .slice none 0 0] 31 (0, 0)) (qb_ BK257.out) hb)
      have n4_ := Aside0.mk (below_step (q3_ HB.out GE255.out GE256.out GE257.out) hb)
      clear BK255
      clear BK256
      clear BK257
      clear HB
      have HO275 := n0_
      have BK255 := n1_
      have BK256 := n2_
      have BK257 := n3_
      have HB := n4_
      clear n0_ n1_ n2_ n3_ n4_
      (try clear hb)
      (try clear hb2)
      (try clear hk)
      (try clear hi)
      (try clear ho0)
      obtain ⟨Ao52, co52, eo52⟩ := Kd.R_slice HO275.out
      (first | subst eo52 | (injection eo52 with f1_ f2_ f3_; have f4_ := f1_.symm; have f5_ := f3_.symm; clear f1_ f2_ f3_; subst f4_; subst f5_))
      refine hK.out _ _ ⟨(blk_cell BK256.out 0).trans rfl, (blk_cell BK256.out 1).trans rfl, (blk_cell BK255.out 0).trans rfl, (blk_cell BK255.out 1).trans rfl⟩ (fun hHeld => ?_)
      clear hK K
      refine norm_ (a' := ?_) ?_ ?_
      rotate_left
      · show Act.put _ (some 38) _ = _
        simp only [Act.put, List.setIfInBounds_toArray, List.set_cons_zero, List.set_cons_succ, i64_w, i32_w]
        rfl
      refine one_ (i := 7) (N := some 39) #[true, true, true, true, true, true, true, true, false] rfl rfl (one_of HT_.out (by kernel_rfl)) (by decide) (fun K hK => ?_)
      refine goes_ Tryd.func73 (by kernel_rfl) rfl #[.bool a1_0, .slice Ao52 t273.length co52] (by rfl) rfl rfl qe_ ?_
      with_reducible refine (merinoref01_whole.calls k a1_0 _ _ t273 t276 t277 _ ?side1 ?side2 A41.out).mono ?_
      (case side1 => exact qc_ (Kd.R_reads' HO275.out).2.2)
      (case side2 => exact (Kd.R_reads' HO275.out).2.1)
      rintro e w53 ⟨v278, rfl, ho0, hb⟩
      refine ⟨_, rfl, ?_⟩
      have n0_ := Aside0.mk (Kd.R_elder' (qr_ HO275.out) (Kd.R_base ho0) hb)
      have n1_ := Aside0.mk (Kd.R_lower (Kd.R_new' ho0 (Kd.R_lt (qr_ HO275.out))) (below_size (q3_ HB.out GE255.out GE256.out GE257.out)))
      have n2_ := Aside0.mk (blk_below (g := gb255) (o := .cells #[.bool a0_0, .slice A0_1 l0_1.length c0_1] 31 (0, 0)) (qb_ BK255.out) hb)
      have n3_ := Aside0.mk (blk_below (g := gb256) (o := .cells #[.bool a1_0, .slice A1_1 l1_1.length c1_1] 31 (0, 0)) (qb_ BK256.out) hb)
      have n4_ := Aside0.mk (blk_below (g := gb257) (o := .cells #[.bool false, .slice none 0 0] 31 (0, 0)) (qb_ BK257.out) hb)
      have n5_ := Aside0.mk (below_step (q3_ HB.out GE255.out GE256.out GE257.out) hb)
      clear HO275
      clear BK255
      clear BK256
      clear BK257
      clear HB
      have HO275 := n0_
      have HO279 := n1_
      have BK255 := n2_
      have BK256 := n3_
      have BK257 := n4_
      have HB := n5_
      clear n0_ n1_ n2_ n3_ n4_ n5_
      (try clear hb)
      (try clear hb2)
      (try clear hk)
      (try clear hi)
      (try clear ho0)
      obtain ⟨Ao55, co55, eo55⟩ := Kd.R_slice HO279.out
      (first | subst eo55 | (injection eo55 with f1_ f2_ f3_; have f4_ := f1_.symm; have f5_ := f3_.symm; clear f1_ f2_ f3_; subst f4_; subst f5_))
      refine hK.out _ _ ⟨(blk_cell BK256.out 0).trans rfl, (blk_cell BK256.out 1).trans rfl, (blk_cell BK255.out 0).trans rfl, (blk_cell BK255.out 1).trans rfl⟩ (fun hHeld => ?_)
      clear hK K
      refine norm_ (a' := ?_) ?_ ?_
      rotate_left
      · show Act.put _ (some 39) _ = _
        simp only [Act.put, List.setIfInBounds_toArray, List.set_cons_zero, List.set_cons_succ, i64_w, i32_w]
        rfl
      refine one_ (i := 8) (N := none) #[true, true, true, true, true, true, true, true, true] rfl rfl (one_of HT_.out (by kernel_rfl)) (by decide) (fun K hK => ?_)
      have hs54 : w53.cell? ⟨gb257, 0, none⟩ = some (.bool false) := (blk_cell BK257.out 0).trans rfl
      have hfs54 := blk_frozen BK257.out 0
      have hns54_0 := NB255_257.out
      have hns54_1 := NB256_257.out
      have hms54_0 := NB257_255.out
      have hms54_1 := NB257_256.out
      have hs56 : w53.cell? ⟨gb257, 1, none⟩ = some (.slice none 0 0) := (blk_cell BK257.out 1).trans rfl
      have hfs56 := blk_frozen BK257.out 1
      have hns56_0 := NB255_257.out
      have hns56_1 := NB256_257.out
      have hms56_0 := NB257_255.out
      have hms56_1 := NB257_256.out
      refine skip_ (w1 := ?_) (by rfl) rfl ?_ ?_
      rotate_left
      · go_simp
        rfl
      refine hK.out _ _ ⟨((cell_far (p := ⟨gb257, _, none⟩) NB256_257.out _).trans (((cell_far (p := ⟨gb257, _, none⟩) NB256_257.out _).trans (hHeld.1)))), ((cell_far (p := ⟨gb257, _, none⟩) NB256_257.out _).trans (((cell_far (p := ⟨gb257, _, none⟩) NB256_257.out _).trans (hHeld.2.1)))), ((cell_far (p := ⟨gb257, _, none⟩) NB255_257.out _).trans (((cell_far (p := ⟨gb257, _, none⟩) NB255_257.out _).trans (hHeld.2.2.1)))), ((cell_far (p := ⟨gb257, _, none⟩) NB255_257.out _).trans (((cell_far (p := ⟨gb257, _, none⟩) NB255_257.out _).trans (hHeld.2.2.2))))⟩ (fun hHeld => ?_)
      clear hK K
      refine done_ (done_of HT_.out (by kernel_rfl)) ?_
      try go_wp2
      refine bodyPost_ret (results_cell_row rfl _ _ gb257 31 #[.bool t276, .slice Ao55 t277.length co55] (0, 0) _ rfl (by (with_reducible repeat (first | refine blk_drewN ?_ _ | refine blk_drew ?_ | refine blk_alloc ?_ _)); refine blk_put (cs := #[.bool t276, .slice none 0 0]) ?_ 1 _ rfl; (with_reducible repeat (first | refine blk_drewN ?_ _ | refine blk_drew ?_ | refine blk_alloc ?_ _)); refine blk_put (cs := #[.bool false, .slice none 0 0]) ?_ 0 _ rfl; (with_reducible repeat (first | refine blk_drewN ?_ _ | refine blk_drew ?_ | refine blk_alloc ?_ _)); exact BK257.out) Tryd.underlying31 rfl (by kernel_rfl)) rfl ?_
      exact ⟨_, by first | rfl | (simp [errW_none, errW_some] <;> rfl) | (simp [*, errW_none, errW_some] <;> rfl), by (with_reducible repeat (first | apply Kd.R_alloc | apply Kd.R_drewN | apply Kd.R_drew)); exact Kd.R_mono (Kd.R_far (p := ⟨gb257, 1, none⟩) (Kd.R_far (p := ⟨gb257, 0, none⟩) (Kd.R_types HO279.out BK257.out (by decide)) (fun _ hk => hk.2) (.bool t276)) (fun _ hk => hk.2) (.slice Ao55 t277.length co55)) (fun _ hk => trivial), (q3_ HB.out GE255.out GE256.out GE257.out)⟩
end Go.Proofs.YtdjnneflpkllmaaDoor.Q

namespace Go.Proofs.YtdjnneflpkllmaaDoor.Q
open Go.RowKit Go.Proofs.YtdjnneflpkllmaaDoorW.PrintWords Go.Proofs.YtdjnneflpkllmaaDoorW.PrintLast Go.Proofs.YtdjnneflpkllmaaDoorW.PrintMore
attribute [local go_sem] max2_int min2_int max_two min_two max_three min_three max_four min_four   -- for this text's walks alone
set_option linter.unusedVariables false
set_option linter.unusedSimpArgs false
def merinoref01_Over.f (k : Nat) (a0_0 : Bool) (l0_1 : List Int) (a1_0 : Bool) (l1_1 : List Int) : Option (Bool × List Int × Bool × List Int) := (merinoref01_divD.f k l0_1 l1_1).bind fun bt826 => (if a0_0 = true then (if (bt826.2.length : Int) = 0 then ((merinoref01_whole.f k true bt826.1).bind fun bt840 => (some (bt840.1, bt840.2, false, ([] : List Int)))) else ((merinoref01_addD.f k bt826.1 (([1] : List Int))).bind fun t847 => ((merinoref01_whole.f k true t847).bind fun bt850 => ((merinoref01_subD.f k l1_1 bt826.2).bind fun t854 => ((merinoref01_whole.f k false t854).bind fun bt857 => (some (bt850.1, bt850.2, bt857.1, bt857.2))))))) else ((merinoref01_whole.f k false bt826.1).bind fun bt832 => ((merinoref01_whole.f k false bt826.2).bind fun bt836 => (some (bt832.1, bt832.2, bt836.1, bt836.2)))))
theorem merinoref01_Over.mono : ∀ a0 a1 a2 a3 k, LeO (merinoref01_Over.f k a0 a1 a2 a3) (merinoref01_Over.f (k + 1) a0 a1 a2 a3) := by
  intro a0 a1 a2 a3 k
  unfold merinoref01_Over.f
  repeat' first
      | (with_reducible exact merinoref01_addD.mono _ _ _)
      | (with_reducible exact merinoref01_divD.mono _ _ _)
      | (with_reducible exact merinoref01_subD.mono _ _ _)
      | (with_reducible exact merinoref01_whole.mono _ _ _)
      | (with_reducible exact LeO.refl _)
      | (with_reducible exact LeO.none _)
      | (with_reducible refine LeO.ite ?_ ?_)
      | (with_reducible refine LeO.bind ?_ (fun _ => ?_))
      | exact merinoref01_addD.mono _ _ _
      | exact merinoref01_divD.mono _ _ _
      | exact merinoref01_subD.mono _ _ _
      | exact merinoref01_whole.mono _ _ _
      | exact LeO.none _
      | refine LeO.ite ?_ ?_
      | refine LeO.bind ?_ (fun _ => ?_)
def merinoref01_Zero.f (a0_0 : Bool) (l0_1 : List Int) : Option (Bool) := some ((l0_1.length : Int) == 0)
end Go.Proofs.YtdjnneflpkllmaaDoor.Q

namespace Go.Proofs.YtdjnneflpkllmaaDoor.Q
open Go.RowKit Go.Proofs.YtdjnneflpkllmaaDoorW.PrintWords Go.Proofs.YtdjnneflpkllmaaDoorW.PrintLast Go.Proofs.YtdjnneflpkllmaaDoorW.PrintMore
attribute [local go_sem] max2_int min2_int max_two min_two max_three min_three max_four min_four   -- for this text's walks alone
set_option linter.unusedVariables false
set_option linter.unusedSimpArgs false
def merinoref01_Neg.f (k : Nat) (a0_0 : Bool) (l0_1 : List Int) : Option (Bool × List Int) := (merinoref01_whole.f k (!a0_0) l0_1).bind fun bt215 => (some (bt215.1, bt215.2))
theorem merinoref01_Neg.mono : ∀ a0 a1 k, LeO (merinoref01_Neg.f k a0 a1) (merinoref01_Neg.f (k + 1) a0 a1) := by
  intro a0 a1 k
  unfold merinoref01_Neg.f
  repeat' first
      | (with_reducible exact merinoref01_whole.mono _ _ _)
      | (with_reducible exact LeO.refl _)
      | (with_reducible exact LeO.none _)
      | (with_reducible refine LeO.ite ?_ ?_)
      | (with_reducible refine LeO.bind ?_ (fun _ => ?_))
      | exact merinoref01_whole.mono _ _ _
      | exact LeO.none _
      | refine LeO.ite ?_ ?_
      | refine LeO.bind ?_ (fun _ => ?_)
set_option maxHeartbeats 8000000 in
set_option maxRecDepth 100000 in
theorem merinoref01_Neg.calls (k : Nat) (a0_0 : Bool) (A0_1 : Option Addr) (c0_1 : Nat) (l0_1 : List Int) (r1 : Bool) (r2 : List Int) (w : World) (hr0_1 : Kd.C (Kd.int .i64) w A0_1 l0_1.length l0_1) (hc0_1 : l0_1.length ≤ c0_1) (h : merinoref01_Neg.f k a0_0 l0_1 = some (r1, r2)) :
    Calls Tryd.prog 75 #[.agg #[.bool a0_0, .slice A0_1 l0_1.length c0_1]] w fun e w' => ∃ v1_ : Value, e = .returned (.agg #[.bool r1, v1_]) ∧ Kd.R (Kd.int .i64) 3 w' w.heap.size (fun _ => True) v1_ r2 ∧ Below w.heap.size w w' := by
  have hu31 := Tryd.underlying31
  have HR0_1 := Aside0.mk hr0_1
  have HC0_1 := Aside0.mk hc0_1
  clear hr0_1 hc0_1
  have HB := Aside0.mk (Below.refl w.heap.size w)
  have H : ((merinoref01_whole.f k (!a0_0) l0_1).bind fun bt215 => (some (bt215.1, bt215.2))) = some (r1, r2) := h
  clear h
  replace H := Option.bind_eq_some_iff.mp H
  obtain ⟨⟨t215, t216⟩, A20, H⟩ := H
  replace H : (some (t215, t216)) = some (r1, r2) := H
  have A2 := Aside0.mk A20
  clear A20
  simp only [Option.some.injEq, Prod.mk.injEq] at H
  obtain ⟨rfl, rfl⟩ := H
  go_enter Tryd.func75, Tryd.ntmps75
  go_wp2_with (first | ((with_reducible refine gate_dst (N := 1) rfl ?_); refine box_event ?hg (N := 1) ?hd (cs := #[.bool a0_0, .slice A0_1 l0_1.length c0_1]) (t := 31) ?hr ?_; (case hd => rfl); (case hg => rfl); (case hr => first | (go_simp; done) | (go_simp; rfl)); intro gb213 hg w3 hbox hb; have n0_ := Aside0.mk (below_step (q0_ HB.out) hb); have n1_ := Aside0.mk (hbox); have n2_ := Aside0.mk ((by rw [hg]; exact (below_size (q0_ HB.out)) : w.heap.size ≤ gb213)); have n3_ := Aside0.mk ((by rw [hg]; exact (below_size (q0_ HB.out)) : w.heap.size ≤ gb213)); clear HB; have HB := n0_; have BK213 := n1_; have GW213 := n2_; have GE213 := n3_; clear n0_ n1_ n2_ n3_; clear hb hbox hg) | ((with_reducible refine gate_dst (N := 2) rfl ?_); refine box_event ?hg (N := 2) ?hd (cs := #[.bool false, .slice none 0 0]) (t := 31) ?hr ?_; (case hd => rfl); (case hg => rfl); (case hr => first | (go_simp; done) | (go_simp; rfl)); intro gb214 hg w4 hbox hb; have n0_ := Aside0.mk (blk_below (g := gb213) (o := .cells #[.bool a0_0, .slice A0_1 l0_1.length c0_1] 31 (0, 0)) (qb_ BK213.out) hb); have n1_ := Aside0.mk (below_step (q1_ HB.out GE213.out) hb); have n2_ := Aside0.mk (hbox); have n3_ := Aside0.mk ((by rw [hg]; exact (below_size (q1_ HB.out GE213.out)) : w.heap.size ≤ gb214)); have n4_ := Aside0.mk ((by rw [hg]; exact (below_size (q1_ HB.out GE213.out)) : w.heap.size ≤ gb214)); have n5_ := Aside0.mk ((by rw [hg]; exact Nat.ne_of_lt (blk_lt (g := gb213) (o := .cells #[.bool a0_0, .slice A0_1 l0_1.length c0_1] 31 (0, 0)) (qb_ BK213.out)) : gb213 ≠ gb214)); have n6_ := Aside0.mk ((by rw [hg]; exact Nat.ne_of_gt (blk_lt (g := gb213) (o := .cells #[.bool a0_0, .slice A0_1 l0_1.length c0_1] 31 (0, 0)) (qb_ BK213.out)) : gb214 ≠ gb213)); clear BK213; clear HB; have BK213 := n0_; have HB := n1_; have BK214 := n2_; have GW214 := n3_; have GE214 := n4_; have NB213_214 := n5_; have NB214_213 := n6_; clear n0_ n1_ n2_ n3_ n4_ n5_ n6_; clear hb hbox hg; have hnb5 := NB213_214.out; have hnc5 := NB214_213.out; have hcz6_0 : w4.cell? ⟨gb213, 0, none⟩ = some (.bool a0_0) := (blk_cell BK213.out 0).trans rfl; have hcz6_1 : w4.cell? ⟨gb213, 1, none⟩ = some (.slice A0_1 l0_1.length c0_1) := (blk_cell BK213.out 1).trans rfl; have hfz6_0 := blk_frozen BK213.out 0; have hfz6_1 := blk_frozen BK213.out 1) | ((with_reducible refine gate_callee (f := 73) rfl ?_); refine goesL_ (some 8) rfl rfl Tryd.func73 (by kernel_rfl) rfl #[.bool (!a0_0), .slice A0_1 l0_1.length c0_1] rfl qe_ ?_; (with_reducible refine (merinoref01_whole.calls k (!a0_0) _ _ l0_1 t215 t216 _ ?side1 ?side2 A2.out).mono ?_); (case side1 => exact qc_ (Kd.C_below HR0_1.out HB.out)); (case side2 => exact HC0_1.out); rintro e w7 ⟨v217, rfl, ho0, hb⟩; refine ⟨_, rfl, ?_⟩; have n0_ := Aside0.mk (Kd.R_lower ho0 (below_size (q2_ HB.out GE213.out GE214.out))); have n1_ := Aside0.mk (blk_below (g := gb213) (o := .cells #[.bool a0_0, .slice A0_1 l0_1.length c0_1] 31 (0, 0)) (qb_ BK213.out) hb); have n2_ := Aside0.mk (blk_below (g := gb214) (o := .cells #[.bool false, .slice none 0 0] 31 (0, 0)) (qb_ BK214.out) hb); have n3_ := Aside0.mk (below_step (q2_ HB.out GE213.out GE214.out) hb); clear BK213; clear BK214; clear HB; have HO218 := n0_; have BK213 := n1_; have BK214 := n2_; have HB := n3_; clear n0_ n1_ n2_ n3_; (try clear hb); (try clear hb2); (try clear hk); (try clear hi); (try clear ho0); have hcz8_0 : w7.cell? ⟨gb214, 0, none⟩ = some (.bool false) := (blk_cell BK214.out 0).trans rfl; have hcz8_1 : w7.cell? ⟨gb214, 1, none⟩ = some (.slice none 0 0) := (blk_cell BK214.out 1).trans rfl; have hfz8_0 := blk_frozen BK214.out 0; have hfz8_1 := blk_frozen BK214.out 1; obtain ⟨Ao9, co9, eo9⟩ := Kd.R_slice HO218.out; subst eo9))
  refine bodyPost_ret (results_cell_row rfl _ _ gb214 31 #[.bool t215, .slice Ao9 t216.length co9] (0, 0) _ rfl (by (with_reducible repeat (first | refine blk_drewN ?_ _ | refine blk_drew ?_ | refine blk_alloc ?_ _)); refine blk_put (cs := #[.bool t215, .slice none 0 0]) ?_ 1 _ rfl; (with_reducible repeat (first | refine blk_drewN ?_ _ | refine blk_drew ?_ | refine blk_alloc ?_ _)); refine blk_put (cs := #[.bool false, .slice none 0 0]) ?_ 0 _ rfl; (with_reducible repeat (first | refine blk_drewN ?_ _ | refine blk_drew ?_ | refine blk_alloc ?_ _)); exact BK214.out) Tryd.underlying31 rfl (by kernel_rfl)) rfl ?_
  exact ⟨_, by first | rfl | (simp [errW_none, errW_some] <;> rfl) | (simp [*, errW_none, errW_some] <;> rfl), by (with_reducible repeat (first | apply Kd.R_alloc | apply Kd.R_drewN | apply Kd.R_drew)); exact Kd.R_mono (Kd.R_far (p := ⟨gb214, 1, none⟩) (Kd.R_far (p := ⟨gb214, 0, none⟩) (Kd.R_types HO218.out BK214.out (by decide)) (fun _ hk => hk.2) (.bool t215)) (fun _ hk => hk.2) (.slice Ao9 t216.length co9)) (fun _ hk => trivial), (q2_ HB.out GE213.out GE214.out)⟩
def merinolaw01_before.f (k : Nat) (a0 : Int) (a1 : Int) (a2 : Int) (a3 : Int) : Option (Bool) := (merinoref01_Of.f k a0).bind fun bt548 => ((merinoref01_Of.f k a3).bind fun bt552 => ((merinoref01_Times.f k bt548.1 bt548.2 bt552.1 bt552.2).bind fun bt556 => ((merinoref01_Of.f k a2).bind fun bt560 => ((merinoref01_Of.f k a1).bind fun bt564 => ((merinoref01_Times.f k bt560.1 bt560.2 bt564.1 bt564.2).bind fun bt568 => ((merinoref01_Compare.f k bt556.1 bt556.2 bt568.1 bt568.2).bind fun t572 => (some (decide (t572 < 0)))))))))
theorem merinolaw01_before.mono : ∀ a0 a1 a2 a3 k, LeO (merinolaw01_before.f k a0 a1 a2 a3) (merinolaw01_before.f (k + 1) a0 a1 a2 a3) := by
  intro a0 a1 a2 a3 k
  unfold merinolaw01_before.f
  repeat' first
      | (with_reducible exact merinoref01_Compare.mono _ _ _ _ _)
      | (with_reducible exact merinoref01_Of.mono _ _)
      | (with_reducible exact merinoref01_Times.mono _ _ _ _ _)
      | (with_reducible exact LeO.refl _)
      | (with_reducible exact LeO.none _)
      | (with_reducible refine LeO.ite ?_ ?_)
      | (with_reducible refine LeO.bind ?_ (fun _ => ?_))
      | exact merinoref01_Compare.mono _ _ _ _ _
      | exact merinoref01_Of.mono _ _
      | exact merinoref01_Times.mono _ _ _ _ _
      | exact LeO.none _
      | refine LeO.ite ?_ ?_
      | refine LeO.bind ?_ (fun _ => ?_)
def merinolaw01_distance.f (k : Nat) (a0 : Int) : Option (Bool × List Int) := (merinoref01_Of.f k a0).bind fun bt574 => (if bt574.1 = true then ((merinoref01_Neg.f k bt574.1 bt574.2).bind fun bt579 => (some (bt579.1, bt579.2))) else (some (bt574.1, bt574.2)))
theorem merinolaw01_distance.mono : ∀ a0 k, LeO (merinolaw01_distance.f k a0) (merinolaw01_distance.f (k + 1) a0) := by
  intro a0 k
  unfold merinolaw01_distance.f
  repeat' first
      | (with_reducible exact merinoref01_Neg.mono _ _ _)
      | (with_reducible exact merinoref01_Of.mono _ _)
      | (with_reducible exact LeO.refl _)
      | (with_reducible exact LeO.none _)
      | (with_reducible refine LeO.ite ?_ ?_)
      | (with_reducible refine LeO.bind ?_ (fun _ => ?_))
      | exact merinoref01_Neg.mono _ _ _
      | exact merinoref01_Of.mono _ _
      | exact LeO.none _
      | refine LeO.ite ?_ ?_
      | refine LeO.bind ?_ (fun _ => ?_)
end Go.Proofs.YtdjnneflpkllmaaDoor.Q

namespace Go.Proofs.Num
open Go.RowKit Go.Proofs.YtdjnneflpkllmaaDoorW.PrintWords Go.Proofs.YtdjnneflpkllmaaDoorW.PrintMore Go.Proofs.YtdjnneflpkllmaaDoor.Q
set_option linter.unusedVariables false
set_option linter.unusedSimpArgs false
theorem add_l0 {a b : List Int} (ha : Dig a) (hb : Dig b) (hs : a.length ≤ 1000) (hs2 : b.length ≤ 1000) : ∀ (c i : Nat), max a.length b.length + 1 - i = c → i ≤ max a.length b.length + 1 → ∀ (out : List Int) (cy : Int), Dig out → out.length = i → (cy = 0 ∨ cy = 1) → (max a.length b.length < i → cy = 0) → valD out + cy * pw i = vt a i + vt b i →
    ∃ r, Ev (fun k => merinoref01_addD.l0 k a b out cy (i : Int)) r ∧ (Dig r ∧ valD r = valD a + valD b ∧ r.length ≤ max a.length b.length + 1) := by
  intro c
  induction c with
  | zero =>
    intro i hc hi out cy hd ho h01 hz hv
    obtain rfl : cy = 0 := hz (by omega)
    rw [vt_all a (by omega), vt_all b (by omega), Int.zero_mul, Int.add_zero] at hv
    refine ⟨out, ?_, hd, hv, by omega⟩
    refine Ev.step (f := fun k => merinoref01_addD.j1 k a b out 0 (i : Int) false) (fun k => by rw [merinoref01_addD.l0, if_neg (by omega), if_neg (by omega)]; rfl) ?_
    exact Ev.step (f := fun _ => some out) (fun k => by rw [merinoref01_addD.j1, if_neg (by decide)]) (Ev.now _)
  | succ c ih =>
    intro i hc hi out cy hd ho h01 hz hv
    have x := ha.at_ i
    have y := hb.at_ i
    by_cases hend : a.length ≤ i ∧ b.length ≤ i ∧ cy = 0
    · obtain ⟨e1, e2, rfl⟩ := hend
      rw [vt_all a e1, vt_all b e2, Int.zero_mul, Int.add_zero] at hv
      refine ⟨out, ?_, hd, hv, by omega⟩
      refine Ev.step (f := fun k => merinoref01_addD.j1 k a b out 0 (i : Int) false) (fun k => by rw [merinoref01_addD.l0, if_neg (by omega), if_neg (by omega)]; rfl) ?_
      exact Ev.step (f := fun _ => some out) (fun k => by rw [merinoref01_addD.j1, if_neg (by decide)]) (Ev.now _)
    · obtain ⟨S, hS⟩ : ∃ S, S = cy + at_ a i + at_ b i := ⟨_, rfl⟩
      have S0 : 0 ≤ S ∧ S < 20000 := by omega
      obtain ⟨r, E, q⟩ := ih (i + 1) (by omega) (by omega) (out ++ [S % 10000]) (S / 10000) (dig_snoc hd (by omega) (by omega)) (by simp; omega) (by omega) (fun h => by
        have h1 : at_ a i = 0 := at_none (by omega)
        have h2 : at_ b i = 0 := at_none (by omega)
        omega) (by
        rw [valD_snoc, ho, vt_succ, vt_succ, pw_succ]
        have e : S % 10000 = S - 10000 * (S / 10000) := by omega
        have e2 : valD out = vt a i + vt b i - cy * pw i := by omega
        rw [e, e2, hS]
        grind)
      refine ⟨r, ?_, q⟩
      refine Ev.step (f := fun k => merinoref01_addD.j1 k a b out cy (i : Int) true) (fun k => ?_) ?_
      · rw [merinoref01_addD.l0]
        by_cases h1 : (i : Int) < (a.length : Int)
        · rw [if_pos h1]
        · by_cases h2 : (i : Int) < (b.length : Int)
          · rw [if_neg h1, if_pos h2]
          · rw [if_neg h1, if_neg h2, decide_eq_true (by omega)]
      · refine Ev.step (f := fun k => merinoref01_addD.l0 k a b (out ++ [S % 10000]) (S / 10000) ((i + 1 : Nat) : Int)) (fun k => ?_) E
        rw [merinoref01_addD.j1, if_pos rfl, rd_nat, rd_nat, wd64 (x := (i : Int) + 1) (by omega) (by omega), show (i : Int) + 1 = ((i + 1 : Nat) : Int) by omega]
        have st : ∀ T : Int, T = S → Int.tmod T 10000 = S % 10000 ∧ wrap64 (Int.tdiv T 10000) = S / 10000 := fun T hT => by
          subst hT
          rw [Int.tmod_eq_emod_of_nonneg S0.1, Int.tdiv_eq_ediv_of_nonneg S0.1]
          exact ⟨rfl, wd64 (by omega) (by omega)⟩
        by_cases h1 : (i : Int) < (a.length : Int)
        · by_cases h2 : (i : Int) < (b.length : Int)
          · have t := st (wrap64 (wrap64 (cy + at_ a i) + at_ b i)) (by rw [wd64 (x := cy + at_ a i) (by omega) (by omega), wd64 (by omega) (by omega), hS])
            rw [if_pos h1, if_pos (by omega), if_pos h2, if_pos (by omega), t.1, t.2]
          · have hz2 : at_ b i = 0 := at_none (by omega)
            have t := st (wrap64 (cy + at_ a i)) (by rw [wd64 (by omega) (by omega)]; omega)
            rw [if_pos h1, if_pos (by omega), if_neg h2, if_pos (by omega), t.1, t.2]
        · have hz1 : at_ a i = 0 := at_none (by omega)
          by_cases h2 : (i : Int) < (b.length : Int)
          · have t := st (wrap64 (cy + at_ b i)) (by rw [wd64 (by omega) (by omega)]; omega)
            rw [if_neg h1, if_pos h2, if_pos (by omega), if_pos (by omega), t.1, t.2]
          · have hz2 : at_ b i = 0 := at_none (by omega)
            have t := st cy (by omega)
            rw [if_neg h1, if_neg h2, if_pos (by omega), t.1, t.2]
theorem add_ok {a b : List Int} (ha : Dig a) (hb : Dig b) (hs : a.length ≤ 1000) (hs2 : b.length ≤ 1000) : ∃ r, Ev (fun k => merinoref01_addD.f k a b) r ∧ (Dig r ∧ valD r = valD a + valD b ∧ r.length ≤ max a.length b.length + 1) :=
  add_l0 ha hb hs hs2 (max a.length b.length + 1) 0 rfl (by omega) [] 0 (fun z hz => by cases hz) rfl (.inl rfl) (fun h => by omega) (by simp [valD, vt_zero])
theorem neg_big_ok {b : Bool} {l : List Int} {x : Int} (R : Rep b l x) (hs : l.length ≤ 1000) : ∃ r, Ev (fun k => merinoref01_Neg.f k b l) (decide (-x < 0), r) ∧ Rep (decide (-x < 0)) r (-x) ∧ r.length ≤ l.length := by
  obtain ⟨r, E, R2, hl⟩ := whole_ok (b := !b) (l := l) (x := -x) hs R.good.dig (by rw [R.good.val]; omega) (fun hne => by
    rw [R.sign]
    by_cases h : x < 0
    · rw [decide_eq_true h, decide_eq_false (by omega)]; rfl
    · rw [decide_eq_false h, decide_eq_true (by omega)]; rfl)
  refine ⟨r, ?_, R2, hl⟩
  unfold merinoref01_Neg.f
  exact Ev.bind E (Ev.now _)
theorem plus_ok {a b : Bool} {l m : List Int} {x y : Int} (R : Rep a l x) (S : Rep b m y) (hs : l.length ≤ 900) (hs2 : m.length ≤ 900) : ∃ r, Ev (fun k => merinoref01_Plus.f k a l b m) (decide (x + y < 0), r) ∧ Rep (decide (x + y < 0)) r (x + y) ∧ r.length ≤ max l.length m.length + 1 := by
  have ea := R.sign
  have eb := S.sign
  unfold merinoref01_Plus.f
  by_cases h : (x < 0 ↔ y < 0)
  · have hab : (a == b) = true := by rw [ea, eb, beq_iff_eq, decide_eq_decide]; exact h
    obtain ⟨t, E, d, v, ht⟩ := add_ok R.good.dig S.good.dig (by omega) (by omega)
    obtain ⟨r, E2, R2, hr⟩ := whole_ok (b := a) (l := t) (x := x + y) (by unfold short; omega) d (by rw [v, R.good.val, S.good.val]; omega) (fun hne => by rw [ea, decide_eq_decide]; omega)
    refine ⟨r, ?_, R2, by omega⟩
    simp only [if_pos hab]
    exact Ev.bind E (Ev.bind E2 (Ev.now _))
  · have hab : ¬ (a == b) = true := by rw [ea, eb, beq_iff_eq, decide_eq_decide]; exact h
    simp only [if_neg hab]
    have C := cmpD_ok R.good S.good (by omega)
    by_cases hc : (y.natAbs : Int) ≤ x.natAbs
    · have c0 : cmpI (x.natAbs : Int) y.natAbs ≥ 0 := by unfold cmpI; (repeat' split) <;> omega
      obtain ⟨t, E, g, ht⟩ := sub_ok R.good S.good (by omega) hc
      obtain ⟨r, E2, R2, hr⟩ := whole_ok (b := a) (l := t) (x := x + y) (by unfold short; omega) g.dig (by rw [g.val]; omega) (fun hne => by rw [ea, decide_eq_decide]; omega)
      refine ⟨r, Ev.bind C ?_, R2, by omega⟩
      simp only [if_pos c0]
      exact Ev.bind E (Ev.bind E2 (Ev.now _))
    · have c0 : ¬ cmpI (x.natAbs : Int) y.natAbs ≥ 0 := by unfold cmpI; rw [if_pos (by omega)]; omega
      obtain ⟨t, E, g, ht⟩ := sub_ok S.good R.good (by omega) (by omega)
      obtain ⟨r, E2, R2, hr⟩ := whole_ok (b := b) (l := t) (x := x + y) (by unfold short; omega) g.dig (by rw [g.val]; omega) (fun hne => by rw [eb, decide_eq_decide]; omega)
      refine ⟨r, Ev.bind C ?_, R2, by omega⟩
      simp only [if_neg c0]
      exact Ev.bind E (Ev.bind E2 (Ev.now _))
end Go.Proofs.Num

namespace Go.Proofs.Num
open Go.RowKit Go.Proofs.YtdjnneflpkllmaaDoorW.PrintWords Go.Proofs.YtdjnneflpkllmaaDoor.Q
set_option linter.unusedVariables false
set_option linter.unusedSimpArgs false
theorem wu {x : Int} (h0 : 0 ≤ x) (h1 : x ≤ 18446744073709551615) : IntKind.u64.wrap x = x := by
  simp [IntKind.wrap, IntKind.bits, IntKind.signed]
  omega
theorem size_ok {a : Int} (h0 : -9223372036854775808 ≤ a) (h1 : a ≤ 9223372036854775807) : num_size.f a = some (a.natAbs : Int) := by
  unfold num_size.f
  by_cases h : a < 0
  · rw [if_pos h]
    congr 1
    simp [IntKind.wrap, IntKind.bits, IntKind.signed]
    omega
  · rw [if_neg h, wu (by omega) (by omega)]
    congr 1
    omega
theorem tmod_nat (a b : Nat) : Int.tmod (a : Int) (b : Int) = ((a % b : Nat) : Int) := by
  exact Int.ofNat_tmod a b
theorem gcd_l0 : ∀ (b a : Nat), Ev (fun k => num_gcd.l0 k (a : Int) (b : Int)) (Nat.gcd a b : Int) := by
  intro b
  induction b using Nat.strongRecOn with
  | ind b ih =>
    intro a
    by_cases h : b = 0
    · subst h
      refine Ev.step (f := fun _ => some (a : Int)) (fun k => by simp [num_gcd.l0]) ?_
      rw [Nat.gcd_zero_right]
      exact Ev.now _
    · refine Ev.step (f := fun k => num_gcd.l0 k (b : Int) ((a % b : Nat) : Int)) (fun k => by rw [num_gcd.l0, if_neg (by omega), tmod_nat]) ?_
      have := ih (a % b) (Nat.mod_lt _ (by omega)) b
      rw [Nat.gcd_comm b, ← Nat.gcd_rec, Nat.gcd_comm] at this
      exact this
theorem gcd_ok (a b : Nat) : Ev (fun k => num_gcd.f k (a : Int) (b : Int)) (Nat.gcd a b : Int) := gcd_l0 b a
/-- A valid fraction. -/
def valid (n d : Int) : Prop := 1 ≤ d ∧ d ≤ 1048576 ∧ -1099511627776 ≤ n ∧ n ≤ 1099511627776 ∧ Nat.gcd n.natAbs d.natAbs = 1
instance (n d : Int) : Decidable (valid n d) := by unfold valid; infer_instance
theorem valid_ok (n d : Int) : Ev (fun k => num_Valid.f k n d) (decide (valid n d)) := by
  unfold num_Valid.f
  by_cases h1 : d ≥ 1
  · by_cases h2 : d ≤ 1048576
    · by_cases h3 : n ≥ -1099511627776
      · by_cases h4 : n ≤ 1099511627776
        · simp only [if_pos h1, if_pos h2, if_pos h3, if_pos h4, size_ok (by omega : -9223372036854775808 ≤ n) (by omega), Option.bind_some]
          have e : IntKind.u64.wrap d = (d.natAbs : Int) := by rw [wu (by omega) (by omega)]; omega
          rw [e]
          refine Ev.bind (gcd_ok _ _) ?_
          have : ((Nat.gcd n.natAbs d.natAbs : Int) == 1) = decide (valid n d) := by
            by_cases hg : Nat.gcd n.natAbs d.natAbs = 1
            · rw [decide_eq_true (show valid n d from ⟨h1, h2, h3, h4, hg⟩), hg]; rfl
            · rw [decide_eq_false (fun h : valid n d => hg h.2.2.2.2)]
              exact beq_eq_false_iff_ne.mpr (by omega)
          rw [this]
          exact Ev.now _
        · simp only [if_pos h1, if_pos h2, if_pos h3, if_neg h4]
          rw [decide_eq_false (fun h => h4 h.2.2.2.1)]
          exact Ev.now _
      · simp only [if_pos h1, if_pos h2, if_neg h3]
        rw [decide_eq_false (fun h => h3 h.2.2.1)]
        exact Ev.now _
    · simp only [if_pos h1, if_neg h2]
      rw [decide_eq_false (fun h => h2 h.2.1)]
      exact Ev.now _
  · simp only [if_neg h1]
    rw [decide_eq_false (fun h => h1 h.1)]
    exact Ev.now _
end Go.Proofs.Num

namespace Go.Proofs.YtdjnneflpkllmaaDoor.Q
open Go.RowKit Go.Proofs.YtdjnneflpkllmaaDoorW.PrintWords Go.Proofs.YtdjnneflpkllmaaDoorW.PrintLast Go.Proofs.YtdjnneflpkllmaaDoorW.PrintMore
attribute [local go_sem] max2_int min2_int max_two min_two max_three min_three max_four min_four   -- for this text's walks alone
set_option linter.unusedVariables false
set_option linter.unusedSimpArgs false
def merinoref01_Minus.f (k : Nat) (a0_0 : Bool) (l0_1 : List Int) (a1_0 : Bool) (l1_1 : List Int) : Option (Bool × List Int) := (merinoref01_Neg.f k a1_0 l1_1).bind fun bt283 => ((merinoref01_Plus.f k a0_0 l0_1 bt283.1 bt283.2).bind fun bt287 => (some (bt287.1, bt287.2)))
theorem merinoref01_Minus.mono : ∀ a0 a1 a2 a3 k, LeO (merinoref01_Minus.f k a0 a1 a2 a3) (merinoref01_Minus.f (k + 1) a0 a1 a2 a3) := by
  intro a0 a1 a2 a3 k
  unfold merinoref01_Minus.f
  repeat' first
      | (with_reducible exact merinoref01_Neg.mono _ _ _)
      | (with_reducible exact merinoref01_Plus.mono _ _ _ _ _)
      | (with_reducible exact LeO.refl _)
      | (with_reducible exact LeO.none _)
      | (with_reducible refine LeO.ite ?_ ?_)
      | (with_reducible refine LeO.bind ?_ (fun _ => ?_))
      | exact merinoref01_Neg.mono _ _ _
      | exact merinoref01_Plus.mono _ _ _ _ _
      | exact LeO.none _
      | refine LeO.ite ?_ ?_
      | refine LeO.bind ?_ (fun _ => ?_)
set_option maxHeartbeats 8000000 in
set_option maxRecDepth 100000 in
theorem merinoref01_Minus.calls (k : Nat) (a0_0 : Bool) (A0_1 : Option Addr) (c0_1 : Nat) (l0_1 : List Int) (a1_0 : Bool) (A1_1 : Option Addr) (c1_1 : Nat) (l1_1 : List Int) (r1 : Bool) (r2 : List Int) (w : World) (hr0_1 : Kd.C (Kd.int .i64) w A0_1 l0_1.length l0_1) (hc0_1 : l0_1.length ≤ c0_1) (hr1_1 : Kd.C (Kd.int .i64) w A1_1 l1_1.length l1_1) (hc1_1 : l1_1.length ≤ c1_1) (h : merinoref01_Minus.f k a0_0 l0_1 a1_0 l1_1 = some (r1, r2)) :
    Calls Tryd.prog 68 #[.agg #[.bool a0_0, .slice A0_1 l0_1.length c0_1], .agg #[.bool a1_0, .slice A1_1 l1_1.length c1_1]] w fun e w' => ∃ v1_ : Value, e = .returned (.agg #[.bool r1, v1_]) ∧ Kd.R (Kd.int .i64) 3 w' w.heap.size (fun _ => True) v1_ r2 ∧ Below w.heap.size w w' := by
  have hu31 := Tryd.underlying31
  have HR0_1 := Aside0.mk hr0_1
  have HC0_1 := Aside0.mk hc0_1
  clear hr0_1 hc0_1
  have HR1_1 := Aside0.mk hr1_1
  have HC1_1 := Aside0.mk hc1_1
  clear hr1_1 hc1_1
  have HB := Aside0.mk (Below.refl w.heap.size w)
  have H : ((merinoref01_Neg.f k a1_0 l1_1).bind fun bt283 => ((merinoref01_Plus.f k a0_0 l0_1 bt283.1 bt283.2).bind fun bt287 => (some (bt287.1, bt287.2)))) = some (r1, r2) := h
  clear h
  replace H := Option.bind_eq_some_iff.mp H
  obtain ⟨⟨t283, t284⟩, A30, H⟩ := H
  replace H : ((merinoref01_Plus.f k a0_0 l0_1 t283 t284).bind fun bt287 => (some (bt287.1, bt287.2))) = some (r1, r2) := H
  have A3 := Aside0.mk A30
  clear A30
  replace H := Option.bind_eq_some_iff.mp H
  obtain ⟨⟨t287, t288⟩, A40, H⟩ := H
  replace H : (some (t287, t288)) = some (r1, r2) := H
  have A4 := Aside0.mk A40
  clear A40
  simp only [Option.some.injEq, Prod.mk.injEq] at H
  obtain ⟨rfl, rfl⟩ := H
  go_enter Tryd.func68, Tryd.ntmps68
  try go_wp2_with (first | ((with_reducible refine gate_dst (N := 2) rfl ?_); refine box_event ?hg (N := 2) ?hd (cs := #[.bool a0_0, .slice A0_1 l0_1.length c0_1]) (t := 31) ?hr ?_; (case hd => rfl); (case hg => rfl); (case hr => first | (go_simp; done) | (go_simp; rfl)); intro gb280 hg w5 hbox hb; have n0_ := Aside0.mk (below_step (q0_ HB.out) hb); have n1_ := Aside0.mk (hbox); have n2_ := Aside0.mk ((by rw [hg]; exact (below_size (q0_ HB.out)) : w.heap.size ≤ gb280)); have n3_ := Aside0.mk ((by rw [hg]; exact (below_size (q0_ HB.out)) : w.heap.size ≤ gb280)); clear HB; have HB := n0_; have BK280 := n1_; have GW280 := n2_; have GE280 := n3_; clear n0_ n1_ n2_ n3_; clear hb hbox hg) | ((with_reducible refine gate_dst (N := 3) rfl ?_); refine box_event ?hg (N := 3) ?hd (cs := #[.bool a1_0, .slice A1_1 l1_1.length c1_1]) (t := 31) ?hr ?_; (case hd => rfl); (case hg => rfl); (case hr => first | (go_simp; done) | (go_simp; rfl)); intro gb281 hg w6 hbox hb; have n0_ := Aside0.mk (blk_below (g := gb280) (o := .cells #[.bool a0_0, .slice A0_1 l0_1.length c0_1] 31 (0, 0)) (qb_ BK280.out) hb); have n1_ := Aside0.mk (below_step (q1_ HB.out GE280.out) hb); have n2_ := Aside0.mk (hbox); have n3_ := Aside0.mk ((by rw [hg]; exact (below_size (q1_ HB.out GE280.out)) : w.heap.size ≤ gb281)); have n4_ := Aside0.mk ((by rw [hg]; exact (below_size (q1_ HB.out GE280.out)) : w.heap.size ≤ gb281)); have n5_ := Aside0.mk ((by rw [hg]; exact Nat.ne_of_lt (blk_lt (g := gb280) (o := .cells #[.bool a0_0, .slice A0_1 l0_1.length c0_1] 31 (0, 0)) (qb_ BK280.out)) : gb280 ≠ gb281)); have n6_ := Aside0.mk ((by rw [hg]; exact Nat.ne_of_gt (blk_lt (g := gb280) (o := .cells #[.bool a0_0, .slice A0_1 l0_1.length c0_1] 31 (0, 0)) (qb_ BK280.out)) : gb281 ≠ gb280)); clear BK280; clear HB; have BK280 := n0_; have HB := n1_; have BK281 := n2_; have GW281 := n3_; have GE281 := n4_; have NB280_281 := n5_; have NB281_280 := n6_; clear n0_ n1_ n2_ n3_ n4_ n5_ n6_; clear hb hbox hg) | ((with_reducible refine gate_dst (N := 4) rfl ?_); refine box_event ?hg (N := 4) ?hd (cs := #[.bool false, .slice none 0 0]) (t := 31) ?hr ?_; (case hd => rfl); (case hg => rfl); (case hr => first | (go_simp; done) | (go_simp; rfl)); intro gb282 hg w7 hbox hb; have n0_ := Aside0.mk (blk_below (g := gb280) (o := .cells #[.bool a0_0, .slice A0_1 l0_1.length c0_1] 31 (0, 0)) (qb_ BK280.out) hb); have n1_ := Aside0.mk (blk_below (g := gb281) (o := .cells #[.bool a1_0, .slice A1_1 l1_1.length c1_1] 31 (0, 0)) (qb_ BK281.out) hb); have n2_ := Aside0.mk (below_step (q2_ HB.out GE280.out GE281.out) hb); have n3_ := Aside0.mk (hbox); have n4_ := Aside0.mk ((by rw [hg]; exact (below_size (q2_ HB.out GE280.out GE281.out)) : w.heap.size ≤ gb282)); have n5_ := Aside0.mk ((by rw [hg]; exact (below_size (q2_ HB.out GE280.out GE281.out)) : w.heap.size ≤ gb282)); have n6_ := Aside0.mk ((by rw [hg]; exact Nat.ne_of_lt (blk_lt (g := gb280) (o := .cells #[.bool a0_0, .slice A0_1 l0_1.length c0_1] 31 (0, 0)) (qb_ BK280.out)) : gb280 ≠ gb282)); have n7_ := Aside0.mk ((by rw [hg]; exact Nat.ne_of_gt (blk_lt (g := gb280) (o := .cells #[.bool a0_0, .slice A0_1 l0_1.length c0_1] 31 (0, 0)) (qb_ BK280.out)) : gb282 ≠ gb280)); have n8_ := Aside0.mk ((by rw [hg]; exact Nat.ne_of_lt (blk_lt (g := gb281) (o := .cells #[.bool a1_0, .slice A1_1 l1_1.length c1_1] 31 (0, 0)) (qb_ BK281.out)) : gb281 ≠ gb282)); have n9_ := Aside0.mk ((by rw [hg]; exact Nat.ne_of_gt (blk_lt (g := gb281) (o := .cells #[.bool a1_0, .slice A1_1 l1_1.length c1_1] 31 (0, 0)) (qb_ BK281.out)) : gb282 ≠ gb281)); clear BK280; clear BK281; clear HB; have BK280 := n0_; have BK281 := n1_; have HB := n2_; have BK282 := n3_; have GW282 := n4_; have GE282 := n5_; have NB280_282 := n6_; have NB282_280 := n7_; have NB281_282 := n8_; have NB282_281 := n9_; clear n0_ n1_ n2_ n3_ n4_ n5_ n6_ n7_ n8_ n9_; clear hb hbox hg))
  have n0_ := Aside0.mk (blk_drew BK280.out)
  have n1_ := Aside0.mk (blk_drew BK281.out)
  have n2_ := Aside0.mk (blk_drew BK282.out)
  have n3_ := Aside0.mk (below_drew1 HB.out)
  clear BK280
  clear BK281
  clear BK282
  clear HB
  have BK280 := n0_
  have BK281 := n1_
  have BK282 := n2_
  have HB := n3_
  clear n0_ n1_ n2_ n3_
  refine start_ (n := 5) (S := fun w' => w'.cell? ⟨gb280, 0, none⟩ = some (.bool a0_0) ∧ w'.cell? ⟨gb280, 1, none⟩ = some (.slice A0_1 l0_1.length c0_1) ∧ w'.cell? ⟨gb281, 0, none⟩ = some (.bool a1_0) ∧ w'.cell? ⟨gb281, 1, none⟩ = some (.slice A1_1 l1_1.length c1_1)) (ds := []) #[false, false, false, false, false] (by kernel_rfl) rfl rfl ⟨(blk_cell BK280.out 0).trans rfl, (blk_cell BK280.out 1).trans rfl, (blk_cell BK281.out 0).trans rfl, (blk_cell BK281.out 1).trans rfl⟩ (fun hHeld => ?_)
  generalize w7.drew = w8 at BK280 BK281 BK282 HB hHeld ⊢
  refine take_ (i := 0) (N := some 5) (v := ?_) (a' := ?_) #[true, false, false, false, false] rfl rfl (by kernel_rfl) (fun _ _ _ h => h) (Or.inl ⟨by rfl, ?_⟩) hHeld ?_ ?_
  rotate_left
  · rintro w' ⟨s0, s1, s2, s3⟩
    go_simp
    with_reducible rfl
  rotate_left
  · simp only [Act.put, List.setIfInBounds_toArray, List.set_cons_zero, List.set_cons_succ, i64_w, i32_w]
    rfl
  refine take_ (i := 1) (N := some 6) (v := ?_) (a' := ?_) #[true, true, false, false, false] rfl rfl (by kernel_rfl) (fun _ _ _ h => h) (Or.inl ⟨by rfl, ?_⟩) hHeld ?_ ?_
  rotate_left
  · rintro w' ⟨s0, s1, s2, s3⟩
    go_simp
    with_reducible rfl
  rotate_left
  · simp only [Act.put, List.setIfInBounds_toArray, List.set_cons_zero, List.set_cons_succ, i64_w, i32_w]
    rfl
  refine one_ (i := 2) (N := some 7) #[true, true, true, false, false] rfl rfl (by kernel_rfl) (by decide) (fun K hK => ?_)
  refine goes_ Tryd.func75 (by kernel_rfl) rfl #[.agg #[.bool a1_0, .slice A1_1 l1_1.length c1_1]] (by rfl) rfl rfl qe_ ?_
  with_reducible refine (merinoref01_Neg.calls k a1_0 _ _ l1_1 t283 t284 _ ?side1 ?side2 A3.out).mono ?_
  (case side1 => exact qc_ (Kd.C_below HR1_1.out HB.out))
  (case side2 => exact HC1_1.out)
  rintro e w9 ⟨v285, rfl, ho0, hb⟩
  refine ⟨_, rfl, ?_⟩
  have n0_ := Aside0.mk (Kd.R_lower ho0 (below_size (q3_ HB.out GE280.out GE281.out GE282.out)))
  have n1_ := Aside0.mk (blk_below (g := gb280) (o := .cells #[.bool a0_0, .slice A0_1 l0_1.length c0_1] 31 (0, 0)) (qb_ BK280.out) hb)
  have n2_ := Aside0.mk (blk_below (g := gb281) (o := .cells #[.bool a1_0, .slice A1_1 l1_1.length c1_1] 31 (0, 0)) (qb_ BK281.out) hb)
  have n3_ := Aside0.mk (blk_below (g := gb282) (o := .cells #[.bool false, .slice none 0 0] 31 (0, 0)) (qb_ BK282.out) hb)
  have n4_ := Aside0.mk (below_step (q3_ HB.out GE280.out GE281.out GE282.out) hb)
  clear BK280
  clear BK281
  clear BK282
  clear HB
  have HO286 := n0_
  have BK280 := n1_
  have BK281 := n2_
  have BK282 := n3_
  have HB := n4_
  clear n0_ n1_ n2_ n3_ n4_
  (try clear hb)
  (try clear hb2)
  (try clear hk)
  (try clear hi)
  (try clear ho0)
  obtain ⟨Ao10, co10, eo10⟩ := Kd.R_slice HO286.out
  (first | subst eo10 | (injection eo10 with f1_ f2_ f3_; have f4_ := f1_.symm; have f5_ := f3_.symm; clear f1_ f2_ f3_; subst f4_; subst f5_))
  refine hK.out _ _ ⟨(blk_cell BK280.out 0).trans rfl, (blk_cell BK280.out 1).trans rfl, (blk_cell BK281.out 0).trans rfl, (blk_cell BK281.out 1).trans rfl⟩ (fun hHeld => ?_)
  clear hK K
  refine norm_ (a' := ?_) ?_ ?_
  rotate_left
  · show Act.put _ (some 7) _ = _
    simp only [Act.put, List.setIfInBounds_toArray, List.set_cons_zero, List.set_cons_succ, i64_w, i32_w]
    rfl
  refine one_ (i := 3) (N := some 8) #[true, true, true, true, false] rfl rfl (by kernel_rfl) (by decide) (fun K hK => ?_)
  refine goes_ Tryd.func84 (by kernel_rfl) rfl #[.agg #[.bool a0_0, .slice A0_1 l0_1.length c0_1], .agg #[.bool t283, .slice Ao10 t284.length co10]] (by rfl) rfl rfl qe_ ?_
  with_reducible refine (merinoref01_Plus.calls k a0_0 _ _ l0_1 t283 _ _ t284 t287 t288 _ ?side1 ?side2 ?side3 ?side4 A4.out).mono ?_
  (case side1 => exact qc_ (Kd.C_below HR0_1.out HB.out))
  (case side2 => exact HC0_1.out)
  (case side3 => exact qc_ (Kd.R_reads' HO286.out).2.2)
  (case side4 => exact (Kd.R_reads' HO286.out).2.1)
  rintro e w11 ⟨v289, rfl, ho0, hb⟩
  refine ⟨_, rfl, ?_⟩
  have n0_ := Aside0.mk (Kd.R_elder' (qr_ HO286.out) (Kd.R_base ho0) hb)
  have n1_ := Aside0.mk (Kd.R_lower (Kd.R_new' ho0 (Kd.R_lt (qr_ HO286.out))) (below_size (q3_ HB.out GE280.out GE281.out GE282.out)))
  have n2_ := Aside0.mk (blk_below (g := gb280) (o := .cells #[.bool a0_0, .slice A0_1 l0_1.length c0_1] 31 (0, 0)) (qb_ BK280.out) hb)
  have n3_ := Aside0.mk (blk_below (g := gb281) (o := .cells #[.bool a1_0, .slice A1_1 l1_1.length c1_1] 31 (0, 0)) (qb_ BK281.out) hb)
  have n4_ := Aside0.mk (blk_below (g := gb282) (o := .cells #[.bool false, .slice none 0 0] 31 (0, 0)) (qb_ BK282.out) hb)
  have n5_ := Aside0.mk (below_step (q3_ HB.out GE280.out GE281.out GE282.out) hb)
  clear HO286
  clear BK280
  clear BK281
  clear BK282
  clear HB
  have HO286 := n0_
  have HO290 := n1_
  have BK280 := n2_
  have BK281 := n3_
  have BK282 := n4_
  have HB := n5_
  clear n0_ n1_ n2_ n3_ n4_ n5_
  (try clear hb)
  (try clear hb2)
  (try clear hk)
  (try clear hi)
  (try clear ho0)
  obtain ⟨Ao13, co13, eo13⟩ := Kd.R_slice HO290.out
  (first | subst eo13 | (injection eo13 with f1_ f2_ f3_; have f4_ := f1_.symm; have f5_ := f3_.symm; clear f1_ f2_ f3_; subst f4_; subst f5_))
  refine hK.out _ _ ⟨(blk_cell BK280.out 0).trans rfl, (blk_cell BK280.out 1).trans rfl, (blk_cell BK281.out 0).trans rfl, (blk_cell BK281.out 1).trans rfl⟩ (fun hHeld => ?_)
  clear hK K
  refine norm_ (a' := ?_) ?_ ?_
  rotate_left
  · show Act.put _ (some 8) _ = _
    simp only [Act.put, List.setIfInBounds_toArray, List.set_cons_zero, List.set_cons_succ, i64_w, i32_w]
    rfl
  refine one_ (i := 4) (N := none) #[true, true, true, true, true] rfl rfl (by kernel_rfl) (by decide) (fun K hK => ?_)
  have hs12 : w11.cell? ⟨gb282, 0, none⟩ = some (.bool false) := (blk_cell BK282.out 0).trans rfl
  have hfs12 := blk_frozen BK282.out 0
  have hns12_0 := NB280_282.out
  have hns12_1 := NB281_282.out
  have hms12_0 := NB282_280.out
  have hms12_1 := NB282_281.out
  have hs14 : w11.cell? ⟨gb282, 1, none⟩ = some (.slice none 0 0) := (blk_cell BK282.out 1).trans rfl
  have hfs14 := blk_frozen BK282.out 1
  have hns14_0 := NB280_282.out
  have hns14_1 := NB281_282.out
  have hms14_0 := NB282_280.out
  have hms14_1 := NB282_281.out
  refine skip_ (w1 := ?_) (by rfl) rfl ?_ ?_
  rotate_left
  · go_simp
    rfl
  refine hK.out _ _ ⟨((cell_far (p := ⟨gb282, _, none⟩) NB280_282.out _).trans (((cell_far (p := ⟨gb282, _, none⟩) NB280_282.out _).trans (hHeld.1)))), ((cell_far (p := ⟨gb282, _, none⟩) NB280_282.out _).trans (((cell_far (p := ⟨gb282, _, none⟩) NB280_282.out _).trans (hHeld.2.1)))), ((cell_far (p := ⟨gb282, _, none⟩) NB281_282.out _).trans (((cell_far (p := ⟨gb282, _, none⟩) NB281_282.out _).trans (hHeld.2.2.1)))), ((cell_far (p := ⟨gb282, _, none⟩) NB281_282.out _).trans (((cell_far (p := ⟨gb282, _, none⟩) NB281_282.out _).trans (hHeld.2.2.2))))⟩ (fun hHeld => ?_)
  clear hK K
  refine done_ (by kernel_rfl) ?_
  try go_wp2
  refine bodyPost_ret (results_cell_row rfl _ _ gb282 31 #[.bool t287, .slice Ao13 t288.length co13] (0, 0) _ rfl (by (with_reducible repeat (first | refine blk_drewN ?_ _ | refine blk_drew ?_ | refine blk_alloc ?_ _)); refine blk_put (cs := #[.bool t287, .slice none 0 0]) ?_ 1 _ rfl; (with_reducible repeat (first | refine blk_drewN ?_ _ | refine blk_drew ?_ | refine blk_alloc ?_ _)); refine blk_put (cs := #[.bool false, .slice none 0 0]) ?_ 0 _ rfl; (with_reducible repeat (first | refine blk_drewN ?_ _ | refine blk_drew ?_ | refine blk_alloc ?_ _)); exact BK282.out) Tryd.underlying31 rfl (by kernel_rfl)) rfl ?_
  exact ⟨_, by first | rfl | (simp [errW_none, errW_some] <;> rfl) | (simp [*, errW_none, errW_some] <;> rfl), by (with_reducible repeat (first | apply Kd.R_alloc | apply Kd.R_drewN | apply Kd.R_drew)); exact Kd.R_mono (Kd.R_far (p := ⟨gb282, 1, none⟩) (Kd.R_far (p := ⟨gb282, 0, none⟩) (Kd.R_types HO290.out BK282.out (by decide)) (fun _ hk => hk.2) (.bool t287)) (fun _ hk => hk.2) (.slice Ao13 t288.length co13)) (fun _ hk => trivial), (q3_ HB.out GE280.out GE281.out GE282.out)⟩
end Go.Proofs.YtdjnneflpkllmaaDoor.Q

namespace Go.Proofs.YtdjnneflpkllmaaDoor.Q
open Go.RowKit Go.Proofs.YtdjnneflpkllmaaDoorW.PrintWords Go.Proofs.YtdjnneflpkllmaaDoorW.PrintLast Go.Proofs.YtdjnneflpkllmaaDoorW.PrintMore
attribute [local go_sem] max2_int min2_int max_two min_two max_three min_three max_four min_four   -- for this text's walks alone
set_option linter.unusedVariables false
set_option linter.unusedSimpArgs false
theorem eqA23 (d : Nat) (w : World) (x0 y0 : Int) (x1 y1 : Int) :
    (Op.equalIn (d + 2) 23 (.agg #[.int .i64 x0, .int .i64 x1]) (.agg #[.int .i64 y0, .int .i64 y1])).run Tryd.prog w = .ok (x0 == y0 && (x1 == y1)) w := by
  refine eqA_of Tryd.underlying23 (by kernel_rfl) ?_
  refine eqf_cons (by rfl) (by go_simp; rfl) (by go_simp; rfl) (by go_simp) ?_
  exact eqf_last (by rfl) (by go_simp; rfl) (by go_simp; rfl) (by go_simp)
end Go.Proofs.YtdjnneflpkllmaaDoor.Q

namespace Go.Proofs.YtdjnneflpkllmaaDoor.Q
open Go.RowKit Go.Proofs.YtdjnneflpkllmaaDoorW.PrintWords Go.Proofs.YtdjnneflpkllmaaDoorW.PrintLast Go.Proofs.YtdjnneflpkllmaaDoorW.PrintMore
attribute [local go_sem] max2_int min2_int max_two min_two max_three min_three max_four min_four   -- for this text's walks alone
set_option linter.unusedVariables false
set_option linter.unusedSimpArgs false
attribute [local go_sem high] eqA23
def merinolaw01_off.f (k : Nat) (a0 : Int) (a1 : Int) (a2 : Int) (a3 : Int) : Option (Bool × List Int) := (merinoref01_Of.f k a0).bind fun bt292 => ((merinoref01_Of.f k a3).bind fun bt296 => ((merinoref01_Times.f k bt292.1 bt292.2 bt296.1 bt296.2).bind fun bt300 => ((merinoref01_Of.f k a2).bind fun bt304 => ((merinoref01_Of.f k a1).bind fun bt308 => ((merinoref01_Times.f k bt304.1 bt304.2 bt308.1 bt308.2).bind fun bt312 => ((merinoref01_Minus.f k bt300.1 bt300.2 bt312.1 bt312.2).bind fun bt316 => (if bt316.1 = true then ((merinoref01_Neg.f k bt316.1 bt316.2).bind fun bt321 => (some (bt321.1, bt321.2))) else (some (bt316.1, bt316.2)))))))))
theorem merinolaw01_off.mono : ∀ a0 a1 a2 a3 k, LeO (merinolaw01_off.f k a0 a1 a2 a3) (merinolaw01_off.f (k + 1) a0 a1 a2 a3) := by
  intro a0 a1 a2 a3 k
  unfold merinolaw01_off.f
  repeat' first
      | (with_reducible exact merinoref01_Minus.mono _ _ _ _ _)
      | (with_reducible exact merinoref01_Neg.mono _ _ _)
      | (with_reducible exact merinoref01_Of.mono _ _)
      | (with_reducible exact merinoref01_Times.mono _ _ _ _ _)
      | (with_reducible exact LeO.refl _)
      | (with_reducible exact LeO.none _)
      | (with_reducible refine LeO.ite ?_ ?_)
      | (with_reducible refine LeO.bind ?_ (fun _ => ?_))
      | exact merinoref01_Minus.mono _ _ _ _ _
      | exact merinoref01_Neg.mono _ _ _
      | exact merinoref01_Of.mono _ _
      | exact merinoref01_Times.mono _ _ _ _ _
      | exact LeO.none _
      | refine LeO.ite ?_ ?_
      | refine LeO.bind ?_ (fun _ => ?_)
set_option maxHeartbeats 8000000 in
set_option maxRecDepth 100000 in
theorem merinolaw01_off.calls (k : Nat) (a0 : Int) (a1 : Int) (a2 : Int) (a3 : Int) (r1 : Bool) (r2 : List Int) (w : World) (h : merinolaw01_off.f k a0 a1 a2 a3 = some (r1, r2)) :
    Calls Tryd.prog 23 #[.int .i64 a0, .int .i64 a1, .int .i64 a2, .int .i64 a3] w fun e w' => ∃ v1_ : Value, e = .returned (.agg #[.bool r1, v1_]) ∧ Kd.R (Kd.int .i64) 3 w' w.heap.size (fun _ => True) v1_ r2 ∧ Below w.heap.size w w' := by
  have hu31 := Tryd.underlying31
  have HB := Aside0.mk (Below.refl w.heap.size w)
  have H : ((merinoref01_Of.f k a0).bind fun bt292 => ((merinoref01_Of.f k a3).bind fun bt296 => ((merinoref01_Times.f k bt292.1 bt292.2 bt296.1 bt296.2).bind fun bt300 => ((merinoref01_Of.f k a2).bind fun bt304 => ((merinoref01_Of.f k a1).bind fun bt308 => ((merinoref01_Times.f k bt304.1 bt304.2 bt308.1 bt308.2).bind fun bt312 => ((merinoref01_Minus.f k bt300.1 bt300.2 bt312.1 bt312.2).bind fun bt316 => (if bt316.1 = true then ((merinoref01_Neg.f k bt316.1 bt316.2).bind fun bt321 => (some (bt321.1, bt321.2))) else (some (bt316.1, bt316.2)))))))))) = some (r1, r2) := h
  clear h
  replace H := Option.bind_eq_some_iff.mp H
  obtain ⟨⟨t292, t293⟩, A50, H⟩ := H
  replace H : ((merinoref01_Of.f k a3).bind fun bt296 => ((merinoref01_Times.f k t292 t293 bt296.1 bt296.2).bind fun bt300 => ((merinoref01_Of.f k a2).bind fun bt304 => ((merinoref01_Of.f k a1).bind fun bt308 => ((merinoref01_Times.f k bt304.1 bt304.2 bt308.1 bt308.2).bind fun bt312 => ((merinoref01_Minus.f k bt300.1 bt300.2 bt312.1 bt312.2).bind fun bt316 => (if bt316.1 = true then ((merinoref01_Neg.f k bt316.1 bt316.2).bind fun bt321 => (some (bt321.1, bt321.2))) else (some (bt316.1, bt316.2))))))))) = some (r1, r2) := H
  have A5 := Aside0.mk A50
  clear A50
  replace H := Option.bind_eq_some_iff.mp H
  obtain ⟨⟨t296, t297⟩, A60, H⟩ := H
  replace H : ((merinoref01_Times.f k t292 t293 t296 t297).bind fun bt300 => ((merinoref01_Of.f k a2).bind fun bt304 => ((merinoref01_Of.f k a1).bind fun bt308 => ((merinoref01_Times.f k bt304.1 bt304.2 bt308.1 bt308.2).bind fun bt312 => ((merinoref01_Minus.f k bt300.1 bt300.2 bt312.1 bt312.2).bind fun bt316 => (if bt316.1 = true then ((merinoref01_Neg.f k bt316.1 bt316.2).bind fun bt321 => (some (bt321.1, bt321.2))) else (some (bt316.1, bt316.2)))))))) = some (r1, r2) := H
  have A6 := Aside0.mk A60
  clear A60
  replace H := Option.bind_eq_some_iff.mp H
  obtain ⟨⟨t300, t301⟩, A70, H⟩ := H
  replace H : ((merinoref01_Of.f k a2).bind fun bt304 => ((merinoref01_Of.f k a1).bind fun bt308 => ((merinoref01_Times.f k bt304.1 bt304.2 bt308.1 bt308.2).bind fun bt312 => ((merinoref01_Minus.f k t300 t301 bt312.1 bt312.2).bind fun bt316 => (if bt316.1 = true then ((merinoref01_Neg.f k bt316.1 bt316.2).bind fun bt321 => (some (bt321.1, bt321.2))) else (some (bt316.1, bt316.2))))))) = some (r1, r2) := H
  have A7 := Aside0.mk A70
  clear A70
  replace H := Option.bind_eq_some_iff.mp H
  obtain ⟨⟨t304, t305⟩, A80, H⟩ := H
  replace H : ((merinoref01_Of.f k a1).bind fun bt308 => ((merinoref01_Times.f k t304 t305 bt308.1 bt308.2).bind fun bt312 => ((merinoref01_Minus.f k t300 t301 bt312.1 bt312.2).bind fun bt316 => (if bt316.1 = true then ((merinoref01_Neg.f k bt316.1 bt316.2).bind fun bt321 => (some (bt321.1, bt321.2))) else (some (bt316.1, bt316.2)))))) = some (r1, r2) := H
  have A8 := Aside0.mk A80
  clear A80
  replace H := Option.bind_eq_some_iff.mp H
  obtain ⟨⟨t308, t309⟩, A90, H⟩ := H
  replace H : ((merinoref01_Times.f k t304 t305 t308 t309).bind fun bt312 => ((merinoref01_Minus.f k t300 t301 bt312.1 bt312.2).bind fun bt316 => (if bt316.1 = true then ((merinoref01_Neg.f k bt316.1 bt316.2).bind fun bt321 => (some (bt321.1, bt321.2))) else (some (bt316.1, bt316.2))))) = some (r1, r2) := H
  have A9 := Aside0.mk A90
  clear A90
  replace H := Option.bind_eq_some_iff.mp H
  obtain ⟨⟨t312, t313⟩, A100, H⟩ := H
  replace H : ((merinoref01_Minus.f k t300 t301 t312 t313).bind fun bt316 => (if bt316.1 = true then ((merinoref01_Neg.f k bt316.1 bt316.2).bind fun bt321 => (some (bt321.1, bt321.2))) else (some (bt316.1, bt316.2)))) = some (r1, r2) := H
  have A10 := Aside0.mk A100
  clear A100
  replace H := Option.bind_eq_some_iff.mp H
  obtain ⟨⟨t316, t317⟩, A110, H⟩ := H
  replace H : (if t316 = true then ((merinoref01_Neg.f k t316 t317).bind fun bt321 => (some (bt321.1, bt321.2))) else (some (t316, t317))) = some (r1, r2) := H
  have A11 := Aside0.mk A110
  clear A110
  by_cases c12 : t316 = true
  · subst c12
    have H1 : ((merinoref01_Neg.f k true t317).bind fun bt321 => (some (bt321.1, bt321.2))) = some (r1, r2) := by rw [if_pos rfl] at H; exact H
    clear H
    have H := H1
    clear H1
    replace H := Option.bind_eq_some_iff.mp H
    obtain ⟨⟨t321, t322⟩, A130, H⟩ := H
    replace H : (some (t321, t322)) = some (r1, r2) := H
    have A13 := Aside0.mk A130
    clear A130
    simp only [Option.some.injEq, Prod.mk.injEq] at H
    obtain ⟨rfl, rfl⟩ := H
    go_enter Tryd.func23, Tryd.ntmps23
    go_wp2_with (first | ((with_reducible refine gate_dst (N := 8) rfl ?_); refine box_event ?hg (N := 8) ?hd (cs := #[.bool false, .slice none 0 0]) (t := 31) ?hr ?_; (case hd => rfl); (case hg => rfl); (case hr => first | (go_simp; done) | (go_simp; rfl)); intro gb291 hg w14 hbox hb; have n0_ := Aside0.mk (below_step (q0_ HB.out) hb); have n1_ := Aside0.mk (hbox); have n2_ := Aside0.mk ((by rw [hg]; exact (below_size (q0_ HB.out)) : w.heap.size ≤ gb291)); have n3_ := Aside0.mk ((by rw [hg]; exact (below_size (q0_ HB.out)) : w.heap.size ≤ gb291)); clear HB; have HB := n0_; have BK291 := n1_; have GW291 := n2_; have GE291 := n3_; clear n0_ n1_ n2_ n3_; clear hb hbox hg) | ((with_reducible refine gate_callee (f := 24) rfl ?_); refine goesL_ (some 11) rfl rfl Tryd.func24 (by kernel_rfl) rfl #[.int .i64 a0] rfl qe_ ?_; (with_reducible refine (merinoref01_Of.calls k a0 t292 t293 _ A5.out).mono ?_); rintro e w15 ⟨v294, rfl, ho0, hb⟩; refine ⟨_, rfl, ?_⟩; have n0_ := Aside0.mk (Kd.R_lower ho0 (below_size (q1_ HB.out GE291.out))); have n1_ := Aside0.mk (blk_below (g := gb291) (o := .cells #[.bool false, .slice none 0 0] 31 (0, 0)) (qb_ BK291.out) hb); have n2_ := Aside0.mk (below_step (q1_ HB.out GE291.out) hb); clear BK291; clear HB; have HO295 := n0_; have BK291 := n1_; have HB := n2_; clear n0_ n1_ n2_; (try clear hb); (try clear hb2); (try clear hk); (try clear hi); (try clear ho0)) | ((with_reducible refine gate_callee (f := 24) rfl ?_); refine goesL_ (some 13) rfl rfl Tryd.func24 (by kernel_rfl) rfl #[.int .i64 a3] rfl qe_ ?_; (with_reducible refine (merinoref01_Of.calls k a3 t296 t297 _ A6.out).mono ?_); rintro e w16 ⟨v298, rfl, ho0, hb⟩; refine ⟨_, rfl, ?_⟩; have n0_ := Aside0.mk (Kd.R_elder' (qr_ HO295.out) (Kd.R_base ho0) hb); have n1_ := Aside0.mk (Kd.R_lower (Kd.R_new' ho0 (Kd.R_lt (qr_ HO295.out))) (below_size (q1_ HB.out GE291.out))); have n2_ := Aside0.mk (blk_below (g := gb291) (o := .cells #[.bool false, .slice none 0 0] 31 (0, 0)) (qb_ BK291.out) hb); have n3_ := Aside0.mk (below_step (q1_ HB.out GE291.out) hb); clear HO295; clear BK291; clear HB; have HO295 := n0_; have HO299 := n1_; have BK291 := n2_; have HB := n3_; clear n0_ n1_ n2_ n3_; (try clear hb); (try clear hb2); (try clear hk); (try clear hi); (try clear ho0); obtain ⟨Ao17, co17, eo17⟩ := Kd.R_slice HO295.out; subst eo17; obtain ⟨Ao18, co18, eo18⟩ := Kd.R_slice HO299.out; subst eo18) | ((with_reducible refine gate_callee (f := 22) rfl ?_); refine goesL_ (some 14) rfl rfl Tryd.func22 (by kernel_rfl) rfl #[.agg #[.bool t292, .slice Ao17 t293.length co17], .agg #[.bool t296, .slice Ao18 t297.length co18]] rfl qe_ ?_; (with_reducible refine (merinoref01_Times.calls k t292 _ _ t293 t296 _ _ t297 t300 t301 _ ?side1 ?side2 ?side3 ?side4 A7.out).mono ?_); (case side1 => exact qc_ (Kd.R_reads' HO295.out).2.2); (case side2 => exact (Kd.R_reads' HO295.out).2.1); (case side3 => exact qc_ (Kd.R_reads' HO299.out).2.2); (case side4 => exact (Kd.R_reads' HO299.out).2.1); rintro e w19 ⟨v302, rfl, ho0, hb⟩; refine ⟨_, rfl, ?_⟩; have n0_ := Aside0.mk (Kd.R_elder' (qr_ HO295.out) (Kd.R_base ho0) hb); have n1_ := Aside0.mk (Kd.R_elder' (qr_ HO299.out) (Kd.R_base ho0) hb); have n2_ := Aside0.mk (Kd.R_lower (Kd.R_new' (Kd.R_new' ho0 (Kd.R_lt (qr_ HO295.out))) (Kd.R_lt (qr_ HO299.out))) (below_size (q1_ HB.out GE291.out))); have n3_ := Aside0.mk (blk_below (g := gb291) (o := .cells #[.bool false, .slice none 0 0] 31 (0, 0)) (qb_ BK291.out) hb); have n4_ := Aside0.mk (below_step (q1_ HB.out GE291.out) hb); clear HO295; clear HO299; clear BK291; clear HB; have HO295 := n0_; have HO299 := n1_; have HO303 := n2_; have BK291 := n3_; have HB := n4_; clear n0_ n1_ n2_ n3_ n4_; (try clear hb); (try clear hb2); (try clear hk); (try clear hi); (try clear ho0)) | ((with_reducible refine gate_callee (f := 24) rfl ?_); refine goesL_ (some 16) rfl rfl Tryd.func24 (by kernel_rfl) rfl #[.int .i64 a2] rfl qe_ ?_; (with_reducible refine (merinoref01_Of.calls k a2 t304 t305 _ A8.out).mono ?_); rintro e w20 ⟨v306, rfl, ho0, hb⟩; refine ⟨_, rfl, ?_⟩; have n0_ := Aside0.mk (Kd.R_elder' (qr_ HO295.out) (Kd.R_base ho0) hb); have n1_ := Aside0.mk (Kd.R_elder' (qr_ HO299.out) (Kd.R_base ho0) hb); have n2_ := Aside0.mk (Kd.R_elder' (qr_ HO303.out) (Kd.R_base ho0) hb); have n3_ := Aside0.mk (Kd.R_lower (Kd.R_new' (Kd.R_new' (Kd.R_new' ho0 (Kd.R_lt (qr_ HO295.out))) (Kd.R_lt (qr_ HO299.out))) (Kd.R_lt (qr_ HO303.out))) (below_size (q1_ HB.out GE291.out))); have n4_ := Aside0.mk (blk_below (g := gb291) (o := .cells #[.bool false, .slice none 0 0] 31 (0, 0)) (qb_ BK291.out) hb); have n5_ := Aside0.mk (below_step (q1_ HB.out GE291.out) hb); clear HO295; clear HO299; clear HO303; clear BK291; clear HB; have HO295 := n0_; have HO299 := n1_; have HO303 := n2_; have HO307 := n3_; have BK291 := n4_; have HB := n5_; clear n0_ n1_ n2_ n3_ n4_ n5_; (try clear hb); (try clear hb2); (try clear hk); (try clear hi); (try clear ho0)) | ((with_reducible refine gate_callee (f := 24) rfl ?_); refine goesL_ (some 18) rfl rfl Tryd.func24 (by kernel_rfl) rfl #[.int .i64 a1] rfl qe_ ?_; (with_reducible refine (merinoref01_Of.calls k a1 t308 t309 _ A9.out).mono ?_); rintro e w21 ⟨v310, rfl, ho0, hb⟩; refine ⟨_, rfl, ?_⟩; have n0_ := Aside0.mk (Kd.R_elder' (qr_ HO295.out) (Kd.R_base ho0) hb); have n1_ := Aside0.mk (Kd.R_elder' (qr_ HO299.out) (Kd.R_base ho0) hb); have n2_ := Aside0.mk (Kd.R_elder' (qr_ HO303.out) (Kd.R_base ho0) hb); have n3_ := Aside0.mk (Kd.R_elder' (qr_ HO307.out) (Kd.R_base ho0) hb); have n4_ := Aside0.mk (Kd.R_lower (Kd.R_new' (Kd.R_new' (Kd.R_new' (Kd.R_new' ho0 (Kd.R_lt (qr_ HO295.out))) (Kd.R_lt (qr_ HO299.out))) (Kd.R_lt (qr_ HO303.out))) (Kd.R_lt (qr_ HO307.out))) (below_size (q1_ HB.out GE291.out))); have n5_ := Aside0.mk (blk_below (g := gb291) (o := .cells #[.bool false, .slice none 0 0] 31 (0, 0)) (qb_ BK291.out) hb); have n6_ := Aside0.mk (below_step (q1_ HB.out GE291.out) hb); clear HO295; clear HO299; clear HO303; clear HO307; clear BK291; clear HB; have HO295 := n0_; have HO299 := n1_; have HO303 := n2_; have HO307 := n3_; have HO311 := n4_; have BK291 := n5_; have HB := n6_; clear n0_ n1_ n2_ n3_ n4_ n5_ n6_; (try clear hb); (try clear hb2); (try clear hk); (try clear hi); (try clear ho0); obtain ⟨Ao22, co22, eo22⟩ := Kd.R_slice HO307.out; subst eo22; obtain ⟨Ao23, co23, eo23⟩ := Kd.R_slice HO311.out; subst eo23) | ((with_reducible refine gate_callee (f := 22) rfl ?_); refine goesL_ (some 19) rfl rfl Tryd.func22 (by kernel_rfl) rfl #[.agg #[.bool t304, .slice Ao22 t305.length co22], .agg #[.bool t308, .slice Ao23 t309.length co23]] rfl qe_ ?_; (with_reducible refine (merinoref01_Times.calls k t304 _ _ t305 t308 _ _ t309 t312 t313 _ ?side1 ?side2 ?side3 ?side4 A10.out).mono ?_); (case side1 => exact qc_ (Kd.R_reads' HO307.out).2.2); (case side2 => exact (Kd.R_reads' HO307.out).2.1); (case side3 => exact qc_ (Kd.R_reads' HO311.out).2.2); (case side4 => exact (Kd.R_reads' HO311.out).2.1); rintro e w24 ⟨v314, rfl, ho0, hb⟩; refine ⟨_, rfl, ?_⟩; have n0_ := Aside0.mk (Kd.R_elder' (qr_ HO295.out) (Kd.R_base ho0) hb); have n1_ := Aside0.mk (Kd.R_elder' (qr_ HO299.out) (Kd.R_base ho0) hb); have n2_ := Aside0.mk (Kd.R_elder' (qr_ HO303.out) (Kd.R_base ho0) hb); have n3_ := Aside0.mk (Kd.R_elder' (qr_ HO307.out) (Kd.R_base ho0) hb); have n4_ := Aside0.mk (Kd.R_elder' (qr_ HO311.out) (Kd.R_base ho0) hb); have n5_ := Aside0.mk (Kd.R_lower (Kd.R_new' (Kd.R_new' (Kd.R_new' (Kd.R_new' (Kd.R_new' ho0 (Kd.R_lt (qr_ HO295.out))) (Kd.R_lt (qr_ HO299.out))) (Kd.R_lt (qr_ HO303.out))) (Kd.R_lt (qr_ HO307.out))) (Kd.R_lt (qr_ HO311.out))) (below_size (q1_ HB.out GE291.out))); have n6_ := Aside0.mk (blk_below (g := gb291) (o := .cells #[.bool false, .slice none 0 0] 31 (0, 0)) (qb_ BK291.out) hb); have n7_ := Aside0.mk (below_step (q1_ HB.out GE291.out) hb); clear HO295; clear HO299; clear HO303; clear HO307; clear HO311; clear BK291; clear HB; have HO295 := n0_; have HO299 := n1_; have HO303 := n2_; have HO307 := n3_; have HO311 := n4_; have HO315 := n5_; have BK291 := n6_; have HB := n7_; clear n0_ n1_ n2_ n3_ n4_ n5_ n6_ n7_; (try clear hb); (try clear hb2); (try clear hk); (try clear hi); (try clear ho0); obtain ⟨Ao25, co25, eo25⟩ := Kd.R_slice HO303.out; subst eo25; obtain ⟨Ao26, co26, eo26⟩ := Kd.R_slice HO315.out; subst eo26) | ((with_reducible refine gate_callee (f := 68) rfl ?_); refine goesL_ (some 20) rfl rfl Tryd.func68 (by kernel_rfl) rfl #[.agg #[.bool t300, .slice Ao25 t301.length co25], .agg #[.bool t312, .slice Ao26 t313.length co26]] rfl qe_ ?_; (with_reducible refine (merinoref01_Minus.calls k t300 _ _ t301 t312 _ _ t313 true t317 _ ?side1 ?side2 ?side3 ?side4 A11.out).mono ?_); (case side1 => exact qc_ (Kd.R_reads' HO303.out).2.2); (case side2 => exact (Kd.R_reads' HO303.out).2.1); (case side3 => exact qc_ (Kd.R_reads' HO315.out).2.2); (case side4 => exact (Kd.R_reads' HO315.out).2.1); rintro e w27 ⟨v318, rfl, ho0, hb⟩; refine ⟨_, rfl, ?_⟩; have n0_ := Aside0.mk (Kd.R_elder' (qr_ HO295.out) (Kd.R_base ho0) hb); have n1_ := Aside0.mk (Kd.R_elder' (qr_ HO299.out) (Kd.R_base ho0) hb); have n2_ := Aside0.mk (Kd.R_elder' (qr_ HO303.out) (Kd.R_base ho0) hb); have n3_ := Aside0.mk (Kd.R_elder' (qr_ HO307.out) (Kd.R_base ho0) hb); have n4_ := Aside0.mk (Kd.R_elder' (qr_ HO311.out) (Kd.R_base ho0) hb); have n5_ := Aside0.mk (Kd.R_elder' (qr_ HO315.out) (Kd.R_base ho0) hb); have n6_ := Aside0.mk (Kd.R_lower (Kd.R_new' (Kd.R_new' (Kd.R_new' (Kd.R_new' (Kd.R_new' (Kd.R_new' ho0 (Kd.R_lt (qr_ HO295.out))) (Kd.R_lt (qr_ HO299.out))) (Kd.R_lt (qr_ HO303.out))) (Kd.R_lt (qr_ HO307.out))) (Kd.R_lt (qr_ HO311.out))) (Kd.R_lt (qr_ HO315.out))) (below_size (q1_ HB.out GE291.out))); have n7_ := Aside0.mk (blk_below (g := gb291) (o := .cells #[.bool false, .slice none 0 0] 31 (0, 0)) (qb_ BK291.out) hb); have n8_ := Aside0.mk (below_step (q1_ HB.out GE291.out) hb); clear HO295; clear HO299; clear HO303; clear HO307; clear HO311; clear HO315; clear BK291; clear HB; have HO295 := n0_; have HO299 := n1_; have HO303 := n2_; have HO307 := n3_; have HO311 := n4_; have HO315 := n5_; have HO319 := n6_; have BK291 := n7_; have HB := n8_; clear n0_ n1_ n2_ n3_ n4_ n5_ n6_ n7_ n8_; (try clear hb); (try clear hb2); (try clear hk); (try clear hi); (try clear ho0)) | ((with_reducible refine gate_dst (N := 9) rfl ?_); refine box_event ?hg (N := 9) ?hd (cs := #[.bool false, .slice none 0 0]) (t := 31) ?hr ?_; (case hd => rfl); (case hg => rfl); (case hr => first | (go_simp; done) | (go_simp; rfl)); intro gb320 hg w28 hbox hb; have n0_ := Aside0.mk (Kd.R_below (qr_ HO295.out) hb); have n1_ := Aside0.mk (Kd.R_below (qr_ HO299.out) hb); have n2_ := Aside0.mk (Kd.R_below (qr_ HO303.out) hb); have n3_ := Aside0.mk (Kd.R_below (qr_ HO307.out) hb); have n4_ := Aside0.mk (Kd.R_below (qr_ HO311.out) hb); have n5_ := Aside0.mk (Kd.R_below (qr_ HO315.out) hb); have n6_ := Aside0.mk (Kd.R_below (qr_ HO319.out) hb); have n7_ := Aside0.mk (blk_below (g := gb291) (o := .cells #[.bool false, .slice none 0 0] 31 (0, 0)) (qb_ BK291.out) hb); have n8_ := Aside0.mk (below_step (q1_ HB.out GE291.out) hb); have n9_ := Aside0.mk (hbox); have n10_ := Aside0.mk ((by rw [hg]; exact (below_size (q1_ HB.out GE291.out)) : w.heap.size ≤ gb320)); have n11_ := Aside0.mk ((by rw [hg]; exact (below_size (q1_ HB.out GE291.out)) : w.heap.size ≤ gb320)); have n12_ := Aside0.mk ((by rw [hg]; exact Nat.ne_of_lt (blk_lt (g := gb291) (o := .cells #[.bool false, .slice none 0 0] 31 (0, 0)) (qb_ BK291.out)) : gb291 ≠ gb320)); have n13_ := Aside0.mk ((by rw [hg]; exact Nat.ne_of_gt (blk_lt (g := gb291) (o := .cells #[.bool false, .slice none 0 0] 31 (0, 0)) (qb_ BK291.out)) : gb320 ≠ gb291)); clear HO295; clear HO299; clear HO303; clear HO307; clear HO311; clear HO315; clear HO319; clear BK291; clear HB; have HO295 := n0_; have HO299 := n1_; have HO303 := n2_; have HO307 := n3_; have HO311 := n4_; have HO315 := n5_; have HO319 := n6_; have BK291 := n7_; have HB := n8_; have BK320 := n9_; have GW320 := n10_; have GE320 := n11_; have NB291_320 := n12_; have NB320_291 := n13_; clear n0_ n1_ n2_ n3_ n4_ n5_ n6_ n7_ n8_ n9_ n10_ n11_ n12_ n13_; clear hb hbox hg; have hnb29 := NB320_291.out; have hnc29 := NB291_320.out; have hcz30_0 : w28.cell? ⟨gb320, 0, none⟩ = some (.bool false) := (blk_cell BK320.out 0).trans rfl; have hcz30_1 : w28.cell? ⟨gb320, 1, none⟩ = some (.slice none 0 0) := (blk_cell BK320.out 1).trans rfl; have hfz30_0 := blk_frozen BK320.out 0; have hfz30_1 := blk_frozen BK320.out 1; obtain ⟨Ao31, co31, eo31⟩ := Kd.R_slice HO319.out; subst eo31) | ((with_reducible refine gate_callee (f := 75) rfl ?_); refine goesL_ (some 24) rfl rfl Tryd.func75 (by kernel_rfl) rfl #[.agg #[.bool true, .slice Ao31 t317.length co31]] rfl qe_ ?_; (with_reducible refine (merinoref01_Neg.calls k true _ _ t317 t321 t322 _ ?side1 ?side2 A13.out).mono ?_); (case side1 => refine (Kd.R_reads' (e := 3) (base := w.heap.size) (ok := fun k_ => ((((((True ∧ some k_ ≠ (.slice Ao17 t293.length co17 : Value).ownBlock) ∧ some k_ ≠ (.slice Ao18 t297.length co18 : Value).ownBlock) ∧ some k_ ≠ (.slice Ao25 t301.length co25 : Value).ownBlock) ∧ some k_ ≠ (.slice Ao22 t305.length co22 : Value).ownBlock) ∧ some k_ ≠ (.slice Ao23 t309.length co23 : Value).ownBlock) ∧ some k_ ≠ (.slice Ao26 t313.length co26 : Value).ownBlock)) (n := t317.length) (c := co31) ?_).2.2; exact (by (with_reducible repeat (first | apply Kd.R_alloc | apply Kd.R_drewN | apply Kd.R_drew)); exact (Kd.R_mono (Kd.R_far (p := ⟨gb320, 1, none⟩) (Kd.R_far (p := ⟨gb320, 0, none⟩) (Kd.R_types HO319.out BK320.out (by decide)) (fun _ hk => hk.2) (.bool true)) (fun _ hk => hk.2) (.slice Ao31 t317.length co31)) (fun _ h_ => h_.1)))); (case side2 => exact (Kd.R_reads' HO319.out).2.1); rintro e w32 ⟨v323, rfl, ho0, hb⟩; refine ⟨_, rfl, ?_⟩; have n0_ := Aside0.mk (Kd.R_elder' (by (with_reducible repeat (first | apply Kd.R_alloc | apply Kd.R_drewN | apply Kd.R_drew)); exact (Kd.R_mono (Kd.R_far (p := ⟨gb320, 1, none⟩) (Kd.R_far (p := ⟨gb320, 0, none⟩) (Kd.R_types HO295.out BK320.out (by decide)) (fun _ hk => hk.2) (.bool true)) (fun _ hk => hk.2) (.slice Ao31 t317.length co31)) (fun _ h_ => h_.1))) (Kd.R_base ho0) hb); have n1_ := Aside0.mk (Kd.R_elder' (by (with_reducible repeat (first | apply Kd.R_alloc | apply Kd.R_drewN | apply Kd.R_drew)); exact (Kd.R_mono (Kd.R_far (p := ⟨gb320, 1, none⟩) (Kd.R_far (p := ⟨gb320, 0, none⟩) (Kd.R_types HO299.out BK320.out (by decide)) (fun _ hk => hk.2) (.bool true)) (fun _ hk => hk.2) (.slice Ao31 t317.length co31)) (fun _ h_ => h_.1))) (Kd.R_base ho0) hb); have n2_ := Aside0.mk (Kd.R_elder' (by (with_reducible repeat (first | apply Kd.R_alloc | apply Kd.R_drewN | apply Kd.R_drew)); exact (Kd.R_mono (Kd.R_far (p := ⟨gb320, 1, none⟩) (Kd.R_far (p := ⟨gb320, 0, none⟩) (Kd.R_types HO303.out BK320.out (by decide)) (fun _ hk => hk.2) (.bool true)) (fun _ hk => hk.2) (.slice Ao31 t317.length co31)) (fun _ h_ => h_.1))) (Kd.R_base ho0) hb); have n3_ := Aside0.mk (Kd.R_elder' (by (with_reducible repeat (first | apply Kd.R_alloc | apply Kd.R_drewN | apply Kd.R_drew)); exact (Kd.R_mono (Kd.R_far (p := ⟨gb320, 1, none⟩) (Kd.R_far (p := ⟨gb320, 0, none⟩) (Kd.R_types HO307.out BK320.out (by decide)) (fun _ hk => hk.2) (.bool true)) (fun _ hk => hk.2) (.slice Ao31 t317.length co31)) (fun _ h_ => h_.1))) (Kd.R_base ho0) hb); have n4_ := Aside0.mk (Kd.R_elder' (by (with_reducible repeat (first | apply Kd.R_alloc | apply Kd.R_drewN | apply Kd.R_drew)); exact (Kd.R_mono (Kd.R_far (p := ⟨gb320, 1, none⟩) (Kd.R_far (p := ⟨gb320, 0, none⟩) (Kd.R_types HO311.out BK320.out (by decide)) (fun _ hk => hk.2) (.bool true)) (fun _ hk => hk.2) (.slice Ao31 t317.length co31)) (fun _ h_ => h_.1))) (Kd.R_base ho0) hb); have n5_ := Aside0.mk (Kd.R_elder' (by (with_reducible repeat (first | apply Kd.R_alloc | apply Kd.R_drewN | apply Kd.R_drew)); exact (Kd.R_mono (Kd.R_far (p := ⟨gb320, 1, none⟩) (Kd.R_far (p := ⟨gb320, 0, none⟩) (Kd.R_types HO315.out BK320.out (by decide)) (fun _ hk => hk.2) (.bool true)) (fun _ hk => hk.2) (.slice Ao31 t317.length co31)) (fun _ h_ => h_.1))) (Kd.R_base ho0) hb); have n6_ := Aside0.mk (Kd.R_elder' (by (with_reducible repeat (first | apply Kd.R_alloc | apply Kd.R_drewN | apply Kd.R_drew)); exact (Kd.R_mono (Kd.R_far (p := ⟨gb320, 1, none⟩) (Kd.R_far (p := ⟨gb320, 0, none⟩) (Kd.R_types HO319.out BK320.out (by decide)) (fun _ hk => hk.2) (.bool true)) (fun _ hk => hk.2) (.slice Ao31 t317.length co31)) (fun _ h_ => h_.1))) (Kd.R_base ho0) hb); have n7_ := Aside0.mk (Kd.R_lower (Kd.R_new' (Kd.R_new' (Kd.R_new' (Kd.R_new' (Kd.R_new' (Kd.R_new' (Kd.R_new' ho0 (Kd.R_lt (by (with_reducible repeat (first | apply Kd.R_alloc | apply Kd.R_drewN | apply Kd.R_drew)); exact (Kd.R_mono (Kd.R_far (p := ⟨gb320, 1, none⟩) (Kd.R_far (p := ⟨gb320, 0, none⟩) (Kd.R_types HO295.out BK320.out (by decide)) (fun _ hk => hk.2) (.bool true)) (fun _ hk => hk.2) (.slice Ao31 t317.length co31)) (fun _ h_ => h_.1))))) (Kd.R_lt (by (with_reducible repeat (first | apply Kd.R_alloc | apply Kd.R_drewN | apply Kd.R_drew)); exact (Kd.R_mono (Kd.R_far (p := ⟨gb320, 1, none⟩) (Kd.R_far (p := ⟨gb320, 0, none⟩) (Kd.R_types HO299.out BK320.out (by decide)) (fun _ hk => hk.2) (.bool true)) (fun _ hk => hk.2) (.slice Ao31 t317.length co31)) (fun _ h_ => h_.1))))) (Kd.R_lt (by (with_reducible repeat (first | apply Kd.R_alloc | apply Kd.R_drewN | apply Kd.R_drew)); exact (Kd.R_mono (Kd.R_far (p := ⟨gb320, 1, none⟩) (Kd.R_far (p := ⟨gb320, 0, none⟩) (Kd.R_types HO303.out BK320.out (by decide)) (fun _ hk => hk.2) (.bool true)) (fun _ hk => hk.2) (.slice Ao31 t317.length co31)) (fun _ h_ => h_.1))))) (Kd.R_lt (by (with_reducible repeat (first | apply Kd.R_alloc | apply Kd.R_drewN | apply Kd.R_drew)); exact (Kd.R_mono (Kd.R_far (p := ⟨gb320, 1, none⟩) (Kd.R_far (p := ⟨gb320, 0, none⟩) (Kd.R_types HO307.out BK320.out (by decide)) (fun _ hk => hk.2) (.bool true)) (fun _ hk => hk.2) (.slice Ao31 t317.length co31)) (fun _ h_ => h_.1))))) (Kd.R_lt (by (with_reducible repeat (first | apply Kd.R_alloc | apply Kd.R_drewN | apply Kd.R_drew)); exact (Kd.R_mono (Kd.R_far (p := ⟨gb320, 1, none⟩) (Kd.R_far (p := ⟨gb320, 0, none⟩) (Kd.R_types HO311.out BK320.out (by decide)) (fun _ hk => hk.2) (.bool true)) (fun _ hk => hk.2) (.slice Ao31 t317.length co31)) (fun _ h_ => h_.1))))) (Kd.R_lt (by (with_reducible repeat (first | apply Kd.R_alloc | apply Kd.R_drewN | apply Kd.R_drew)); exact (Kd.R_mono (Kd.R_far (p := ⟨gb320, 1, none⟩) (Kd.R_far (p := ⟨gb320, 0, none⟩) (Kd.R_types HO315.out BK320.out (by decide)) (fun _ hk => hk.2) (.bool true)) (fun _ hk => hk.2) (.slice Ao31 t317.length co31)) (fun _ h_ => h_.1))))) (Kd.R_lt (by (with_reducible repeat (first | apply Kd.R_alloc | apply Kd.R_drewN | apply Kd.R_drew)); exact (Kd.R_mono (Kd.R_far (p := ⟨gb320, 1, none⟩) (Kd.R_far (p := ⟨gb320, 0, none⟩) (Kd.R_types HO319.out BK320.out (by decide)) (fun _ hk => hk.2) (.bool true)) (fun _ hk => hk.2) (.slice Ao31 t317.length co31)) (fun _ h_ => h_.1))))) (below_size (q2_ HB.out GE291.out GE320.out))); have n8_ := Aside0.mk (blk_below (g := gb291) (o := .cells #[.bool false, .slice none 0 0] 31 (0, 0)) (by (with_reducible repeat (first | refine blk_drewN ?_ _ | refine blk_drew ?_ | refine blk_alloc ?_ _)); refine blk_far ?_ NB291_320.out _; (with_reducible repeat (first | refine blk_drewN ?_ _ | refine blk_drew ?_ | refine blk_alloc ?_ _)); refine blk_far ?_ NB291_320.out _; (with_reducible repeat (first | refine blk_drewN ?_ _ | refine blk_drew ?_ | refine blk_alloc ?_ _)); exact BK291.out) hb); have n9_ := Aside0.mk (blk_below (g := gb320) (o := .cells #[.bool true, .slice Ao31 t317.length co31] 31 (0, 0)) (by (with_reducible repeat (first | refine blk_drewN ?_ _ | refine blk_drew ?_ | refine blk_alloc ?_ _)); refine blk_put (cs := #[.bool true, .slice none 0 0]) ?_ 1 _ rfl; (with_reducible repeat (first | refine blk_drewN ?_ _ | refine blk_drew ?_ | refine blk_alloc ?_ _)); refine blk_put (cs := #[.bool false, .slice none 0 0]) ?_ 0 _ rfl; (with_reducible repeat (first | refine blk_drewN ?_ _ | refine blk_drew ?_ | refine blk_alloc ?_ _)); exact BK320.out) hb); have n10_ := Aside0.mk (below_step (q2_ HB.out GE291.out GE320.out) hb); clear HO295; clear HO299; clear HO303; clear HO307; clear HO311; clear HO315; clear HO319; clear BK291; clear BK320; clear HB; have HO295 := n0_; have HO299 := n1_; have HO303 := n2_; have HO307 := n3_; have HO311 := n4_; have HO315 := n5_; have HO319 := n6_; have HO324 := n7_; have BK291 := n8_; have BK320 := n9_; have HB := n10_; clear n0_ n1_ n2_ n3_ n4_ n5_ n6_ n7_ n8_ n9_ n10_; (try clear hb); (try clear hb2); (try clear hk); (try clear hi); (try clear ho0); have hcz33_0 : w32.cell? ⟨gb291, 0, none⟩ = some (.bool false) := (blk_cell BK291.out 0).trans rfl; have hcz33_1 : w32.cell? ⟨gb291, 1, none⟩ = some (.slice none 0 0) := (blk_cell BK291.out 1).trans rfl; have hfz33_0 := blk_frozen BK291.out 0; have hfz33_1 := blk_frozen BK291.out 1; obtain ⟨Ao34, co34, eo34⟩ := Kd.R_slice HO324.out; subst eo34))
    refine bodyPost_ret (results_cell_row rfl _ _ gb291 31 #[.bool t321, .slice Ao34 t322.length co34] (0, 0) _ rfl (by (with_reducible repeat (first | refine blk_drewN ?_ _ | refine blk_drew ?_ | refine blk_alloc ?_ _)); refine blk_put (cs := #[.bool t321, .slice none 0 0]) ?_ 1 _ rfl; (with_reducible repeat (first | refine blk_drewN ?_ _ | refine blk_drew ?_ | refine blk_alloc ?_ _)); refine blk_put (cs := #[.bool false, .slice none 0 0]) ?_ 0 _ rfl; (with_reducible repeat (first | refine blk_drewN ?_ _ | refine blk_drew ?_ | refine blk_alloc ?_ _)); exact BK291.out) Tryd.underlying31 rfl (by kernel_rfl)) rfl ?_
    exact ⟨_, by first | rfl | (simp [errW_none, errW_some] <;> rfl) | (simp [*, errW_none, errW_some] <;> rfl), by (with_reducible repeat (first | apply Kd.R_alloc | apply Kd.R_drewN | apply Kd.R_drew)); exact Kd.R_mono (Kd.R_far (p := ⟨gb291, 1, none⟩) (Kd.R_far (p := ⟨gb291, 0, none⟩) (Kd.R_types HO324.out BK291.out (by decide)) (fun _ hk => hk.2) (.bool t321)) (fun _ hk => hk.2) (.slice Ao34 t322.length co34)) (fun _ hk => trivial), (q2_ HB.out GE291.out GE320.out)⟩
  · replace c12 := Bool.eq_false_iff.mpr c12
    subst c12
    have H1 : (some (false, t317)) = some (r1, r2) := by rw [if_neg (show ¬ (false = true) by decide)] at H; exact H
    clear H
    have H := H1
    clear H1
    simp only [Option.some.injEq, Prod.mk.injEq] at H
    obtain ⟨rfl, rfl⟩ := H
    go_enter Tryd.func23, Tryd.ntmps23
    go_wp2_with (first | ((with_reducible refine gate_dst (N := 8) rfl ?_); refine box_event ?hg (N := 8) ?hd (cs := #[.bool false, .slice none 0 0]) (t := 31) ?hr ?_; (case hd => rfl); (case hg => rfl); (case hr => first | (go_simp; done) | (go_simp; rfl)); intro gb291 hg w35 hbox hb; have n0_ := Aside0.mk (below_step (q0_ HB.out) hb); have n1_ := Aside0.mk (hbox); have n2_ := Aside0.mk ((by rw [hg]; exact (below_size (q0_ HB.out)) : w.heap.size ≤ gb291)); have n3_ := Aside0.mk ((by rw [hg]; exact (below_size (q0_ HB.out)) : w.heap.size ≤ gb291)); clear HB; have HB := n0_; have BK291 := n1_; have GW291 := n2_; have GE291 := n3_; clear n0_ n1_ n2_ n3_; clear hb hbox hg) | ((with_reducible refine gate_callee (f := 24) rfl ?_); refine goesL_ (some 11) rfl rfl Tryd.func24 (by kernel_rfl) rfl #[.int .i64 a0] rfl qe_ ?_; (with_reducible refine (merinoref01_Of.calls k a0 t292 t293 _ A5.out).mono ?_); rintro e w36 ⟨v294, rfl, ho0, hb⟩; refine ⟨_, rfl, ?_⟩; have n0_ := Aside0.mk (Kd.R_lower ho0 (below_size (q1_ HB.out GE291.out))); have n1_ := Aside0.mk (blk_below (g := gb291) (o := .cells #[.bool false, .slice none 0 0] 31 (0, 0)) (qb_ BK291.out) hb); have n2_ := Aside0.mk (below_step (q1_ HB.out GE291.out) hb); clear BK291; clear HB; have HO295 := n0_; have BK291 := n1_; have HB := n2_; clear n0_ n1_ n2_; (try clear hb); (try clear hb2); (try clear hk); (try clear hi); (try clear ho0)) | ((with_reducible refine gate_callee (f := 24) rfl ?_); refine goesL_ (some 13) rfl rfl Tryd.func24 (by kernel_rfl) rfl #[.int .i64 a3] rfl qe_ ?_; (with_reducible refine (merinoref01_Of.calls k a3 t296 t297 _ A6.out).mono ?_); rintro e w37 ⟨v298, rfl, ho0, hb⟩; refine ⟨_, rfl, ?_⟩; have n0_ := Aside0.mk (Kd.R_elder' (qr_ HO295.out) (Kd.R_base ho0) hb); have n1_ := Aside0.mk (Kd.R_lower (Kd.R_new' ho0 (Kd.R_lt (qr_ HO295.out))) (below_size (q1_ HB.out GE291.out))); have n2_ := Aside0.mk (blk_below (g := gb291) (o := .cells #[.bool false, .slice none 0 0] 31 (0, 0)) (qb_ BK291.out) hb); have n3_ := Aside0.mk (below_step (q1_ HB.out GE291.out) hb); clear HO295; clear BK291; clear HB; have HO295 := n0_; have HO299 := n1_; have BK291 := n2_; have HB := n3_; clear n0_ n1_ n2_ n3_; (try clear hb); (try clear hb2); (try clear hk); (try clear hi); (try clear ho0); obtain ⟨Ao38, co38, eo38⟩ := Kd.R_slice HO295.out; subst eo38; obtain ⟨Ao39, co39, eo39⟩ := Kd.R_slice HO299.out; subst eo39) | ((with_reducible refine gate_callee (f := 22) rfl ?_); refine goesL_ (some 14) rfl rfl Tryd.func22 (by kernel_rfl) rfl #[.agg #[.bool t292, .slice Ao38 t293.length co38], .agg #[.bool t296, .slice Ao39 t297.length co39]] rfl qe_ ?_; (with_reducible refine (merinoref01_Times.calls k t292 _ _ t293 t296 _ _ t297 t300 t301 _ ?side1 ?side2 ?side3 ?side4 A7.out).mono ?_); (case side1 => exact qc_ (Kd.R_reads' HO295.out).2.2); (case side2 => exact (Kd.R_reads' HO295.out).2.1); (case side3 => exact qc_ (Kd.R_reads' HO299.out).2.2); (case side4 => exact (Kd.R_reads' HO299.out).2.1); rintro e w40 ⟨v302, rfl, ho0, hb⟩; refine ⟨_, rfl, ?_⟩; have n0_ := Aside0.mk (Kd.R_elder' (qr_ HO295.out) (Kd.R_base ho0) hb); have n1_ := Aside0.mk (Kd.R_elder' (qr_ HO299.out) (Kd.R_base ho0) hb); have n2_ := Aside0.mk (Kd.R_lower (Kd.R_new' (Kd.R_new' ho0 (Kd.R_lt (qr_ HO295.out))) (Kd.R_lt (qr_ HO299.out))) (below_size (q1_ HB.out GE291.out))); have n3_ := Aside0.mk (blk_below (g := gb291) (o := .cells #[.bool false, .slice none 0 0] 31 (0, 0)) (qb_ BK291.out) hb); have n4_ := Aside0.mk (below_step (q1_ HB.out GE291.out) hb); clear HO295; clear HO299; clear BK291; clear HB; have HO295 := n0_; have HO299 := n1_; have HO303 := n2_; have BK291 := n3_; have HB := n4_; clear n0_ n1_ n2_ n3_ n4_; (try clear hb); (try clear hb2); (try clear hk); (try clear hi); (try clear ho0)) | ((with_reducible refine gate_callee (f := 24) rfl ?_); refine goesL_ (some 16) rfl rfl Tryd.func24 (by kernel_rfl) rfl #[.int .i64 a2] rfl qe_ ?_; (with_reducible refine (merinoref01_Of.calls k a2 t304 t305 _ A8.out).mono ?_); rintro e w41 ⟨v306, rfl, ho0, hb⟩; refine ⟨_, rfl, ?_⟩; have n0_ := Aside0.mk (Kd.R_elder' (qr_ HO295.out) (Kd.R_base ho0) hb); have n1_ := Aside0.mk (Kd.R_elder' (qr_ HO299.out) (Kd.R_base ho0) hb); have n2_ := Aside0.mk (Kd.R_elder' (qr_ HO303.out) (Kd.R_base ho0) hb); have n3_ := Aside0.mk (Kd.R_lower (Kd.R_new' (Kd.R_new' (Kd.R_new' ho0 (Kd.R_lt (qr_ HO295.out))) (Kd.R_lt (qr_ HO299.out))) (Kd.R_lt (qr_ HO303.out))) (below_size (q1_ HB.out GE291.out))); have n4_ := Aside0.mk (blk_below (g := gb291) (o := .cells #[.bool false, .slice none 0 0] 31 (0, 0)) (qb_ BK291.out) hb); have n5_ := Aside0.mk (below_step (q1_ HB.out GE291.out) hb); clear HO295; clear HO299; clear HO303; clear BK291; clear HB; have HO295 := n0_; have HO299 := n1_; have HO303 := n2_; have HO307 := n3_; have BK291 := n4_; have HB := n5_; clear n0_ n1_ n2_ n3_ n4_ n5_; (try clear hb); (try clear hb2); (try clear hk); (try clear hi); (try clear ho0)) | ((with_reducible refine gate_callee (f := 24) rfl ?_); refine goesL_ (some 18) rfl rfl Tryd.func24 (by kernel_rfl) rfl #[.int .i64 a1] rfl qe_ ?_; (with_reducible refine (merinoref01_Of.calls k a1 t308 t309 _ A9.out).mono ?_); rintro e w42 ⟨v310, rfl, ho0, hb⟩; refine ⟨_, rfl, ?_⟩; have n0_ := Aside0.mk (Kd.R_elder' (qr_ HO295.out) (Kd.R_base ho0) hb); have n1_ := Aside0.mk (Kd.R_elder' (qr_ HO299.out) (Kd.R_base ho0) hb); have n2_ := Aside0.mk (Kd.R_elder' (qr_ HO303.out) (Kd.R_base ho0) hb); have n3_ := Aside0.mk (Kd.R_elder' (qr_ HO307.out) (Kd.R_base ho0) hb); have n4_ := Aside0.mk (Kd.R_lower (Kd.R_new' (Kd.R_new' (Kd.R_new' (Kd.R_new' ho0 (Kd.R_lt (qr_ HO295.out))) (Kd.R_lt (qr_ HO299.out))) (Kd.R_lt (qr_ HO303.out))) (Kd.R_lt (qr_ HO307.out))) (below_size (q1_ HB.out GE291.out))); have n5_ := Aside0.mk (blk_below (g := gb291) (o := .cells #[.bool false, .slice none 0 0] 31 (0, 0)) (qb_ BK291.out) hb); have n6_ := Aside0.mk (below_step (q1_ HB.out GE291.out) hb); clear HO295; clear HO299; clear HO303; clear HO307; clear BK291; clear HB; have HO295 := n0_; have HO299 := n1_; have HO303 := n2_; have HO307 := n3_; have HO311 := n4_; have BK291 := n5_; have HB := n6_; clear n0_ n1_ n2_ n3_ n4_ n5_ n6_; (try clear hb); (try clear hb2); (try clear hk); (try clear hi); (try clear ho0); obtain ⟨Ao43, co43, eo43⟩ := Kd.R_slice HO307.out; subst eo43; obtain ⟨Ao44, co44, eo44⟩ := Kd.R_slice HO311.out; subst eo44) | ((with_reducible refine gate_callee (f := 22) rfl ?_); refine goesL_ (some 19) rfl rfl Tryd.func22 (by kernel_rfl) rfl #[.agg #[.bool t304, .slice Ao43 t305.length co43], .agg #[.bool t308, .slice Ao44 t309.length co44]] rfl qe_ ?_; (with_reducible refine (merinoref01_Times.calls k t304 _ _ t305 t308 _ _ t309 t312 t313 _ ?side1 ?side2 ?side3 ?side4 A10.out).mono ?_); (case side1 => exact qc_ (Kd.R_reads' HO307.out).2.2); (case side2 => exact (Kd.R_reads' HO307.out).2.1); (case side3 => exact qc_ (Kd.R_reads' HO311.out).2.2); (case side4 => exact (Kd.R_reads' HO311.out).2.1); rintro e w45 ⟨v314, rfl, ho0, hb⟩; refine ⟨_, rfl, ?_⟩; have n0_ := Aside0.mk (Kd.R_elder' (qr_ HO295.out) (Kd.R_base ho0) hb); have n1_ := Aside0.mk (Kd.R_elder' (qr_ HO299.out) (Kd.R_base ho0) hb); have n2_ := Aside0.mk (Kd.R_elder' (qr_ HO303.out) (Kd.R_base ho0) hb); have n3_ := Aside0.mk (Kd.R_elder' (qr_ HO307.out) (Kd.R_base ho0) hb); have n4_ := Aside0.mk (Kd.R_elder' (qr_ HO311.out) (Kd.R_base ho0) hb); have n5_ := Aside0.mk (Kd.R_lower (Kd.R_new' (Kd.R_new' (Kd.R_new' (Kd.R_new' (Kd.R_new' ho0 (Kd.R_lt (qr_ HO295.out))) (Kd.R_lt (qr_ HO299.out))) (Kd.R_lt (qr_ HO303.out))) (Kd.R_lt (qr_ HO307.out))) (Kd.R_lt (qr_ HO311.out))) (below_size (q1_ HB.out GE291.out))); have n6_ := Aside0.mk (blk_below (g := gb291) (o := .cells #[.bool false, .slice none 0 0] 31 (0, 0)) (qb_ BK291.out) hb); have n7_ := Aside0.mk (below_step (q1_ HB.out GE291.out) hb); clear HO295; clear HO299; clear HO303; clear HO307; clear HO311; clear BK291; clear HB; have HO295 := n0_; have HO299 := n1_; have HO303 := n2_; have HO307 := n3_; have HO311 := n4_; have HO315 := n5_; have BK291 := n6_; have HB := n7_; clear n0_ n1_ n2_ n3_ n4_ n5_ n6_ n7_; (try clear hb); (try clear hb2); (try clear hk); (try clear hi); (try clear ho0); obtain ⟨Ao46, co46, eo46⟩ := Kd.R_slice HO303.out; subst eo46; obtain ⟨Ao47, co47, eo47⟩ := Kd.R_slice HO315.out; subst eo47) | ((with_reducible refine gate_callee (f := 68) rfl ?_); refine goesL_ (some 20) rfl rfl Tryd.func68 (by kernel_rfl) rfl #[.agg #[.bool t300, .slice Ao46 t301.length co46], .agg #[.bool t312, .slice Ao47 t313.length co47]] rfl qe_ ?_; (with_reducible refine (merinoref01_Minus.calls k t300 _ _ t301 t312 _ _ t313 false t317 _ ?side1 ?side2 ?side3 ?side4 A11.out).mono ?_); (case side1 => exact qc_ (Kd.R_reads' HO303.out).2.2); (case side2 => exact (Kd.R_reads' HO303.out).2.1); (case side3 => exact qc_ (Kd.R_reads' HO315.out).2.2); (case side4 => exact (Kd.R_reads' HO315.out).2.1); rintro e w48 ⟨v318, rfl, ho0, hb⟩; refine ⟨_, rfl, ?_⟩; have n0_ := Aside0.mk (Kd.R_elder' (qr_ HO295.out) (Kd.R_base ho0) hb); have n1_ := Aside0.mk (Kd.R_elder' (qr_ HO299.out) (Kd.R_base ho0) hb); have n2_ := Aside0.mk (Kd.R_elder' (qr_ HO303.out) (Kd.R_base ho0) hb); have n3_ := Aside0.mk (Kd.R_elder' (qr_ HO307.out) (Kd.R_base ho0) hb); have n4_ := Aside0.mk (Kd.R_elder' (qr_ HO311.out) (Kd.R_base ho0) hb); have n5_ := Aside0.mk (Kd.R_elder' (qr_ HO315.out) (Kd.R_base ho0) hb); have n6_ := Aside0.mk (Kd.R_lower (Kd.R_new' (Kd.R_new' (Kd.R_new' (Kd.R_new' (Kd.R_new' (Kd.R_new' ho0 (Kd.R_lt (qr_ HO295.out))) (Kd.R_lt (qr_ HO299.out))) (Kd.R_lt (qr_ HO303.out))) (Kd.R_lt (qr_ HO307.out))) (Kd.R_lt (qr_ HO311.out))) (Kd.R_lt (qr_ HO315.out))) (below_size (q1_ HB.out GE291.out))); have n7_ := Aside0.mk (blk_below (g := gb291) (o := .cells #[.bool false, .slice none 0 0] 31 (0, 0)) (qb_ BK291.out) hb); have n8_ := Aside0.mk (below_step (q1_ HB.out GE291.out) hb); clear HO295; clear HO299; clear HO303; clear HO307; clear HO311; clear HO315; clear BK291; clear HB; have HO295 := n0_; have HO299 := n1_; have HO303 := n2_; have HO307 := n3_; have HO311 := n4_; have HO315 := n5_; have HO319 := n6_; have BK291 := n7_; have HB := n8_; clear n0_ n1_ n2_ n3_ n4_ n5_ n6_ n7_ n8_; (try clear hb); (try clear hb2); (try clear hk); (try clear hi); (try clear ho0)) | ((with_reducible refine gate_dst (N := 9) rfl ?_); refine box_event ?hg (N := 9) ?hd (cs := #[.bool false, .slice none 0 0]) (t := 31) ?hr ?_; (case hd => rfl); (case hg => rfl); (case hr => first | (go_simp; done) | (go_simp; rfl)); intro gb320 hg w49 hbox hb; have n0_ := Aside0.mk (Kd.R_below (qr_ HO295.out) hb); have n1_ := Aside0.mk (Kd.R_below (qr_ HO299.out) hb); have n2_ := Aside0.mk (Kd.R_below (qr_ HO303.out) hb); have n3_ := Aside0.mk (Kd.R_below (qr_ HO307.out) hb); have n4_ := Aside0.mk (Kd.R_below (qr_ HO311.out) hb); have n5_ := Aside0.mk (Kd.R_below (qr_ HO315.out) hb); have n6_ := Aside0.mk (Kd.R_below (qr_ HO319.out) hb); have n7_ := Aside0.mk (blk_below (g := gb291) (o := .cells #[.bool false, .slice none 0 0] 31 (0, 0)) (qb_ BK291.out) hb); have n8_ := Aside0.mk (below_step (q1_ HB.out GE291.out) hb); have n9_ := Aside0.mk (hbox); have n10_ := Aside0.mk ((by rw [hg]; exact (below_size (q1_ HB.out GE291.out)) : w.heap.size ≤ gb320)); have n11_ := Aside0.mk ((by rw [hg]; exact (below_size (q1_ HB.out GE291.out)) : w.heap.size ≤ gb320)); have n12_ := Aside0.mk ((by rw [hg]; exact Nat.ne_of_lt (blk_lt (g := gb291) (o := .cells #[.bool false, .slice none 0 0] 31 (0, 0)) (qb_ BK291.out)) : gb291 ≠ gb320)); have n13_ := Aside0.mk ((by rw [hg]; exact Nat.ne_of_gt (blk_lt (g := gb291) (o := .cells #[.bool false, .slice none 0 0] 31 (0, 0)) (qb_ BK291.out)) : gb320 ≠ gb291)); clear HO295; clear HO299; clear HO303; clear HO307; clear HO311; clear HO315; clear HO319; clear BK291; clear HB; have HO295 := n0_; have HO299 := n1_; have HO303 := n2_; have HO307 := n3_; have HO311 := n4_; have HO315 := n5_; have HO319 := n6_; have BK291 := n7_; have HB := n8_; have BK320 := n9_; have GW320 := n10_; have GE320 := n11_; have NB291_320 := n12_; have NB320_291 := n13_; clear n0_ n1_ n2_ n3_ n4_ n5_ n6_ n7_ n8_ n9_ n10_ n11_ n12_ n13_; clear hb hbox hg; have hnb50 := NB320_291.out; have hnc50 := NB291_320.out; have hcz51_0 : w49.cell? ⟨gb320, 0, none⟩ = some (.bool false) := (blk_cell BK320.out 0).trans rfl; have hcz51_1 : w49.cell? ⟨gb320, 1, none⟩ = some (.slice none 0 0) := (blk_cell BK320.out 1).trans rfl; have hfz51_0 := blk_frozen BK320.out 0; have hfz51_1 := blk_frozen BK320.out 1; obtain ⟨Ao52, co52, eo52⟩ := Kd.R_slice HO319.out; subst eo52; have hcz53_0 : w49.cell? ⟨gb291, 0, none⟩ = some (.bool false) := (blk_cell BK291.out 0).trans rfl; have hcz53_1 : w49.cell? ⟨gb291, 1, none⟩ = some (.slice none 0 0) := (blk_cell BK291.out 1).trans rfl; have hfz53_0 := blk_frozen BK291.out 0; have hfz53_1 := blk_frozen BK291.out 1))
    refine bodyPost_ret (results_cell_row rfl _ _ gb291 31 #[.bool false, .slice Ao52 t317.length co52] (0, 0) _ rfl (by (with_reducible repeat (first | refine blk_drewN ?_ _ | refine blk_drew ?_ | refine blk_alloc ?_ _)); refine blk_put (cs := #[.bool false, .slice none 0 0]) ?_ 1 _ rfl; (with_reducible repeat (first | refine blk_drewN ?_ _ | refine blk_drew ?_ | refine blk_alloc ?_ _)); refine blk_put (cs := #[.bool false, .slice none 0 0]) ?_ 0 _ rfl; (with_reducible repeat (first | refine blk_drewN ?_ _ | refine blk_drew ?_ | refine blk_alloc ?_ _)); refine blk_far ?_ NB291_320.out _; (with_reducible repeat (first | refine blk_drewN ?_ _ | refine blk_drew ?_ | refine blk_alloc ?_ _)); refine blk_far ?_ NB291_320.out _; (with_reducible repeat (first | refine blk_drewN ?_ _ | refine blk_drew ?_ | refine blk_alloc ?_ _)); exact BK291.out) Tryd.underlying31 rfl (by kernel_rfl)) rfl ?_
    exact ⟨_, by first | rfl | (simp [errW_none, errW_some] <;> rfl) | (simp [*, errW_none, errW_some] <;> rfl), by (with_reducible repeat (first | apply Kd.R_alloc | apply Kd.R_drewN | apply Kd.R_drew)); exact Kd.R_mono (Kd.R_far (p := ⟨gb291, 1, none⟩) (Kd.R_far (p := ⟨gb291, 0, none⟩) (Kd.R_far (p := ⟨gb320, 1, none⟩) (Kd.R_far (p := ⟨gb320, 0, none⟩) (Kd.R_types (Kd.R_types HO319.out BK320.out (by decide)) BK291.out (by decide)) (fun _ hk => hk.1.2) (.bool false)) (fun _ hk => hk.1.2) (.slice Ao52 t317.length co52)) (fun _ hk => hk.2) (.bool false)) (fun _ hk => hk.2) (.slice Ao52 t317.length co52)) (fun _ hk => trivial), (q2_ HB.out GE291.out GE320.out)⟩
end Go.Proofs.YtdjnneflpkllmaaDoor.Q
