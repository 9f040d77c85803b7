/- Part 3 of the proof of NumMeans. -/
import Derived.Test.YtdjnneflpkllmaaDoorMNumMeans2
import Derived.Lib.Mul64
import Derived.Laws.Bits64b

namespace Go.Proofs.YtdjnneflpkllmaaDoor.Q
open Go.RowKit Go.Proofs.YtdjnneflpkllmaaDoorW.PrintWords Go.Proofs.YtdjnneflpkllmaaDoorW.PrintLast Go.Proofs.YtdjnneflpkllmaaDoorW.PrintMore
attribute [local go_sem] max2_int min2_int max_two min_two max_three min_three max_four min_four   -- for this text's walks alone
set_option linter.unusedVariables false
set_option linter.unusedSimpArgs false
mutual
def merinoref01_addD.l0 : Nat → List Int → List Int → List Int → Int → Int → Option (List Int)
  | 0, _, _, _, _, _ => none
  | k + 1, x0, x1, x5, x6, x7 => if x7 < (x0.length : Int) then (merinoref01_addD.j1 k x0 x1 x5 x6 x7 true) else (if x7 < (x1.length : Int) then (merinoref01_addD.j1 k x0 x1 x5 x6 x7 true) else (merinoref01_addD.j1 k x0 x1 x5 x6 x7 (decide (x6 > 0))))
def merinoref01_addD.j1 : Nat → List Int → List Int → List Int → Int → Int → Bool → Option (List Int)
  | 0, _, _, _, _, _, _ => none
  | k + 1, x0, x1, x5, x6, x7, x22 => if x22 = true then (if x7 < (x0.length : Int) then (if 0 ≤ x7 then (if x7 < (x1.length : Int) then (if x5.length < 17592186044416 then (merinoref01_addD.l0 k x0 x1 (x5 ++ [Int.tmod (wrap64 ((wrap64 (x6 + (rd x0 x7))) + (rd x1 x7))) 10000]) (wrap64 (Int.tdiv (wrap64 ((wrap64 (x6 + (rd x0 x7))) + (rd x1 x7))) 10000)) (wrap64 (x7 + 1))) else (none)) else (if x5.length < 17592186044416 then (merinoref01_addD.l0 k x0 x1 (x5 ++ [Int.tmod (wrap64 (x6 + (rd x0 x7))) 10000]) (wrap64 (Int.tdiv (wrap64 (x6 + (rd x0 x7))) 10000)) (wrap64 (x7 + 1))) else (none))) else (none)) else (if x7 < (x1.length : Int) then (if 0 ≤ x7 then (if x5.length < 17592186044416 then (merinoref01_addD.l0 k x0 x1 (x5 ++ [Int.tmod (wrap64 (x6 + (rd x1 x7))) 10000]) (wrap64 (Int.tdiv (wrap64 (x6 + (rd x1 x7))) 10000)) (wrap64 (x7 + 1))) else (none)) else (none)) else (if x5.length < 17592186044416 then (merinoref01_addD.l0 k x0 x1 (x5 ++ [Int.tmod x6 10000]) (wrap64 (Int.tdiv x6 10000)) (wrap64 (x7 + 1))) else (none)))) else (some x5)
end
def merinoref01_addD.f (k : Nat) (l0 : List Int) (l1 : List Int) : Option (List Int) := merinoref01_addD.l0 k l0 l1 ([] : List Int) 0 0
theorem merinoref01_addD.mono_l : ∀ k, (∀ y0 y1 y2 y3 y4, LeO (merinoref01_addD.l0 k y0 y1 y2 y3 y4) (merinoref01_addD.l0 (k + 1) y0 y1 y2 y3 y4)) ∧ (∀ y0 y1 y2 y3 y4 y5, LeO (merinoref01_addD.j1 k y0 y1 y2 y3 y4 y5) (merinoref01_addD.j1 (k + 1) y0 y1 y2 y3 y4 y5))
  | 0 => ⟨fun _ _ _ _ _ r h => by simp [merinoref01_addD.l0] at h, fun _ _ _ _ _ _ r h => by simp [merinoref01_addD.j1] at h⟩
  | k + 1 => by
    obtain ⟨ih0, ih1⟩ := merinoref01_addD.mono_l k
    refine ⟨?_, ?_⟩
    · intro y0 y1 y2 y3 y4
      unfold merinoref01_addD.l0
      repeat' first
      | (with_reducible exact ih0 _ _ _ _ _)
      | (with_reducible exact ih1 _ _ _ _ _ _)
      | (with_reducible exact LeO.refl _)
      | (with_reducible exact LeO.none _)
      | (with_reducible refine LeO.ite ?_ ?_)
      | (with_reducible refine LeO.bind ?_ (fun _ => ?_))
      | exact ih0 _ _ _ _ _
      | exact ih1 _ _ _ _ _ _
      | exact LeO.none _
      | refine LeO.ite ?_ ?_
      | refine LeO.bind ?_ (fun _ => ?_)
    · intro y0 y1 y2 y3 y4 y5
      unfold merinoref01_addD.j1
      repeat' first
      | (with_reducible exact ih0 _ _ _ _ _)
      | (with_reducible exact ih1 _ _ _ _ _ _)
      | (with_reducible exact LeO.refl _)
      | (with_reducible exact LeO.none _)
      | (with_reducible refine LeO.ite ?_ ?_)
      | (with_reducible refine LeO.bind ?_ (fun _ => ?_))
      | exact ih0 _ _ _ _ _
      | exact ih1 _ _ _ _ _ _
      | exact LeO.none _
      | refine LeO.ite ?_ ?_
      | refine LeO.bind ?_ (fun _ => ?_)
theorem merinoref01_addD.mono : ∀ a0 a1 k, LeO (merinoref01_addD.f k a0 a1) (merinoref01_addD.f (k + 1) a0 a1) := by
  intro a0 a1 k
  obtain ⟨ih0, ih1⟩ := merinoref01_addD.mono_l k
  unfold merinoref01_addD.f
  repeat' first
      | (with_reducible exact ih0 _ _ _ _ _)
      | (with_reducible exact ih1 _ _ _ _ _ _)
      | (with_reducible exact LeO.refl _)
      | (with_reducible exact LeO.none _)
      | (with_reducible refine LeO.ite ?_ ?_)
      | (with_reducible refine LeO.bind ?_ (fun _ => ?_))
      | exact ih0 _ _ _ _ _
      | exact ih1 _ _ _ _ _ _
      | exact LeO.none _
      | refine LeO.ite ?_ ?_
      | refine LeO.bind ?_ (fun _ => ?_)
set_option maxHeartbeats 8000000 in
set_option maxRecDepth 100000 in
theorem merinoref01_addD.calls (k : Nat) (A0 : Option Addr) (c0 : Nat) (l0 : List Int) (A1 : Option Addr) (c1 : Nat) (l1 : List Int) (r : List Int) (w : World) (hr0 : Kd.C (Kd.int .i64) w A0 l0.length l0) (hc0 : l0.length ≤ c0) (hr1 : Kd.C (Kd.int .i64) w A1 l1.length l1) (hc1 : l1.length ≤ c1) (h : merinoref01_addD.f k l0 l1 = some r) :
    Calls Tryd.prog 106 #[.slice A0 l0.length c0, .slice A1 l1.length c1] w fun e w' => ∃ v0_ : Value, e = .returned (v0_) ∧ Kd.R (Kd.int .i64) 3 w' w.heap.size (fun _ => True) v0_ r ∧ Below w.heap.size w w' := by
  have HR0 := Aside0.mk hr0
  have HC0 := Aside0.mk hc0
  clear hr0 hc0
  have HR1 := Aside0.mk hr1
  have HC1 := Aside0.mk hc1
  clear hr1 hc1
  have HB := Aside0.mk (Below.refl w.heap.size w)
  have H : (merinoref01_addD.l0 k l0 l1 ([] : List Int) 0 0) = some r := h
  clear h
  have H' := Aside0.mk H
  clear H
  go_enter Tryd.func106, Tryd.ntmps106
  go_wp2
  go_loopg [5, 6, 7] k (fun kq v5 v6 v7 w' => ∃ (x5_1 : List Int) (x6_1 : Int) (x7_1 : Int), v6 = .int .i64 x6_1 ∧ v7 = .int .i64 x7_1 ∧ Aside0 (merinoref01_addD.l0 kq l0 l1 x5_1 x6_1 x7_1 = some r) ∧ Aside0 (kq ≤ k) ∧ Aside0 (Kd.R (Kd.int .i64) 3 w' w.heap.size (fun _ => True) v5 x5_1) ∧ Aside0 (Below w.heap.size w w'))
  case atStart => exact ⟨(([] : List Int)), (0), (0), (by first | rfl | (simp; done) | (simp [*]; done)), (by first | rfl | (simp; done) | (simp [*]; done)), H', ⟨Nat.le_refl _⟩, ⟨by first | exact Kd.R_nil _ _ _ _ _ | exact Kd.N_nil _ _ _ _ _ | exact Kd.V_nil _ _ _ _ _ | exact Kd.Q_nil _ _ _ _ _ | exact Kd.S_nil _ _ _ _ _⟩, ⟨(q0_ HB.out)⟩⟩
  case round =>
    clear H'
    try clear c1
    try clear p2
    obtain ⟨x5_1, x6_1, x7_1, rfl, rfl, HA, HK1, HO_5, HB⟩ := hrel
    cases gk with
    | zero => exact absurd HA.out (by simp [merinoref01_addD.l0])
    | succ k1 =>
      have H := HA.out
      clear HA
      simp only [merinoref01_addD.l0] at H
      have HC3 := Aside0.mk H
      clear H
      go_upto_region 4 with (fail)
      go_cut [22] (fun v22 wc => ∃ (kq : Nat) (x22_2 : Bool), v22 = .bool x22_2 ∧ Aside0 (merinoref01_addD.j1 kq l0 l1 x5_1 x6_1 x7_1 x22_2 = some r) ∧ Aside0 (kq ≤ k1) ∧ Aside0 (Kd.R (Kd.int .i64) 3 wc w.heap.size (fun _ => True) u5 x5_1) ∧ Aside0 (Below w.heap.size w wc))
      case first =>
        have H := HC3.out
        clear HC3
        by_cases c4 : x7_1 < (l0.length : Int)
        · rw [if_pos c4] at H
          have c4b0 : decide (x7_1 < (l0.length : Int)) = true := decide_eq_true c4
          clear c4
          (first | rw [c4b0] | (simp only [i64_w, i32_w]; rw [c4b0]) | skip)
          have H' := Aside0.mk H
          clear H
          go_wp2
          go_meet
          case rel => exact ⟨_, (true), (by first | rfl | (simp; done) | (simp [*]; done)), H', ⟨by have := HK1.out; first | omega | exact Nat.le_refl _⟩, ⟨by (with_reducible repeat (first | apply Kd.R_alloc | apply Kd.R_drewN | apply Kd.R_drew)); exact HO_5.out⟩, ⟨(q0_ HB.out)⟩⟩
        · rw [if_neg c4] at H
          have c4b0 : decide (x7_1 < (l0.length : Int)) = false := decide_eq_false c4
          clear c4
          (first | rw [c4b0] | (simp only [i64_w, i32_w]; rw [c4b0]) | skip)
          by_cases c5 : x7_1 < (l1.length : Int)
          · rw [if_pos c5] at H
            have c5b0 : decide (x7_1 < (l1.length : Int)) = true := decide_eq_true c5
            clear c5
            have H' := Aside0.mk H
            clear H
            go_wp2
            go_meet
            case rel => exact ⟨_, (true), (by first | rfl | (simp; done) | (simp [*]; done)), H', ⟨by have := HK1.out; first | omega | exact Nat.le_refl _⟩, ⟨by (with_reducible repeat (first | apply Kd.R_alloc | apply Kd.R_drewN | apply Kd.R_drew)); exact HO_5.out⟩, ⟨(q0_ HB.out)⟩⟩
          · rw [if_neg c5] at H
            have c5b0 : decide (x7_1 < (l1.length : Int)) = false := decide_eq_false c5
            clear c5
            have H' := Aside0.mk H
            clear H
            go_wp2
            go_meet
            case rel => exact ⟨_, (decide (x6_1 > 0)), (by first | rfl | (simp; done) | (simp [*]; done)), H', ⟨by have := HK1.out; first | omega | exact Nat.le_refl _⟩, ⟨by (with_reducible repeat (first | apply Kd.R_alloc | apply Kd.R_drewN | apply Kd.R_drew)); exact HO_5.out⟩, ⟨(q0_ HB.out)⟩⟩
      case rest =>
        clear HC3
        try clear c1
        try clear p2
        try clear c4
        try clear c4b0
        try clear c5
        try clear c5b0
        try clear p2
        obtain ⟨kq, x22_2, rfl, HA, HJ2, HO_5, HB⟩ := hcut
        cases kq with
        | zero => exact absurd HA.out (by simp [merinoref01_addD.j1])
        | succ kj2 =>
          have H := HA.out
          clear HA
          simp only [merinoref01_addD.j1] at H
          by_cases c6 : x22_2 = true
          · subst c6
            have H1 : (if x7_1 < (l0.length : Int) then (if 0 ≤ x7_1 then (if x7_1 < (l1.length : Int) then (if x5_1.length < 17592186044416 then (merinoref01_addD.l0 kj2 l0 l1 (x5_1 ++ [Int.tmod (wrap64 ((wrap64 (x6_1 + (rd l0 x7_1))) + (rd l1 x7_1))) 10000]) (wrap64 (Int.tdiv (wrap64 ((wrap64 (x6_1 + (rd l0 x7_1))) + (rd l1 x7_1))) 10000)) (wrap64 (x7_1 + 1))) else (none)) else (if x5_1.length < 17592186044416 then (merinoref01_addD.l0 kj2 l0 l1 (x5_1 ++ [Int.tmod (wrap64 (x6_1 + (rd l0 x7_1))) 10000]) (wrap64 (Int.tdiv (wrap64 (x6_1 + (rd l0 x7_1))) 10000)) (wrap64 (x7_1 + 1))) else (none))) else (none)) else (if x7_1 < (l1.length : Int) then (if 0 ≤ x7_1 then (if x5_1.length < 17592186044416 then (merinoref01_addD.l0 kj2 l0 l1 (x5_1 ++ [Int.tmod (wrap64 (x6_1 + (rd l1 x7_1))) 10000]) (wrap64 (Int.tdiv (wrap64 (x6_1 + (rd l1 x7_1))) 10000)) (wrap64 (x7_1 + 1))) else (none)) else (none)) else (if x5_1.length < 17592186044416 then (merinoref01_addD.l0 kj2 l0 l1 (x5_1 ++ [Int.tmod x6_1 10000]) (wrap64 (Int.tdiv x6_1 10000)) (wrap64 (x7_1 + 1))) else (none)))) = some r := by rw [if_pos rfl] at H; exact H
            clear H
            have H := H1
            clear H1
            by_cases c7 : x7_1 < (l0.length : Int)
            · rw [if_pos c7] at H
              have c7b0 : decide (x7_1 < (l0.length : Int)) = true := decide_eq_true c7
              clear c7
              by_cases c8 : 0 ≤ x7_1
              · rw [if_pos c8] at H
                have c8b0 : decide (0 ≤ x7_1) = true := decide_eq_true c8
                clear c8
                by_cases c9 : x7_1 < (l1.length : Int)
                · rw [if_pos c9] at H
                  have c9b0 : decide (x7_1 < (l1.length : Int)) = true := decide_eq_true c9
                  clear c9
                  by_cases c10 : x5_1.length < 17592186044416
                  · rw [if_pos c10] at H
                    have LMc10 := Aside0.mk c10
                    clear c10
                    obtain ⟨y225, hy225⟩ : ∃ y_ : List Int, y_ = (x5_1 ++ [Int.tmod (wrap64 ((wrap64 (x6_1 + (rd l0 x7_1))) + (rd l1 x7_1))) 10000]) := ⟨_, rfl⟩
                    replace H : (merinoref01_addD.l0 kj2 l0 l1 y225 (wrap64 (Int.tdiv (wrap64 ((wrap64 (x6_1 + (rd l0 x7_1))) + (rd l1 x7_1))) 10000)) (wrap64 (x7_1 + 1))) = some r := by first | (rw [hy225]; with_reducible exact H) | (have H2_ := (Option.bind_some _ _).symm.trans H; rw [hy225]; with_reducible exact H2_) | (have H2_ := (Option.bind_some _ _).symm.trans H; with_reducible exact H2_) | with_reducible exact H | (rw [hy225]; exact H) | exact H
                    have Ny225 := Aside0.mk hy225
                    clear hy225
                    have H' := Aside0.mk H
                    clear H
                    have p223 : 0 ≤ (x7_1 : Int) := of_decide_eq_true (by first | (with_reducible assumption) | assumption)
                    have q223 : x7_1 < (l0.length : Int) := of_decide_eq_true (by first | (with_reducible assumption) | assumption)
                    obtain ⟨ad223, e223, hx223_0⟩ := Kd.at_int HR0.out x7_1 p223 q223
                    cases e223
                    replace hx223_0 := (HB.out.cell (World.block_lt_of_cell? w _ hx223_0)).trans hx223_0
                    replace p223 := eq_true p223
                    replace q223 := eq_true q223
                    have p224 : 0 ≤ (x7_1 : Int) := of_decide_eq_true (by first | (with_reducible assumption) | assumption)
                    have q224 : x7_1 < (l1.length : Int) := of_decide_eq_true (by first | (with_reducible assumption) | assumption)
                    obtain ⟨ad224, e224, hx224_0⟩ := Kd.at_int HR1.out x7_1 p224 q224
                    cases e224
                    replace hx224_0 := (HB.out.cell (World.block_lt_of_cell? w _ hx224_0)).trans hx224_0
                    replace p224 := eq_true p224
                    replace q224 := eq_true q224
                    go_wp2_with (first | ((with_reducible refine gate_builtin (b := .append) (xs := #[.tmp 46, .tmp 49]) rfl ?_); (try (refine gate_guard (by rfl) ?_; dsimp only)); at_builtin; refine Kd.R_append (Kd.int .i64) (w0 := w) w.heap.size rfl (.tmp 46) (.tmp 49) 29 3 (.int .i64 0) 8 rfl Tryd.underlying29 info3 rfl (by decide) (by omega) u5 x5_1 (Int.tmod (wrap64 ((wrap64 (x6_1 + (rd l0 x7_1))) + (rd l1 x7_1))) 10000) [.int .i64 (Int.tmod (wrap64 ((wrap64 (x6_1 + (rd l0 x7_1))) + (rd l1 x7_1))) 10000)] (fun _ => True) (fun _ => False) rfl rfl ?aP (fun _ hk => hk.elim) ?aF ?aO ?aB ?aS ?aL ?_; (case aP => exact rfl); (case aB => exact (q0_ HB.out)); (case aF => exact (fun _ _ => trivial)); (case aO => exact (qr_ HO_5.out)); (case aS => exact (below_size (q0_ HB.out))); (case aL => have := LMc10.out; omega); intro v226 w11 ho hb hg hat; rw [← Ny225.out] at ho; have n0_ := Aside0.mk (hb); have n1_ := Aside0.mk (ho); clear HB; clear HO_5; have HB := n0_; have HO227 := n1_; clear n0_ n1_; clear ho hb hg hat))
                    go_roundg kj2
                    case measure => have := HK1.out; have := HJ2.out; omega
                    case rel => exact ⟨(y225), (wrap64 (Int.tdiv (wrap64 ((wrap64 (x6_1 + (rd l0 x7_1))) + (rd l1 x7_1))) 10000)), (wrap64 (x7_1 + 1)), (by first | rfl | (simp; done) | (simp [*]; done)), (by first | rfl | (simp; done) | (simp [*]; done)), H', ⟨by have := HK1.out; have := HJ2.out; omega⟩, ⟨by (with_reducible repeat (first | apply Kd.R_alloc | apply Kd.R_drewN | apply Kd.R_drew)); exact HO227.out⟩, ⟨(q0_ HB.out)⟩⟩
                  · rw [if_neg c10] at H
                    exact absurd H (by simp)
                · rw [if_neg c9] at H
                  have c9b0 : decide (x7_1 < (l1.length : Int)) = false := decide_eq_false c9
                  clear c9
                  by_cases c12 : x5_1.length < 17592186044416
                  · rw [if_pos c12] at H
                    have LMc12 := Aside0.mk c12
                    clear c12
                    obtain ⟨y228, hy228⟩ : ∃ y_ : List Int, y_ = (x5_1 ++ [Int.tmod (wrap64 (x6_1 + (rd l0 x7_1))) 10000]) := ⟨_, rfl⟩
                    replace H : (merinoref01_addD.l0 kj2 l0 l1 y228 (wrap64 (Int.tdiv (wrap64 (x6_1 + (rd l0 x7_1))) 10000)) (wrap64 (x7_1 + 1))) = some r := by first | (rw [hy228]; with_reducible exact H) | (have H2_ := (Option.bind_some _ _).symm.trans H; rw [hy228]; with_reducible exact H2_) | (have H2_ := (Option.bind_some _ _).symm.trans H; with_reducible exact H2_) | with_reducible exact H | (rw [hy228]; exact H) | exact H
                    have Ny228 := Aside0.mk hy228
                    clear hy228
                    have H' := Aside0.mk H
                    clear H
                    have p223 : 0 ≤ (x7_1 : Int) := of_decide_eq_true (by first | (with_reducible assumption) | assumption)
                    have q223 : x7_1 < (l0.length : Int) := of_decide_eq_true (by first | (with_reducible assumption) | assumption)
                    obtain ⟨ad223, e223, hx223_0⟩ := Kd.at_int HR0.out x7_1 p223 q223
                    cases e223
                    replace hx223_0 := (HB.out.cell (World.block_lt_of_cell? w _ hx223_0)).trans hx223_0
                    replace p223 := eq_true p223
                    replace q223 := eq_true q223
                    go_wp2_with (first | ((with_reducible refine gate_builtin (b := .append) (xs := #[.tmp 46, .tmp 49]) rfl ?_); (try (refine gate_guard (by rfl) ?_; dsimp only)); at_builtin; refine Kd.R_append (Kd.int .i64) (w0 := w) w.heap.size rfl (.tmp 46) (.tmp 49) 29 3 (.int .i64 0) 8 rfl Tryd.underlying29 info3 rfl (by decide) (by omega) u5 x5_1 (Int.tmod (wrap64 (x6_1 + (rd l0 x7_1))) 10000) [.int .i64 (Int.tmod (wrap64 (x6_1 + (rd l0 x7_1))) 10000)] (fun _ => True) (fun _ => False) rfl rfl ?aP (fun _ hk => hk.elim) ?aF ?aO ?aB ?aS ?aL ?_; (case aP => exact rfl); (case aB => exact (q0_ HB.out)); (case aF => exact (fun _ _ => trivial)); (case aO => exact (qr_ HO_5.out)); (case aS => exact (below_size (q0_ HB.out))); (case aL => have := LMc12.out; omega); intro v229 w13 ho hb hg hat; rw [← Ny228.out] at ho; have n0_ := Aside0.mk (hb); have n1_ := Aside0.mk (ho); clear HB; clear HO_5; have HB := n0_; have HO230 := n1_; clear n0_ n1_; clear ho hb hg hat))
                    go_roundg kj2
                    case measure => have := HK1.out; have := HJ2.out; omega
                    case rel => exact ⟨(y228), (wrap64 (Int.tdiv (wrap64 (x6_1 + (rd l0 x7_1))) 10000)), (wrap64 (x7_1 + 1)), (by first | rfl | (simp; done) | (simp [*]; done)), (by first | rfl | (simp; done) | (simp [*]; done)), H', ⟨by have := HK1.out; have := HJ2.out; omega⟩, ⟨by (with_reducible repeat (first | apply Kd.R_alloc | apply Kd.R_drewN | apply Kd.R_drew)); exact HO230.out⟩, ⟨(q0_ HB.out)⟩⟩
                  · rw [if_neg c12] at H
                    exact absurd H (by simp)
              · rw [if_neg c8] at H
                exact absurd H (by simp)
            · rw [if_neg c7] at H
              have c7b0 : decide (x7_1 < (l0.length : Int)) = false := decide_eq_false c7
              clear c7
              by_cases c14 : x7_1 < (l1.length : Int)
              · rw [if_pos c14] at H
                have c14b0 : decide (x7_1 < (l1.length : Int)) = true := decide_eq_true c14
                clear c14
                by_cases c15 : 0 ≤ x7_1
                · rw [if_pos c15] at H
                  have c15b0 : decide (0 ≤ x7_1) = true := decide_eq_true c15
                  clear c15
                  by_cases c16 : x5_1.length < 17592186044416
                  · rw [if_pos c16] at H
                    have LMc16 := Aside0.mk c16
                    clear c16
                    obtain ⟨y232, hy232⟩ : ∃ y_ : List Int, y_ = (x5_1 ++ [Int.tmod (wrap64 (x6_1 + (rd l1 x7_1))) 10000]) := ⟨_, rfl⟩
                    replace H : (merinoref01_addD.l0 kj2 l0 l1 y232 (wrap64 (Int.tdiv (wrap64 (x6_1 + (rd l1 x7_1))) 10000)) (wrap64 (x7_1 + 1))) = some r := by first | (rw [hy232]; with_reducible exact H) | (have H2_ := (Option.bind_some _ _).symm.trans H; rw [hy232]; with_reducible exact H2_) | (have H2_ := (Option.bind_some _ _).symm.trans H; with_reducible exact H2_) | with_reducible exact H | (rw [hy232]; exact H) | exact H
                    have Ny232 := Aside0.mk hy232
                    clear hy232
                    have H' := Aside0.mk H
                    clear H
                    have p231 : 0 ≤ (x7_1 : Int) := of_decide_eq_true (by first | (with_reducible assumption) | assumption)
                    have q231 : x7_1 < (l1.length : Int) := of_decide_eq_true (by first | (with_reducible assumption) | assumption)
                    obtain ⟨ad231, e231, hx231_0⟩ := Kd.at_int HR1.out x7_1 p231 q231
                    cases e231
                    replace hx231_0 := (HB.out.cell (World.block_lt_of_cell? w _ hx231_0)).trans hx231_0
                    replace p231 := eq_true p231
                    replace q231 := eq_true q231
                    go_wp2_with (first | ((with_reducible refine gate_builtin (b := .append) (xs := #[.tmp 46, .tmp 49]) rfl ?_); (try (refine gate_guard (by rfl) ?_; dsimp only)); at_builtin; refine Kd.R_append (Kd.int .i64) (w0 := w) w.heap.size rfl (.tmp 46) (.tmp 49) 29 3 (.int .i64 0) 8 rfl Tryd.underlying29 info3 rfl (by decide) (by omega) u5 x5_1 (Int.tmod (wrap64 (x6_1 + (rd l1 x7_1))) 10000) [.int .i64 (Int.tmod (wrap64 (x6_1 + (rd l1 x7_1))) 10000)] (fun _ => True) (fun _ => False) rfl rfl ?aP (fun _ hk => hk.elim) ?aF ?aO ?aB ?aS ?aL ?_; (case aP => exact rfl); (case aB => exact (q0_ HB.out)); (case aF => exact (fun _ _ => trivial)); (case aO => exact (qr_ HO_5.out)); (case aS => exact (below_size (q0_ HB.out))); (case aL => have := LMc16.out; omega); intro v233 w17 ho hb hg hat; rw [← Ny232.out] at ho; have n0_ := Aside0.mk (hb); have n1_ := Aside0.mk (ho); clear HB; clear HO_5; have HB := n0_; have HO234 := n1_; clear n0_ n1_; clear ho hb hg hat))
                    go_roundg kj2
                    case measure => have := HK1.out; have := HJ2.out; omega
                    case rel => exact ⟨(y232), (wrap64 (Int.tdiv (wrap64 (x6_1 + (rd l1 x7_1))) 10000)), (wrap64 (x7_1 + 1)), (by first | rfl | (simp; done) | (simp [*]; done)), (by first | rfl | (simp; done) | (simp [*]; done)), H', ⟨by have := HK1.out; have := HJ2.out; omega⟩, ⟨by (with_reducible repeat (first | apply Kd.R_alloc | apply Kd.R_drewN | apply Kd.R_drew)); exact HO234.out⟩, ⟨(q0_ HB.out)⟩⟩
                  · rw [if_neg c16] at H
                    exact absurd H (by simp)
                · rw [if_neg c15] at H
                  exact absurd H (by simp)
              · rw [if_neg c14] at H
                have c14b0 : decide (x7_1 < (l1.length : Int)) = false := decide_eq_false c14
                clear c14
                by_cases c18 : x5_1.length < 17592186044416
                · rw [if_pos c18] at H
                  have LMc18 := Aside0.mk c18
                  clear c18
                  obtain ⟨y235, hy235⟩ : ∃ y_ : List Int, y_ = (x5_1 ++ [Int.tmod x6_1 10000]) := ⟨_, rfl⟩
                  replace H : (merinoref01_addD.l0 kj2 l0 l1 y235 (wrap64 (Int.tdiv x6_1 10000)) (wrap64 (x7_1 + 1))) = some r := by first | (rw [hy235]; with_reducible exact H) | (have H2_ := (Option.bind_some _ _).symm.trans H; rw [hy235]; with_reducible exact H2_) | (have H2_ := (Option.bind_some _ _).symm.trans H; with_reducible exact H2_) | with_reducible exact H | (rw [hy235]; exact H) | exact H
                  have Ny235 := Aside0.mk hy235
                  clear hy235
                  have H' := Aside0.mk H
                  clear H
                  go_wp2_with (first | ((with_reducible refine gate_builtin (b := .append) (xs := #[.tmp 46, .tmp 49]) rfl ?_); (try (refine gate_guard (by rfl) ?_; dsimp only)); at_builtin; refine Kd.R_append (Kd.int .i64) (w0 := w) w.heap.size rfl (.tmp 46) (.tmp 49) 29 3 (.int .i64 0) 8 rfl Tryd.underlying29 info3 rfl (by decide) (by omega) u5 x5_1 (Int.tmod x6_1 10000) [.int .i64 (Int.tmod x6_1 10000)] (fun _ => True) (fun _ => False) rfl rfl ?aP (fun _ hk => hk.elim) ?aF ?aO ?aB ?aS ?aL ?_; (case aP => exact rfl); (case aB => exact (q0_ HB.out)); (case aF => exact (fun _ _ => trivial)); (case aO => exact (qr_ HO_5.out)); (case aS => exact (below_size (q0_ HB.out))); (case aL => have := LMc18.out; omega); intro v236 w19 ho hb hg hat; rw [← Ny235.out] at ho; have n0_ := Aside0.mk (hb); have n1_ := Aside0.mk (ho); clear HB; clear HO_5; have HB := n0_; have HO237 := n1_; clear n0_ n1_; clear ho hb hg hat))
                  go_roundg kj2
                  case measure => have := HK1.out; have := HJ2.out; omega
                  case rel => exact ⟨(y235), (wrap64 (Int.tdiv x6_1 10000)), (wrap64 (x7_1 + 1)), (by first | rfl | (simp; done) | (simp [*]; done)), (by first | rfl | (simp; done) | (simp [*]; done)), H', ⟨by have := HK1.out; have := HJ2.out; omega⟩, ⟨by (with_reducible repeat (first | apply Kd.R_alloc | apply Kd.R_drewN | apply Kd.R_drew)); exact HO237.out⟩, ⟨(q0_ HB.out)⟩⟩
                · rw [if_neg c18] at H
                  exact absurd H (by simp)
          · replace c6 := Bool.eq_false_iff.mpr c6
            subst c6
            have H1 : (some x5_1) = some r := by rw [if_neg (show ¬ (false = true) by decide)] at H; exact H
            clear H
            have H := H1
            clear H1
            obtain rfl := Option.some.inj H
            go_wp2
            go_ret
            exact ⟨_, by first | rfl | (simp [errW_none, errW_some] <;> rfl) | (simp [*, errW_none, errW_some] <;> rfl), by (with_reducible repeat (first | apply Kd.R_alloc | apply Kd.R_drewN | apply Kd.R_drew)); exact HO_5.out, (q0_ HB.out)⟩
def merinoref01_Plus.f (k : Nat) (a0_0 : Bool) (l0_1 : List Int) (a1_0 : Bool) (l1_1 : List Int) : Option (Bool × List Int) := if (a0_0 == a1_0) = true then ((merinoref01_addD.f k l0_1 l1_1).bind fun t258 => ((merinoref01_whole.f k a0_0 t258).bind fun bt261 => (some (bt261.1, bt261.2)))) else ((merinoref01_cmpD.f k l0_1 l1_1).bind fun t265 => (if t265 ≥ 0 then ((merinoref01_subD.f k l0_1 l1_1).bind fun t266 => ((merinoref01_whole.f k a0_0 t266).bind fun bt269 => (some (bt269.1, bt269.2)))) else ((merinoref01_subD.f k l1_1 l0_1).bind fun t273 => ((merinoref01_whole.f k a1_0 t273).bind fun bt276 => (some (bt276.1, bt276.2))))))
theorem merinoref01_Plus.mono : ∀ a0 a1 a2 a3 k, LeO (merinoref01_Plus.f k a0 a1 a2 a3) (merinoref01_Plus.f (k + 1) a0 a1 a2 a3) := by
  intro a0 a1 a2 a3 k
  unfold merinoref01_Plus.f
  repeat' first
      | (with_reducible exact merinoref01_addD.mono _ _ _)
      | (with_reducible exact merinoref01_cmpD.mono _ _ _)
      | (with_reducible exact merinoref01_subD.mono _ _ _)
      | (with_reducible exact merinoref01_whole.mono _ _ _)
      | (with_reducible exact LeO.refl _)
      | (with_reducible exact LeO.none _)
      | (with_reducible refine LeO.ite ?_ ?_)
      | (with_reducible refine LeO.bind ?_ (fun _ => ?_))
      | exact merinoref01_addD.mono _ _ _
      | exact merinoref01_cmpD.mono _ _ _
      | exact merinoref01_subD.mono _ _ _
      | exact merinoref01_whole.mono _ _ _
      | exact LeO.none _
      | refine LeO.ite ?_ ?_
      | refine LeO.bind ?_ (fun _ => ?_)
def merinoref01_Plus.T2 : Bool × List (List Nat × List Nat) := (true, [([], []), ([0], [0]), ([], []), ([2], [2]), ([], []), ([4], [4]), ([3, 5], [3, 5]), ([1, 6, 6], [1, 6]), ([7, 7, 0, 1, 2, 3, 4, 5, 6, 7], [7])])
def merinoref01_Plus.B2 : List Nat := [0, 1, 0, 4, 0, 16, 60, 127, 255]
theorem merinoref01_Plus.tab2 : rtab .any (opsOf Tryd.f84 2) = merinoref01_Plus.T2 := by kernel_rfl
theorem merinoref01_Plus.bits2 : waitsOk merinoref01_Plus.T2.2 merinoref01_Plus.B2 = true := by kernel_rfl
def merinoref01_Plus.T4 : Bool × List (List Nat × List Nat) := (true, [([], []), ([0], [0]), ([], []), ([2], [2]), ([], []), ([4], [4]), ([3, 5], [3, 5]), ([1, 6, 6], [1, 6]), ([7, 7, 0, 1, 2, 3, 4, 5, 6, 7], [7])])
def merinoref01_Plus.B4 : List Nat := [0, 1, 0, 4, 0, 16, 60, 127, 255]
theorem merinoref01_Plus.tab4 : rtab .any (opsOf Tryd.f84 4) = merinoref01_Plus.T4 := by kernel_rfl
theorem merinoref01_Plus.bits4 : waitsOk merinoref01_Plus.T4.2 merinoref01_Plus.B4 = true := by kernel_rfl
def merinoref01_Plus.T5 : Bool × List (List Nat × List Nat) := (true, [([], []), ([0], [0]), ([], []), ([2], [2]), ([], []), ([4], [4]), ([3, 5], [3, 5]), ([1, 6, 6], [1, 6]), ([7, 7, 0, 1, 2, 3, 4, 5, 6, 7], [7])])
def merinoref01_Plus.B5 : List Nat := [0, 1, 0, 4, 0, 16, 60, 127, 255]
theorem merinoref01_Plus.tab5 : rtab .any (opsOf Tryd.f84 5) = merinoref01_Plus.T5 := by kernel_rfl
theorem merinoref01_Plus.bits5 : waitsOk merinoref01_Plus.T5.2 merinoref01_Plus.B5 = true := by kernel_rfl
set_option maxHeartbeats 8000000 in
set_option maxRecDepth 100000 in
theorem merinoref01_Plus.calls (k : Nat) (a0_0 : Bool) (A0_1 : Option Addr) (c0_1 : Nat) (l0_1 : List Int) (a1_0 : Bool) (A1_1 : Option Addr) (c1_1 : Nat) (l1_1 : List Int) (r1 : Bool) (r2 : List Int) (w : World) (hr0_1 : Kd.C (Kd.int .i64) w A0_1 l0_1.length l0_1) (hc0_1 : l0_1.length ≤ c0_1) (hr1_1 : Kd.C (Kd.int .i64) w A1_1 l1_1.length l1_1) (hc1_1 : l1_1.length ≤ c1_1) (h : merinoref01_Plus.f k a0_0 l0_1 a1_0 l1_1 = some (r1, r2)) :
    Calls Tryd.prog 84 #[.agg #[.bool a0_0, .slice A0_1 l0_1.length c0_1], .agg #[.bool a1_0, .slice A1_1 l1_1.length c1_1]] w fun e w' => ∃ v1_ : Value, e = .returned (.agg #[.bool r1, v1_]) ∧ Kd.R (Kd.int .i64) 3 w' w.heap.size (fun _ => True) v1_ r2 ∧ Below w.heap.size w w' := by
  have hu31 := Tryd.underlying31
  have HR0_1 := Aside0.mk hr0_1
  have HC0_1 := Aside0.mk hc0_1
  clear hr0_1 hc0_1
  have HR1_1 := Aside0.mk hr1_1
  have HC1_1 := Aside0.mk hc1_1
  clear hr1_1 hc1_1
  have HB := Aside0.mk (Below.refl w.heap.size w)
  have H : (if (a0_0 == a1_0) = true then ((merinoref01_addD.f k l0_1 l1_1).bind fun t258 => ((merinoref01_whole.f k a0_0 t258).bind fun bt261 => (some (bt261.1, bt261.2)))) else ((merinoref01_cmpD.f k l0_1 l1_1).bind fun t265 => (if t265 ≥ 0 then ((merinoref01_subD.f k l0_1 l1_1).bind fun t266 => ((merinoref01_whole.f k a0_0 t266).bind fun bt269 => (some (bt269.1, bt269.2)))) else ((merinoref01_subD.f k l1_1 l0_1).bind fun t273 => ((merinoref01_whole.f k a1_0 t273).bind fun bt276 => (some (bt276.1, bt276.2))))))) = some (r1, r2) := h
  clear h
  by_cases c3 : (a0_0 == a1_0) = true
  · rw [if_pos c3] at H
    have c3b0 : (a0_0 == a1_0) = true := c3
    (try (have c3b1 : decide (a0_0 = a1_0) = true := by simpa using c3))
    (try (have c3b2 : (a0_0 == a1_0) = true := by simpa using c3))
    clear c3
    replace H := Option.bind_eq_some_iff.mp H
    obtain ⟨t258, A40, H⟩ := H
    replace H : ((merinoref01_whole.f k a0_0 t258).bind fun bt261 => (some (bt261.1, bt261.2))) = some (r1, r2) := H
    have A4 := Aside0.mk A40
    clear A40
    replace H := Option.bind_eq_some_iff.mp H
    obtain ⟨⟨t261, t262⟩, A50, H⟩ := H
    replace H : (some (t261, t262)) = some (r1, r2) := H
    have A5 := Aside0.mk A50
    clear A50
    simp only [Option.some.injEq, Prod.mk.injEq] at H
    obtain ⟨rfl, rfl⟩ := H
    go_enter Tryd.func84, Tryd.ntmps84
    try go_wp2_with (first | ((with_reducible refine gate_dst (N := 2) rfl ?_); refine box_event ?hg (N := 2) ?hd (cs := #[.bool a0_0, .slice A0_1 l0_1.length c0_1]) (t := 31) ?hr ?_; (case hd => rfl); (case hg => rfl); (case hr => first | (go_simp; done) | (go_simp; rfl)); intro gb255 hg w6 hbox hb; have n0_ := Aside0.mk (below_step (q0_ HB.out) hb); have n1_ := Aside0.mk (hbox); have n2_ := Aside0.mk ((by rw [hg]; exact (below_size (q0_ HB.out)) : w.heap.size ≤ gb255)); have n3_ := Aside0.mk ((by rw [hg]; exact (below_size (q0_ HB.out)) : w.heap.size ≤ gb255)); clear HB; have HB := n0_; have BK255 := n1_; have GW255 := n2_; have GE255 := n3_; clear n0_ n1_ n2_ n3_; clear hb hbox hg) | ((with_reducible refine gate_dst (N := 3) rfl ?_); refine box_event ?hg (N := 3) ?hd (cs := #[.bool a1_0, .slice A1_1 l1_1.length c1_1]) (t := 31) ?hr ?_; (case hd => rfl); (case hg => rfl); (case hr => first | (go_simp; done) | (go_simp; rfl)); intro gb256 hg w7 hbox hb; have n0_ := Aside0.mk (blk_below (g := gb255) (o := .cells #[.bool a0_0, .slice A0_1 l0_1.length c0_1] 31 (0, 0)) (qb_ BK255.out) hb); have n1_ := Aside0.mk (below_step (q1_ HB.out GE255.out) hb); have n2_ := Aside0.mk (hbox); have n3_ := Aside0.mk ((by rw [hg]; exact (below_size (q1_ HB.out GE255.out)) : w.heap.size ≤ gb256)); have n4_ := Aside0.mk ((by rw [hg]; exact (below_size (q1_ HB.out GE255.out)) : w.heap.size ≤ gb256)); have n5_ := Aside0.mk ((by rw [hg]; exact Nat.ne_of_lt (blk_lt (g := gb255) (o := .cells #[.bool a0_0, .slice A0_1 l0_1.length c0_1] 31 (0, 0)) (qb_ BK255.out)) : gb255 ≠ gb256)); have n6_ := Aside0.mk ((by rw [hg]; exact Nat.ne_of_gt (blk_lt (g := gb255) (o := .cells #[.bool a0_0, .slice A0_1 l0_1.length c0_1] 31 (0, 0)) (qb_ BK255.out)) : gb256 ≠ gb255)); clear BK255; clear HB; have BK255 := n0_; have HB := n1_; have BK256 := n2_; have GW256 := n3_; have GE256 := n4_; have NB255_256 := n5_; have NB256_255 := n6_; clear n0_ n1_ n2_ n3_ n4_ n5_ n6_; clear hb hbox hg) | ((with_reducible refine gate_dst (N := 4) rfl ?_); refine box_event ?hg (N := 4) ?hd (cs := #[.bool false, .slice none 0 0]) (t := 31) ?hr ?_; (case hd => rfl); (case hg => rfl); (case hr => first | (go_simp; done) | (go_simp; rfl)); intro gb257 hg w8 hbox hb; have n0_ := Aside0.mk (blk_below (g := gb255) (o := .cells #[.bool a0_0, .slice A0_1 l0_1.length c0_1] 31 (0, 0)) (qb_ BK255.out) hb); have n1_ := Aside0.mk (blk_below (g := gb256) (o := .cells #[.bool a1_0, .slice A1_1 l1_1.length c1_1] 31 (0, 0)) (qb_ BK256.out) hb); have n2_ := Aside0.mk (below_step (q2_ HB.out GE255.out GE256.out) hb); have n3_ := Aside0.mk (hbox); have n4_ := Aside0.mk ((by rw [hg]; exact (below_size (q2_ HB.out GE255.out GE256.out)) : w.heap.size ≤ gb257)); have n5_ := Aside0.mk ((by rw [hg]; exact (below_size (q2_ HB.out GE255.out GE256.out)) : w.heap.size ≤ gb257)); have n6_ := Aside0.mk ((by rw [hg]; exact Nat.ne_of_lt (blk_lt (g := gb255) (o := .cells #[.bool a0_0, .slice A0_1 l0_1.length c0_1] 31 (0, 0)) (qb_ BK255.out)) : gb255 ≠ gb257)); have n7_ := Aside0.mk ((by rw [hg]; exact Nat.ne_of_gt (blk_lt (g := gb255) (o := .cells #[.bool a0_0, .slice A0_1 l0_1.length c0_1] 31 (0, 0)) (qb_ BK255.out)) : gb257 ≠ gb255)); have n8_ := Aside0.mk ((by rw [hg]; exact Nat.ne_of_lt (blk_lt (g := gb256) (o := .cells #[.bool a1_0, .slice A1_1 l1_1.length c1_1] 31 (0, 0)) (qb_ BK256.out)) : gb256 ≠ gb257)); have n9_ := Aside0.mk ((by rw [hg]; exact Nat.ne_of_gt (blk_lt (g := gb256) (o := .cells #[.bool a1_0, .slice A1_1 l1_1.length c1_1] 31 (0, 0)) (qb_ BK256.out)) : gb257 ≠ gb256)); clear BK255; clear BK256; clear HB; have BK255 := n0_; have BK256 := n1_; have HB := n2_; have BK257 := n3_; have GW257 := n4_; have GE257 := n5_; have NB255_257 := n6_; have NB257_255 := n7_; have NB256_257 := n8_; have NB257_256 := n9_; clear n0_ n1_ n2_ n3_ n4_ n5_ n6_ n7_ n8_ n9_; clear hb hbox hg; have hnb9 := NB255_256.out; have hnc9 := NB256_255.out; have hnb10 := NB255_257.out; have hnc10 := NB257_255.out; have hcz11_0 : w8.cell? ⟨gb255, 0, none⟩ = some (.bool a0_0) := (blk_cell BK255.out 0).trans rfl; have hcz11_1 : w8.cell? ⟨gb255, 1, none⟩ = some (.slice A0_1 l0_1.length c0_1) := (blk_cell BK255.out 1).trans rfl; have hfz11_0 := blk_frozen BK255.out 0; have hfz11_1 := blk_frozen BK255.out 1; have hnb12 := NB256_257.out; have hnc12 := NB257_256.out; have hcz13_0 : w8.cell? ⟨gb256, 0, none⟩ = some (.bool a1_0) := (blk_cell BK256.out 0).trans rfl; have hcz13_1 : w8.cell? ⟨gb256, 1, none⟩ = some (.slice A1_1 l1_1.length c1_1) := (blk_cell BK256.out 1).trans rfl; have hfz13_0 := blk_frozen BK256.out 0; have hfz13_1 := blk_frozen BK256.out 1))
    have n0_ := Aside0.mk (blk_drew BK255.out)
    have n1_ := Aside0.mk (blk_drew BK256.out)
    have n2_ := Aside0.mk (blk_drew BK257.out)
    have n3_ := Aside0.mk (below_drew1 HB.out)
    clear BK255
    clear BK256
    clear BK257
    clear HB
    have BK255 := n0_
    have BK256 := n1_
    have BK257 := n2_
    have HB := n3_
    clear n0_ n1_ n2_ n3_
    refine start_ (n := 9) (S := fun w' => w'.cell? ⟨gb255, 0, none⟩ = some (.bool a0_0) ∧ w'.cell? ⟨gb255, 1, none⟩ = some (.slice A0_1 l0_1.length c0_1) ∧ w'.cell? ⟨gb256, 0, none⟩ = some (.bool a1_0) ∧ w'.cell? ⟨gb256, 1, none⟩ = some (.slice A1_1 l1_1.length c1_1)) (ds := []) #[false, false, false, false, false, false, false, false, false] (by kernel_rfl) rfl rfl ⟨(blk_cell BK255.out 0).trans rfl, (blk_cell BK255.out 1).trans rfl, (blk_cell BK256.out 0).trans rfl, (blk_cell BK256.out 1).trans rfl⟩ (fun hHeld => ?_); refine with_tabW merinoref01_Plus.tab2 merinoref01_Plus.bits2 (fun HT_ HW_ => ?_)
    generalize w8.drew = w14 at BK255 BK256 BK257 HB hHeld ⊢
    refine pure_ (i := 0) (N := some 10) (v := ?_) (a' := ?_) #[true, false, false, false, false, false, false, false, false] rfl rfl (any_of HT_.out (by kernel_rfl)) (fun _ _ _ h => h) (Or.inl ⟨by rfl, ?_⟩) ?_ ?_
    rotate_left
    · intro w'
      go_simp
      with_reducible rfl
    rotate_left
    · simp only [Act.put, List.setIfInBounds_toArray, List.set_cons_zero, List.set_cons_succ, i64_w, i32_w]
      rfl
    refine pure_ (i := 2) (N := some 12) (v := ?_) (a' := ?_) #[true, false, true, false, false, false, false, false, false] rfl rfl (any_of HT_.out (by kernel_rfl)) (fun _ _ _ h => h) (Or.inl ⟨by rfl, ?_⟩) ?_ ?_
    rotate_left
    · intro w'
      go_simp
      with_reducible rfl
    rotate_left
    · simp only [Act.put, List.setIfInBounds_toArray, List.set_cons_zero, List.set_cons_succ, i64_w, i32_w]
      rfl
    refine pure_ (i := 4) (N := some 14) (v := ?_) (a' := ?_) #[true, false, true, false, true, false, false, false, false] rfl rfl (any_of HT_.out (by kernel_rfl)) (fun _ _ _ h => h) (Or.inl ⟨by rfl, ?_⟩) ?_ ?_
    rotate_left
    · intro w'
      go_simp
      with_reducible rfl
    rotate_left
    · simp only [Act.put, List.setIfInBounds_toArray, List.set_cons_zero, List.set_cons_succ, i64_w, i32_w]
      rfl
    refine take_ (i := 1) (N := some 11) (v := ?_) (a' := ?_) #[true, true, true, false, true, false, false, false, false] rfl rfl (take_ofW HT_.out HW_.out (by kernel_rfl)) (fun _ _ _ h => h) (Or.inl ⟨by rfl, ?_⟩) hHeld ?_ ?_
    rotate_left
    · rintro w' ⟨s0, s1, s2, s3⟩
      go_simp
      with_reducible rfl
    rotate_left
    · simp only [Act.put, List.setIfInBounds_toArray, List.set_cons_zero, List.set_cons_succ, i64_w, i32_w]
      rfl
    refine take_ (i := 3) (N := some 13) (v := ?_) (a' := ?_) #[true, true, true, true, true, false, false, false, false] rfl rfl (take_ofW HT_.out HW_.out (by kernel_rfl)) (fun _ _ _ h => h) (Or.inl ⟨by rfl, ?_⟩) hHeld ?_ ?_
    rotate_left
    · rintro w' ⟨s0, s1, s2, s3⟩
      go_simp
      with_reducible rfl
    rotate_left
    · simp only [Act.put, List.setIfInBounds_toArray, List.set_cons_zero, List.set_cons_succ, i64_w, i32_w]
      rfl
    refine take_ (i := 5) (N := some 15) (v := ?_) (a' := ?_) #[true, true, true, true, true, true, false, false, false] rfl rfl (take_ofW HT_.out HW_.out (by kernel_rfl)) (fun _ _ _ h => h) (Or.inl ⟨by rfl, ?_⟩) hHeld ?_ ?_
    rotate_left
    · rintro w' ⟨s0, s1, s2, s3⟩
      go_simp
      with_reducible rfl
    rotate_left
    · simp only [Act.put, List.setIfInBounds_toArray, List.set_cons_zero, List.set_cons_succ, i64_w, i32_w]
      rfl
    refine one_ (i := 6) (N := some 16) #[true, true, true, true, true, true, true, false, false] rfl rfl (one_of HT_.out (by kernel_rfl)) (by decide) (fun K hK => ?_)
    refine goes_ Tryd.func106 (by kernel_rfl) rfl #[.slice A0_1 l0_1.length c0_1, .slice A1_1 l1_1.length c1_1] (by rfl) rfl rfl qe_ ?_
    with_reducible refine (merinoref01_addD.calls k _ _ l0_1 _ _ l1_1 t258 _ ?side1 ?side2 ?side3 ?side4 A4.out).mono ?_
    (case side1 => exact qc_ (Kd.C_below HR0_1.out HB.out))
    (case side2 => exact HC0_1.out)
    (case side3 => exact qc_ (Kd.C_below HR1_1.out HB.out))
    (case side4 => exact HC1_1.out)
    rintro e w15 ⟨v259, rfl, ho0, hb⟩
    refine ⟨_, rfl, ?_⟩
    have n0_ := Aside0.mk (Kd.R_lower ho0 (below_size (q3_ HB.out GE255.out GE256.out GE257.out)))
    have n1_ := Aside0.mk (blk_below (g := gb255) (o := .cells #[.bool a0_0, .slice A0_1 l0_1.length c0_1] 31 (0, 0)) (qb_ BK255.out) hb)
    have n2_ := Aside0.mk (blk_below (g := gb256) (o := .cells #[.bool a1_0, .slice A1_1 l1_1.length c1_1] 31 (0, 0)) (qb_ BK256.out) hb)
    have n3_ := Aside0.mk (blk_below (g := gb257) (o := .cells #[.bool false, .slice none 0 0] 31 (0, 0)) (qb_ BK257.out) hb)
    have n4_ := Aside0.mk (below_step (q3_ HB.out GE255.out GE256.out GE257.out) hb)
    clear BK255
    clear BK256
    clear BK257
    clear HB
    have HO260 := n0_
    have BK255 := n1_
    have BK256 := n2_
    have BK257 := n3_
    have HB := n4_
    clear n0_ n1_ n2_ n3_ n4_
    (try clear hb)
    (try clear hb2)
    (try clear hk)
    (try clear hi)
    (try clear ho0)
    obtain ⟨Ao16, co16, eo16⟩ := Kd.R_slice HO260.out
    (first | subst eo16 | (injection eo16 with f1_ f2_ f3_; have f4_ := f1_.symm; have f5_ := f3_.symm; clear f1_ f2_ f3_; subst f4_; subst f5_))
    refine hK.out _ _ ⟨(blk_cell BK255.out 0).trans rfl, (blk_cell BK255.out 1).trans rfl, (blk_cell BK256.out 0).trans rfl, (blk_cell BK256.out 1).trans rfl⟩ (fun hHeld => ?_)
    clear hK K
    refine norm_ (a' := ?_) ?_ ?_
    rotate_left
    · show Act.put _ (some 16) _ = _
      simp only [Act.put, List.setIfInBounds_toArray, List.set_cons_zero, List.set_cons_succ, i64_w, i32_w]
      rfl
    refine one_ (i := 7) (N := some 17) #[true, true, true, true, true, true, true, true, false] rfl rfl (one_of HT_.out (by kernel_rfl)) (by decide) (fun K hK => ?_)
    refine goes_ Tryd.func73 (by kernel_rfl) rfl #[.bool a0_0, .slice Ao16 t258.length co16] (by rfl) rfl rfl qe_ ?_
    with_reducible refine (merinoref01_whole.calls k a0_0 _ _ t258 t261 t262 _ ?side1 ?side2 A5.out).mono ?_
    (case side1 => exact qc_ (Kd.R_reads' HO260.out).2.2)
    (case side2 => exact (Kd.R_reads' HO260.out).2.1)
    rintro e w17 ⟨v263, rfl, ho0, hb⟩
    refine ⟨_, rfl, ?_⟩
    have n0_ := Aside0.mk (Kd.R_elder' (qr_ HO260.out) (Kd.R_base ho0) hb)
    have n1_ := Aside0.mk (Kd.R_lower (Kd.R_new' ho0 (Kd.R_lt (qr_ HO260.out))) (below_size (q3_ HB.out GE255.out GE256.out GE257.out)))
    have n2_ := Aside0.mk (blk_below (g := gb255) (o := .cells #[.bool a0_0, .slice A0_1 l0_1.length c0_1] 31 (0, 0)) (qb_ BK255.out) hb)
    have n3_ := Aside0.mk (blk_below (g := gb256) (o := .cells #[.bool a1_0, .slice A1_1 l1_1.length c1_1] 31 (0, 0)) (qb_ BK256.out) hb)
    have n4_ := Aside0.mk (blk_below (g := gb257) (o := .cells #[.bool false, .slice none 0 0] 31 (0, 0)) (qb_ BK257.out) hb)
    have n5_ := Aside0.mk (below_step (q3_ HB.out GE255.out GE256.out GE257.out) hb)
    clear HO260
    clear BK255
    clear BK256
    clear BK257
    clear HB
    have HO260 := n0_
    have HO264 := n1_
    have BK255 := n2_
    have BK256 := n3_
    have BK257 := n4_
    have HB := n5_
    clear n0_ n1_ n2_ n3_ n4_ n5_
    (try clear hb)
    (try clear hb2)
    (try clear hk)
    (try clear hi)
    (try clear ho0)
    obtain ⟨Ao19, co19, eo19⟩ := Kd.R_slice HO264.out
    (first | subst eo19 | (injection eo19 with f1_ f2_ f3_; have f4_ := f1_.symm; have f5_ := f3_.symm; clear f1_ f2_ f3_; subst f4_; subst f5_))
    refine hK.out _ _ ⟨(blk_cell BK255.out 0).trans rfl, (blk_cell BK255.out 1).trans rfl, (blk_cell BK256.out 0).trans rfl, (blk_cell BK256.out 1).trans rfl⟩ (fun hHeld => ?_)
    clear hK K
    refine norm_ (a' := ?_) ?_ ?_
    rotate_left
    · show Act.put _ (some 17) _ = _
      simp only [Act.put, List.setIfInBounds_toArray, List.set_cons_zero, List.set_cons_succ, i64_w, i32_w]
      rfl
    refine one_ (i := 8) (N := none) #[true, true, true, true, true, true, true, true, true] rfl rfl (one_of HT_.out (by kernel_rfl)) (by decide) (fun K hK => ?_)
    have hs18 : w17.cell? ⟨gb257, 0, none⟩ = some (.bool false) := (blk_cell BK257.out 0).trans rfl
    have hfs18 := blk_frozen BK257.out 0
    have hns18_0 := NB255_257.out
    have hns18_1 := NB256_257.out
    have hms18_0 := NB257_255.out
    have hms18_1 := NB257_256.out
    have hs20 : w17.cell? ⟨gb257, 1, none⟩ = some (.slice none 0 0) := (blk_cell BK257.out 1).trans rfl
    have hfs20 := blk_frozen BK257.out 1
    have hns20_0 := NB255_257.out
    have hns20_1 := NB256_257.out
    have hms20_0 := NB257_255.out
    have hms20_1 := NB257_256.out
    refine skip_ (w1 := ?_) (by rfl) rfl ?_ ?_
    rotate_left
    · go_simp
      rfl
    refine hK.out _ _ ⟨((cell_far (p := ⟨gb257, _, none⟩) NB255_257.out _).trans (((cell_far (p := ⟨gb257, _, none⟩) NB255_257.out _).trans (hHeld.1)))), ((cell_far (p := ⟨gb257, _, none⟩) NB255_257.out _).trans (((cell_far (p := ⟨gb257, _, none⟩) NB255_257.out _).trans (hHeld.2.1)))), ((cell_far (p := ⟨gb257, _, none⟩) NB256_257.out _).trans (((cell_far (p := ⟨gb257, _, none⟩) NB256_257.out _).trans (hHeld.2.2.1)))), ((cell_far (p := ⟨gb257, _, none⟩) NB256_257.out _).trans (((cell_far (p := ⟨gb257, _, none⟩) NB256_257.out _).trans (hHeld.2.2.2))))⟩ (fun hHeld => ?_)
    clear hK K
    refine done_ (done_of HT_.out (by kernel_rfl)) ?_
    try go_wp2
    refine bodyPost_ret (results_cell_row rfl _ _ gb257 31 #[.bool t261, .slice Ao19 t262.length co19] (0, 0) _ rfl (by (with_reducible repeat (first | refine blk_drewN ?_ _ | refine blk_drew ?_ | refine blk_alloc ?_ _)); refine blk_put (cs := #[.bool t261, .slice none 0 0]) ?_ 1 _ rfl; (with_reducible repeat (first | refine blk_drewN ?_ _ | refine blk_drew ?_ | refine blk_alloc ?_ _)); refine blk_put (cs := #[.bool false, .slice none 0 0]) ?_ 0 _ rfl; (with_reducible repeat (first | refine blk_drewN ?_ _ | refine blk_drew ?_ | refine blk_alloc ?_ _)); exact BK257.out) Tryd.underlying31 rfl (by kernel_rfl)) rfl ?_
    exact ⟨_, by first | rfl | (simp [errW_none, errW_some] <;> rfl) | (simp [*, errW_none, errW_some] <;> rfl), by (with_reducible repeat (first | apply Kd.R_alloc | apply Kd.R_drewN | apply Kd.R_drew)); exact Kd.R_mono (Kd.R_far (p := ⟨gb257, 1, none⟩) (Kd.R_far (p := ⟨gb257, 0, none⟩) (Kd.R_types HO264.out BK257.out (by decide)) (fun _ hk => hk.2) (.bool t261)) (fun _ hk => hk.2) (.slice Ao19 t262.length co19)) (fun _ hk => trivial), (q3_ HB.out GE255.out GE256.out GE257.out)⟩
  · rw [if_neg c3] at H
    have c3b0 : (a0_0 == a1_0) = false := by simpa using c3
    (try (have c3b1 : decide (a0_0 = a1_0) = false := by simpa using c3))
    (try (have c3b2 : (a0_0 == a1_0) = false := by simpa using c3))
    (try (have c3b3 : ¬ (a0_0 = a1_0) := by simpa using c3))
    clear c3
    replace H := Option.bind_eq_some_iff.mp H
    obtain ⟨t265, A210, H⟩ := H
    replace H : (if t265 ≥ 0 then ((merinoref01_subD.f k l0_1 l1_1).bind fun t266 => ((merinoref01_whole.f k a0_0 t266).bind fun bt269 => (some (bt269.1, bt269.2)))) else ((merinoref01_subD.f k l1_1 l0_1).bind fun t273 => ((merinoref01_whole.f k a1_0 t273).bind fun bt276 => (some (bt276.1, bt276.2))))) = some (r1, r2) := H
    have A21 := Aside0.mk A210
    clear A210
    by_cases c22 : t265 ≥ 0
    · rw [if_pos c22] at H
      have c22b0 : decide (0 ≤ t265) = true := decide_eq_true c22
      clear c22
      replace H := Option.bind_eq_some_iff.mp H
      obtain ⟨t266, A230, H⟩ := H
      replace H : ((merinoref01_whole.f k a0_0 t266).bind fun bt269 => (some (bt269.1, bt269.2))) = some (r1, r2) := H
      have A23 := Aside0.mk A230
      clear A230
      replace H := Option.bind_eq_some_iff.mp H
      obtain ⟨⟨t269, t270⟩, A240, H⟩ := H
      replace H : (some (t269, t270)) = some (r1, r2) := H
      have A24 := Aside0.mk A240
      clear A240
      simp only [Option.some.injEq, Prod.mk.injEq] at H
      obtain ⟨rfl, rfl⟩ := H
      go_enter Tryd.func84, Tryd.ntmps84
      try go_wp2_with (first | ((with_reducible refine gate_dst (N := 2) rfl ?_); refine box_event ?hg (N := 2) ?hd (cs := #[.bool a0_0, .slice A0_1 l0_1.length c0_1]) (t := 31) ?hr ?_; (case hd => rfl); (case hg => rfl); (case hr => first | (go_simp; done) | (go_simp; rfl)); intro gb255 hg w25 hbox hb; have n0_ := Aside0.mk (below_step (q0_ HB.out) hb); have n1_ := Aside0.mk (hbox); have n2_ := Aside0.mk ((by rw [hg]; exact (below_size (q0_ HB.out)) : w.heap.size ≤ gb255)); have n3_ := Aside0.mk ((by rw [hg]; exact (below_size (q0_ HB.out)) : w.heap.size ≤ gb255)); clear HB; have HB := n0_; have BK255 := n1_; have GW255 := n2_; have GE255 := n3_; clear n0_ n1_ n2_ n3_; clear hb hbox hg) | ((with_reducible refine gate_dst (N := 3) rfl ?_); refine box_event ?hg (N := 3) ?hd (cs := #[.bool a1_0, .slice A1_1 l1_1.length c1_1]) (t := 31) ?hr ?_; (case hd => rfl); (case hg => rfl); (case hr => first | (go_simp; done) | (go_simp; rfl)); intro gb256 hg w26 hbox hb; have n0_ := Aside0.mk (blk_below (g := gb255) (o := .cells #[.bool a0_0, .slice A0_1 l0_1.length c0_1] 31 (0, 0)) (qb_ BK255.out) hb); have n1_ := Aside0.mk (below_step (q1_ HB.out GE255.out) hb); have n2_ := Aside0.mk (hbox); have n3_ := Aside0.mk ((by rw [hg]; exact (below_size (q1_ HB.out GE255.out)) : w.heap.size ≤ gb256)); have n4_ := Aside0.mk ((by rw [hg]; exact (below_size (q1_ HB.out GE255.out)) : w.heap.size ≤ gb256)); have n5_ := Aside0.mk ((by rw [hg]; exact Nat.ne_of_lt (blk_lt (g := gb255) (o := .cells #[.bool a0_0, .slice A0_1 l0_1.length c0_1] 31 (0, 0)) (qb_ BK255.out)) : gb255 ≠ gb256)); have n6_ := Aside0.mk ((by rw [hg]; exact Nat.ne_of_gt (blk_lt (g := gb255) (o := .cells #[.bool a0_0, .slice A0_1 l0_1.length c0_1] 31 (0, 0)) (qb_ BK255.out)) : gb256 ≠ gb255)); clear BK255; clear HB; have BK255 := n0_; have HB := n1_; have BK256 := n2_; have GW256 := n3_; have GE256 := n4_; have NB255_256 := n5_; have NB256_255 := n6_; clear n0_ n1_ n2_ n3_ n4_ n5_ n6_; clear hb hbox hg) | ((with_reducible refine gate_dst (N := 4) rfl ?_); refine box_event ?hg (N := 4) ?hd (cs := #[.bool false, .slice none 0 0]) (t := 31) ?hr ?_; (case hd => rfl); (case hg => rfl); (case hr => first | (go_simp; done) | (go_simp; rfl)); intro gb257 hg w27 hbox hb; have n0_ := Aside0.mk (blk_below (g := gb255) (o := .cells #[.bool a0_0, .slice A0_1 l0_1.length c0_1] 31 (0, 0)) (qb_ BK255.out) hb); have n1_ := Aside0.mk (blk_below (g := gb256) (o := .cells #[.bool a1_0, .slice A1_1 l1_1.length c1_1] 31 (0, 0)) (qb_ BK256.out) hb); have n2_ := Aside0.mk (below_step (q2_ HB.out GE255.out GE256.out) hb); have n3_ := Aside0.mk (hbox); have n4_ := Aside0.mk ((by rw [hg]; exact (below_size (q2_ HB.out GE255.out GE256.out)) : w.heap.size ≤ gb257)); have n5_ := Aside0.mk ((by rw [hg]; exact (below_size (q2_ HB.out GE255.out GE256.out)) : w.heap.size ≤ gb257)); have n6_ := Aside0.mk ((by rw [hg]; exact Nat.ne_of_lt (blk_lt (g := gb255) (o := .cells #[.bool a0_0, .slice A0_1 l0_1.length c0_1] 31 (0, 0)) (qb_ BK255.out)) : gb255 ≠ gb257)); have n7_ := Aside0.mk ((by rw [hg]; exact Nat.ne_of_gt (blk_lt (g := gb255) (o := .cells #[.bool a0_0, .slice A0_1 l0_1.length c0_1] 31 (0, 0)) (qb_ BK255.out)) : gb257 ≠ gb255)); have n8_ := Aside0.mk ((by rw [hg]; exact Nat.ne_of_lt (blk_lt (g := gb256) (o := .cells #[.bool a1_0, .slice A1_1 l1_1.length c1_1] 31 (0, 0)) (qb_ BK256.out)) : gb256 ≠ gb257)); have n9_ := Aside0.mk ((by rw [hg]; exact Nat.ne_of_gt (blk_lt (g := gb256) (o := .cells #[.bool a1_0, .slice A1_1 l1_1.length c1_1] 31 (0, 0)) (qb_ BK256.out)) : gb257 ≠ gb256)); clear BK255; clear BK256; clear HB; have BK255 := n0_; have BK256 := n1_; have HB := n2_; have BK257 := n3_; have GW257 := n4_; have GE257 := n5_; have NB255_257 := n6_; have NB257_255 := n7_; have NB256_257 := n8_; have NB257_256 := n9_; clear n0_ n1_ n2_ n3_ n4_ n5_ n6_ n7_ n8_ n9_; clear hb hbox hg; have hnb28 := NB255_256.out; have hnc28 := NB256_255.out; have hnb29 := NB255_257.out; have hnc29 := NB257_255.out; have hcz30_0 : w27.cell? ⟨gb255, 0, none⟩ = some (.bool a0_0) := (blk_cell BK255.out 0).trans rfl; have hcz30_1 : w27.cell? ⟨gb255, 1, none⟩ = some (.slice A0_1 l0_1.length c0_1) := (blk_cell BK255.out 1).trans rfl; have hfz30_0 := blk_frozen BK255.out 0; have hfz30_1 := blk_frozen BK255.out 1; have hnb31 := NB256_257.out; have hnc31 := NB257_256.out; have hcz32_0 : w27.cell? ⟨gb256, 0, none⟩ = some (.bool a1_0) := (blk_cell BK256.out 0).trans rfl; have hcz32_1 : w27.cell? ⟨gb256, 1, none⟩ = some (.slice A1_1 l1_1.length c1_1) := (blk_cell BK256.out 1).trans rfl; have hfz32_0 := blk_frozen BK256.out 0; have hfz32_1 := blk_frozen BK256.out 1) | ((with_reducible refine gate_callee (f := 76) rfl ?_); refine goesL_ (some 22) rfl rfl Tryd.func76 (by kernel_rfl) rfl #[.slice A0_1 l0_1.length c0_1, .slice A1_1 l1_1.length c1_1] rfl qe_ ?_; (with_reducible refine (merinoref01_cmpD.calls k _ _ l0_1 _ _ l1_1 t265 _ ?side1 ?side2 ?side3 ?side4 A21.out).mono ?_); (case side1 => exact qc_ (Kd.C_below HR0_1.out HB.out)); (case side2 => exact HC0_1.out); (case side3 => exact qc_ (Kd.C_below HR1_1.out HB.out)); (case side4 => exact HC1_1.out); rintro e w' ⟨rfl, ⟨nd, rfl⟩⟩; refine ⟨_, rfl, ?_⟩; (try (rw [drewN_self w27]; generalize hq_ : World.drewN w27 _ = w27; have n0_ : Aside0 (w27.heap[gb255]? = some (.cells #[.bool a0_0, .slice A0_1 l0_1.length c0_1] 31 (0, 0))) := ⟨by rw [← hq_]; exact (qb_ BK255.out)⟩; have n1_ : Aside0 (w27.heap[gb256]? = some (.cells #[.bool a1_0, .slice A1_1 l1_1.length c1_1] 31 (0, 0))) := ⟨by rw [← hq_]; exact (qb_ BK256.out)⟩; have n2_ : Aside0 (w27.heap[gb257]? = some (.cells #[.bool false, .slice none 0 0] 31 (0, 0))) := ⟨by rw [← hq_]; exact (qb_ BK257.out)⟩; have n3_ : Aside0 (Below w.heap.size w w27) := ⟨by rw [← hq_]; exact (q3_ HB.out GE255.out GE256.out GE257.out)⟩; clear BK255 BK256 BK257 HB hq_; have BK255 := n0_; have BK256 := n1_; have BK257 := n2_; have HB := n3_; clear n0_ n1_ n2_ n3_))))
      have n0_ := Aside0.mk (blk_drew BK255.out)
      have n1_ := Aside0.mk (blk_drew BK256.out)
      have n2_ := Aside0.mk (blk_drew BK257.out)
      have n3_ := Aside0.mk (below_drew1 HB.out)
      clear BK255
      clear BK256
      clear BK257
      clear HB
      have BK255 := n0_
      have BK256 := n1_
      have BK257 := n2_
      have HB := n3_
      clear n0_ n1_ n2_ n3_
      refine start_ (n := 9) (S := fun w' => w'.cell? ⟨gb255, 0, none⟩ = some (.bool a0_0) ∧ w'.cell? ⟨gb255, 1, none⟩ = some (.slice A0_1 l0_1.length c0_1) ∧ w'.cell? ⟨gb256, 0, none⟩ = some (.bool a1_0) ∧ w'.cell? ⟨gb256, 1, none⟩ = some (.slice A1_1 l1_1.length c1_1)) (ds := []) #[false, false, false, false, false, false, false, false, false] (by kernel_rfl) rfl rfl ⟨(blk_cell BK255.out 0).trans rfl, (blk_cell BK255.out 1).trans rfl, (blk_cell BK256.out 0).trans rfl, (blk_cell BK256.out 1).trans rfl⟩ (fun hHeld => ?_); refine with_tabW merinoref01_Plus.tab4 merinoref01_Plus.bits4 (fun HT_ HW_ => ?_)
      generalize w27.drew = w33 at BK255 BK256 BK257 HB hHeld ⊢
      refine pure_ (i := 0) (N := some 24) (v := ?_) (a' := ?_) #[true, false, false, false, false, false, false, false, false] rfl rfl (any_of HT_.out (by kernel_rfl)) (fun _ _ _ h => h) (Or.inl ⟨by rfl, ?_⟩) ?_ ?_
      rotate_left
      · intro w'
        go_simp
        with_reducible rfl
      rotate_left
      · simp only [Act.put, List.setIfInBounds_toArray, List.set_cons_zero, List.set_cons_succ, i64_w, i32_w]
        rfl
      refine pure_ (i := 2) (N := some 26) (v := ?_) (a' := ?_) #[true, false, true, false, false, false, false, false, false] rfl rfl (any_of HT_.out (by kernel_rfl)) (fun _ _ _ h => h) (Or.inl ⟨by rfl, ?_⟩) ?_ ?_
      rotate_left
      · intro w'
        go_simp
        with_reducible rfl
      rotate_left
      · simp only [Act.put, List.setIfInBounds_toArray, List.set_cons_zero, List.set_cons_succ, i64_w, i32_w]
        rfl
      refine pure_ (i := 4) (N := some 28) (v := ?_) (a' := ?_) #[true, false, true, false, true, false, false, false, false] rfl rfl (any_of HT_.out (by kernel_rfl)) (fun _ _ _ h => h) (Or.inl ⟨by rfl, ?_⟩) ?_ ?_
      rotate_left
      · intro w'
        go_simp
        with_reducible rfl
      rotate_left
      · simp only [Act.put, List.setIfInBounds_toArray, List.set_cons_zero, List.set_cons_succ, i64_w, i32_w]
        rfl
      refine take_ (i := 1) (N := some 25) (v := ?_) (a' := ?_) #[true, true, true, false, true, false, false, false, false] rfl rfl (take_ofW HT_.out HW_.out (by kernel_rfl)) (fun _ _ _ h => h) (Or.inl ⟨by rfl, ?_⟩) hHeld ?_ ?_
      rotate_left
      · rintro w' ⟨s0, s1, s2, s3⟩
        go_simp
        with_reducible rfl
      rotate_left
      · simp only [Act.put, List.setIfInBounds_toArray, List.set_cons_zero, List.set_cons_succ, i64_w, i32_w]
        rfl
      refine take_ (i := 3) (N := some 27) (v := ?_) (a' := ?_) #[true, true, true, true, true, false, false, false, false] rfl rfl (take_ofW HT_.out HW_.out (by kernel_rfl)) (fun _ _ _ h => h) (Or.inl ⟨by rfl, ?_⟩) hHeld ?_ ?_
      rotate_left
      · rintro w' ⟨s0, s1, s2, s3⟩
        go_simp
        with_reducible rfl
      rotate_left
      · simp only [Act.put, List.setIfInBounds_toArray, List.set_cons_zero, List.set_cons_succ, i64_w, i32_w]
        rfl
      refine take_ (i := 5) (N := some 29) (v := ?_) (a' := ?_) #[true, true, true, true, true, true, false, false, false] rfl rfl (take_ofW HT_.out HW_.out (by kernel_rfl)) (fun _ _ _ h => h) (Or.inl ⟨by rfl, ?_⟩) hHeld ?_ ?_
      rotate_left
      · rintro w' ⟨s0, s1, s2, s3⟩
        go_simp
        with_reducible rfl
      rotate_left
      · simp only [Act.put, List.setIfInBounds_toArray, List.set_cons_zero, List.set_cons_succ, i64_w, i32_w]
        rfl
      refine one_ (i := 6) (N := some 30) #[true, true, true, true, true, true, true, false, false] rfl rfl (one_of HT_.out (by kernel_rfl)) (by decide) (fun K hK => ?_)
      refine goes_ Tryd.func107 (by kernel_rfl) rfl #[.slice A0_1 l0_1.length c0_1, .slice A1_1 l1_1.length c1_1] (by rfl) rfl rfl qe_ ?_
      with_reducible refine (merinoref01_subD.calls k _ _ l0_1 _ _ l1_1 t266 _ ?side1 ?side2 ?side3 ?side4 A23.out).mono ?_
      (case side1 => exact qc_ (Kd.C_below HR0_1.out HB.out))
      (case side2 => exact HC0_1.out)
      (case side3 => exact qc_ (Kd.C_below HR1_1.out HB.out))
      (case side4 => exact HC1_1.out)
      rintro e w34 ⟨v267, rfl, ho0, hb⟩
      refine ⟨_, rfl, ?_⟩
      have n0_ := Aside0.mk (Kd.R_lower ho0 (below_size (q3_ HB.out GE255.out GE256.out GE257.out)))
      have n1_ := Aside0.mk (blk_below (g := gb255) (o := .cells #[.bool a0_0, .slice A0_1 l0_1.length c0_1] 31 (0, 0)) (qb_ BK255.out) hb)
      have n2_ := Aside0.mk (blk_below (g := gb256) (o := .cells #[.bool a1_0, .slice A1_1 l1_1.length c1_1] 31 (0, 0)) (qb_ BK256.out) hb)
      have n3_ := Aside0.mk (blk_below (g := gb257) (o := .cells #[.bool false, .slice none 0 0] 31 (0, 0)) (qb_ BK257.out) hb)
      have n4_ := Aside0.mk (below_step (q3_ HB.out GE255.out GE256.out GE257.out) hb)
      clear BK255
      clear BK256
      clear BK257
      clear HB
      have HO268 := n0_
      have BK255 := n1_
      have BK256 := n2_
      have BK257 := n3_
      have HB := n4_
      clear n0_ n1_ n2_ n3_ n4_
      (try clear hb)
      (try clear hb2)
      (try clear hk)
      (try clear hi)
      (try clear ho0)
      obtain ⟨Ao35, co35, eo35⟩ := Kd.R_slice HO268.out
      (first | subst eo35 | (injection eo35 with f1_ f2_ f3_; have f4_ := f1_.symm; have f5_ := f3_.symm; clear f1_ f2_ f3_; subst f4_; subst f5_))
      refine hK.out _ _ ⟨(blk_cell BK255.out 0).trans rfl, (blk_cell BK255.out 1).trans rfl, (blk_cell BK256.out 0).trans rfl, (blk_cell BK256.out 1).trans rfl⟩ (fun hHeld => ?_)
      clear hK K
      refine norm_ (a' := ?_) ?_ ?_
      rotate_left
      · show Act.put _ (some 30) _ = _
        simp only [Act.put, List.setIfInBounds_toArray, List.set_cons_zero, List.set_cons_succ, i64_w, i32_w]
        rfl
      refine one_ (i := 7) (N := some 31) #[true, true, true, true, true, true, true, true, false] rfl rfl (one_of HT_.out (by kernel_rfl)) (by decide) (fun K hK => ?_)
      refine goes_ Tryd.func73 (by kernel_rfl) rfl #[.bool a0_0, .slice Ao35 t266.length co35] (by rfl) rfl rfl qe_ ?_
      with_reducible refine (merinoref01_whole.calls k a0_0 _ _ t266 t269 t270 _ ?side1 ?side2 A24.out).mono ?_
      (case side1 => exact qc_ (Kd.R_reads' HO268.out).2.2)
      (case side2 => exact (Kd.R_reads' HO268.out).2.1)
      rintro e w36 ⟨v271, rfl, ho0, hb⟩
      refine ⟨_, rfl, ?_⟩
      have n0_ := Aside0.mk (Kd.R_elder' (qr_ HO268.out) (Kd.R_base ho0) hb)
      have n1_ := Aside0.mk (Kd.R_lower (Kd.R_new' ho0 (Kd.R_lt (qr_ HO268.out))) (below_size (q3_ HB.out GE255.out GE256.out GE257.out)))
      have n2_ := Aside0.mk (blk_below (g := gb255) (o := .cells #[.bool a0_0, .slice A0_1 l0_1.length c0_1] 31 (0, 0)) (qb_ BK255.out) hb)
      have n3_ := Aside0.mk (blk_below (g := gb256) (o := .cells #[.bool a1_0, .slice A1_1 l1_1.length c1_1] 31 (0, 0)) (qb_ BK256.out) hb)
      have n4_ := Aside0.mk (blk_below (g := gb257) (o := .cells #[.bool false, .slice none 0 0] 31 (0, 0)) (qb_ BK257.out) hb)
      have n5_ := Aside0.mk (below_step (q3_ HB.out GE255.out GE256.out GE257.out) hb)
      clear HO268
      clear BK255
      clear BK256
      clear BK257
      clear HB
      have HO268 := n0_
      have HO272 := n1_
      have BK255 := n2_
      have BK256 := n3_
      have BK257 := n4_
      have HB := n5_
      clear n0_ n1_ n2_ n3_ n4_ n5_
      (try clear hb)
      (try clear hb2)
      (try clear hk)
      (try clear hi)
      (try clear ho0)
      obtain ⟨Ao38, co38, eo38⟩ := Kd.R_slice HO272.out
      (first | subst eo38 | (injection eo38 with f1_ f2_ f3_; have f4_ := f1_.symm; have f5_ := f3_.symm; clear f1_ f2_ f3_; subst f4_; subst f5_))
      refine hK.out _ _ ⟨(blk_cell BK255.out 0).trans rfl, (blk_cell BK255.out 1).trans rfl, (blk_cell BK256.out 0).trans rfl, (blk_cell BK256.out 1).trans rfl⟩ (fun hHeld => ?_)
      clear hK K
      refine norm_ (a' := ?_) ?_ ?_
      rotate_left
      · show Act.put _ (some 31) _ = _
        simp only [Act.put, List.setIfInBounds_toArray, List.set_cons_zero, List.set_cons_succ, i64_w, i32_w]
        rfl
      refine one_ (i := 8) (N := none) #[true, true, true, true, true, true, true, true, true] rfl rfl (one_of HT_.out (by kernel_rfl)) (by decide) (fun K hK => ?_)
      have hs37 : w36.cell? ⟨gb257, 0, none⟩ = some (.bool false) := (blk_cell BK257.out 0).trans rfl
      have hfs37 := blk_frozen BK257.out 0
      have hns37_0 := NB255_257.out
      have hns37_1 := NB256_257.out
      have hms37_0 := NB257_255.out
      have hms37_1 := NB257_256.out
      have hs39 : w36.cell? ⟨gb257, 1, none⟩ = some (.slice none 0 0) := (blk_cell BK257.out 1).trans rfl
      have hfs39 := blk_frozen BK257.out 1
      have hns39_0 := NB255_257.out
      have hns39_1 := NB256_257.out
      have hms39_0 := NB257_255.out
      have hms39_1 := NB257_256.out
      refine skip_ (w1 := ?_) (by rfl) rfl ?_ ?_
      rotate_left
      · go_simp
        rfl
      refine hK.out _ _ ⟨((cell_far (p := ⟨gb257, _, none⟩) NB255_257.out _).trans (((cell_far (p := ⟨gb257, _, none⟩) NB255_257.out _).trans (hHeld.1)))), ((cell_far (p := ⟨gb257, _, none⟩) NB255_257.out _).trans (((cell_far (p := ⟨gb257, _, none⟩) NB255_257.out _).trans (hHeld.2.1)))), ((cell_far (p := ⟨gb257, _, none⟩) NB256_257.out _).trans (((cell_far (p := ⟨gb257, _, none⟩) NB256_257.out _).trans (hHeld.2.2.1)))), ((cell_far (p := ⟨gb257, _, none⟩) NB256_257.out _).trans (((cell_far (p := ⟨gb257, _, none⟩) NB256_257.out _).trans (hHeld.2.2.2))))⟩ (fun hHeld => ?_)
      clear hK K
      refine done_ (done_of HT_.out (by kernel_rfl)) ?_
      try go_wp2
      refine bodyPost_ret (results_cell_row rfl _ _ gb257 31 #[.bool t269, .slice Ao38 t270.length co38] (0, 0) _ rfl (by (with_reducible repeat (first | refine blk_drewN ?_ _ | refine blk_drew ?_ | refine blk_alloc ?_ _)); refine blk_put (cs := #[.bool t269, .slice none 0 0]) ?_ 1 _ rfl; (with_reducible repeat (first | refine blk_drewN ?_ _ | refine blk_drew ?_ | refine blk_alloc ?_ _)); refine blk_put (cs := #[.bool false, .slice none 0 0]) ?_ 0 _ rfl; (with_reducible repeat (first | refine blk_drewN ?_ _ | refine blk_drew ?_ | refine blk_alloc ?_ _)); exact BK257.out) Tryd.underlying31 rfl (by kernel_rfl)) rfl ?_
      exact ⟨_, by first | rfl | (simp [errW_none, errW_some] <;> rfl) | (simp [*, errW_none, errW_some] <;> rfl), by (with_reducible repeat (first | apply Kd.R_alloc | apply Kd.R_drewN | apply Kd.R_drew)); exact Kd.R_mono (Kd.R_far (p := ⟨gb257, 1, none⟩) (Kd.R_far (p := ⟨gb257, 0, none⟩) (Kd.R_types HO272.out BK257.out (by decide)) (fun _ hk => hk.2) (.bool t269)) (fun _ hk => hk.2) (.slice Ao38 t270.length co38)) (fun _ hk => trivial), (q3_ HB.out GE255.out GE256.out GE257.out)⟩
    · rw [if_neg c22] at H
      have c22b0 : decide (0 ≤ t265) = false := decide_eq_false c22
      clear c22
      replace H := Option.bind_eq_some_iff.mp H
      obtain ⟨t273, A400, H⟩ := H
      replace H : ((merinoref01_whole.f k a1_0 t273).bind fun bt276 => (some (bt276.1, bt276.2))) = some (r1, r2) := H
      have A40 := Aside0.mk A400
      clear A400
      replace H := Option.bind_eq_some_iff.mp H
      obtain ⟨⟨t276, t277⟩, A410, H⟩ := H
      replace H : (some (t276, t277)) = some (r1, r2) := H
      have A41 := Aside0.mk A410
      clear A410
      simp only [Option.some.injEq, Prod.mk.injEq] at H
      obtain ⟨rfl, rfl⟩ := H
      go_enter Tryd.func84, Tryd.ntmps84
      try go_wp2_with (first | ((with_reducible refine gate_dst (N := 2) rfl ?_); refine box_event ?hg (N := 2) ?hd (cs := #[.bool a0_0, .slice A0_1 l0_1.length c0_1]) (t := 31) ?hr ?_; (case hd => rfl); (case hg => rfl); (case hr => first | (go_simp; done) | (go_simp; rfl)); intro gb255 hg w42 hbox hb; have n0_ := Aside0.mk (below_step (q0_ HB.out) hb); have n1_ := Aside0.mk (hbox); have n2_ := Aside0.mk ((by rw [hg]; exact (below_size (q0_ HB.out)) : w.heap.size ≤ gb255)); have n3_ := Aside0.mk ((by rw [hg]; exact (below_size (q0_ HB.out)) : w.heap.size ≤ gb255)); clear HB; have HB := n0_; have BK255 := n1_; have GW255 := n2_; have GE255 := n3_; clear n0_ n1_ n2_ n3_; clear hb hbox hg) | ((with_reducible refine gate_dst (N := 3) rfl ?_); refine box_event ?hg (N := 3) ?hd (cs := #[.bool a1_0, .slice A1_1 l1_1.length c1_1]) (t := 31) ?hr ?_; (case hd => rfl); (case hg => rfl); (case hr => first | (go_simp; done) | (go_simp; rfl)); intro gb256 hg w43 hbox hb; have n0_ := Aside0.mk (blk_below (g := gb255) (o := .cells #[.bool a0_0, .slice A0_1 l0_1.length c0_1] 31 (0, 0)) (qb_ BK255.out) hb); have n1_ := Aside0.mk (below_step (q1_ HB.out GE255.out) hb); have n2_ := Aside0.mk (hbox); have n3_ := Aside0.mk ((by rw [hg]; exact (below_size (q1_ HB.out GE255.out)) : w.heap.size ≤ gb256)); have n4_ := Aside0.mk ((by rw [hg]; exact (below_size (q1_ HB.out GE255.out)) : w.heap.size ≤ gb256)); have n5_ := Aside0.mk ((by rw [hg]; exact Nat.ne_of_lt (blk_lt (g := gb255) (o := .cells #[.bool a0_0, .slice A0_1 l0_1.length c0_1] 31 (0, 0)) (qb_ BK255.out)) : gb255 ≠ gb256)); have n6_ := Aside0.mk ((by rw [hg]; exact Nat.ne_of_gt (blk_lt (g := gb255) (o := .cells #[.bool a0_0, .slice A0_1 l0_1.length c0_1] 31 (0, 0)) (qb_ BK255.out)) : gb256 ≠ gb255)); clear BK255; clear HB; have BK255 := n0_; have HB := n1_; have BK256 := n2_; have GW256 := n3_; have GE256 := n4_; have NB255_256 := n5_; have NB256_255 := n6_; clear n0_ n1_ n2_ n3_ n4_ n5_ n6_; clear hb hbox hg) | ((with_reducible refine gate_dst (N := 4) rfl ?_); refine box_event ?hg (N := 4) ?hd (cs := #[.bool false, .slice none 0 0]) (t := 31) ?hr ?_; (case hd => rfl); (case hg => rfl); (case hr => first | (go_simp; done) | (go_simp; rfl)); intro gb257 hg w44 hbox hb; have n0_ := Aside0.mk (blk_below (g := gb255) (o := .cells #[.bool a0_0, .slice A0_1 l0_1.length c0_1] 31 (0, 0)) (qb_ BK255.out) hb); have n1_ := Aside0.mk (blk_below (g := gb256) (o := .cells #[.bool a1_0, .slice A1_1 l1_1.length c1_1] 31 (0, 0)) (qb_ BK256.out) hb); have n2_ := Aside0.mk (below_step (q2_ HB.out GE255.out GE256.out) hb); have n3_ := Aside0.mk (hbox); have n4_ := Aside0.mk ((by rw [hg]; exact (below_size (q2_ HB.out GE255.out GE256.out)) : w.heap.size ≤ gb257)); have n5_ := Aside0.mk ((by rw [hg]; exact (below_size (q2_ HB.out GE255.out GE256.out)) : w.heap.size ≤ gb257)); have n6_ := Aside0.mk ((by rw [hg]; exact Nat.ne_of_lt (blk_lt (g := gb255) (o := .cells #[.bool a0_0, .slice A0_1 l0_1.length c0_1] 31 (0, 0)) (qb_ BK255.out)) : gb255 ≠ gb257)); have n7_ := Aside0.mk ((by rw [hg]; exact Nat.ne_of_gt (blk_lt (g := gb255) (o := .cells #[.bool a0_0, .slice A0_1 l0_1.length c0_1] 31 (0, 0)) (qb_ BK255.out)) : gb257 ≠ gb255)); have n8_ := Aside0.mk ((by rw [hg]; exact Nat.ne_of_lt (blk_lt (g := gb256) (o := .cells #[.bool a1_0, .slice A1_1 l1_1.length c1_1] 31 (0, 0)) (qb_ BK256.out)) : gb256 ≠ gb257)); have n9_ := Aside0.mk ((by rw [hg]; exact Nat.ne_of_gt (blk_lt (g := gb256) (o := .cells #[.bool a1_0, .slice A1_1 l1_1.length c1_1] 31 (0, 0)) (qb_ BK256.out)) : gb257 ≠ gb256)); clear BK255; clear BK256; clear HB; have BK255 := n0_; have BK256 := n1_; have HB := n2_; have BK257 := n3_; have GW257 := n4_; have GE257 := n5_; have NB255_257 := n6_; have NB257_255 := n7_; have NB256_257 := n8_; have NB257_256 := n9_; clear n0_ n1_ n2_ n3_ n4_ n5_ n6_ n7_ n8_ n9_; clear hb hbox hg; have hnb45 := NB255_256.out; have hnc45 := NB256_255.out; have hnb46 := NB255_257.out; have hnc46 := NB257_255.out; have hcz47_0 : w44.cell? ⟨gb255, 0, none⟩ = some (.bool a0_0) := (blk_cell BK255.out 0).trans rfl; have hcz47_1 : w44.cell? ⟨gb255, 1, none⟩ = some (.slice A0_1 l0_1.length c0_1) := (blk_cell BK255.out 1).trans rfl; have hfz47_0 := blk_frozen BK255.out 0; have hfz47_1 := blk_frozen BK255.out 1; have hnb48 := NB256_257.out; have hnc48 := NB257_256.out; have hcz49_0 : w44.cell? ⟨gb256, 0, none⟩ = some (.bool a1_0) := (blk_cell BK256.out 0).trans rfl; have hcz49_1 : w44.cell? ⟨gb256, 1, none⟩ = some (.slice A1_1 l1_1.length c1_1) := (blk_cell BK256.out 1).trans rfl; have hfz49_0 := blk_frozen BK256.out 0; have hfz49_1 := blk_frozen BK256.out 1) | ((with_reducible refine gate_callee (f := 76) rfl ?_); refine goesL_ (some 22) rfl rfl Tryd.func76 (by kernel_rfl) rfl #[.slice A0_1 l0_1.length c0_1, .slice A1_1 l1_1.length c1_1] rfl qe_ ?_; (with_reducible refine (merinoref01_cmpD.calls k _ _ l0_1 _ _ l1_1 t265 _ ?side1 ?side2 ?side3 ?side4 A21.out).mono ?_); (case side1 => exact qc_ (Kd.C_below HR0_1.out HB.out)); (case side2 => exact HC0_1.out); (case side3 => exact qc_ (Kd.C_below HR1_1.out HB.out)); (case side4 => exact HC1_1.out); rintro e w' ⟨rfl, ⟨nd, rfl⟩⟩; refine ⟨_, rfl, ?_⟩; (try (rw [drewN_self w44]; generalize hq_ : World.drewN w44 _ = w44; have n0_ : Aside0 (w44.heap[gb255]? = some (.cells #[.bool a0_0, .slice A0_1 l0_1.length c0_1] 31 (0, 0))) := ⟨by rw [← hq_]; exact (qb_ BK255.out)⟩; have n1_ : Aside0 (w44.heap[gb256]? = some (.cells #[.bool a1_0, .slice A1_1 l1_1.length c1_1] 31 (0, 0))) := ⟨by rw [← hq_]; exact (qb_ BK256.out)⟩; have n2_ : Aside0 (w44.heap[gb257]? = some (.cells #[.bool false, .slice none 0 0] 31 (0, 0))) := ⟨by rw [← hq_]; exact (qb_ BK257.out)⟩; have n3_ : Aside0 (Below w.heap.size w w44) := ⟨by rw [← hq_]; exact (q3_ HB.out GE255.out GE256.out GE257.out)⟩; clear BK255 BK256 BK257 HB hq_; have BK255 := n0_; have BK256 := n1_; have BK257 := n2_; have HB := n3_; clear n0_ n1_ n2_ n3_))))
      have n0_ := Aside0.mk (blk_drew BK255.out)
      have n1_ := Aside0.mk (blk_drew BK256.out)
      have n2_ := Aside0.mk (blk_drew BK257.out)
      have n3_ := Aside0.mk (below_drew1 HB.out)
      clear BK255
      clear BK256
      clear BK257
      clear HB
      have BK255 := n0_
      have BK256 := n1_
      have BK257 := n2_
      have HB := n3_
      clear n0_ n1_ n2_ n3_
      refine start_ (n := 9) (S := fun w' => w'.cell? ⟨gb256, 0, none⟩ = some (.bool a1_0) ∧ w'.cell? ⟨gb256, 1, none⟩ = some (.slice A1_1 l1_1.length c1_1) ∧ w'.cell? ⟨gb255, 0, none⟩ = some (.bool a0_0) ∧ w'.cell? ⟨gb255, 1, none⟩ = some (.slice A0_1 l0_1.length c0_1)) (ds := []) #[false, false, false, false, false, false, false, false, false] (by kernel_rfl) rfl rfl ⟨(blk_cell BK256.out 0).trans rfl, (blk_cell BK256.out 1).trans rfl, (blk_cell BK255.out 0).trans rfl, (blk_cell BK255.out 1).trans rfl⟩ (fun hHeld => ?_); refine with_tabW merinoref01_Plus.tab5 merinoref01_Plus.bits5 (fun HT_ HW_ => ?_)
      generalize w44.drew = w50 at BK255 BK256 BK257 HB hHeld ⊢
      refine pure_ (i := 0) (N := some 32) (v := ?_) (a' := ?_) #[true, false, false, false, false, false, false, false, false] rfl rfl (any_of HT_.out (by kernel_rfl)) (fun _ _ _ h => h) (Or.inl ⟨by rfl, ?_⟩) ?_ ?_
      rotate_left
      · intro w'
        go_simp
        with_reducible rfl
      rotate_left
      · simp only [Act.put, List.setIfInBounds_toArray, List.set_cons_zero, List.set_cons_succ, i64_w, i32_w]
        rfl
      refine pure_ (i := 2) (N := some 34) (v := ?_) (a' := ?_) #[true, false, true, false, false, false, false, false, false] rfl rfl (any_of HT_.out (by kernel_rfl)) (fun _ _ _ h => h) (Or.inl ⟨by rfl, ?_⟩) ?_ ?_
      rotate_left
      · intro w'
        go_simp
        with_reducible rfl
      rotate_left
      · simp only [Act.put, List.setIfInBounds_toArray, List.set_cons_zero, List.set_cons_succ, i64_w, i32_w]
        rfl
      refine pure_ (i := 4) (N := some 36) (v := ?_) (a' := ?_) #[true, false, true, false, true, false, false, false, false] rfl rfl (any_of HT_.out (by kernel_rfl)) (fun _ _ _ h => h) (Or.inl ⟨by rfl, ?_⟩) ?_ ?_
      rotate_left
      · intro w'
        go_simp
        with_reducible rfl
      rotate_left
      · simp only [Act.put, List.setIfInBounds_toArray, List.set_cons_zero, List.set_cons_succ, i64_w, i32_w]
        rfl
      refine take_ (i := 1) (N := some 33) (v := ?_) (a' := ?_) #[true, true, true, false, true, false, false, false, false] rfl rfl (take_ofW HT_.out HW_.out (by kernel_rfl)) (fun _ _ _ h => h) (Or.inl ⟨by rfl, ?_⟩) hHeld ?_ ?_
      rotate_left
      · rintro w' ⟨s0, s1, s2, s3⟩
        go_simp
        with_reducible rfl
      rotate_left
      · simp only [Act.put, List.setIfInBounds_toArray, List.set_cons_zero, List.set_cons_succ, i64_w, i32_w]
        rfl
      refine take_ (i := 3) (N := some 35) (v := ?_) (a' := ?_) #[true, true, true, true, true, false, false, false, false] rfl rfl (take_ofW HT_.out HW_.out (by kernel_rfl)) (fun _ _ _ h => h) (Or.inl ⟨by rfl, ?_⟩) hHeld ?_ ?_
      rotate_left
      · rintro w' ⟨s0, s1, s2, s3⟩
        go_simp
        with_reducible rfl
      rotate_left
      · simp only [Act.put, List.setIfInBounds_toArray, List.set_cons_zero, List.set_cons_succ, i64_w, i32_w]
        rfl
      refine take_ (i := 5) (N := some 37) (v := ?_) (a' := ?_) #[true, true, true, true, true, true, false, false, false] rfl rfl (take_ofW HT_.out HW_.out (by kernel_rfl)) (fun _ _ _ h => h) (Or.inl ⟨by rfl, ?_⟩) hHeld ?_ ?_
      rotate_left
      · rintro w' ⟨s0, s1, s2, s3⟩
        go_simp
        with_reducible rfl
      rotate_left
      · simp only [Act.put, List.setIfInBounds_toArray, List.set_cons_zero, List.set_cons_succ, i64_w, i32_w]
        rfl
      refine one_ (i := 6) (N := some 38) #[true, true, true, true, true, true, true, false, false] rfl rfl (one_of HT_.out (by kernel_rfl)) (by decide) (fun K hK => ?_)
      refine goes_ Tryd.func107 (by kernel_rfl) rfl #[.slice A1_1 l1_1.length c1_1, .slice A0_1 l0_1.length c0_1] (by rfl) rfl rfl qe_ ?_
      with_reducible refine (merinoref01_subD.calls k _ _ l1_1 _ _ l0_1 t273 _ ?side1 ?side2 ?side3 ?side4 A40.out).mono ?_
      (case side1 => exact qc_ (Kd.C_below HR1_1.out HB.out))
      (case side2 => exact HC1_1.out)
      (case side3 => exact qc_ (Kd.C_below HR0_1.out HB.out))
      (case side4 => exact HC0_1.out)
      rintro e w51 ⟨v274, rfl, ho0, hb⟩
      refine ⟨_, rfl, ?_⟩
      have n0_ := Aside0.mk (Kd.R_lower ho0 (below_size (q3_ HB.out GE255.out GE256.out GE257.out)))
      have n1_ := Aside0.mk (blk_below (g := gb255) (o := .cells #[.bool a0_0, .slice A0_1 l0_1.length c0_1] 31 (0, 0)) (qb_ BK255.out) hb)
      have n2_ := Aside0.mk (blk_below (g := gb256) (o := .cells #[.bool a1_0, .slice A1_1 l1_1.length c1_1] 31 (0, 0)) (qb_ BK256.out) hb)
      have n3_ := Aside0.mk (blk_below (g := gb257) (o := .cells #[.bool false, .slice none 0 0] 31 (0, 0)) (qb_ BK257.out) hb)
      have n4_ := Aside0.mk (below_step (q3_ HB.out GE255.out GE256.out GE257.out) hb)
      clear BK255
      clear BK256
      clear BK257
      clear HB
      have HO275 := n0_
      have BK255 := n1_
      have BK256 := n2_
      have BK257 := n3_
      have HB := n4_
      clear n0_ n1_ n2_ n3_ n4_
      (try clear hb)
      (try clear hb2)
      (try clear hk)
      (try clear hi)
      (try clear ho0)
      obtain ⟨Ao52, co52, eo52⟩ := Kd.R_slice HO275.out
      (first | subst eo52 | (injection eo52 with f1_ f2_ f3_; have f4_ := f1_.symm; have f5_ := f3_.symm; clear f1_ f2_ f3_; subst f4_; subst f5_))
      refine hK.out _ _ ⟨(blk_cell BK256.out 0).trans rfl, (blk_cell BK256.out 1).trans rfl, (blk_cell BK255.out 0).trans rfl, (blk_cell BK255.out 1).trans rfl⟩ (fun hHeld => ?_)
      clear hK K
      refine norm_ (a' := ?_) ?_ ?_
      rotate_left
      · show Act.put _ (some 38) _ = _
        simp only [Act.put, List.setIfInBounds_toArray, List.set_cons_zero, List.set_cons_succ, i64_w, i32_w]
        rfl
      refine one_ (i := 7) (N := some 39) #[true, true, true, true, true, true, true, true, false] rfl rfl (one_of HT_.out (by kernel_rfl)) (by decide) (fun K hK => ?_)
      refine goes_ Tryd.func73 (by kernel_rfl) rfl #[.bool a1_0, .slice Ao52 t273.length co52] (by rfl) rfl rfl qe_ ?_
      with_reducible refine (merinoref01_whole.calls k a1_0 _ _ t273 t276 t277 _ ?side1 ?side2 A41.out).mono ?_
      (case side1 => exact qc_ (Kd.R_reads' HO275.out).2.2)
      (case side2 => exact (Kd.R_reads' HO275.out).2.1)
      rintro e w53 ⟨v278, rfl, ho0, hb⟩
      refine ⟨_, rfl, ?_⟩
      have n0_ := Aside0.mk (Kd.R_elder' (qr_ HO275.out) (Kd.R_base ho0) hb)
      have n1_ := Aside0.mk (Kd.R_lower (Kd.R_new' ho0 (Kd.R_lt (qr_ HO275.out))) (below_size (q3_ HB.out GE255.out GE256.out GE257.out)))
      have n2_ := Aside0.mk (blk_below (g := gb255) (o := .cells #[.bool a0_0, .slice A0_1 l0_1.length c0_1] 31 (0, 0)) (qb_ BK255.out) hb)
      have n3_ := Aside0.mk (blk_below (g := gb256) (o := .cells #[.bool a1_0, .slice A1_1 l1_1.length c1_1] 31 (0, 0)) (qb_ BK256.out) hb)
      have n4_ := Aside0.mk (blk_below (g := gb257) (o := .cells #[.bool false, .slice none 0 0] 31 (0, 0)) (qb_ BK257.out) hb)
      have n5_ := Aside0.mk (below_step (q3_ HB.out GE255.out GE256.out GE257.out) hb)
      clear HO275
      clear BK255
      clear BK256
      clear BK257
      clear HB
      have HO275 := n0_
      have HO279 := n1_
      have BK255 := n2_
      have BK256 := n3_
      have BK257 := n4_
      have HB := n5_
      clear n0_ n1_ n2_ n3_ n4_ n5_
      (try clear hb)
      (try clear hb2)
      (try clear hk)
      (try clear hi)
      (try clear ho0)
      obtain ⟨Ao55, co55, eo55⟩ := Kd.R_slice HO279.out
      (first | subst eo55 | (injection eo55 with f1_ f2_ f3_; have f4_ := f1_.symm; have f5_ := f3_.symm; clear f1_ f2_ f3_; subst f4_; subst f5_))
      refine hK.out _ _ ⟨(blk_cell BK256.out 0).trans rfl, (blk_cell BK256.out 1).trans rfl, (blk_cell BK255.out 0).trans rfl, (blk_cell BK255.out 1).trans rfl⟩ (fun hHeld => ?_)
      clear hK K
      refine norm_ (a' := ?_) ?_ ?_
      rotate_left
      · show Act.put _ (some 39) _ = _
        simp only [Act.put, List.setIfInBounds_toArray, List.set_cons_zero, List.set_cons_succ, i64_w, i32_w]
        rfl
      refine one_ (i := 8) (N := none) #[true, true, true, true, true, true, true, true, true] rfl rfl (one_of HT_.out (by kernel_rfl)) (by decide) (fun K hK => ?_)
      have hs54 : w53.cell? ⟨gb257, 0, none⟩ = some (.bool false) := (blk_cell BK257.out 0).trans rfl
      have hfs54 := blk_frozen BK257.out 0
      have hns54_0 := NB255_257.out
      have hns54_1 := NB256_257.out
      have hms54_0 := NB257_255.out
      have hms54_1 := NB257_256.out
      have hs56 : w53.cell? ⟨gb257, 1, none⟩ = some (.slice none 0 0) := (blk_cell BK257.out 1).trans rfl
      have hfs56 := blk_frozen BK257.out 1
      have hns56_0 := NB255_257.out
      have hns56_1 := NB256_257.out
      have hms56_0 := NB257_255.out
      have hms56_1 := NB257_256.out
      refine skip_ (w1 := ?_) (by rfl) rfl ?_ ?_
      rotate_left
      · go_simp
        rfl
      refine hK.out _ _ ⟨((cell_far (p := ⟨gb257, _, none⟩) NB256_257.out _).trans (((cell_far (p := ⟨gb257, _, none⟩) NB256_257.out _).trans (hHeld.1)))), ((cell_far (p := ⟨gb257, _, none⟩) NB256_257.out _).trans (((cell_far (p := ⟨gb257, _, none⟩) NB256_257.out _).trans (hHeld.2.1)))), ((cell_far (p := ⟨gb257, _, none⟩) NB255_257.out _).trans (((cell_far (p := ⟨gb257, _, none⟩) NB255_257.out _).trans (hHeld.2.2.1)))), ((cell_far (p := ⟨gb257, _, none⟩) NB255_257.out _).trans (((cell_far (p := ⟨gb257, _, none⟩) NB255_257.out _).trans (hHeld.2.2.2))))⟩ (fun hHeld => ?_)
      clear hK K
      refine done_ (done_of HT_.out (by kernel_rfl)) ?_
      try go_wp2
      refine bodyPost_ret (results_cell_row rfl _ _ gb257 31 #[.bool t276, .slice Ao55 t277.length co55] (0, 0) _ rfl (by (with_reducible repeat (first | refine blk_drewN ?_ _ | refine blk_drew ?_ | refine blk_alloc ?_ _)); refine blk_put (cs := #[.bool t276, .slice none 0 0]) ?_ 1 _ rfl; (with_reducible repeat (first | refine blk_drewN ?_ _ | refine blk_drew ?_ | refine blk_alloc ?_ _)); refine blk_put (cs := #[.bool false, .slice none 0 0]) ?_ 0 _ rfl; (with_reducible repeat (first | refine blk_drewN ?_ _ | refine blk_drew ?_ | refine blk_alloc ?_ _)); exact BK257.out) Tryd.underlying31 rfl (by kernel_rfl)) rfl ?_
      exact ⟨_, by first | rfl | (simp [errW_none, errW_some] <;> rfl) | (simp [*, errW_none, errW_some] <;> rfl), by (with_reducible repeat (first | apply Kd.R_alloc | apply Kd.R_drewN | apply Kd.R_drew)); exact Kd.R_mono (Kd.R_far (p := ⟨gb257, 1, none⟩) (Kd.R_far (p := ⟨gb257, 0, none⟩) (Kd.R_types HO279.out BK257.out (by decide)) (fun _ hk => hk.2) (.bool t276)) (fun _ hk => hk.2) (.slice Ao55 t277.length co55)) (fun _ hk => trivial), (q3_ HB.out GE255.out GE256.out GE257.out)⟩
end Go.Proofs.YtdjnneflpkllmaaDoor.Q

namespace Go.Proofs.YtdjnneflpkllmaaDoor.Q
open Go.RowKit Go.Proofs.YtdjnneflpkllmaaDoorW.PrintWords Go.Proofs.YtdjnneflpkllmaaDoorW.PrintLast Go.Proofs.YtdjnneflpkllmaaDoorW.PrintMore
attribute [local go_sem] max2_int min2_int max_two min_two max_three min_three max_four min_four   -- for this text's walks alone
set_option linter.unusedVariables false
set_option linter.unusedSimpArgs false
def merinoref01_Over.f (k : Nat) (a0_0 : Bool) (l0_1 : List Int) (a1_0 : Bool) (l1_1 : List Int) : Option (Bool × List Int × Bool × List Int) := (merinoref01_divD.f k l0_1 l1_1).bind fun bt826 => (if a0_0 = true then (if (bt826.2.length : Int) = 0 then ((merinoref01_whole.f k true bt826.1).bind fun bt840 => (some (bt840.1, bt840.2, false, ([] : List Int)))) else ((merinoref01_addD.f k bt826.1 (([1] : List Int))).bind fun t847 => ((merinoref01_whole.f k true t847).bind fun bt850 => ((merinoref01_subD.f k l1_1 bt826.2).bind fun t854 => ((merinoref01_whole.f k false t854).bind fun bt857 => (some (bt850.1, bt850.2, bt857.1, bt857.2))))))) else ((merinoref01_whole.f k false bt826.1).bind fun bt832 => ((merinoref01_whole.f k false bt826.2).bind fun bt836 => (some (bt832.1, bt832.2, bt836.1, bt836.2)))))
theorem merinoref01_Over.mono : ∀ a0 a1 a2 a3 k, LeO (merinoref01_Over.f k a0 a1 a2 a3) (merinoref01_Over.f (k + 1) a0 a1 a2 a3) := by
  intro a0 a1 a2 a3 k
  unfold merinoref01_Over.f
  repeat' first
      | (with_reducible exact merinoref01_addD.mono _ _ _)
      | (with_reducible exact merinoref01_divD.mono _ _ _)
      | (with_reducible exact merinoref01_subD.mono _ _ _)
      | (with_reducible exact merinoref01_whole.mono _ _ _)
      | (with_reducible exact LeO.refl _)
      | (with_reducible exact LeO.none _)
      | (with_reducible refine LeO.ite ?_ ?_)
      | (with_reducible refine LeO.bind ?_ (fun _ => ?_))
      | exact merinoref01_addD.mono _ _ _
      | exact merinoref01_divD.mono _ _ _
      | exact merinoref01_subD.mono _ _ _
      | exact merinoref01_whole.mono _ _ _
      | exact LeO.none _
      | refine LeO.ite ?_ ?_
      | refine LeO.bind ?_ (fun _ => ?_)
def merinoref01_Over.T6 : Bool × List (List Nat × List Nat) := (true, [([], []), ([], []), ([0, 1], [0, 1]), ([2, 2], [2]), ([], []), ([4], [4]), ([], []), ([5, 6, 3], [5, 6]), ([7, 7], [7]), ([3, 8, 0, 1, 2, 3], [3]), ([8, 9, 0, 1, 2, 3, 4, 5, 6, 7, 8, 9], [8])])
def merinoref01_Over.B6 : List Nat := [0, 0, 3, 7, 0, 16, 0, 127, 255, 511, 1023]
theorem merinoref01_Over.tab6 : rtab .any (opsOf Tryd.f67 6) = merinoref01_Over.T6 := by kernel_rfl
theorem merinoref01_Over.bits6 : waitsOk merinoref01_Over.T6.2 merinoref01_Over.B6 = true := by kernel_rfl
set_option maxHeartbeats 8000000 in
set_option maxRecDepth 100000 in
theorem merinoref01_Over.calls (k : Nat) (a0_0 : Bool) (A0_1 : Option Addr) (c0_1 : Nat) (l0_1 : List Int) (a1_0 : Bool) (A1_1 : Option Addr) (c1_1 : Nat) (l1_1 : List Int) (r1 : Bool) (r2 : List Int) (r3 : Bool) (r4 : List Int) (w : World) (hr0_1 : Kd.C (Kd.int .i64) w A0_1 l0_1.length l0_1) (hc0_1 : l0_1.length ≤ c0_1) (hr1_1 : Kd.C (Kd.int .i64) w A1_1 l1_1.length l1_1) (hc1_1 : l1_1.length ≤ c1_1) (h : merinoref01_Over.f k a0_0 l0_1 a1_0 l1_1 = some (r1, r2, r3, r4)) :
    Calls Tryd.prog 67 #[.agg #[.bool a0_0, .slice A0_1 l0_1.length c0_1], .agg #[.bool a1_0, .slice A1_1 l1_1.length c1_1]] w fun e w' => ∃ v1_ v3_ : Value, e = .returned (.tuple #[.agg #[.bool r1, v1_], .agg #[.bool r3, v3_]]) ∧ Kd.R (Kd.int .i64) 3 w' w.heap.size (fun k_ => some k_ ≠ (v3_ : Value).ownBlock) v1_ r2 ∧ Kd.R (Kd.int .i64) 3 w' w.heap.size (fun k_ => some k_ ≠ (v1_ : Value).ownBlock) v3_ r4 ∧ Below w.heap.size w w' := by
  have hu31 := Tryd.underlying31
  have HR0_1 := Aside0.mk hr0_1
  have HC0_1 := Aside0.mk hc0_1
  clear hr0_1 hc0_1
  have HR1_1 := Aside0.mk hr1_1
  have HC1_1 := Aside0.mk hc1_1
  clear hr1_1 hc1_1
  have HB := Aside0.mk (Below.refl w.heap.size w)
  have H : ((merinoref01_divD.f k l0_1 l1_1).bind fun bt826 => (if a0_0 = true then (if (bt826.2.length : Int) = 0 then ((merinoref01_whole.f k true bt826.1).bind fun bt840 => (some (bt840.1, bt840.2, false, ([] : List Int)))) else ((merinoref01_addD.f k bt826.1 (([1] : List Int))).bind fun t847 => ((merinoref01_whole.f k true t847).bind fun bt850 => ((merinoref01_subD.f k l1_1 bt826.2).bind fun t854 => ((merinoref01_whole.f k false t854).bind fun bt857 => (some (bt850.1, bt850.2, bt857.1, bt857.2))))))) else ((merinoref01_whole.f k false bt826.1).bind fun bt832 => ((merinoref01_whole.f k false bt826.2).bind fun bt836 => (some (bt832.1, bt832.2, bt836.1, bt836.2)))))) = some (r1, r2, r3, r4) := h
  clear h
  replace H := Option.bind_eq_some_iff.mp H
  obtain ⟨⟨t826, t827⟩, A30, H⟩ := H
  replace H : (if a0_0 = true then (if (t827.length : Int) = 0 then ((merinoref01_whole.f k true t826).bind fun bt840 => (some (bt840.1, bt840.2, false, ([] : List Int)))) else ((merinoref01_addD.f k t826 (([1] : List Int))).bind fun t847 => ((merinoref01_whole.f k true t847).bind fun bt850 => ((merinoref01_subD.f k l1_1 t827).bind fun t854 => ((merinoref01_whole.f k false t854).bind fun bt857 => (some (bt850.1, bt850.2, bt857.1, bt857.2))))))) else ((merinoref01_whole.f k false t826).bind fun bt832 => ((merinoref01_whole.f k false t827).bind fun bt836 => (some (bt832.1, bt832.2, bt836.1, bt836.2))))) = some (r1, r2, r3, r4) := H
  have A3 := Aside0.mk A30
  clear A30
  by_cases c4 : a0_0 = true
  · subst c4
    have H1 : (if (t827.length : Int) = 0 then ((merinoref01_whole.f k true t826).bind fun bt840 => (some (bt840.1, bt840.2, false, ([] : List Int)))) else ((merinoref01_addD.f k t826 (([1] : List Int))).bind fun t847 => ((merinoref01_whole.f k true t847).bind fun bt850 => ((merinoref01_subD.f k l1_1 t827).bind fun t854 => ((merinoref01_whole.f k false t854).bind fun bt857 => (some (bt850.1, bt850.2, bt857.1, bt857.2))))))) = some (r1, r2, r3, r4) := by rw [if_pos rfl] at H; exact H
    clear H
    have H := H1
    clear H1
    by_cases c5 : (t827.length : Int) = 0
    · rw [if_pos c5] at H
      have c5b0 : ((t827.length : Int) == 0) = true := beq_iff_eq.mpr c5
      have c5b1 : ((t827.length : Int) != 0) = false := bne_eq_false_iff_eq.mpr c5
      clear c5
      replace H := Option.bind_eq_some_iff.mp H
      obtain ⟨⟨t840, t841⟩, A60, H⟩ := H
      replace H : (some (t840, t841, false, ([] : List Int))) = some (r1, r2, r3, r4) := H
      have A6 := Aside0.mk A60
      clear A60
      simp only [Option.some.injEq, Prod.mk.injEq] at H
      obtain ⟨rfl, rfl, rfl, rfl⟩ := H
      go_enter Tryd.func67, Tryd.ntmps67
      go_wp2_with (first | ((with_reducible refine gate_dst (N := 2) rfl ?_); refine box_event ?hg (N := 2) ?hd (cs := #[.bool true, .slice A0_1 l0_1.length c0_1]) (t := 31) ?hr ?_; (case hd => rfl); (case hg => rfl); (case hr => first | (go_simp; done) | (go_simp; rfl)); intro gb822 hg w7 hbox hb; have n0_ := Aside0.mk (below_step (q0_ HB.out) hb); have n1_ := Aside0.mk (hbox); have n2_ := Aside0.mk ((by rw [hg]; exact (below_size (q0_ HB.out)) : w.heap.size ≤ gb822)); have n3_ := Aside0.mk ((by rw [hg]; exact (below_size (q0_ HB.out)) : w.heap.size ≤ gb822)); clear HB; have HB := n0_; have BK822 := n1_; have GW822 := n2_; have GE822 := n3_; clear n0_ n1_ n2_ n3_; clear hb hbox hg) | ((with_reducible refine gate_dst (N := 3) rfl ?_); refine box_event ?hg (N := 3) ?hd (cs := #[.bool a1_0, .slice A1_1 l1_1.length c1_1]) (t := 31) ?hr ?_; (case hd => rfl); (case hg => rfl); (case hr => first | (go_simp; done) | (go_simp; rfl)); intro gb823 hg w8 hbox hb; have n0_ := Aside0.mk (blk_below (g := gb822) (o := .cells #[.bool true, .slice A0_1 l0_1.length c0_1] 31 (0, 0)) (qb_ BK822.out) hb); have n1_ := Aside0.mk (below_step (q1_ HB.out GE822.out) hb); have n2_ := Aside0.mk (hbox); have n3_ := Aside0.mk ((by rw [hg]; exact (below_size (q1_ HB.out GE822.out)) : w.heap.size ≤ gb823)); have n4_ := Aside0.mk ((by rw [hg]; exact (below_size (q1_ HB.out GE822.out)) : w.heap.size ≤ gb823)); have n5_ := Aside0.mk ((by rw [hg]; exact Nat.ne_of_lt (blk_lt (g := gb822) (o := .cells #[.bool true, .slice A0_1 l0_1.length c0_1] 31 (0, 0)) (qb_ BK822.out)) : gb822 ≠ gb823)); have n6_ := Aside0.mk ((by rw [hg]; exact Nat.ne_of_gt (blk_lt (g := gb822) (o := .cells #[.bool true, .slice A0_1 l0_1.length c0_1] 31 (0, 0)) (qb_ BK822.out)) : gb823 ≠ gb822)); clear BK822; clear HB; have BK822 := n0_; have HB := n1_; have BK823 := n2_; have GW823 := n3_; have GE823 := n4_; have NB822_823 := n5_; have NB823_822 := n6_; clear n0_ n1_ n2_ n3_ n4_ n5_ n6_; clear hb hbox hg) | ((with_reducible refine gate_dst (N := 4) rfl ?_); refine box_event ?hg (N := 4) ?hd (cs := #[.bool false, .slice none 0 0]) (t := 31) ?hr ?_; (case hd => rfl); (case hg => rfl); (case hr => first | (go_simp; done) | (go_simp; rfl)); intro gb824 hg w9 hbox hb; have n0_ := Aside0.mk (blk_below (g := gb822) (o := .cells #[.bool true, .slice A0_1 l0_1.length c0_1] 31 (0, 0)) (qb_ BK822.out) hb); have n1_ := Aside0.mk (blk_below (g := gb823) (o := .cells #[.bool a1_0, .slice A1_1 l1_1.length c1_1] 31 (0, 0)) (qb_ BK823.out) hb); have n2_ := Aside0.mk (below_step (q2_ HB.out GE822.out GE823.out) hb); have n3_ := Aside0.mk (hbox); have n4_ := Aside0.mk ((by rw [hg]; exact (below_size (q2_ HB.out GE822.out GE823.out)) : w.heap.size ≤ gb824)); have n5_ := Aside0.mk ((by rw [hg]; exact (below_size (q2_ HB.out GE822.out GE823.out)) : w.heap.size ≤ gb824)); have n6_ := Aside0.mk ((by rw [hg]; exact Nat.ne_of_lt (blk_lt (g := gb822) (o := .cells #[.bool true, .slice A0_1 l0_1.length c0_1] 31 (0, 0)) (qb_ BK822.out)) : gb822 ≠ gb824)); have n7_ := Aside0.mk ((by rw [hg]; exact Nat.ne_of_gt (blk_lt (g := gb822) (o := .cells #[.bool true, .slice A0_1 l0_1.length c0_1] 31 (0, 0)) (qb_ BK822.out)) : gb824 ≠ gb822)); have n8_ := Aside0.mk ((by rw [hg]; exact Nat.ne_of_lt (blk_lt (g := gb823) (o := .cells #[.bool a1_0, .slice A1_1 l1_1.length c1_1] 31 (0, 0)) (qb_ BK823.out)) : gb823 ≠ gb824)); have n9_ := Aside0.mk ((by rw [hg]; exact Nat.ne_of_gt (blk_lt (g := gb823) (o := .cells #[.bool a1_0, .slice A1_1 l1_1.length c1_1] 31 (0, 0)) (qb_ BK823.out)) : gb824 ≠ gb823)); clear BK822; clear BK823; clear HB; have BK822 := n0_; have BK823 := n1_; have HB := n2_; have BK824 := n3_; have GW824 := n4_; have GE824 := n5_; have NB822_824 := n6_; have NB824_822 := n7_; have NB823_824 := n8_; have NB824_823 := n9_; clear n0_ n1_ n2_ n3_ n4_ n5_ n6_ n7_ n8_ n9_; clear hb hbox hg) | ((with_reducible refine gate_dst (N := 5) rfl ?_); refine box_event ?hg (N := 5) ?hd (cs := #[.bool false, .slice none 0 0]) (t := 31) ?hr ?_; (case hd => rfl); (case hg => rfl); (case hr => first | (go_simp; done) | (go_simp; rfl)); intro gb825 hg w10 hbox hb; have n0_ := Aside0.mk (blk_below (g := gb822) (o := .cells #[.bool true, .slice A0_1 l0_1.length c0_1] 31 (0, 0)) (qb_ BK822.out) hb); have n1_ := Aside0.mk (blk_below (g := gb823) (o := .cells #[.bool a1_0, .slice A1_1 l1_1.length c1_1] 31 (0, 0)) (qb_ BK823.out) hb); have n2_ := Aside0.mk (blk_below (g := gb824) (o := .cells #[.bool false, .slice none 0 0] 31 (0, 0)) (qb_ BK824.out) hb); have n3_ := Aside0.mk (below_step (q3_ HB.out GE822.out GE823.out GE824.out) hb); have n4_ := Aside0.mk (hbox); have n5_ := Aside0.mk ((by rw [hg]; exact (below_size (q3_ HB.out GE822.out GE823.out GE824.out)) : w.heap.size ≤ gb825)); have n6_ := Aside0.mk ((by rw [hg]; exact (below_size (q3_ HB.out GE822.out GE823.out GE824.out)) : w.heap.size ≤ gb825)); have n7_ := Aside0.mk ((by rw [hg]; exact Nat.ne_of_lt (blk_lt (g := gb822) (o := .cells #[.bool true, .slice A0_1 l0_1.length c0_1] 31 (0, 0)) (qb_ BK822.out)) : gb822 ≠ gb825)); have n8_ := Aside0.mk ((by rw [hg]; exact Nat.ne_of_gt (blk_lt (g := gb822) (o := .cells #[.bool true, .slice A0_1 l0_1.length c0_1] 31 (0, 0)) (qb_ BK822.out)) : gb825 ≠ gb822)); have n9_ := Aside0.mk ((by rw [hg]; exact Nat.ne_of_lt (blk_lt (g := gb823) (o := .cells #[.bool a1_0, .slice A1_1 l1_1.length c1_1] 31 (0, 0)) (qb_ BK823.out)) : gb823 ≠ gb825)); have n10_ := Aside0.mk ((by rw [hg]; exact Nat.ne_of_gt (blk_lt (g := gb823) (o := .cells #[.bool a1_0, .slice A1_1 l1_1.length c1_1] 31 (0, 0)) (qb_ BK823.out)) : gb825 ≠ gb823)); have n11_ := Aside0.mk ((by rw [hg]; exact Nat.ne_of_lt (blk_lt (g := gb824) (o := .cells #[.bool false, .slice none 0 0] 31 (0, 0)) (qb_ BK824.out)) : gb824 ≠ gb825)); have n12_ := Aside0.mk ((by rw [hg]; exact Nat.ne_of_gt (blk_lt (g := gb824) (o := .cells #[.bool false, .slice none 0 0] 31 (0, 0)) (qb_ BK824.out)) : gb825 ≠ gb824)); clear BK822; clear BK823; clear BK824; clear HB; have BK822 := n0_; have BK823 := n1_; have BK824 := n2_; have HB := n3_; have BK825 := n4_; have GW825 := n5_; have GE825 := n6_; have NB822_825 := n7_; have NB825_822 := n8_; have NB823_825 := n9_; have NB825_823 := n10_; have NB824_825 := n11_; have NB825_824 := n12_; clear n0_ n1_ n2_ n3_ n4_ n5_ n6_ n7_ n8_ n9_ n10_ n11_ n12_; clear hb hbox hg; have hnb11 := NB822_823.out; have hnc11 := NB823_822.out; have hnb12 := NB822_824.out; have hnc12 := NB824_822.out; have hnb13 := NB822_825.out; have hnc13 := NB825_822.out; have hcz14_0 : w10.cell? ⟨gb822, 0, none⟩ = some (.bool true) := (blk_cell BK822.out 0).trans rfl; have hcz14_1 : w10.cell? ⟨gb822, 1, none⟩ = some (.slice A0_1 l0_1.length c0_1) := (blk_cell BK822.out 1).trans rfl; have hfz14_0 := blk_frozen BK822.out 0; have hfz14_1 := blk_frozen BK822.out 1; have hnb15 := NB823_824.out; have hnc15 := NB824_823.out; have hnb16 := NB823_825.out; have hnc16 := NB825_823.out; have hcz17_0 : w10.cell? ⟨gb823, 0, none⟩ = some (.bool a1_0) := (blk_cell BK823.out 0).trans rfl; have hcz17_1 : w10.cell? ⟨gb823, 1, none⟩ = some (.slice A1_1 l1_1.length c1_1) := (blk_cell BK823.out 1).trans rfl; have hfz17_0 := blk_frozen BK823.out 0; have hfz17_1 := blk_frozen BK823.out 1) | ((with_reducible refine gate_callee (f := 105) rfl ?_); refine goesL_ (some 13) rfl rfl Tryd.func105 (by kernel_rfl) rfl #[.slice A0_1 l0_1.length c0_1, .slice A1_1 l1_1.length c1_1] rfl qe_ ?_; (with_reducible refine (merinoref01_divD.calls k _ _ l0_1 _ _ l1_1 t826 t827 _ ?side1 ?side2 ?side3 ?side4 A3.out).mono ?_); (case side1 => exact qc_ (Kd.C_below HR0_1.out HB.out)); (case side2 => exact HC0_1.out); (case side3 => exact qc_ (Kd.C_below HR1_1.out HB.out)); (case side4 => exact HC1_1.out); rintro e w18 ⟨v828, v830, rfl, ho0, ho1, hb⟩; refine ⟨_, rfl, ?_⟩; have n0_ := Aside0.mk (Kd.R_lower ho0 (below_size (q4_ HB.out GE822.out GE823.out GE824.out GE825.out))); have n1_ := Aside0.mk (Kd.R_lower ho1 (below_size (q4_ HB.out GE822.out GE823.out GE824.out GE825.out))); have n2_ := Aside0.mk (blk_below (g := gb822) (o := .cells #[.bool true, .slice A0_1 l0_1.length c0_1] 31 (0, 0)) (qb_ BK822.out) hb); have n3_ := Aside0.mk (blk_below (g := gb823) (o := .cells #[.bool a1_0, .slice A1_1 l1_1.length c1_1] 31 (0, 0)) (qb_ BK823.out) hb); have n4_ := Aside0.mk (blk_below (g := gb824) (o := .cells #[.bool false, .slice none 0 0] 31 (0, 0)) (qb_ BK824.out) hb); have n5_ := Aside0.mk (blk_below (g := gb825) (o := .cells #[.bool false, .slice none 0 0] 31 (0, 0)) (qb_ BK825.out) hb); have n6_ := Aside0.mk (below_step (q4_ HB.out GE822.out GE823.out GE824.out GE825.out) hb); clear BK822; clear BK823; clear BK824; clear BK825; clear HB; have HO829 := n0_; have HO831 := n1_; have BK822 := n2_; have BK823 := n3_; have BK824 := n4_; have BK825 := n5_; have HB := n6_; clear n0_ n1_ n2_ n3_ n4_ n5_ n6_; (try clear hb); (try clear hb2); (try clear hk); (try clear hi); (try clear ho0); (try clear ho1); have hcz19_0 : w18.cell? ⟨gb822, 0, none⟩ = some (.bool true) := (blk_cell BK822.out 0).trans rfl; have hcz19_1 : w18.cell? ⟨gb822, 1, none⟩ = some (.slice A0_1 l0_1.length c0_1) := (blk_cell BK822.out 1).trans rfl; have hfz19_0 := blk_frozen BK822.out 0; have hfz19_1 := blk_frozen BK822.out 1; obtain ⟨Ao20, co20, eo20⟩ := Kd.R_slice HO831.out; subst eo20; obtain ⟨Ao21, co21, eo21⟩ := Kd.R_slice HO829.out; subst eo21) | ((with_reducible refine gate_callee (f := 73) rfl ?_); refine goesL_ (some 27) rfl rfl Tryd.func73 (by kernel_rfl) rfl #[.bool true, .slice Ao21 t826.length co21] rfl qe_ ?_; (with_reducible refine (merinoref01_whole.calls k true _ _ t826 t840 t841 _ ?side1 ?side2 A6.out).mono ?_); (case side1 => exact qc_ (Kd.R_reads' HO829.out).2.2); (case side2 => exact (Kd.R_reads' HO829.out).2.1); rintro e w22 ⟨v842, rfl, ho0, hb⟩; refine ⟨_, rfl, ?_⟩; have n0_ := Aside0.mk (Kd.R_elder' (qr_ HO829.out) (Kd.R_base ho0) hb); have n1_ := Aside0.mk (Kd.R_elder' (qr_ HO831.out) (Kd.R_base ho0) hb); have n2_ := Aside0.mk (Kd.R_lower (Kd.R_new' (Kd.R_new' ho0 (Kd.R_lt (qr_ HO829.out))) (Kd.R_lt (qr_ HO831.out))) (below_size (q4_ HB.out GE822.out GE823.out GE824.out GE825.out))); have n3_ := Aside0.mk (blk_below (g := gb822) (o := .cells #[.bool true, .slice A0_1 l0_1.length c0_1] 31 (0, 0)) (qb_ BK822.out) hb); have n4_ := Aside0.mk (blk_below (g := gb823) (o := .cells #[.bool a1_0, .slice A1_1 l1_1.length c1_1] 31 (0, 0)) (qb_ BK823.out) hb); have n5_ := Aside0.mk (blk_below (g := gb824) (o := .cells #[.bool false, .slice none 0 0] 31 (0, 0)) (qb_ BK824.out) hb); have n6_ := Aside0.mk (blk_below (g := gb825) (o := .cells #[.bool false, .slice none 0 0] 31 (0, 0)) (qb_ BK825.out) hb); have n7_ := Aside0.mk (below_step (q4_ HB.out GE822.out GE823.out GE824.out GE825.out) hb); clear HO829; clear HO831; clear BK822; clear BK823; clear BK824; clear BK825; clear HB; have HO829 := n0_; have HO831 := n1_; have HO843 := n2_; have BK822 := n3_; have BK823 := n4_; have BK824 := n5_; have BK825 := n6_; have HB := n7_; clear n0_ n1_ n2_ n3_ n4_ n5_ n6_ n7_; (try clear hb); (try clear hb2); (try clear hk); (try clear hi); (try clear ho0); have hnb23 := NB824_825.out; have hnc23 := NB825_824.out; have hcz24_0 : w22.cell? ⟨gb824, 0, none⟩ = some (.bool false) := (blk_cell BK824.out 0).trans rfl; have hcz24_1 : w22.cell? ⟨gb824, 1, none⟩ = some (.slice none 0 0) := (blk_cell BK824.out 1).trans rfl; have hfz24_0 := blk_frozen BK824.out 0; have hfz24_1 := blk_frozen BK824.out 1; obtain ⟨Ao25, co25, eo25⟩ := Kd.R_slice HO843.out; subst eo25; have hcz26_0 : w22.cell? ⟨gb825, 0, none⟩ = some (.bool false) := (blk_cell BK825.out 0).trans rfl; have hcz26_1 : w22.cell? ⟨gb825, 1, none⟩ = some (.slice none 0 0) := (blk_cell BK825.out 1).trans rfl; have hfz26_0 := blk_frozen BK825.out 0; have hfz26_1 := blk_frozen BK825.out 1))
      refine bodyPost_ret (results_cc rfl _ _ gb824 gb825 31 31 #[.bool t840, .slice Ao25 t841.length co25] #[.bool false, .slice none 0 0] (0, 0) (0, 0) _ _ rfl (by (with_reducible repeat (first | refine blk_drewN ?_ _ | refine blk_drew ?_ | refine blk_alloc ?_ _)); refine blk_far ?_ NB824_825.out _; (with_reducible repeat (first | refine blk_drewN ?_ _ | refine blk_drew ?_ | refine blk_alloc ?_ _)); refine blk_far ?_ NB824_825.out _; (with_reducible repeat (first | refine blk_drewN ?_ _ | refine blk_drew ?_ | refine blk_alloc ?_ _)); refine blk_put (cs := #[.bool t840, .slice none 0 0]) ?_ 1 _ rfl; (with_reducible repeat (first | refine blk_drewN ?_ _ | refine blk_drew ?_ | refine blk_alloc ?_ _)); refine blk_put (cs := #[.bool false, .slice none 0 0]) ?_ 0 _ rfl; (with_reducible repeat (first | refine blk_drewN ?_ _ | refine blk_drew ?_ | refine blk_alloc ?_ _)); exact BK824.out) Tryd.underlying31 rfl (by kernel_rfl) rfl (by (with_reducible repeat (first | refine blk_drewN ?_ _ | refine blk_drew ?_ | refine blk_alloc ?_ _)); refine blk_put (cs := #[.bool false, .slice none 0 0]) ?_ 1 _ rfl; (with_reducible repeat (first | refine blk_drewN ?_ _ | refine blk_drew ?_ | refine blk_alloc ?_ _)); refine blk_put (cs := #[.bool false, .slice none 0 0]) ?_ 0 _ rfl; (with_reducible repeat (first | refine blk_drewN ?_ _ | refine blk_drew ?_ | refine blk_alloc ?_ _)); refine blk_far ?_ NB825_824.out _; (with_reducible repeat (first | refine blk_drewN ?_ _ | refine blk_drew ?_ | refine blk_alloc ?_ _)); refine blk_far ?_ NB825_824.out _; (with_reducible repeat (first | refine blk_drewN ?_ _ | refine blk_drew ?_ | refine blk_alloc ?_ _)); exact BK825.out) Tryd.underlying31 rfl (by kernel_rfl)) rfl ?_
      exact ⟨_, _, by first | rfl | (simp [errW_none, errW_some] <;> rfl) | (simp [*, errW_none, errW_some] <;> rfl), by (with_reducible repeat (first | apply Kd.R_alloc | apply Kd.R_drewN | apply Kd.R_drew)); exact Kd.R_mono (Kd.R_far (p := ⟨gb825, 1, none⟩) (Kd.R_far (p := ⟨gb825, 0, none⟩) (Kd.R_far (p := ⟨gb824, 1, none⟩) (Kd.R_far (p := ⟨gb824, 0, none⟩) (Kd.R_types (Kd.R_types HO843.out BK824.out (by decide)) BK825.out (by decide)) (fun _ hk => hk.1.2) (.bool t840)) (fun _ hk => hk.1.2) (.slice Ao25 t841.length co25)) (fun _ hk => hk.2) (.bool false)) (fun _ hk => hk.2) (.slice none 0 0)) (fun _ hk => (by simp [Value.ownBlock])), by first | exact Kd.R_nil _ _ _ _ _ | exact Kd.N_nil _ _ _ _ _ | exact Kd.V_nil _ _ _ _ _ | exact Kd.Q_nil _ _ _ _ _ | exact Kd.S_nil _ _ _ _ _, (q4_ HB.out GE822.out GE823.out GE824.out GE825.out)⟩
    · rw [if_neg c5] at H
      have c5b0 : ((t827.length : Int) == 0) = false := beq_eq_false_iff_ne.mpr c5
      have c5b1 : ((t827.length : Int) != 0) = true := bne_iff_ne.mpr c5
      have c5b2 : ¬ (t827 = []) := fun h_ => c5 (by rw [h_]; rfl)
      obtain ⟨y844, hy844⟩ : ∃ y_ : List Int, y_ = (([1] : List Int)) := ⟨_, rfl⟩
      replace H : ((merinoref01_addD.f k t826 y844).bind fun t847 => ((merinoref01_whole.f k true t847).bind fun bt850 => ((merinoref01_subD.f k l1_1 t827).bind fun t854 => ((merinoref01_whole.f k false t854).bind fun bt857 => (some (bt850.1, bt850.2, bt857.1, bt857.2)))))) = some (r1, r2, r3, r4) := by first | (rw [hy844]; with_reducible exact H) | (have H2_ := (Option.bind_some _ _).symm.trans H; rw [hy844]; with_reducible exact H2_) | (have H2_ := (Option.bind_some _ _).symm.trans H; with_reducible exact H2_) | with_reducible exact H | (rw [hy844]; exact H) | exact H
      have Ny844 := Aside0.mk hy844
      clear hy844
      replace H := Option.bind_eq_some_iff.mp H
      obtain ⟨t847, A270, H⟩ := H
      replace H : ((merinoref01_whole.f k true t847).bind fun bt850 => ((merinoref01_subD.f k l1_1 t827).bind fun t854 => ((merinoref01_whole.f k false t854).bind fun bt857 => (some (bt850.1, bt850.2, bt857.1, bt857.2))))) = some (r1, r2, r3, r4) := H
      have A27 := Aside0.mk A270
      clear A270
      replace H := Option.bind_eq_some_iff.mp H
      obtain ⟨⟨t850, t851⟩, A280, H⟩ := H
      replace H : ((merinoref01_subD.f k l1_1 t827).bind fun t854 => ((merinoref01_whole.f k false t854).bind fun bt857 => (some (t850, t851, bt857.1, bt857.2)))) = some (r1, r2, r3, r4) := H
      have A28 := Aside0.mk A280
      clear A280
      replace H := Option.bind_eq_some_iff.mp H
      obtain ⟨t854, A290, H⟩ := H
      replace H : ((merinoref01_whole.f k false t854).bind fun bt857 => (some (t850, t851, bt857.1, bt857.2))) = some (r1, r2, r3, r4) := H
      have A29 := Aside0.mk A290
      clear A290
      replace H := Option.bind_eq_some_iff.mp H
      obtain ⟨⟨t857, t858⟩, A300, H⟩ := H
      replace H : (some (t850, t851, t857, t858)) = some (r1, r2, r3, r4) := H
      have A30 := Aside0.mk A300
      clear A300
      simp only [Option.some.injEq, Prod.mk.injEq] at H
      obtain ⟨rfl, rfl, rfl, rfl⟩ := H
      go_enter Tryd.func67, Tryd.ntmps67
      try go_wp2_with (first | ((with_reducible refine gate_dst (N := 2) rfl ?_); refine box_event ?hg (N := 2) ?hd (cs := #[.bool true, .slice A0_1 l0_1.length c0_1]) (t := 31) ?hr ?_; (case hd => rfl); (case hg => rfl); (case hr => first | (go_simp; done) | (go_simp; rfl)); intro gb822 hg w31 hbox hb; have n0_ := Aside0.mk (below_step (q0_ HB.out) hb); have n1_ := Aside0.mk (hbox); have n2_ := Aside0.mk ((by rw [hg]; exact (below_size (q0_ HB.out)) : w.heap.size ≤ gb822)); have n3_ := Aside0.mk ((by rw [hg]; exact (below_size (q0_ HB.out)) : w.heap.size ≤ gb822)); clear HB; have HB := n0_; have BK822 := n1_; have GW822 := n2_; have GE822 := n3_; clear n0_ n1_ n2_ n3_; clear hb hbox hg) | ((with_reducible refine gate_dst (N := 3) rfl ?_); refine box_event ?hg (N := 3) ?hd (cs := #[.bool a1_0, .slice A1_1 l1_1.length c1_1]) (t := 31) ?hr ?_; (case hd => rfl); (case hg => rfl); (case hr => first | (go_simp; done) | (go_simp; rfl)); intro gb823 hg w32 hbox hb; have n0_ := Aside0.mk (blk_below (g := gb822) (o := .cells #[.bool true, .slice A0_1 l0_1.length c0_1] 31 (0, 0)) (qb_ BK822.out) hb); have n1_ := Aside0.mk (below_step (q1_ HB.out GE822.out) hb); have n2_ := Aside0.mk (hbox); have n3_ := Aside0.mk ((by rw [hg]; exact (below_size (q1_ HB.out GE822.out)) : w.heap.size ≤ gb823)); have n4_ := Aside0.mk ((by rw [hg]; exact (below_size (q1_ HB.out GE822.out)) : w.heap.size ≤ gb823)); have n5_ := Aside0.mk ((by rw [hg]; exact Nat.ne_of_lt (blk_lt (g := gb822) (o := .cells #[.bool true, .slice A0_1 l0_1.length c0_1] 31 (0, 0)) (qb_ BK822.out)) : gb822 ≠ gb823)); have n6_ := Aside0.mk ((by rw [hg]; exact Nat.ne_of_gt (blk_lt (g := gb822) (o := .cells #[.bool true, .slice A0_1 l0_1.length c0_1] 31 (0, 0)) (qb_ BK822.out)) : gb823 ≠ gb822)); clear BK822; clear HB; have BK822 := n0_; have HB := n1_; have BK823 := n2_; have GW823 := n3_; have GE823 := n4_; have NB822_823 := n5_; have NB823_822 := n6_; clear n0_ n1_ n2_ n3_ n4_ n5_ n6_; clear hb hbox hg) | ((with_reducible refine gate_dst (N := 4) rfl ?_); refine box_event ?hg (N := 4) ?hd (cs := #[.bool false, .slice none 0 0]) (t := 31) ?hr ?_; (case hd => rfl); (case hg => rfl); (case hr => first | (go_simp; done) | (go_simp; rfl)); intro gb824 hg w33 hbox hb; have n0_ := Aside0.mk (blk_below (g := gb822) (o := .cells #[.bool true, .slice A0_1 l0_1.length c0_1] 31 (0, 0)) (qb_ BK822.out) hb); have n1_ := Aside0.mk (blk_below (g := gb823) (o := .cells #[.bool a1_0, .slice A1_1 l1_1.length c1_1] 31 (0, 0)) (qb_ BK823.out) hb); have n2_ := Aside0.mk (below_step (q2_ HB.out GE822.out GE823.out) hb); have n3_ := Aside0.mk (hbox); have n4_ := Aside0.mk ((by rw [hg]; exact (below_size (q2_ HB.out GE822.out GE823.out)) : w.heap.size ≤ gb824)); have n5_ := Aside0.mk ((by rw [hg]; exact (below_size (q2_ HB.out GE822.out GE823.out)) : w.heap.size ≤ gb824)); have n6_ := Aside0.mk ((by rw [hg]; exact Nat.ne_of_lt (blk_lt (g := gb822) (o := .cells #[.bool true, .slice A0_1 l0_1.length c0_1] 31 (0, 0)) (qb_ BK822.out)) : gb822 ≠ gb824)); have n7_ := Aside0.mk ((by rw [hg]; exact Nat.ne_of_gt (blk_lt (g := gb822) (o := .cells #[.bool true, .slice A0_1 l0_1.length c0_1] 31 (0, 0)) (qb_ BK822.out)) : gb824 ≠ gb822)); have n8_ := Aside0.mk ((by rw [hg]; exact Nat.ne_of_lt (blk_lt (g := gb823) (o := .cells #[.bool a1_0, .slice A1_1 l1_1.length c1_1] 31 (0, 0)) (qb_ BK823.out)) : gb823 ≠ gb824)); have n9_ := Aside0.mk ((by rw [hg]; exact Nat.ne_of_gt (blk_lt (g := gb823) (o := .cells #[.bool a1_0, .slice A1_1 l1_1.length c1_1] 31 (0, 0)) (qb_ BK823.out)) : gb824 ≠ gb823)); clear BK822; clear BK823; clear HB; have BK822 := n0_; have BK823 := n1_; have HB := n2_; have BK824 := n3_; have GW824 := n4_; have GE824 := n5_; have NB822_824 := n6_; have NB824_822 := n7_; have NB823_824 := n8_; have NB824_823 := n9_; clear n0_ n1_ n2_ n3_ n4_ n5_ n6_ n7_ n8_ n9_; clear hb hbox hg) | ((with_reducible refine gate_dst (N := 5) rfl ?_); refine box_event ?hg (N := 5) ?hd (cs := #[.bool false, .slice none 0 0]) (t := 31) ?hr ?_; (case hd => rfl); (case hg => rfl); (case hr => first | (go_simp; done) | (go_simp; rfl)); intro gb825 hg w34 hbox hb; have n0_ := Aside0.mk (blk_below (g := gb822) (o := .cells #[.bool true, .slice A0_1 l0_1.length c0_1] 31 (0, 0)) (qb_ BK822.out) hb); have n1_ := Aside0.mk (blk_below (g := gb823) (o := .cells #[.bool a1_0, .slice A1_1 l1_1.length c1_1] 31 (0, 0)) (qb_ BK823.out) hb); have n2_ := Aside0.mk (blk_below (g := gb824) (o := .cells #[.bool false, .slice none 0 0] 31 (0, 0)) (qb_ BK824.out) hb); have n3_ := Aside0.mk (below_step (q3_ HB.out GE822.out GE823.out GE824.out) hb); have n4_ := Aside0.mk (hbox); have n5_ := Aside0.mk ((by rw [hg]; exact (below_size (q3_ HB.out GE822.out GE823.out GE824.out)) : w.heap.size ≤ gb825)); have n6_ := Aside0.mk ((by rw [hg]; exact (below_size (q3_ HB.out GE822.out GE823.out GE824.out)) : w.heap.size ≤ gb825)); have n7_ := Aside0.mk ((by rw [hg]; exact Nat.ne_of_lt (blk_lt (g := gb822) (o := .cells #[.bool true, .slice A0_1 l0_1.length c0_1] 31 (0, 0)) (qb_ BK822.out)) : gb822 ≠ gb825)); have n8_ := Aside0.mk ((by rw [hg]; exact Nat.ne_of_gt (blk_lt (g := gb822) (o := .cells #[.bool true, .slice A0_1 l0_1.length c0_1] 31 (0, 0)) (qb_ BK822.out)) : gb825 ≠ gb822)); have n9_ := Aside0.mk ((by rw [hg]; exact Nat.ne_of_lt (blk_lt (g := gb823) (o := .cells #[.bool a1_0, .slice A1_1 l1_1.length c1_1] 31 (0, 0)) (qb_ BK823.out)) : gb823 ≠ gb825)); have n10_ := Aside0.mk ((by rw [hg]; exact Nat.ne_of_gt (blk_lt (g := gb823) (o := .cells #[.bool a1_0, .slice A1_1 l1_1.length c1_1] 31 (0, 0)) (qb_ BK823.out)) : gb825 ≠ gb823)); have n11_ := Aside0.mk ((by rw [hg]; exact Nat.ne_of_lt (blk_lt (g := gb824) (o := .cells #[.bool false, .slice none 0 0] 31 (0, 0)) (qb_ BK824.out)) : gb824 ≠ gb825)); have n12_ := Aside0.mk ((by rw [hg]; exact Nat.ne_of_gt (blk_lt (g := gb824) (o := .cells #[.bool false, .slice none 0 0] 31 (0, 0)) (qb_ BK824.out)) : gb825 ≠ gb824)); clear BK822; clear BK823; clear BK824; clear HB; have BK822 := n0_; have BK823 := n1_; have BK824 := n2_; have HB := n3_; have BK825 := n4_; have GW825 := n5_; have GE825 := n6_; have NB822_825 := n7_; have NB825_822 := n8_; have NB823_825 := n9_; have NB825_823 := n10_; have NB824_825 := n11_; have NB825_824 := n12_; clear n0_ n1_ n2_ n3_ n4_ n5_ n6_ n7_ n8_ n9_ n10_ n11_ n12_; clear hb hbox hg; have hnb35 := NB822_823.out; have hnc35 := NB823_822.out; have hnb36 := NB822_824.out; have hnc36 := NB824_822.out; have hnb37 := NB822_825.out; have hnc37 := NB825_822.out; have hcz38_0 : w34.cell? ⟨gb822, 0, none⟩ = some (.bool true) := (blk_cell BK822.out 0).trans rfl; have hcz38_1 : w34.cell? ⟨gb822, 1, none⟩ = some (.slice A0_1 l0_1.length c0_1) := (blk_cell BK822.out 1).trans rfl; have hfz38_0 := blk_frozen BK822.out 0; have hfz38_1 := blk_frozen BK822.out 1; have hnb39 := NB823_824.out; have hnc39 := NB824_823.out; have hnb40 := NB823_825.out; have hnc40 := NB825_823.out; have hcz41_0 : w34.cell? ⟨gb823, 0, none⟩ = some (.bool a1_0) := (blk_cell BK823.out 0).trans rfl; have hcz41_1 : w34.cell? ⟨gb823, 1, none⟩ = some (.slice A1_1 l1_1.length c1_1) := (blk_cell BK823.out 1).trans rfl; have hfz41_0 := blk_frozen BK823.out 0; have hfz41_1 := blk_frozen BK823.out 1) | ((with_reducible refine gate_callee (f := 105) rfl ?_); refine goesL_ (some 13) rfl rfl Tryd.func105 (by kernel_rfl) rfl #[.slice A0_1 l0_1.length c0_1, .slice A1_1 l1_1.length c1_1] rfl qe_ ?_; (with_reducible refine (merinoref01_divD.calls k _ _ l0_1 _ _ l1_1 t826 t827 _ ?side1 ?side2 ?side3 ?side4 A3.out).mono ?_); (case side1 => exact qc_ (Kd.C_below HR0_1.out HB.out)); (case side2 => exact HC0_1.out); (case side3 => exact qc_ (Kd.C_below HR1_1.out HB.out)); (case side4 => exact HC1_1.out); rintro e w42 ⟨v828, v830, rfl, ho0, ho1, hb⟩; refine ⟨_, rfl, ?_⟩; have n0_ := Aside0.mk (Kd.R_lower ho0 (below_size (q4_ HB.out GE822.out GE823.out GE824.out GE825.out))); have n1_ := Aside0.mk (Kd.R_lower ho1 (below_size (q4_ HB.out GE822.out GE823.out GE824.out GE825.out))); have n2_ := Aside0.mk (blk_below (g := gb822) (o := .cells #[.bool true, .slice A0_1 l0_1.length c0_1] 31 (0, 0)) (qb_ BK822.out) hb); have n3_ := Aside0.mk (blk_below (g := gb823) (o := .cells #[.bool a1_0, .slice A1_1 l1_1.length c1_1] 31 (0, 0)) (qb_ BK823.out) hb); have n4_ := Aside0.mk (blk_below (g := gb824) (o := .cells #[.bool false, .slice none 0 0] 31 (0, 0)) (qb_ BK824.out) hb); have n5_ := Aside0.mk (blk_below (g := gb825) (o := .cells #[.bool false, .slice none 0 0] 31 (0, 0)) (qb_ BK825.out) hb); have n6_ := Aside0.mk (below_step (q4_ HB.out GE822.out GE823.out GE824.out GE825.out) hb); clear BK822; clear BK823; clear BK824; clear BK825; clear HB; have HO829 := n0_; have HO831 := n1_; have BK822 := n2_; have BK823 := n3_; have BK824 := n4_; have BK825 := n5_; have HB := n6_; clear n0_ n1_ n2_ n3_ n4_ n5_ n6_; (try clear hb); (try clear hb2); (try clear hk); (try clear hi); (try clear ho0); (try clear ho1); have hcz43_0 : w42.cell? ⟨gb822, 0, none⟩ = some (.bool true) := (blk_cell BK822.out 0).trans rfl; have hcz43_1 : w42.cell? ⟨gb822, 1, none⟩ = some (.slice A0_1 l0_1.length c0_1) := (blk_cell BK822.out 1).trans rfl; have hfz43_0 := blk_frozen BK822.out 0; have hfz43_1 := blk_frozen BK822.out 1; obtain ⟨Ao44, co44, eo44⟩ := Kd.R_slice HO831.out; subst eo44))
      have n0_ := Aside0.mk (Kd.R_drew HO829.out)
      have n1_ := Aside0.mk (Kd.R_drew HO831.out)
      have n2_ := Aside0.mk (blk_drew BK822.out)
      have n3_ := Aside0.mk (blk_drew BK823.out)
      have n4_ := Aside0.mk (blk_drew BK824.out)
      have n5_ := Aside0.mk (blk_drew BK825.out)
      have n6_ := Aside0.mk (below_drew1 HB.out)
      clear HO829
      clear HO831
      clear BK822
      clear BK823
      clear BK824
      clear BK825
      clear HB
      have HO829 := n0_
      have HO831 := n1_
      have BK822 := n2_
      have BK823 := n3_
      have BK824 := n4_
      have BK825 := n5_
      have HB := n6_
      clear n0_ n1_ n2_ n3_ n4_ n5_ n6_
      refine start_ (n := 11) (S := fun w' => w'.cell? ⟨gb823, 0, none⟩ = some (.bool a1_0) ∧ w'.cell? ⟨gb823, 1, none⟩ = some (.slice A1_1 l1_1.length c1_1)) (ds := []) #[false, false, false, false, false, false, false, false, false, false, false] (by kernel_rfl) rfl rfl ⟨(blk_cell BK823.out 0).trans rfl, (blk_cell BK823.out 1).trans rfl⟩ (fun hHeld => ?_); refine with_tabW merinoref01_Over.tab6 merinoref01_Over.bits6 (fun HT_ HW_ => ?_)
      generalize w42.drew = w45 at HO829 HO831 BK822 BK823 BK824 BK825 HB hHeld ⊢
      refine pure_ (i := 0) (N := some 29) (v := ?_) (a' := ?_) #[true, false, false, false, false, false, false, false, false, false, false] rfl rfl (any_of HT_.out (by kernel_rfl)) (fun _ _ _ h => h) (Or.inl ⟨by rfl, ?_⟩) ?_ ?_
      rotate_left
      · intro w'
        go_simp
        with_reducible rfl
      rotate_left
      · simp only [Act.put, List.setIfInBounds_toArray, List.set_cons_zero, List.set_cons_succ, i64_w, i32_w]
        rfl
      refine pure_ (i := 4) (N := some 33) (v := ?_) (a' := ?_) #[true, false, false, false, true, false, false, false, false, false, false] rfl rfl (any_of HT_.out (by kernel_rfl)) (fun _ _ _ h => h) (Or.inl ⟨by rfl, ?_⟩) ?_ ?_
      rotate_left
      · intro w'
        go_simp
        with_reducible rfl
      rotate_left
      · simp only [Act.put, List.setIfInBounds_toArray, List.set_cons_zero, List.set_cons_succ, i64_w, i32_w]
        rfl
      refine pure_ (i := 6) (N := some 35) (v := ?_) (a' := ?_) #[true, false, false, false, true, false, true, false, false, false, false] rfl rfl (any_of HT_.out (by kernel_rfl)) (fun _ _ _ h => h) (Or.inl ⟨by rfl, ?_⟩) ?_ ?_
      rotate_left
      · intro w'
        go_simp
        with_reducible rfl
      rotate_left
      · simp only [Act.put, List.setIfInBounds_toArray, List.set_cons_zero, List.set_cons_succ, i64_w, i32_w]
        rfl
      refine take_ (i := 5) (N := some 34) (v := ?_) (a' := ?_) #[true, false, false, false, true, true, true, false, false, false, false] rfl rfl (take_ofW HT_.out HW_.out (by kernel_rfl)) (fun _ _ _ h => h) (Or.inl ⟨by rfl, ?_⟩) hHeld ?_ ?_
      rotate_left
      · rintro w' ⟨s0, s1⟩
        go_simp
        with_reducible rfl
      rotate_left
      · simp only [Act.put, List.setIfInBounds_toArray, List.set_cons_zero, List.set_cons_succ, i64_w, i32_w]
        rfl
      refine one_ (i := 1) (N := some 30) #[true, true, false, false, true, true, true, false, false, false, false] rfl rfl (one_of HT_.out (by kernel_rfl)) (by decide) (fun K hK => ?_)
      refine Kd.R_lit_step (Kd.int .i64) _ 3 ?hg (N := 30) ?hd (xs := ([1] : List Int)) (inner := [.int .i64 1]) (ok := fun _ => True) (okp := fun _ => True) ?hr ?hp (fun _ hk => hk) trivial (Below.refl _ _) (Nat.le_refl _) (by simp) ?_; (case hd => rfl); (case hg => rfl); (case hr => first | (go_simp; done) | (go_simp; rfl)); (case hp => exact (Reps.one (show Kd.M (Kd.int .i64) _ _ _ 1 [.int .i64 1] from rfl) (Reps.none _ _)))
      intro v845 w46 ho47 hb hg_ hnew_
      clear hg_ hnew_
      (first | rw [← Ny844.out] at ho47 | (simp only [Int.reduceToNat] at ho47; rw [← Ny844.out] at ho47))
      have n0_ := Aside0.mk (Kd.R_elder' (qr_ HO829.out) (Kd.R_base ho47) hb)
      have n1_ := Aside0.mk (Kd.R_elder' (qr_ HO831.out) (Kd.R_base ho47) hb)
      have n2_ := Aside0.mk (Kd.R_lower (Kd.R_new' (Kd.R_new' ho47 (Kd.R_lt (qr_ HO829.out))) (Kd.R_lt (qr_ HO831.out))) (below_size (q4_ HB.out GE822.out GE823.out GE824.out GE825.out)))
      have n3_ := Aside0.mk (blk_below (g := gb822) (o := .cells #[.bool true, .slice A0_1 l0_1.length c0_1] 31 (0, 0)) (qb_ BK822.out) hb)
      have n4_ := Aside0.mk (blk_below (g := gb823) (o := .cells #[.bool a1_0, .slice A1_1 l1_1.length c1_1] 31 (0, 0)) (qb_ BK823.out) hb)
      have n5_ := Aside0.mk (blk_below (g := gb824) (o := .cells #[.bool false, .slice none 0 0] 31 (0, 0)) (qb_ BK824.out) hb)
      have n6_ := Aside0.mk (blk_below (g := gb825) (o := .cells #[.bool false, .slice none 0 0] 31 (0, 0)) (qb_ BK825.out) hb)
      have n7_ := Aside0.mk (below_step (q4_ HB.out GE822.out GE823.out GE824.out GE825.out) hb)
      clear HO829
      clear HO831
      clear BK822
      clear BK823
      clear BK824
      clear BK825
      clear HB
      have HO829 := n0_
      have HO831 := n1_
      have HO846 := n2_
      have BK822 := n3_
      have BK823 := n4_
      have BK824 := n5_
      have BK825 := n6_
      have HB := n7_
      clear n0_ n1_ n2_ n3_ n4_ n5_ n6_ n7_
      clear hb ho47
      obtain ⟨Ao48, co48, eo48⟩ := Kd.R_slice HO829.out
      (first | subst eo48 | (injection eo48 with f1_ f2_ f3_; have f4_ := f1_.symm; have f5_ := f3_.symm; clear f1_ f2_ f3_; subst f4_; subst f5_))
      obtain ⟨Ao49, co49, eo49⟩ := Kd.R_slice HO846.out
      (first | subst eo49 | (injection eo49 with f1_ f2_ f3_; have f4_ := f1_.symm; have f5_ := f3_.symm; clear f1_ f2_ f3_; subst f4_; subst f5_))
      refine hK.out _ _ ⟨(blk_cell BK823.out 0).trans rfl, (blk_cell BK823.out 1).trans rfl⟩ (fun hHeld => ?_)
      clear hK K
      refine norm_ (a' := ?_) ?_ ?_
      rotate_left
      · show Act.put _ (some 30) _ = _
        simp only [Act.put, List.setIfInBounds_toArray, List.set_cons_zero, List.set_cons_succ, i64_w, i32_w]
        rfl
      refine one_ (i := 2) (N := some 31) #[true, true, true, false, true, true, true, false, false, false, false] rfl rfl (one_of HT_.out (by kernel_rfl)) (by decide) (fun K hK => ?_)
      refine goes_ Tryd.func106 (by kernel_rfl) rfl #[.slice Ao48 t826.length co48, .slice Ao49 y844.length co49] (by rfl) rfl rfl qe_ ?_
      with_reducible refine (merinoref01_addD.calls k _ _ t826 _ _ y844 t847 _ ?side1 ?side2 ?side3 ?side4 A27.out).mono ?_
      (case side1 => exact qc_ (Kd.R_reads' HO829.out).2.2)
      (case side2 => exact (Kd.R_reads' HO829.out).2.1)
      (case side3 => exact qc_ (Kd.R_reads' HO846.out).2.2)
      (case side4 => exact (Kd.R_reads' HO846.out).2.1)
      rintro e w50 ⟨v848, rfl, ho0, hb⟩
      refine ⟨_, rfl, ?_⟩
      have n0_ := Aside0.mk (Kd.R_elder' (qr_ HO829.out) (Kd.R_base ho0) hb)
      have n1_ := Aside0.mk (Kd.R_elder' (qr_ HO831.out) (Kd.R_base ho0) hb)
      have n2_ := Aside0.mk (Kd.R_elder' (qr_ HO846.out) (Kd.R_base ho0) hb)
      have n3_ := Aside0.mk (Kd.R_lower (Kd.R_new' (Kd.R_new' (Kd.R_new' ho0 (Kd.R_lt (qr_ HO829.out))) (Kd.R_lt (qr_ HO831.out))) (Kd.R_lt (qr_ HO846.out))) (below_size (q4_ HB.out GE822.out GE823.out GE824.out GE825.out)))
      have n4_ := Aside0.mk (blk_below (g := gb822) (o := .cells #[.bool true, .slice A0_1 l0_1.length c0_1] 31 (0, 0)) (qb_ BK822.out) hb)
      have n5_ := Aside0.mk (blk_below (g := gb823) (o := .cells #[.bool a1_0, .slice A1_1 l1_1.length c1_1] 31 (0, 0)) (qb_ BK823.out) hb)
      have n6_ := Aside0.mk (blk_below (g := gb824) (o := .cells #[.bool false, .slice none 0 0] 31 (0, 0)) (qb_ BK824.out) hb)
      have n7_ := Aside0.mk (blk_below (g := gb825) (o := .cells #[.bool false, .slice none 0 0] 31 (0, 0)) (qb_ BK825.out) hb)
      have n8_ := Aside0.mk (below_step (q4_ HB.out GE822.out GE823.out GE824.out GE825.out) hb)
      clear HO829
      clear HO831
      clear HO846
      clear BK822
      clear BK823
      clear BK824
      clear BK825
      clear HB
      have HO829 := n0_
      have HO831 := n1_
      have HO846 := n2_
      have HO849 := n3_
      have BK822 := n4_
      have BK823 := n5_
      have BK824 := n6_
      have BK825 := n7_
      have HB := n8_
      clear n0_ n1_ n2_ n3_ n4_ n5_ n6_ n7_ n8_
      (try clear hb)
      (try clear hb2)
      (try clear hk)
      (try clear hi)
      (try clear ho0)
      obtain ⟨Ao51, co51, eo51⟩ := Kd.R_slice HO849.out
      (first | subst eo51 | (injection eo51 with f1_ f2_ f3_; have f4_ := f1_.symm; have f5_ := f3_.symm; clear f1_ f2_ f3_; subst f4_; subst f5_))
      refine hK.out _ _ ⟨(blk_cell BK823.out 0).trans rfl, (blk_cell BK823.out 1).trans rfl⟩ (fun hHeld => ?_)
      clear hK K
      refine norm_ (a' := ?_) ?_ ?_
      rotate_left
      · show Act.put _ (some 31) _ = _
        simp only [Act.put, List.setIfInBounds_toArray, List.set_cons_zero, List.set_cons_succ, i64_w, i32_w]
        rfl
      refine one_ (i := 3) (N := some 32) #[true, true, true, true, true, true, true, false, false, false, false] rfl rfl (one_of HT_.out (by kernel_rfl)) (by decide) (fun K hK => ?_)
      refine goes_ Tryd.func73 (by kernel_rfl) rfl #[.bool true, .slice Ao51 t847.length co51] (by rfl) rfl rfl qe_ ?_
      with_reducible refine (merinoref01_whole.calls k true _ _ t847 t850 t851 _ ?side1 ?side2 A28.out).mono ?_
      (case side1 => exact qc_ (Kd.R_reads' HO849.out).2.2)
      (case side2 => exact (Kd.R_reads' HO849.out).2.1)
      rintro e w52 ⟨v852, rfl, ho0, hb⟩
      refine ⟨_, rfl, ?_⟩
      have n0_ := Aside0.mk (Kd.R_elder' (qr_ HO829.out) (Kd.R_base ho0) hb)
      have n1_ := Aside0.mk (Kd.R_elder' (qr_ HO831.out) (Kd.R_base ho0) hb)
      have n2_ := Aside0.mk (Kd.R_elder' (qr_ HO846.out) (Kd.R_base ho0) hb)
      have n3_ := Aside0.mk (Kd.R_elder' (qr_ HO849.out) (Kd.R_base ho0) hb)
      have n4_ := Aside0.mk (Kd.R_lower (Kd.R_new' (Kd.R_new' (Kd.R_new' (Kd.R_new' ho0 (Kd.R_lt (qr_ HO829.out))) (Kd.R_lt (qr_ HO831.out))) (Kd.R_lt (qr_ HO846.out))) (Kd.R_lt (qr_ HO849.out))) (below_size (q4_ HB.out GE822.out GE823.out GE824.out GE825.out)))
      have n5_ := Aside0.mk (blk_below (g := gb822) (o := .cells #[.bool true, .slice A0_1 l0_1.length c0_1] 31 (0, 0)) (qb_ BK822.out) hb)
      have n6_ := Aside0.mk (blk_below (g := gb823) (o := .cells #[.bool a1_0, .slice A1_1 l1_1.length c1_1] 31 (0, 0)) (qb_ BK823.out) hb)
      have n7_ := Aside0.mk (blk_below (g := gb824) (o := .cells #[.bool false, .slice none 0 0] 31 (0, 0)) (qb_ BK824.out) hb)
      have n8_ := Aside0.mk (blk_below (g := gb825) (o := .cells #[.bool false, .slice none 0 0] 31 (0, 0)) (qb_ BK825.out) hb)
      have n9_ := Aside0.mk (below_step (q4_ HB.out GE822.out GE823.out GE824.out GE825.out) hb)
      clear HO829
      clear HO831
      clear HO846
      clear HO849
      clear BK822
      clear BK823
      clear BK824
      clear BK825
      clear HB
      have HO829 := n0_
      have HO831 := n1_
      have HO846 := n2_
      have HO849 := n3_
      have HO853 := n4_
      have BK822 := n5_
      have BK823 := n6_
      have BK824 := n7_
      have BK825 := n8_
      have HB := n9_
      clear n0_ n1_ n2_ n3_ n4_ n5_ n6_ n7_ n8_ n9_
      (try clear hb)
      (try clear hb2)
      (try clear hk)
      (try clear hi)
      (try clear ho0)
      refine hK.out _ _ ⟨(blk_cell BK823.out 0).trans rfl, (blk_cell BK823.out 1).trans rfl⟩ (fun hHeld => ?_)
      clear hK K
      refine norm_ (a' := ?_) ?_ ?_
      rotate_left
      · show Act.put _ (some 32) _ = _
        simp only [Act.put, List.setIfInBounds_toArray, List.set_cons_zero, List.set_cons_succ, i64_w, i32_w]
        rfl
      refine one_ (i := 7) (N := some 36) #[true, true, true, true, true, true, true, true, false, false, false] rfl rfl (one_of HT_.out (by kernel_rfl)) (by decide) (fun K hK => ?_)
      refine goes_ Tryd.func107 (by kernel_rfl) rfl #[.slice A1_1 l1_1.length c1_1, .slice Ao44 t827.length co44] (by rfl) rfl rfl qe_ ?_
      with_reducible refine (merinoref01_subD.calls k _ _ l1_1 _ _ t827 t854 _ ?side1 ?side2 ?side3 ?side4 A29.out).mono ?_
      (case side1 => exact qc_ (Kd.C_below HR1_1.out HB.out))
      (case side2 => exact HC1_1.out)
      (case side3 => exact qc_ (Kd.R_reads' HO831.out).2.2)
      (case side4 => exact (Kd.R_reads' HO831.out).2.1)
      rintro e w53 ⟨v855, rfl, ho0, hb⟩
      refine ⟨_, rfl, ?_⟩
      have n0_ := Aside0.mk (Kd.R_elder' (qr_ HO829.out) (Kd.R_base ho0) hb)
      have n1_ := Aside0.mk (Kd.R_elder' (qr_ HO831.out) (Kd.R_base ho0) hb)
      have n2_ := Aside0.mk (Kd.R_elder' (qr_ HO846.out) (Kd.R_base ho0) hb)
      have n3_ := Aside0.mk (Kd.R_elder' (qr_ HO849.out) (Kd.R_base ho0) hb)
      have n4_ := Aside0.mk (Kd.R_elder' (qr_ HO853.out) (Kd.R_base ho0) hb)
      have n5_ := Aside0.mk (Kd.R_lower (Kd.R_new' (Kd.R_new' (Kd.R_new' (Kd.R_new' (Kd.R_new' ho0 (Kd.R_lt (qr_ HO829.out))) (Kd.R_lt (qr_ HO831.out))) (Kd.R_lt (qr_ HO846.out))) (Kd.R_lt (qr_ HO849.out))) (Kd.R_lt (qr_ HO853.out))) (below_size (q4_ HB.out GE822.out GE823.out GE824.out GE825.out)))
      have n6_ := Aside0.mk (blk_below (g := gb822) (o := .cells #[.bool true, .slice A0_1 l0_1.length c0_1] 31 (0, 0)) (qb_ BK822.out) hb)
      have n7_ := Aside0.mk (blk_below (g := gb823) (o := .cells #[.bool a1_0, .slice A1_1 l1_1.length c1_1] 31 (0, 0)) (qb_ BK823.out) hb)
      have n8_ := Aside0.mk (blk_below (g := gb824) (o := .cells #[.bool false, .slice none 0 0] 31 (0, 0)) (qb_ BK824.out) hb)
      have n9_ := Aside0.mk (blk_below (g := gb825) (o := .cells #[.bool false, .slice none 0 0] 31 (0, 0)) (qb_ BK825.out) hb)
      have n10_ := Aside0.mk (below_step (q4_ HB.out GE822.out GE823.out GE824.out GE825.out) hb)
      clear HO829
      clear HO831
      clear HO846
      clear HO849
      clear HO853
      clear BK822
      clear BK823
      clear BK824
      clear BK825
      clear HB
      have HO829 := n0_
      have HO831 := n1_
      have HO846 := n2_
      have HO849 := n3_
      have HO853 := n4_
      have HO856 := n5_
      have BK822 := n6_
      have BK823 := n7_
      have BK824 := n8_
      have BK825 := n9_
      have HB := n10_
      clear n0_ n1_ n2_ n3_ n4_ n5_ n6_ n7_ n8_ n9_ n10_
      (try clear hb)
      (try clear hb2)
      (try clear hk)
      (try clear hi)
      (try clear ho0)
      obtain ⟨Ao54, co54, eo54⟩ := Kd.R_slice HO856.out
      (first | subst eo54 | (injection eo54 with f1_ f2_ f3_; have f4_ := f1_.symm; have f5_ := f3_.symm; clear f1_ f2_ f3_; subst f4_; subst f5_))
      refine hK.out _ _ ⟨(blk_cell BK823.out 0).trans rfl, (blk_cell BK823.out 1).trans rfl⟩ (fun hHeld => ?_)
      clear hK K
      refine norm_ (a' := ?_) ?_ ?_
      rotate_left
      · show Act.put _ (some 36) _ = _
        simp only [Act.put, List.setIfInBounds_toArray, List.set_cons_zero, List.set_cons_succ, i64_w, i32_w]
        rfl
      refine one_ (i := 8) (N := some 37) #[true, true, true, true, true, true, true, true, true, false, false] rfl rfl (one_of HT_.out (by kernel_rfl)) (by decide) (fun K hK => ?_)
      refine goes_ Tryd.func73 (by kernel_rfl) rfl #[.bool false, .slice Ao54 t854.length co54] (by rfl) rfl rfl qe_ ?_
      with_reducible refine (merinoref01_whole.calls k false _ _ t854 t857 t858 _ ?side1 ?side2 A30.out).mono ?_
      (case side1 => exact qc_ (Kd.R_reads' HO856.out).2.2)
      (case side2 => exact (Kd.R_reads' HO856.out).2.1)
      rintro e w55 ⟨v859, rfl, ho0, hb⟩
      refine ⟨_, rfl, ?_⟩
      have n0_ := Aside0.mk (Kd.R_elder' (qr_ HO829.out) (Kd.R_base ho0) hb)
      have n1_ := Aside0.mk (Kd.R_elder' (qr_ HO831.out) (Kd.R_base ho0) hb)
      have n2_ := Aside0.mk (Kd.R_elder' (qr_ HO846.out) (Kd.R_base ho0) hb)
      have n3_ := Aside0.mk (Kd.R_elder' (qr_ HO849.out) (Kd.R_base ho0) hb)
      have n4_ := Aside0.mk (Kd.R_elder' (qr_ HO853.out) (Kd.R_base ho0) hb)
      have n5_ := Aside0.mk (Kd.R_elder' (qr_ HO856.out) (Kd.R_base ho0) hb)
      have n6_ := Aside0.mk (Kd.R_lower (Kd.R_new' (Kd.R_new' (Kd.R_new' (Kd.R_new' (Kd.R_new' (Kd.R_new' ho0 (Kd.R_lt (qr_ HO829.out))) (Kd.R_lt (qr_ HO831.out))) (Kd.R_lt (qr_ HO846.out))) (Kd.R_lt (qr_ HO849.out))) (Kd.R_lt (qr_ HO853.out))) (Kd.R_lt (qr_ HO856.out))) (below_size (q4_ HB.out GE822.out GE823.out GE824.out GE825.out)))
      have n7_ := Aside0.mk (blk_below (g := gb822) (o := .cells #[.bool true, .slice A0_1 l0_1.length c0_1] 31 (0, 0)) (qb_ BK822.out) hb)
      have n8_ := Aside0.mk (blk_below (g := gb823) (o := .cells #[.bool a1_0, .slice A1_1 l1_1.length c1_1] 31 (0, 0)) (qb_ BK823.out) hb)
      have n9_ := Aside0.mk (blk_below (g := gb824) (o := .cells #[.bool false, .slice none 0 0] 31 (0, 0)) (qb_ BK824.out) hb)
      have n10_ := Aside0.mk (blk_below (g := gb825) (o := .cells #[.bool false, .slice none 0 0] 31 (0, 0)) (qb_ BK825.out) hb)
      have n11_ := Aside0.mk (below_step (q4_ HB.out GE822.out GE823.out GE824.out GE825.out) hb)
      clear HO829
      clear HO831
      clear HO846
      clear HO849
      clear HO853
      clear HO856
      clear BK822
      clear BK823
      clear BK824
      clear BK825
      clear HB
      have HO829 := n0_
      have HO831 := n1_
      have HO846 := n2_
      have HO849 := n3_
      have HO853 := n4_
      have HO856 := n5_
      have HO860 := n6_
      have BK822 := n7_
      have BK823 := n8_
      have BK824 := n9_
      have BK825 := n10_
      have HB := n11_
      clear n0_ n1_ n2_ n3_ n4_ n5_ n6_ n7_ n8_ n9_ n10_ n11_
      (try clear hb)
      (try clear hb2)
      (try clear hk)
      (try clear hi)
      (try clear ho0)
      obtain ⟨Ao57, co57, eo57⟩ := Kd.R_slice HO853.out
      (first | subst eo57 | (injection eo57 with f1_ f2_ f3_; have f4_ := f1_.symm; have f5_ := f3_.symm; clear f1_ f2_ f3_; subst f4_; subst f5_))
      obtain ⟨Ao60, co60, eo60⟩ := Kd.R_slice HO860.out
      (first | subst eo60 | (injection eo60 with f1_ f2_ f3_; have f4_ := f1_.symm; have f5_ := f3_.symm; clear f1_ f2_ f3_; subst f4_; subst f5_))
      refine hK.out _ _ ⟨(blk_cell BK823.out 0).trans rfl, (blk_cell BK823.out 1).trans rfl⟩ (fun hHeld => ?_)
      clear hK K
      refine norm_ (a' := ?_) ?_ ?_
      rotate_left
      · show Act.put _ (some 37) _ = _
        simp only [Act.put, List.setIfInBounds_toArray, List.set_cons_zero, List.set_cons_succ, i64_w, i32_w]
        rfl
      refine one_ (i := 9) (N := none) #[true, true, true, true, true, true, true, true, true, true, false] rfl rfl (one_of HT_.out (by kernel_rfl)) (by decide) (fun K hK => ?_)
      have hs56 : w55.cell? ⟨gb824, 0, none⟩ = some (.bool false) := (blk_cell BK824.out 0).trans rfl
      have hfs56 := blk_frozen BK824.out 0
      have hns56_0 := NB822_824.out
      have hns56_1 := NB823_824.out
      have hns56_3 := NB825_824.out
      have hms56_0 := NB824_822.out
      have hms56_1 := NB824_823.out
      have hms56_3 := NB824_825.out
      have hs58 : w55.cell? ⟨gb824, 1, none⟩ = some (.slice none 0 0) := (blk_cell BK824.out 1).trans rfl
      have hfs58 := blk_frozen BK824.out 1
      have hns58_0 := NB822_824.out
      have hns58_1 := NB823_824.out
      have hns58_3 := NB825_824.out
      have hms58_0 := NB824_822.out
      have hms58_1 := NB824_823.out
      have hms58_3 := NB824_825.out
      refine skip_ (w1 := ?_) (by rfl) rfl ?_ ?_
      rotate_left
      · go_simp
        rfl
      refine hK.out _ _ ⟨((cell_far (p := ⟨gb824, _, none⟩) NB823_824.out _).trans (((cell_far (p := ⟨gb824, _, none⟩) NB823_824.out _).trans (hHeld.1)))), ((cell_far (p := ⟨gb824, _, none⟩) NB823_824.out _).trans (((cell_far (p := ⟨gb824, _, none⟩) NB823_824.out _).trans (hHeld.2))))⟩ (fun hHeld => ?_)
      clear hK K
      refine one_ (i := 10) (N := none) #[true, true, true, true, true, true, true, true, true, true, true] rfl rfl (one_of HT_.out (by kernel_rfl)) (by decide) (fun K hK => ?_)
      have hs59 : w55.cell? ⟨gb825, 0, none⟩ = some (.bool false) := (blk_cell BK825.out 0).trans rfl
      have hfs59 := blk_frozen BK825.out 0
      have hns59_0 := NB822_825.out
      have hns59_1 := NB823_825.out
      have hns59_2 := NB824_825.out
      have hms59_0 := NB825_822.out
      have hms59_1 := NB825_823.out
      have hms59_2 := NB825_824.out
      have hs61 : w55.cell? ⟨gb825, 1, none⟩ = some (.slice none 0 0) := (blk_cell BK825.out 1).trans rfl
      have hfs61 := blk_frozen BK825.out 1
      have hns61_0 := NB822_825.out
      have hns61_1 := NB823_825.out
      have hns61_2 := NB824_825.out
      have hms61_0 := NB825_822.out
      have hms61_1 := NB825_823.out
      have hms61_2 := NB825_824.out
      refine skip_ (w1 := ?_) (by rfl) rfl ?_ ?_
      rotate_left
      · go_simp
        rfl
      refine hK.out _ _ ⟨((cell_far (p := ⟨gb825, _, none⟩) NB823_825.out _).trans (((cell_far (p := ⟨gb825, _, none⟩) NB823_825.out _).trans (hHeld.1)))), ((cell_far (p := ⟨gb825, _, none⟩) NB823_825.out _).trans (((cell_far (p := ⟨gb825, _, none⟩) NB823_825.out _).trans (hHeld.2))))⟩ (fun hHeld => ?_)
      clear hK K
      refine done_ (done_of HT_.out (by kernel_rfl)) ?_
      try go_wp2
      refine bodyPost_ret (results_cc rfl _ _ gb824 gb825 31 31 #[.bool t850, .slice Ao57 t851.length co57] #[.bool t857, .slice Ao60 t858.length co60] (0, 0) (0, 0) _ _ rfl (by (with_reducible repeat (first | refine blk_drewN ?_ _ | refine blk_drew ?_ | refine blk_alloc ?_ _)); refine blk_far ?_ NB824_825.out _; (with_reducible repeat (first | refine blk_drewN ?_ _ | refine blk_drew ?_ | refine blk_alloc ?_ _)); refine blk_far ?_ NB824_825.out _; (with_reducible repeat (first | refine blk_drewN ?_ _ | refine blk_drew ?_ | refine blk_alloc ?_ _)); refine blk_put (cs := #[.bool t850, .slice none 0 0]) ?_ 1 _ rfl; (with_reducible repeat (first | refine blk_drewN ?_ _ | refine blk_drew ?_ | refine blk_alloc ?_ _)); refine blk_put (cs := #[.bool false, .slice none 0 0]) ?_ 0 _ rfl; (with_reducible repeat (first | refine blk_drewN ?_ _ | refine blk_drew ?_ | refine blk_alloc ?_ _)); exact BK824.out) Tryd.underlying31 rfl (by kernel_rfl) rfl (by (with_reducible repeat (first | refine blk_drewN ?_ _ | refine blk_drew ?_ | refine blk_alloc ?_ _)); refine blk_put (cs := #[.bool t857, .slice none 0 0]) ?_ 1 _ rfl; (with_reducible repeat (first | refine blk_drewN ?_ _ | refine blk_drew ?_ | refine blk_alloc ?_ _)); refine blk_put (cs := #[.bool false, .slice none 0 0]) ?_ 0 _ rfl; (with_reducible repeat (first | refine blk_drewN ?_ _ | refine blk_drew ?_ | refine blk_alloc ?_ _)); refine blk_far ?_ NB825_824.out _; (with_reducible repeat (first | refine blk_drewN ?_ _ | refine blk_drew ?_ | refine blk_alloc ?_ _)); refine blk_far ?_ NB825_824.out _; (with_reducible repeat (first | refine blk_drewN ?_ _ | refine blk_drew ?_ | refine blk_alloc ?_ _)); exact BK825.out) Tryd.underlying31 rfl (by kernel_rfl)) rfl ?_
      exact ⟨_, _, by first | rfl | (simp [errW_none, errW_some] <;> rfl) | (simp [*, errW_none, errW_some] <;> rfl), by (with_reducible repeat (first | apply Kd.R_alloc | apply Kd.R_drewN | apply Kd.R_drew)); exact Kd.R_mono (Kd.R_far (p := ⟨gb825, 1, none⟩) (Kd.R_far (p := ⟨gb825, 0, none⟩) (Kd.R_far (p := ⟨gb824, 1, none⟩) (Kd.R_far (p := ⟨gb824, 0, none⟩) (Kd.R_types (Kd.R_types HO853.out BK824.out (by decide)) BK825.out (by decide)) (fun _ hk => hk.1.2) (.bool t850)) (fun _ hk => hk.1.2) (.slice Ao57 t851.length co57)) (fun _ hk => hk.2) (.bool t857)) (fun _ hk => hk.2) (.slice Ao60 t858.length co60)) (fun _ hk => hk.1.1.2), by (with_reducible repeat (first | apply Kd.R_alloc | apply Kd.R_drewN | apply Kd.R_drew)); exact Kd.R_mono (Kd.R_far (p := ⟨gb825, 1, none⟩) (Kd.R_far (p := ⟨gb825, 0, none⟩) (Kd.R_far (p := ⟨gb824, 1, none⟩) (Kd.R_far (p := ⟨gb824, 0, none⟩) (Kd.R_types (Kd.R_types HO860.out BK824.out (by decide)) BK825.out (by decide)) (fun _ hk => hk.1.2) (.bool t850)) (fun _ hk => hk.1.2) (.slice Ao57 t851.length co57)) (fun _ hk => hk.2) (.bool t857)) (fun _ hk => hk.2) (.slice Ao60 t858.length co60)) (fun _ hk => hk.1.1.1.2), (q4_ HB.out GE822.out GE823.out GE824.out GE825.out)⟩
  · replace c4 := Bool.eq_false_iff.mpr c4
    subst c4
    have H1 : ((merinoref01_whole.f k false t826).bind fun bt832 => ((merinoref01_whole.f k false t827).bind fun bt836 => (some (bt832.1, bt832.2, bt836.1, bt836.2)))) = some (r1, r2, r3, r4) := by rw [if_neg (show ¬ (false = true) by decide)] at H; exact H
    clear H
    have H := H1
    clear H1
    replace H := Option.bind_eq_some_iff.mp H
    obtain ⟨⟨t832, t833⟩, A620, H⟩ := H
    replace H : ((merinoref01_whole.f k false t827).bind fun bt836 => (some (t832, t833, bt836.1, bt836.2))) = some (r1, r2, r3, r4) := H
    have A62 := Aside0.mk A620
    clear A620
    replace H := Option.bind_eq_some_iff.mp H
    obtain ⟨⟨t836, t837⟩, A630, H⟩ := H
    replace H : (some (t832, t833, t836, t837)) = some (r1, r2, r3, r4) := H
    have A63 := Aside0.mk A630
    clear A630
    simp only [Option.some.injEq, Prod.mk.injEq] at H
    obtain ⟨rfl, rfl, rfl, rfl⟩ := H
    go_enter Tryd.func67, Tryd.ntmps67
    go_wp2_with (first | ((with_reducible refine gate_dst (N := 2) rfl ?_); refine box_event ?hg (N := 2) ?hd (cs := #[.bool false, .slice A0_1 l0_1.length c0_1]) (t := 31) ?hr ?_; (case hd => rfl); (case hg => rfl); (case hr => first | (go_simp; done) | (go_simp; rfl)); intro gb822 hg w64 hbox hb; have n0_ := Aside0.mk (below_step (q0_ HB.out) hb); have n1_ := Aside0.mk (hbox); have n2_ := Aside0.mk ((by rw [hg]; exact (below_size (q0_ HB.out)) : w.heap.size ≤ gb822)); have n3_ := Aside0.mk ((by rw [hg]; exact (below_size (q0_ HB.out)) : w.heap.size ≤ gb822)); clear HB; have HB := n0_; have BK822 := n1_; have GW822 := n2_; have GE822 := n3_; clear n0_ n1_ n2_ n3_; clear hb hbox hg) | ((with_reducible refine gate_dst (N := 3) rfl ?_); refine box_event ?hg (N := 3) ?hd (cs := #[.bool a1_0, .slice A1_1 l1_1.length c1_1]) (t := 31) ?hr ?_; (case hd => rfl); (case hg => rfl); (case hr => first | (go_simp; done) | (go_simp; rfl)); intro gb823 hg w65 hbox hb; have n0_ := Aside0.mk (blk_below (g := gb822) (o := .cells #[.bool false, .slice A0_1 l0_1.length c0_1] 31 (0, 0)) (qb_ BK822.out) hb); have n1_ := Aside0.mk (below_step (q1_ HB.out GE822.out) hb); have n2_ := Aside0.mk (hbox); have n3_ := Aside0.mk ((by rw [hg]; exact (below_size (q1_ HB.out GE822.out)) : w.heap.size ≤ gb823)); have n4_ := Aside0.mk ((by rw [hg]; exact (below_size (q1_ HB.out GE822.out)) : w.heap.size ≤ gb823)); have n5_ := Aside0.mk ((by rw [hg]; exact Nat.ne_of_lt (blk_lt (g := gb822) (o := .cells #[.bool false, .slice A0_1 l0_1.length c0_1] 31 (0, 0)) (qb_ BK822.out)) : gb822 ≠ gb823)); have n6_ := Aside0.mk ((by rw [hg]; exact Nat.ne_of_gt (blk_lt (g := gb822) (o := .cells #[.bool false, .slice A0_1 l0_1.length c0_1] 31 (0, 0)) (qb_ BK822.out)) : gb823 ≠ gb822)); clear BK822; clear HB; have BK822 := n0_; have HB := n1_; have BK823 := n2_; have GW823 := n3_; have GE823 := n4_; have NB822_823 := n5_; have NB823_822 := n6_; clear n0_ n1_ n2_ n3_ n4_ n5_ n6_; clear hb hbox hg) | ((with_reducible refine gate_dst (N := 4) rfl ?_); refine box_event ?hg (N := 4) ?hd (cs := #[.bool false, .slice none 0 0]) (t := 31) ?hr ?_; (case hd => rfl); (case hg => rfl); (case hr => first | (go_simp; done) | (go_simp; rfl)); intro gb824 hg w66 hbox hb; have n0_ := Aside0.mk (blk_below (g := gb822) (o := .cells #[.bool false, .slice A0_1 l0_1.length c0_1] 31 (0, 0)) (qb_ BK822.out) hb); have n1_ := Aside0.mk (blk_below (g := gb823) (o := .cells #[.bool a1_0, .slice A1_1 l1_1.length c1_1] 31 (0, 0)) (qb_ BK823.out) hb); have n2_ := Aside0.mk (below_step (q2_ HB.out GE822.out GE823.out) hb); have n3_ := Aside0.mk (hbox); have n4_ := Aside0.mk ((by rw [hg]; exact (below_size (q2_ HB.out GE822.out GE823.out)) : w.heap.size ≤ gb824)); have n5_ := Aside0.mk ((by rw [hg]; exact (below_size (q2_ HB.out GE822.out GE823.out)) : w.heap.size ≤ gb824)); have n6_ := Aside0.mk ((by rw [hg]; exact Nat.ne_of_lt (blk_lt (g := gb822) (o := .cells #[.bool false, .slice A0_1 l0_1.length c0_1] 31 (0, 0)) (qb_ BK822.out)) : gb822 ≠ gb824)); have n7_ := Aside0.mk ((by rw [hg]; exact Nat.ne_of_gt (blk_lt (g := gb822) (o := .cells #[.bool false, .slice A0_1 l0_1.length c0_1] 31 (0, 0)) (qb_ BK822.out)) : gb824 ≠ gb822)); have n8_ := Aside0.mk ((by rw [hg]; exact Nat.ne_of_lt (blk_lt (g := gb823) (o := .cells #[.bool a1_0, .slice A1_1 l1_1.length c1_1] 31 (0, 0)) (qb_ BK823.out)) : gb823 ≠ gb824)); have n9_ := Aside0.mk ((by rw [hg]; exact Nat.ne_of_gt (blk_lt (g := gb823) (o := .cells #[.bool a1_0, .slice A1_1 l1_1.length c1_1] 31 (0, 0)) (qb_ BK823.out)) : gb824 ≠ gb823)); clear BK822; clear BK823; clear HB; have BK822 := n0_; have BK823 := n1_; have HB := n2_; have BK824 := n3_; have GW824 := n4_; have GE824 := n5_; have NB822_824 := n6_; have NB824_822 := n7_; have NB823_824 := n8_; have NB824_823 := n9_; clear n0_ n1_ n2_ n3_ n4_ n5_ n6_ n7_ n8_ n9_; clear hb hbox hg) | ((with_reducible refine gate_dst (N := 5) rfl ?_); refine box_event ?hg (N := 5) ?hd (cs := #[.bool false, .slice none 0 0]) (t := 31) ?hr ?_; (case hd => rfl); (case hg => rfl); (case hr => first | (go_simp; done) | (go_simp; rfl)); intro gb825 hg w67 hbox hb; have n0_ := Aside0.mk (blk_below (g := gb822) (o := .cells #[.bool false, .slice A0_1 l0_1.length c0_1] 31 (0, 0)) (qb_ BK822.out) hb); have n1_ := Aside0.mk (blk_below (g := gb823) (o := .cells #[.bool a1_0, .slice A1_1 l1_1.length c1_1] 31 (0, 0)) (qb_ BK823.out) hb); have n2_ := Aside0.mk (blk_below (g := gb824) (o := .cells #[.bool false, .slice none 0 0] 31 (0, 0)) (qb_ BK824.out) hb); have n3_ := Aside0.mk (below_step (q3_ HB.out GE822.out GE823.out GE824.out) hb); have n4_ := Aside0.mk (hbox); have n5_ := Aside0.mk ((by rw [hg]; exact (below_size (q3_ HB.out GE822.out GE823.out GE824.out)) : w.heap.size ≤ gb825)); have n6_ := Aside0.mk ((by rw [hg]; exact (below_size (q3_ HB.out GE822.out GE823.out GE824.out)) : w.heap.size ≤ gb825)); have n7_ := Aside0.mk ((by rw [hg]; exact Nat.ne_of_lt (blk_lt (g := gb822) (o := .cells #[.bool false, .slice A0_1 l0_1.length c0_1] 31 (0, 0)) (qb_ BK822.out)) : gb822 ≠ gb825)); have n8_ := Aside0.mk ((by rw [hg]; exact Nat.ne_of_gt (blk_lt (g := gb822) (o := .cells #[.bool false, .slice A0_1 l0_1.length c0_1] 31 (0, 0)) (qb_ BK822.out)) : gb825 ≠ gb822)); have n9_ := Aside0.mk ((by rw [hg]; exact Nat.ne_of_lt (blk_lt (g := gb823) (o := .cells #[.bool a1_0, .slice A1_1 l1_1.length c1_1] 31 (0, 0)) (qb_ BK823.out)) : gb823 ≠ gb825)); have n10_ := Aside0.mk ((by rw [hg]; exact Nat.ne_of_gt (blk_lt (g := gb823) (o := .cells #[.bool a1_0, .slice A1_1 l1_1.length c1_1] 31 (0, 0)) (qb_ BK823.out)) : gb825 ≠ gb823)); have n11_ := Aside0.mk ((by rw [hg]; exact Nat.ne_of_lt (blk_lt (g := gb824) (o := .cells #[.bool false, .slice none 0 0] 31 (0, 0)) (qb_ BK824.out)) : gb824 ≠ gb825)); have n12_ := Aside0.mk ((by rw [hg]; exact Nat.ne_of_gt (blk_lt (g := gb824) (o := .cells #[.bool false, .slice none 0 0] 31 (0, 0)) (qb_ BK824.out)) : gb825 ≠ gb824)); clear BK822; clear BK823; clear BK824; clear HB; have BK822 := n0_; have BK823 := n1_; have BK824 := n2_; have HB := n3_; have BK825 := n4_; have GW825 := n5_; have GE825 := n6_; have NB822_825 := n7_; have NB825_822 := n8_; have NB823_825 := n9_; have NB825_823 := n10_; have NB824_825 := n11_; have NB825_824 := n12_; clear n0_ n1_ n2_ n3_ n4_ n5_ n6_ n7_ n8_ n9_ n10_ n11_ n12_; clear hb hbox hg; have hnb68 := NB822_823.out; have hnc68 := NB823_822.out; have hnb69 := NB822_824.out; have hnc69 := NB824_822.out; have hnb70 := NB822_825.out; have hnc70 := NB825_822.out; have hcz71_0 : w67.cell? ⟨gb822, 0, none⟩ = some (.bool false) := (blk_cell BK822.out 0).trans rfl; have hcz71_1 : w67.cell? ⟨gb822, 1, none⟩ = some (.slice A0_1 l0_1.length c0_1) := (blk_cell BK822.out 1).trans rfl; have hfz71_0 := blk_frozen BK822.out 0; have hfz71_1 := blk_frozen BK822.out 1; have hnb72 := NB823_824.out; have hnc72 := NB824_823.out; have hnb73 := NB823_825.out; have hnc73 := NB825_823.out; have hcz74_0 : w67.cell? ⟨gb823, 0, none⟩ = some (.bool a1_0) := (blk_cell BK823.out 0).trans rfl; have hcz74_1 : w67.cell? ⟨gb823, 1, none⟩ = some (.slice A1_1 l1_1.length c1_1) := (blk_cell BK823.out 1).trans rfl; have hfz74_0 := blk_frozen BK823.out 0; have hfz74_1 := blk_frozen BK823.out 1) | ((with_reducible refine gate_callee (f := 105) rfl ?_); refine goesL_ (some 13) rfl rfl Tryd.func105 (by kernel_rfl) rfl #[.slice A0_1 l0_1.length c0_1, .slice A1_1 l1_1.length c1_1] rfl qe_ ?_; (with_reducible refine (merinoref01_divD.calls k _ _ l0_1 _ _ l1_1 t826 t827 _ ?side1 ?side2 ?side3 ?side4 A3.out).mono ?_); (case side1 => exact qc_ (Kd.C_below HR0_1.out HB.out)); (case side2 => exact HC0_1.out); (case side3 => exact qc_ (Kd.C_below HR1_1.out HB.out)); (case side4 => exact HC1_1.out); rintro e w75 ⟨v828, v830, rfl, ho0, ho1, hb⟩; refine ⟨_, rfl, ?_⟩; have n0_ := Aside0.mk (Kd.R_lower ho0 (below_size (q4_ HB.out GE822.out GE823.out GE824.out GE825.out))); have n1_ := Aside0.mk (Kd.R_lower ho1 (below_size (q4_ HB.out GE822.out GE823.out GE824.out GE825.out))); have n2_ := Aside0.mk (blk_below (g := gb822) (o := .cells #[.bool false, .slice A0_1 l0_1.length c0_1] 31 (0, 0)) (qb_ BK822.out) hb); have n3_ := Aside0.mk (blk_below (g := gb823) (o := .cells #[.bool a1_0, .slice A1_1 l1_1.length c1_1] 31 (0, 0)) (qb_ BK823.out) hb); have n4_ := Aside0.mk (blk_below (g := gb824) (o := .cells #[.bool false, .slice none 0 0] 31 (0, 0)) (qb_ BK824.out) hb); have n5_ := Aside0.mk (blk_below (g := gb825) (o := .cells #[.bool false, .slice none 0 0] 31 (0, 0)) (qb_ BK825.out) hb); have n6_ := Aside0.mk (below_step (q4_ HB.out GE822.out GE823.out GE824.out GE825.out) hb); clear BK822; clear BK823; clear BK824; clear BK825; clear HB; have HO829 := n0_; have HO831 := n1_; have BK822 := n2_; have BK823 := n3_; have BK824 := n4_; have BK825 := n5_; have HB := n6_; clear n0_ n1_ n2_ n3_ n4_ n5_ n6_; (try clear hb); (try clear hb2); (try clear hk); (try clear hi); (try clear ho0); (try clear ho1); have hcz76_0 : w75.cell? ⟨gb822, 0, none⟩ = some (.bool false) := (blk_cell BK822.out 0).trans rfl; have hcz76_1 : w75.cell? ⟨gb822, 1, none⟩ = some (.slice A0_1 l0_1.length c0_1) := (blk_cell BK822.out 1).trans rfl; have hfz76_0 := blk_frozen BK822.out 0; have hfz76_1 := blk_frozen BK822.out 1; obtain ⟨Ao77, co77, eo77⟩ := Kd.R_slice HO829.out; subst eo77) | ((with_reducible refine gate_callee (f := 73) rfl ?_); refine goesL_ (some 20) rfl rfl Tryd.func73 (by kernel_rfl) rfl #[.bool false, .slice Ao77 t826.length co77] rfl qe_ ?_; (with_reducible refine (merinoref01_whole.calls k false _ _ t826 t832 t833 _ ?side1 ?side2 A62.out).mono ?_); (case side1 => exact qc_ (Kd.R_reads' HO829.out).2.2); (case side2 => exact (Kd.R_reads' HO829.out).2.1); rintro e w78 ⟨v834, rfl, ho0, hb⟩; refine ⟨_, rfl, ?_⟩; have n0_ := Aside0.mk (Kd.R_elder' (qr_ HO829.out) (Kd.R_base ho0) hb); have n1_ := Aside0.mk (Kd.R_elder' (qr_ HO831.out) (Kd.R_base ho0) hb); have n2_ := Aside0.mk (Kd.R_lower (Kd.R_new' (Kd.R_new' ho0 (Kd.R_lt (qr_ HO829.out))) (Kd.R_lt (qr_ HO831.out))) (below_size (q4_ HB.out GE822.out GE823.out GE824.out GE825.out))); have n3_ := Aside0.mk (blk_below (g := gb822) (o := .cells #[.bool false, .slice A0_1 l0_1.length c0_1] 31 (0, 0)) (qb_ BK822.out) hb); have n4_ := Aside0.mk (blk_below (g := gb823) (o := .cells #[.bool a1_0, .slice A1_1 l1_1.length c1_1] 31 (0, 0)) (qb_ BK823.out) hb); have n5_ := Aside0.mk (blk_below (g := gb824) (o := .cells #[.bool false, .slice none 0 0] 31 (0, 0)) (qb_ BK824.out) hb); have n6_ := Aside0.mk (blk_below (g := gb825) (o := .cells #[.bool false, .slice none 0 0] 31 (0, 0)) (qb_ BK825.out) hb); have n7_ := Aside0.mk (below_step (q4_ HB.out GE822.out GE823.out GE824.out GE825.out) hb); clear HO829; clear HO831; clear BK822; clear BK823; clear BK824; clear BK825; clear HB; have HO829 := n0_; have HO831 := n1_; have HO835 := n2_; have BK822 := n3_; have BK823 := n4_; have BK824 := n5_; have BK825 := n6_; have HB := n7_; clear n0_ n1_ n2_ n3_ n4_ n5_ n6_ n7_; (try clear hb); (try clear hb2); (try clear hk); (try clear hi); (try clear ho0); obtain ⟨Ao79, co79, eo79⟩ := Kd.R_slice HO831.out; subst eo79) | ((with_reducible refine gate_callee (f := 73) rfl ?_); refine goesL_ (some 22) rfl rfl Tryd.func73 (by kernel_rfl) rfl #[.bool false, .slice Ao79 t827.length co79] rfl qe_ ?_; (with_reducible refine (merinoref01_whole.calls k false _ _ t827 t836 t837 _ ?side1 ?side2 A63.out).mono ?_); (case side1 => exact qc_ (Kd.R_reads' HO831.out).2.2); (case side2 => exact (Kd.R_reads' HO831.out).2.1); rintro e w80 ⟨v838, rfl, ho0, hb⟩; refine ⟨_, rfl, ?_⟩; have n0_ := Aside0.mk (Kd.R_elder' (qr_ HO829.out) (Kd.R_base ho0) hb); have n1_ := Aside0.mk (Kd.R_elder' (qr_ HO831.out) (Kd.R_base ho0) hb); have n2_ := Aside0.mk (Kd.R_elder' (qr_ HO835.out) (Kd.R_base ho0) hb); have n3_ := Aside0.mk (Kd.R_lower (Kd.R_new' (Kd.R_new' (Kd.R_new' ho0 (Kd.R_lt (qr_ HO829.out))) (Kd.R_lt (qr_ HO831.out))) (Kd.R_lt (qr_ HO835.out))) (below_size (q4_ HB.out GE822.out GE823.out GE824.out GE825.out))); have n4_ := Aside0.mk (blk_below (g := gb822) (o := .cells #[.bool false, .slice A0_1 l0_1.length c0_1] 31 (0, 0)) (qb_ BK822.out) hb); have n5_ := Aside0.mk (blk_below (g := gb823) (o := .cells #[.bool a1_0, .slice A1_1 l1_1.length c1_1] 31 (0, 0)) (qb_ BK823.out) hb); have n6_ := Aside0.mk (blk_below (g := gb824) (o := .cells #[.bool false, .slice none 0 0] 31 (0, 0)) (qb_ BK824.out) hb); have n7_ := Aside0.mk (blk_below (g := gb825) (o := .cells #[.bool false, .slice none 0 0] 31 (0, 0)) (qb_ BK825.out) hb); have n8_ := Aside0.mk (below_step (q4_ HB.out GE822.out GE823.out GE824.out GE825.out) hb); clear HO829; clear HO831; clear HO835; clear BK822; clear BK823; clear BK824; clear BK825; clear HB; have HO829 := n0_; have HO831 := n1_; have HO835 := n2_; have HO839 := n3_; have BK822 := n4_; have BK823 := n5_; have BK824 := n6_; have BK825 := n7_; have HB := n8_; clear n0_ n1_ n2_ n3_ n4_ n5_ n6_ n7_ n8_; (try clear hb); (try clear hb2); (try clear hk); (try clear hi); (try clear ho0); have hnb81 := NB824_825.out; have hnc81 := NB825_824.out; have hcz82_0 : w80.cell? ⟨gb824, 0, none⟩ = some (.bool false) := (blk_cell BK824.out 0).trans rfl; have hcz82_1 : w80.cell? ⟨gb824, 1, none⟩ = some (.slice none 0 0) := (blk_cell BK824.out 1).trans rfl; have hfz82_0 := blk_frozen BK824.out 0; have hfz82_1 := blk_frozen BK824.out 1; obtain ⟨Ao83, co83, eo83⟩ := Kd.R_slice HO835.out; subst eo83; have hcz84_0 : w80.cell? ⟨gb825, 0, none⟩ = some (.bool false) := (blk_cell BK825.out 0).trans rfl; have hcz84_1 : w80.cell? ⟨gb825, 1, none⟩ = some (.slice none 0 0) := (blk_cell BK825.out 1).trans rfl; have hfz84_0 := blk_frozen BK825.out 0; have hfz84_1 := blk_frozen BK825.out 1; obtain ⟨Ao85, co85, eo85⟩ := Kd.R_slice HO839.out; subst eo85))
    refine bodyPost_ret (results_cc rfl _ _ gb824 gb825 31 31 #[.bool t832, .slice Ao83 t833.length co83] #[.bool t836, .slice Ao85 t837.length co85] (0, 0) (0, 0) _ _ rfl (by (with_reducible repeat (first | refine blk_drewN ?_ _ | refine blk_drew ?_ | refine blk_alloc ?_ _)); refine blk_far ?_ NB824_825.out _; (with_reducible repeat (first | refine blk_drewN ?_ _ | refine blk_drew ?_ | refine blk_alloc ?_ _)); refine blk_far ?_ NB824_825.out _; (with_reducible repeat (first | refine blk_drewN ?_ _ | refine blk_drew ?_ | refine blk_alloc ?_ _)); refine blk_put (cs := #[.bool t832, .slice none 0 0]) ?_ 1 _ rfl; (with_reducible repeat (first | refine blk_drewN ?_ _ | refine blk_drew ?_ | refine blk_alloc ?_ _)); refine blk_put (cs := #[.bool false, .slice none 0 0]) ?_ 0 _ rfl; (with_reducible repeat (first | refine blk_drewN ?_ _ | refine blk_drew ?_ | refine blk_alloc ?_ _)); exact BK824.out) Tryd.underlying31 rfl (by kernel_rfl) rfl (by (with_reducible repeat (first | refine blk_drewN ?_ _ | refine blk_drew ?_ | refine blk_alloc ?_ _)); refine blk_put (cs := #[.bool t836, .slice none 0 0]) ?_ 1 _ rfl; (with_reducible repeat (first | refine blk_drewN ?_ _ | refine blk_drew ?_ | refine blk_alloc ?_ _)); refine blk_put (cs := #[.bool false, .slice none 0 0]) ?_ 0 _ rfl; (with_reducible repeat (first | refine blk_drewN ?_ _ | refine blk_drew ?_ | refine blk_alloc ?_ _)); refine blk_far ?_ NB825_824.out _; (with_reducible repeat (first | refine blk_drewN ?_ _ | refine blk_drew ?_ | refine blk_alloc ?_ _)); refine blk_far ?_ NB825_824.out _; (with_reducible repeat (first | refine blk_drewN ?_ _ | refine blk_drew ?_ | refine blk_alloc ?_ _)); exact BK825.out) Tryd.underlying31 rfl (by kernel_rfl)) rfl ?_
    exact ⟨_, _, by first | rfl | (simp [errW_none, errW_some] <;> rfl) | (simp [*, errW_none, errW_some] <;> rfl), by (with_reducible repeat (first | apply Kd.R_alloc | apply Kd.R_drewN | apply Kd.R_drew)); exact Kd.R_mono (Kd.R_far (p := ⟨gb825, 1, none⟩) (Kd.R_far (p := ⟨gb825, 0, none⟩) (Kd.R_far (p := ⟨gb824, 1, none⟩) (Kd.R_far (p := ⟨gb824, 0, none⟩) (Kd.R_types (Kd.R_types HO835.out BK824.out (by decide)) BK825.out (by decide)) (fun _ hk => hk.1.2) (.bool t832)) (fun _ hk => hk.1.2) (.slice Ao83 t833.length co83)) (fun _ hk => hk.2) (.bool t836)) (fun _ hk => hk.2) (.slice Ao85 t837.length co85)) (fun _ hk => hk.1.1.2), by (with_reducible repeat (first | apply Kd.R_alloc | apply Kd.R_drewN | apply Kd.R_drew)); exact Kd.R_mono (Kd.R_far (p := ⟨gb825, 1, none⟩) (Kd.R_far (p := ⟨gb825, 0, none⟩) (Kd.R_far (p := ⟨gb824, 1, none⟩) (Kd.R_far (p := ⟨gb824, 0, none⟩) (Kd.R_types (Kd.R_types HO839.out BK824.out (by decide)) BK825.out (by decide)) (fun _ hk => hk.1.2) (.bool t832)) (fun _ hk => hk.1.2) (.slice Ao83 t833.length co83)) (fun _ hk => hk.2) (.bool t836)) (fun _ hk => hk.2) (.slice Ao85 t837.length co85)) (fun _ hk => hk.1.1.2), (q4_ HB.out GE822.out GE823.out GE824.out GE825.out)⟩
def merinoref01_Zero.f (a0_0 : Bool) (l0_1 : List Int) : Option (Bool) := some ((l0_1.length : Int) == 0)
set_option maxHeartbeats 8000000 in
set_option maxRecDepth 100000 in
theorem merinoref01_Zero.calls (a0_0 : Bool) (A0_1 : Option Addr) (c0_1 : Nat) (l0_1 : List Int) (r : Bool) (w : World) (hr0_1 : Kd.C (Kd.int .i64) w A0_1 l0_1.length l0_1) (hc0_1 : l0_1.length ≤ c0_1) (h : merinoref01_Zero.f a0_0 l0_1 = some r) :
    Calls Tryd.prog 69 #[.agg #[.bool a0_0, .slice A0_1 l0_1.length c0_1]] w fun e w' => e = .returned (.bool r) ∧ Below w.heap.size w w' := by
  have hu31 := Tryd.underlying31
  have HR0_1 := Aside0.mk hr0_1
  have HC0_1 := Aside0.mk hc0_1
  clear hr0_1 hc0_1
  have HB := Aside0.mk (Below.refl w.heap.size w)
  have H : (some ((l0_1.length : Int) == 0)) = some r := h
  clear h
  obtain rfl := Option.some.inj H
  go_enter Tryd.func69, Tryd.ntmps69
  go_wp2_with (first | ((with_reducible refine gate_dst (N := 1) rfl ?_); refine box_event ?hg (N := 1) ?hd (cs := #[.bool a0_0, .slice A0_1 l0_1.length c0_1]) (t := 31) ?hr ?_; (case hd => rfl); (case hg => rfl); (case hr => first | (go_simp; done) | (go_simp; rfl)); intro gb890 hg w2 hbox hb; have n0_ := Aside0.mk (below_step (q0_ HB.out) hb); have n1_ := Aside0.mk (hbox); have n2_ := Aside0.mk ((by rw [hg]; exact (below_size (q0_ HB.out)) : w.heap.size ≤ gb890)); have n3_ := Aside0.mk ((by rw [hg]; exact (below_size (q0_ HB.out)) : w.heap.size ≤ gb890)); clear HB; have HB := n0_; have BK890 := n1_; have GW890 := n2_; have GE890 := n3_; clear n0_ n1_ n2_ n3_; clear hb hbox hg; have hcz3_0 : w2.cell? ⟨gb890, 0, none⟩ = some (.bool a0_0) := (blk_cell BK890.out 0).trans rfl; have hcz3_1 : w2.cell? ⟨gb890, 1, none⟩ = some (.slice A0_1 l0_1.length c0_1) := (blk_cell BK890.out 1).trans rfl; have hfz3_0 := blk_frozen BK890.out 0; have hfz3_1 := blk_frozen BK890.out 1))
  go_ret
  exact ⟨by first | rfl | (simp [errW_none, errW_some] <;> rfl) | (simp [*, errW_none, errW_some] <;> rfl), (q1_ HB.out GE890.out)⟩
end Go.Proofs.YtdjnneflpkllmaaDoor.Q

namespace Go.Proofs.YtdjnneflpkllmaaDoor.Q
open Go.RowKit Go.Proofs.YtdjnneflpkllmaaDoorW.PrintWords Go.Proofs.YtdjnneflpkllmaaDoorW.PrintLast Go.Proofs.YtdjnneflpkllmaaDoorW.PrintMore
attribute [local go_sem] max2_int min2_int max_two min_two max_three min_three max_four min_four   -- for this text's walks alone
set_option linter.unusedVariables false
set_option linter.unusedSimpArgs false
def merinoref01_Neg.f (k : Nat) (a0_0 : Bool) (l0_1 : List Int) : Option (Bool × List Int) := (merinoref01_whole.f k (!a0_0) l0_1).bind fun bt215 => (some (bt215.1, bt215.2))
theorem merinoref01_Neg.mono : ∀ a0 a1 k, LeO (merinoref01_Neg.f k a0 a1) (merinoref01_Neg.f (k + 1) a0 a1) := by
  intro a0 a1 k
  unfold merinoref01_Neg.f
  repeat' first
      | (with_reducible exact merinoref01_whole.mono _ _ _)
      | (with_reducible exact LeO.refl _)
      | (with_reducible exact LeO.none _)
      | (with_reducible refine LeO.ite ?_ ?_)
      | (with_reducible refine LeO.bind ?_ (fun _ => ?_))
      | exact merinoref01_whole.mono _ _ _
      | exact LeO.none _
      | refine LeO.ite ?_ ?_
      | refine LeO.bind ?_ (fun _ => ?_)
set_option maxHeartbeats 8000000 in
set_option maxRecDepth 100000 in
theorem merinoref01_Neg.calls (k : Nat) (a0_0 : Bool) (A0_1 : Option Addr) (c0_1 : Nat) (l0_1 : List Int) (r1 : Bool) (r2 : List Int) (w : World) (hr0_1 : Kd.C (Kd.int .i64) w A0_1 l0_1.length l0_1) (hc0_1 : l0_1.length ≤ c0_1) (h : merinoref01_Neg.f k a0_0 l0_1 = some (r1, r2)) :
    Calls Tryd.prog 75 #[.agg #[.bool a0_0, .slice A0_1 l0_1.length c0_1]] w fun e w' => ∃ v1_ : Value, e = .returned (.agg #[.bool r1, v1_]) ∧ Kd.R (Kd.int .i64) 3 w' w.heap.size (fun _ => True) v1_ r2 ∧ Below w.heap.size w w' := by
  have hu31 := Tryd.underlying31
  have HR0_1 := Aside0.mk hr0_1
  have HC0_1 := Aside0.mk hc0_1
  clear hr0_1 hc0_1
  have HB := Aside0.mk (Below.refl w.heap.size w)
  have H : ((merinoref01_whole.f k (!a0_0) l0_1).bind fun bt215 => (some (bt215.1, bt215.2))) = some (r1, r2) := h
  clear h
  replace H := Option.bind_eq_some_iff.mp H
  obtain ⟨⟨t215, t216⟩, A20, H⟩ := H
  replace H : (some (t215, t216)) = some (r1, r2) := H
  have A2 := Aside0.mk A20
  clear A20
  simp only [Option.some.injEq, Prod.mk.injEq] at H
  obtain ⟨rfl, rfl⟩ := H
  go_enter Tryd.func75, Tryd.ntmps75
  go_wp2_with (first | ((with_reducible refine gate_dst (N := 1) rfl ?_); refine box_event ?hg (N := 1) ?hd (cs := #[.bool a0_0, .slice A0_1 l0_1.length c0_1]) (t := 31) ?hr ?_; (case hd => rfl); (case hg => rfl); (case hr => first | (go_simp; done) | (go_simp; rfl)); intro gb213 hg w3 hbox hb; have n0_ := Aside0.mk (below_step (q0_ HB.out) hb); have n1_ := Aside0.mk (hbox); have n2_ := Aside0.mk ((by rw [hg]; exact (below_size (q0_ HB.out)) : w.heap.size ≤ gb213)); have n3_ := Aside0.mk ((by rw [hg]; exact (below_size (q0_ HB.out)) : w.heap.size ≤ gb213)); clear HB; have HB := n0_; have BK213 := n1_; have GW213 := n2_; have GE213 := n3_; clear n0_ n1_ n2_ n3_; clear hb hbox hg) | ((with_reducible refine gate_dst (N := 2) rfl ?_); refine box_event ?hg (N := 2) ?hd (cs := #[.bool false, .slice none 0 0]) (t := 31) ?hr ?_; (case hd => rfl); (case hg => rfl); (case hr => first | (go_simp; done) | (go_simp; rfl)); intro gb214 hg w4 hbox hb; have n0_ := Aside0.mk (blk_below (g := gb213) (o := .cells #[.bool a0_0, .slice A0_1 l0_1.length c0_1] 31 (0, 0)) (qb_ BK213.out) hb); have n1_ := Aside0.mk (below_step (q1_ HB.out GE213.out) hb); have n2_ := Aside0.mk (hbox); have n3_ := Aside0.mk ((by rw [hg]; exact (below_size (q1_ HB.out GE213.out)) : w.heap.size ≤ gb214)); have n4_ := Aside0.mk ((by rw [hg]; exact (below_size (q1_ HB.out GE213.out)) : w.heap.size ≤ gb214)); have n5_ := Aside0.mk ((by rw [hg]; exact Nat.ne_of_lt (blk_lt (g := gb213) (o := .cells #[.bool a0_0, .slice A0_1 l0_1.length c0_1] 31 (0, 0)) (qb_ BK213.out)) : gb213 ≠ gb214)); have n6_ := Aside0.mk ((by rw [hg]; exact Nat.ne_of_gt (blk_lt (g := gb213) (o := .cells #[.bool a0_0, .slice A0_1 l0_1.length c0_1] 31 (0, 0)) (qb_ BK213.out)) : gb214 ≠ gb213)); clear BK213; clear HB; have BK213 := n0_; have HB := n1_; have BK214 := n2_; have GW214 := n3_; have GE214 := n4_; have NB213_214 := n5_; have NB214_213 := n6_; clear n0_ n1_ n2_ n3_ n4_ n5_ n6_; clear hb hbox hg; have hnb5 := NB213_214.out; have hnc5 := NB214_213.out; have hcz6_0 : w4.cell? ⟨gb213, 0, none⟩ = some (.bool a0_0) := (blk_cell BK213.out 0).trans rfl; have hcz6_1 : w4.cell? ⟨gb213, 1, none⟩ = some (.slice A0_1 l0_1.length c0_1) := (blk_cell BK213.out 1).trans rfl; have hfz6_0 := blk_frozen BK213.out 0; have hfz6_1 := blk_frozen BK213.out 1) | ((with_reducible refine gate_callee (f := 73) rfl ?_); refine goesL_ (some 8) rfl rfl Tryd.func73 (by kernel_rfl) rfl #[.bool (!a0_0), .slice A0_1 l0_1.length c0_1] rfl qe_ ?_; (with_reducible refine (merinoref01_whole.calls k (!a0_0) _ _ l0_1 t215 t216 _ ?side1 ?side2 A2.out).mono ?_); (case side1 => exact qc_ (Kd.C_below HR0_1.out HB.out)); (case side2 => exact HC0_1.out); rintro e w7 ⟨v217, rfl, ho0, hb⟩; refine ⟨_, rfl, ?_⟩; have n0_ := Aside0.mk (Kd.R_lower ho0 (below_size (q2_ HB.out GE213.out GE214.out))); have n1_ := Aside0.mk (blk_below (g := gb213) (o := .cells #[.bool a0_0, .slice A0_1 l0_1.length c0_1] 31 (0, 0)) (qb_ BK213.out) hb); have n2_ := Aside0.mk (blk_below (g := gb214) (o := .cells #[.bool false, .slice none 0 0] 31 (0, 0)) (qb_ BK214.out) hb); have n3_ := Aside0.mk (below_step (q2_ HB.out GE213.out GE214.out) hb); clear BK213; clear BK214; clear HB; have HO218 := n0_; have BK213 := n1_; have BK214 := n2_; have HB := n3_; clear n0_ n1_ n2_ n3_; (try clear hb); (try clear hb2); (try clear hk); (try clear hi); (try clear ho0); have hcz8_0 : w7.cell? ⟨gb214, 0, none⟩ = some (.bool false) := (blk_cell BK214.out 0).trans rfl; have hcz8_1 : w7.cell? ⟨gb214, 1, none⟩ = some (.slice none 0 0) := (blk_cell BK214.out 1).trans rfl; have hfz8_0 := blk_frozen BK214.out 0; have hfz8_1 := blk_frozen BK214.out 1; obtain ⟨Ao9, co9, eo9⟩ := Kd.R_slice HO218.out; subst eo9))
  refine bodyPost_ret (results_cell_row rfl _ _ gb214 31 #[.bool t215, .slice Ao9 t216.length co9] (0, 0) _ rfl (by (with_reducible repeat (first | refine blk_drewN ?_ _ | refine blk_drew ?_ | refine blk_alloc ?_ _)); refine blk_put (cs := #[.bool t215, .slice none 0 0]) ?_ 1 _ rfl; (with_reducible repeat (first | refine blk_drewN ?_ _ | refine blk_drew ?_ | refine blk_alloc ?_ _)); refine blk_put (cs := #[.bool false, .slice none 0 0]) ?_ 0 _ rfl; (with_reducible repeat (first | refine blk_drewN ?_ _ | refine blk_drew ?_ | refine blk_alloc ?_ _)); exact BK214.out) Tryd.underlying31 rfl (by kernel_rfl)) rfl ?_
  exact ⟨_, by first | rfl | (simp [errW_none, errW_some] <;> rfl) | (simp [*, errW_none, errW_some] <;> rfl), by (with_reducible repeat (first | apply Kd.R_alloc | apply Kd.R_drewN | apply Kd.R_drew)); exact Kd.R_mono (Kd.R_far (p := ⟨gb214, 1, none⟩) (Kd.R_far (p := ⟨gb214, 0, none⟩) (Kd.R_types HO218.out BK214.out (by decide)) (fun _ hk => hk.2) (.bool t215)) (fun _ hk => hk.2) (.slice Ao9 t216.length co9)) (fun _ hk => trivial), (q2_ HB.out GE213.out GE214.out)⟩
def merinolaw01_before.f (k : Nat) (a0 : Int) (a1 : Int) (a2 : Int) (a3 : Int) : Option (Bool) := (merinoref01_Of.f k a0).bind fun bt548 => ((merinoref01_Of.f k a3).bind fun bt552 => ((merinoref01_Times.f k bt548.1 bt548.2 bt552.1 bt552.2).bind fun bt556 => ((merinoref01_Of.f k a2).bind fun bt560 => ((merinoref01_Of.f k a1).bind fun bt564 => ((merinoref01_Times.f k bt560.1 bt560.2 bt564.1 bt564.2).bind fun bt568 => ((merinoref01_Compare.f k bt556.1 bt556.2 bt568.1 bt568.2).bind fun t572 => (some (decide (t572 < 0)))))))))
theorem merinolaw01_before.mono : ∀ a0 a1 a2 a3 k, LeO (merinolaw01_before.f k a0 a1 a2 a3) (merinolaw01_before.f (k + 1) a0 a1 a2 a3) := by
  intro a0 a1 a2 a3 k
  unfold merinolaw01_before.f
  repeat' first
      | (with_reducible exact merinoref01_Compare.mono _ _ _ _ _)
      | (with_reducible exact merinoref01_Of.mono _ _)
      | (with_reducible exact merinoref01_Times.mono _ _ _ _ _)
      | (with_reducible exact LeO.refl _)
      | (with_reducible exact LeO.none _)
      | (with_reducible refine LeO.ite ?_ ?_)
      | (with_reducible refine LeO.bind ?_ (fun _ => ?_))
      | exact merinoref01_Compare.mono _ _ _ _ _
      | exact merinoref01_Of.mono _ _
      | exact merinoref01_Times.mono _ _ _ _ _
      | exact LeO.none _
      | refine LeO.ite ?_ ?_
      | refine LeO.bind ?_ (fun _ => ?_)
def merinolaw01_distance.f (k : Nat) (a0 : Int) : Option (Bool × List Int) := (merinoref01_Of.f k a0).bind fun bt574 => (if bt574.1 = true then ((merinoref01_Neg.f k bt574.1 bt574.2).bind fun bt579 => (some (bt579.1, bt579.2))) else (some (bt574.1, bt574.2)))
theorem merinolaw01_distance.mono : ∀ a0 k, LeO (merinolaw01_distance.f k a0) (merinolaw01_distance.f (k + 1) a0) := by
  intro a0 k
  unfold merinolaw01_distance.f
  repeat' first
      | (with_reducible exact merinoref01_Neg.mono _ _ _)
      | (with_reducible exact merinoref01_Of.mono _ _)
      | (with_reducible exact LeO.refl _)
      | (with_reducible exact LeO.none _)
      | (with_reducible refine LeO.ite ?_ ?_)
      | (with_reducible refine LeO.bind ?_ (fun _ => ?_))
      | exact merinoref01_Neg.mono _ _ _
      | exact merinoref01_Of.mono _ _
      | exact LeO.none _
      | refine LeO.ite ?_ ?_
      | refine LeO.bind ?_ (fun _ => ?_)
end Go.Proofs.YtdjnneflpkllmaaDoor.Q

namespace Go.Proofs.Num
open Go.RowKit Go.Proofs.YtdjnneflpkllmaaDoorW.PrintWords Go.Proofs.YtdjnneflpkllmaaDoorW.PrintMore Go.Proofs.YtdjnneflpkllmaaDoor.Q
set_option linter.unusedVariables false
set_option linter.unusedSimpArgs false
theorem add_l0 {a b : List Int} (ha : Dig a) (hb : Dig b) (hs : a.length ≤ 1000) (hs2 : b.length ≤ 1000) : ∀ (c i : Nat), max a.length b.length + 1 - i = c → i ≤ max a.length b.length + 1 → ∀ (out : List Int) (cy : Int), Dig out → out.length = i → (cy = 0 ∨ cy = 1) → (max a.length b.length < i → cy = 0) → valD out + cy * pw i = vt a i + vt b i →
    ∃ r, Ev (fun k => merinoref01_addD.l0 k a b out cy (i : Int)) r ∧ (Dig r ∧ valD r = valD a + valD b ∧ r.length ≤ max a.length b.length + 1) := by
  intro c
  induction c with
  | zero =>
    intro i hc hi out cy hd ho h01 hz hv
    obtain rfl : cy = 0 := hz (by omega)
    rw [vt_all a (by omega), vt_all b (by omega), Int.zero_mul, Int.add_zero] at hv
    refine ⟨out, ?_, hd, hv, by omega⟩
    refine Ev.step (f := fun k => merinoref01_addD.j1 k a b out 0 (i : Int) false) (fun k => by rw [merinoref01_addD.l0, if_neg (by omega), if_neg (by omega)]; rfl) ?_
    exact Ev.step (f := fun _ => some out) (fun k => by rw [merinoref01_addD.j1, if_neg (by decide)]) (Ev.now _)
  | succ c ih =>
    intro i hc hi out cy hd ho h01 hz hv
    have x := ha.at_ i
    have y := hb.at_ i
    by_cases hend : a.length ≤ i ∧ b.length ≤ i ∧ cy = 0
    · obtain ⟨e1, e2, rfl⟩ := hend
      rw [vt_all a e1, vt_all b e2, Int.zero_mul, Int.add_zero] at hv
      refine ⟨out, ?_, hd, hv, by omega⟩
      refine Ev.step (f := fun k => merinoref01_addD.j1 k a b out 0 (i : Int) false) (fun k => by rw [merinoref01_addD.l0, if_neg (by omega), if_neg (by omega)]; rfl) ?_
      exact Ev.step (f := fun _ => some out) (fun k => by rw [merinoref01_addD.j1, if_neg (by decide)]) (Ev.now _)
    · obtain ⟨S, hS⟩ : ∃ S, S = cy + at_ a i + at_ b i := ⟨_, rfl⟩
      have S0 : 0 ≤ S ∧ S < 20000 := by omega
      obtain ⟨r, E, q⟩ := ih (i + 1) (by omega) (by omega) (out ++ [S % 10000]) (S / 10000) (dig_snoc hd (by omega) (by omega)) (by simp; omega) (by omega) (fun h => by
        have h1 : at_ a i = 0 := at_none (by omega)
        have h2 : at_ b i = 0 := at_none (by omega)
        omega) (by
        rw [valD_snoc, ho, vt_succ, vt_succ, pw_succ]
        have e : S % 10000 = S - 10000 * (S / 10000) := by omega
        have e2 : valD out = vt a i + vt b i - cy * pw i := by omega
        rw [e, e2, hS]
        grind)
      refine ⟨r, ?_, q⟩
      refine Ev.step (f := fun k => merinoref01_addD.j1 k a b out cy (i : Int) true) (fun k => ?_) ?_
      · rw [merinoref01_addD.l0]
        by_cases h1 : (i : Int) < (a.length : Int)
        · rw [if_pos h1]
        · by_cases h2 : (i : Int) < (b.length : Int)
          · rw [if_neg h1, if_pos h2]
          · rw [if_neg h1, if_neg h2, decide_eq_true (by omega)]
      · refine Ev.step (f := fun k => merinoref01_addD.l0 k a b (out ++ [S % 10000]) (S / 10000) ((i + 1 : Nat) : Int)) (fun k => ?_) E
        rw [merinoref01_addD.j1, if_pos rfl, rd_nat, rd_nat, wd64 (x := (i : Int) + 1) (by omega) (by omega), show (i : Int) + 1 = ((i + 1 : Nat) : Int) by omega]
        have st : ∀ T : Int, T = S → Int.tmod T 10000 = S % 10000 ∧ wrap64 (Int.tdiv T 10000) = S / 10000 := fun T hT => by
          subst hT
          rw [Int.tmod_eq_emod_of_nonneg S0.1, Int.tdiv_eq_ediv_of_nonneg S0.1]
          exact ⟨rfl, wd64 (by omega) (by omega)⟩
        by_cases h1 : (i : Int) < (a.length : Int)
        · by_cases h2 : (i : Int) < (b.length : Int)
          · have t := st (wrap64 (wrap64 (cy + at_ a i) + at_ b i)) (by rw [wd64 (x := cy + at_ a i) (by omega) (by omega), wd64 (by omega) (by omega), hS])
            rw [if_pos h1, if_pos (by omega), if_pos h2, if_pos (by omega), t.1, t.2]
          · have hz2 : at_ b i = 0 := at_none (by omega)
            have t := st (wrap64 (cy + at_ a i)) (by rw [wd64 (by omega) (by omega)]; omega)
            rw [if_pos h1, if_pos (by omega), if_neg h2, if_pos (by omega), t.1, t.2]
        · have hz1 : at_ a i = 0 := at_none (by omega)
          by_cases h2 : (i : Int) < (b.length : Int)
          · have t := st (wrap64 (cy + at_ b i)) (by rw [wd64 (by omega) (by omega)]; omega)
            rw [if_neg h1, if_pos h2, if_pos (by omega), if_pos (by omega), t.1, t.2]
          · have hz2 : at_ b i = 0 := at_none (by omega)
            have t := st cy (by omega)
            rw [if_neg h1, if_neg h2, if_pos (by omega), t.1, t.2]
theorem add_ok {a b : List Int} (ha : Dig a) (hb : Dig b) (hs : a.length ≤ 1000) (hs2 : b.length ≤ 1000) : ∃ r, Ev (fun k => merinoref01_addD.f k a b) r ∧ (Dig r ∧ valD r = valD a + valD b ∧ r.length ≤ max a.length b.length + 1) :=
  add_l0 ha hb hs hs2 (max a.length b.length + 1) 0 rfl (by omega) [] 0 (fun z hz => by cases hz) rfl (.inl rfl) (fun h => by omega) (by simp [valD, vt_zero])
theorem neg_big_ok {b : Bool} {l : List Int} {x : Int} (R : Rep b l x) (hs : l.length ≤ 1000) : ∃ r, Ev (fun k => merinoref01_Neg.f k b l) (decide (-x < 0), r) ∧ Rep (decide (-x < 0)) r (-x) ∧ r.length ≤ l.length := by
  obtain ⟨r, E, R2, hl⟩ := whole_ok (b := !b) (l := l) (x := -x) hs R.good.dig (by rw [R.good.val]; omega) (fun hne => by
    rw [R.sign]
    by_cases h : x < 0
    · rw [decide_eq_true h, decide_eq_false (by omega)]; rfl
    · rw [decide_eq_false h, decide_eq_true (by omega)]; rfl)
  refine ⟨r, ?_, R2, hl⟩
  unfold merinoref01_Neg.f
  exact Ev.bind E (Ev.now _)
theorem plus_ok {a b : Bool} {l m : List Int} {x y : Int} (R : Rep a l x) (S : Rep b m y) (hs : l.length ≤ 900) (hs2 : m.length ≤ 900) : ∃ r, Ev (fun k => merinoref01_Plus.f k a l b m) (decide (x + y < 0), r) ∧ Rep (decide (x + y < 0)) r (x + y) ∧ r.length ≤ max l.length m.length + 1 := by
  have ea := R.sign
  have eb := S.sign
  unfold merinoref01_Plus.f
  by_cases h : (x < 0 ↔ y < 0)
  · have hab : (a == b) = true := by rw [ea, eb, beq_iff_eq, decide_eq_decide]; exact h
    obtain ⟨t, E, d, v, ht⟩ := add_ok R.good.dig S.good.dig (by omega) (by omega)
    obtain ⟨r, E2, R2, hr⟩ := whole_ok (b := a) (l := t) (x := x + y) (by unfold short; omega) d (by rw [v, R.good.val, S.good.val]; omega) (fun hne => by rw [ea, decide_eq_decide]; omega)
    refine ⟨r, ?_, R2, by omega⟩
    simp only [if_pos hab]
    exact Ev.bind E (Ev.bind E2 (Ev.now _))
  · have hab : ¬ (a == b) = true := by rw [ea, eb, beq_iff_eq, decide_eq_decide]; exact h
    simp only [if_neg hab]
    have C := cmpD_ok R.good S.good (by omega)
    by_cases hc : (y.natAbs : Int) ≤ x.natAbs
    · have c0 : cmpI (x.natAbs : Int) y.natAbs ≥ 0 := by unfold cmpI; (repeat' split) <;> omega
      obtain ⟨t, E, g, ht⟩ := sub_ok R.good S.good (by omega) hc
      obtain ⟨r, E2, R2, hr⟩ := whole_ok (b := a) (l := t) (x := x + y) (by unfold short; omega) g.dig (by rw [g.val]; omega) (fun hne => by rw [ea, decide_eq_decide]; omega)
      refine ⟨r, Ev.bind C ?_, R2, by omega⟩
      simp only [if_pos c0]
      exact Ev.bind E (Ev.bind E2 (Ev.now _))
    · have c0 : ¬ cmpI (x.natAbs : Int) y.natAbs ≥ 0 := by unfold cmpI; rw [if_pos (by omega)]; omega
      obtain ⟨t, E, g, ht⟩ := sub_ok S.good R.good (by omega) (by omega)
      obtain ⟨r, E2, R2, hr⟩ := whole_ok (b := b) (l := t) (x := x + y) (by unfold short; omega) g.dig (by rw [g.val]; omega) (fun hne => by rw [eb, decide_eq_decide]; omega)
      refine ⟨r, Ev.bind C ?_, R2, by omega⟩
      simp only [if_neg c0]
      exact Ev.bind E (Ev.bind E2 (Ev.now _))
theorem rep_len {b : Bool} {l : List Int} {x : Int} (R : Rep b l x) {m : Nat} (h : (x.natAbs : Int) < pw m) : l.length ≤ m := R.good.len h
/-- Over: the floor, and what is left. -/
theorem over_ok {a : Bool} {l m : List Int} {x y : Int} {c : Bool} (R : Rep a l x) (gy : Good m y) (hy : 0 < y) (h1 : l.length ≤ 100) (h2 : m.length ≤ 100) : ∃ q r, Ev (fun k => merinoref01_Over.f k a l c m) (decide (x / y < 0), q, false, r) ∧ Rep (decide (x / y < 0)) q (x / y) ∧ Rep false r (x % y) ∧ q.length ≤ 110 ∧ r.length ≤ 100 := by
  obtain ⟨v, Ev1, g1, g2⟩ := div_ok R.good gy hy (by omega) (by omega)
  have l1 : v.1.length ≤ 100 := Nat.le_trans (g1.len (m := l.length) (by
    have := (valD_bd R.good.dig).2
    rw [R.good.val] at this
    have := Int.ediv_le_self y (show 0 ≤ (x.natAbs : Int) by omega)
    omega)) h1
  have n0 : 0 ≤ (x.natAbs : Int) % y := Int.emod_nonneg _ (by omega)
  have n1 : (x.natAbs : Int) % y < y := Int.emod_lt_of_pos _ hy
  have l2 : v.2.length ≤ 100 := Nat.le_trans (g2.len (m := m.length) (by have := (valD_bd gy.dig).2; rw [gy.val] at this; omega)) h2
  have q0 : 0 ≤ (x.natAbs : Int) / y := Int.ediv_nonneg (by omega) (by omega)
  have dm : y * ((x.natAbs : Int) / y) + (x.natAbs : Int) % y = x.natAbs := Int.mul_ediv_add_emod _ _
  unfold merinoref01_Over.f
  by_cases hx : x < 0
  · have ea : a = true := by rw [R.sign, decide_eq_true hx]
    subst ea
    by_cases hr : (x.natAbs : Int) % y = 0
    · have er : v.2 = [] := g2.zero_iff.2 hr
      have e1 : x = 0 + y * (-((x.natAbs : Int) / y)) := by grind
      have ed : x / y = -((x.natAbs : Int) / y) := by
        have : (0 + y * (-((x.natAbs : Int) / y))) / y = -((x.natAbs : Int) / y) := by rw [Int.add_mul_ediv_left _ _ (by omega)]; simp
        rw [← e1] at this; exact this
      have em : x % y = 0 := by
        have : (0 + y * (-((x.natAbs : Int) / y))) % y = 0 := by rw [Int.add_mul_emod_self_left]; simp
        rw [← e1] at this; exact this
      obtain ⟨q, E2, R2, hq⟩ := whole_ok (b := true) (l := v.1) (x := x / y) (by unfold short; omega) g1.dig (by rw [g1.val, ed]; omega) (fun hne => (decide_eq_true (by omega)).symm)
      refine ⟨q, [], Ev.bind Ev1 ?_, R2, ⟨by rw [em]; exact Good.nil, by rw [em]; rfl⟩, by omega, by simp⟩
      simp only [if_true, er, List.length_nil]
      exact Ev.bind E2 (Ev.now _)
    · have er : ¬ (v.2.length : Int) = 0 := fun h => hr (g2.zero_iff.1 (List.eq_nil_of_length_eq_zero (by omega)))
      have e1 : x = (y - (x.natAbs : Int) % y) + y * (-((x.natAbs : Int) / y) - 1) := by grind
      have ed : x / y = -((x.natAbs : Int) / y) - 1 := by
        have : ((y - (x.natAbs : Int) % y) + y * (-((x.natAbs : Int) / y) - 1)) / y = -((x.natAbs : Int) / y) - 1 := by rw [Int.add_mul_ediv_left _ _ (by omega), Int.ediv_eq_zero_of_lt (by omega) (by omega), Int.zero_add]
        rw [← e1] at this; exact this
      have em : x % y = y - (x.natAbs : Int) % y := by
        have : ((y - (x.natAbs : Int) % y) + y * (-((x.natAbs : Int) / y) - 1)) % y = y - (x.natAbs : Int) % y := by rw [Int.add_mul_emod_self_left, Int.emod_eq_of_lt (by omega) (by omega)]
        rw [← e1] at this; exact this
      have one : Dig [(1 : Int)] := fun z hz => by rw [List.mem_singleton] at hz; subst hz; omega
      have vone : valD [(1 : Int)] = 1 := rfl
      obtain ⟨t, E3, d3, v3, ht⟩ := add_ok g1.dig one (by omega) (by simp)
      rw [g1.val, vone] at v3
      have ht' : t.length ≤ 101 := by
        have : [(1 : Int)].length = 1 := rfl
        omega
      obtain ⟨q, E2, R2, hq⟩ := whole_ok (b := true) (l := t) (x := x / y) (by unfold short; omega) d3 (by rw [v3, ed]; omega) (fun hne => (decide_eq_true (by omega)).symm)
      obtain ⟨s, E4, g4, hs⟩ := sub_ok gy g2 (by omega) (by omega)
      obtain ⟨r, E5, R5, hr5⟩ := whole_ok (b := false) (l := s) (x := x % y) (by unfold short; omega) g4.dig (by rw [g4.val, em]; omega) (fun hne => (decide_eq_false (by omega)).symm)
      rw [decide_eq_false (show ¬ x % y < 0 by omega)] at E5 R5
      refine ⟨q, r, Ev.bind Ev1 ?_, R2, R5, by omega, by omega⟩
      simp only [if_true, if_neg er]
      exact Ev.bind E3 (Ev.bind E2 (Ev.bind E4 (Ev.bind E5 (Ev.now _))))
  · have ea : a = false := by rw [R.sign, decide_eq_false hx]
    subst ea
    have ex : (x.natAbs : Int) = x := by omega
    rw [ex] at g1 g2 q0 n0
    obtain ⟨q, E2, R2, hq⟩ := whole_ok (b := false) (l := v.1) (x := x / y) (by unfold short; omega) g1.dig (by rw [g1.val]; omega) (fun hne => (decide_eq_false (by omega)).symm)
    obtain ⟨r, E3, R3, hr⟩ := whole_ok (b := false) (l := v.2) (x := x % y) (by unfold short; omega) g2.dig (by rw [g2.val]; omega) (fun hne => (decide_eq_false (by omega)).symm)
    rw [decide_eq_false (show ¬ x % y < 0 by omega)] at E3 R3
    refine ⟨q, r, Ev.bind Ev1 ?_, R2, R3, by omega, by omega⟩
    simp only [Bool.false_eq_true, if_false]
    exact Ev.bind E2 (Ev.bind E3 (Ev.now _))
end Go.Proofs.Num

namespace Go.Proofs.YtdjnneflpkllmaaDoor.Q
open Go.RowKit Go.Proofs.YtdjnneflpkllmaaDoorW.PrintWords Go.Proofs.YtdjnneflpkllmaaDoorW.PrintLast Go.Proofs.YtdjnneflpkllmaaDoorW.PrintMore
attribute [local go_sem] max2_int min2_int max_two min_two max_three min_three max_four min_four   -- for this text's walks alone
set_option linter.unusedVariables false
set_option linter.unusedSimpArgs false
def bits_Len64.j0 : Nat → Int → Int → Option (Int)
  | 0, _, _ => none
  | k + 1, x0, x2 => if x0 ≥ 65536 then (if (x0 / 65536) ≥ 256 then (if 0 ≤ (((x0 / 65536) / 256) % 256) then (if (((x0 / 65536) / 256) % 256) < 256 then (some (wrap64 ((wrap64 ((wrap64 (x2 + 16)) + 8)) + (wrap64 (bt (⟨#[0, 1, 2, 2, 3, 3, 3, 3, 4, 4, 4, 4, 4, 4, 4, 4, 5, 5, 5, 5, 5, 5, 5, 5, 5, 5, 5, 5, 5, 5, 5, 5, 6, 6, 6, 6, 6, 6, 6, 6, 6, 6, 6, 6, 6, 6, 6, 6, 6, 6, 6, 6, 6, 6, 6, 6, 6, 6, 6, 6, 6, 6, 6, 6, 7, 7, 7, 7, 7, 7, 7, 7, 7, 7, 7, 7, 7, 7, 7, 7, 7, 7, 7, 7, 7, 7, 7, 7, 7, 7, 7, 7, 7, 7, 7, 7, 7, 7, 7, 7, 7, 7, 7, 7, 7, 7, 7, 7, 7, 7, 7, 7, 7, 7, 7, 7, 7, 7, 7, 7, 7, 7, 7, 7, 7, 7, 7, 7, 8, 8, 8, 8, 8, 8, 8, 8, 8, 8, 8, 8, 8, 8, 8, 8, 8, 8, 8, 8, 8, 8, 8, 8, 8, 8, 8, 8, 8, 8, 8, 8, 8, 8, 8, 8, 8, 8, 8, 8, 8, 8, 8, 8, 8, 8, 8, 8, 8, 8, 8, 8, 8, 8, 8, 8, 8, 8, 8, 8, 8, 8, 8, 8, 8, 8, 8, 8, 8, 8, 8, 8, 8, 8, 8, 8, 8, 8, 8, 8, 8, 8, 8, 8, 8, 8, 8, 8, 8, 8, 8, 8, 8, 8, 8, 8, 8, 8, 8, 8, 8, 8, 8, 8, 8, 8, 8, 8, 8, 8, 8, 8, 8, 8, 8, 8, 8, 8, 8, 8, 8, 8, 8, 8, 8, 8, 8, 8]⟩ : ByteArray) (((x0 / 65536) / 256) % 256)))))) else (none)) else (none)) else (if 0 ≤ ((x0 / 65536) % 256) then (if ((x0 / 65536) % 256) < 256 then (some (wrap64 ((wrap64 (x2 + 16)) + (wrap64 (bt (⟨#[0, 1, 2, 2, 3, 3, 3, 3, 4, 4, 4, 4, 4, 4, 4, 4, 5, 5, 5, 5, 5, 5, 5, 5, 5, 5, 5, 5, 5, 5, 5, 5, 6, 6, 6, 6, 6, 6, 6, 6, 6, 6, 6, 6, 6, 6, 6, 6, 6, 6, 6, 6, 6, 6, 6, 6, 6, 6, 6, 6, 6, 6, 6, 6, 7, 7, 7, 7, 7, 7, 7, 7, 7, 7, 7, 7, 7, 7, 7, 7, 7, 7, 7, 7, 7, 7, 7, 7, 7, 7, 7, 7, 7, 7, 7, 7, 7, 7, 7, 7, 7, 7, 7, 7, 7, 7, 7, 7, 7, 7, 7, 7, 7, 7, 7, 7, 7, 7, 7, 7, 7, 7, 7, 7, 7, 7, 7, 7, 8, 8, 8, 8, 8, 8, 8, 8, 8, 8, 8, 8, 8, 8, 8, 8, 8, 8, 8, 8, 8, 8, 8, 8, 8, 8, 8, 8, 8, 8, 8, 8, 8, 8, 8, 8, 8, 8, 8, 8, 8, 8, 8, 8, 8, 8, 8, 8, 8, 8, 8, 8, 8, 8, 8, 8, 8, 8, 8, 8, 8, 8, 8, 8, 8, 8, 8, 8, 8, 8, 8, 8, 8, 8, 8, 8, 8, 8, 8, 8, 8, 8, 8, 8, 8, 8, 8, 8, 8, 8, 8, 8, 8, 8, 8, 8, 8, 8, 8, 8, 8, 8, 8, 8, 8, 8, 8, 8, 8, 8, 8, 8, 8, 8, 8, 8, 8, 8, 8, 8, 8, 8, 8, 8, 8, 8, 8, 8]⟩ : ByteArray) ((x0 / 65536) % 256)))))) else (none)) else (none))) else (if x0 ≥ 256 then (if 0 ≤ ((x0 / 256) % 256) then (if ((x0 / 256) % 256) < 256 then (some (wrap64 ((wrap64 (x2 + 8)) + (wrap64 (bt (⟨#[0, 1, 2, 2, 3, 3, 3, 3, 4, 4, 4, 4, 4, 4, 4, 4, 5, 5, 5, 5, 5, 5, 5, 5, 5, 5, 5, 5, 5, 5, 5, 5, 6, 6, 6, 6, 6, 6, 6, 6, 6, 6, 6, 6, 6, 6, 6, 6, 6, 6, 6, 6, 6, 6, 6, 6, 6, 6, 6, 6, 6, 6, 6, 6, 7, 7, 7, 7, 7, 7, 7, 7, 7, 7, 7, 7, 7, 7, 7, 7, 7, 7, 7, 7, 7, 7, 7, 7, 7, 7, 7, 7, 7, 7, 7, 7, 7, 7, 7, 7, 7, 7, 7, 7, 7, 7, 7, 7, 7, 7, 7, 7, 7, 7, 7, 7, 7, 7, 7, 7, 7, 7, 7, 7, 7, 7, 7, 7, 8, 8, 8, 8, 8, 8, 8, 8, 8, 8, 8, 8, 8, 8, 8, 8, 8, 8, 8, 8, 8, 8, 8, 8, 8, 8, 8, 8, 8, 8, 8, 8, 8, 8, 8, 8, 8, 8, 8, 8, 8, 8, 8, 8, 8, 8, 8, 8, 8, 8, 8, 8, 8, 8, 8, 8, 8, 8, 8, 8, 8, 8, 8, 8, 8, 8, 8, 8, 8, 8, 8, 8, 8, 8, 8, 8, 8, 8, 8, 8, 8, 8, 8, 8, 8, 8, 8, 8, 8, 8, 8, 8, 8, 8, 8, 8, 8, 8, 8, 8, 8, 8, 8, 8, 8, 8, 8, 8, 8, 8, 8, 8, 8, 8, 8, 8, 8, 8, 8, 8, 8, 8, 8, 8, 8, 8, 8, 8]⟩ : ByteArray) ((x0 / 256) % 256)))))) else (none)) else (none)) else (if 0 ≤ ((x0) % 256) then (if ((x0) % 256) < 256 then (some (wrap64 (x2 + (wrap64 (bt (⟨#[0, 1, 2, 2, 3, 3, 3, 3, 4, 4, 4, 4, 4, 4, 4, 4, 5, 5, 5, 5, 5, 5, 5, 5, 5, 5, 5, 5, 5, 5, 5, 5, 6, 6, 6, 6, 6, 6, 6, 6, 6, 6, 6, 6, 6, 6, 6, 6, 6, 6, 6, 6, 6, 6, 6, 6, 6, 6, 6, 6, 6, 6, 6, 6, 7, 7, 7, 7, 7, 7, 7, 7, 7, 7, 7, 7, 7, 7, 7, 7, 7, 7, 7, 7, 7, 7, 7, 7, 7, 7, 7, 7, 7, 7, 7, 7, 7, 7, 7, 7, 7, 7, 7, 7, 7, 7, 7, 7, 7, 7, 7, 7, 7, 7, 7, 7, 7, 7, 7, 7, 7, 7, 7, 7, 7, 7, 7, 7, 8, 8, 8, 8, 8, 8, 8, 8, 8, 8, 8, 8, 8, 8, 8, 8, 8, 8, 8, 8, 8, 8, 8, 8, 8, 8, 8, 8, 8, 8, 8, 8, 8, 8, 8, 8, 8, 8, 8, 8, 8, 8, 8, 8, 8, 8, 8, 8, 8, 8, 8, 8, 8, 8, 8, 8, 8, 8, 8, 8, 8, 8, 8, 8, 8, 8, 8, 8, 8, 8, 8, 8, 8, 8, 8, 8, 8, 8, 8, 8, 8, 8, 8, 8, 8, 8, 8, 8, 8, 8, 8, 8, 8, 8, 8, 8, 8, 8, 8, 8, 8, 8, 8, 8, 8, 8, 8, 8, 8, 8, 8, 8, 8, 8, 8, 8, 8, 8, 8, 8, 8, 8, 8, 8, 8, 8, 8, 8]⟩ : ByteArray) ((x0) % 256)))))) else (none)) else (none)))
def bits_Len64.f (k : Nat) (a0 : Int) : Option (Int) := if a0 ≥ 4294967296 then (bits_Len64.j0 k (a0 / 4294967296) 32) else (bits_Len64.j0 k a0 0)
theorem bits_Len64.mono_l : ∀ k, (∀ y0 y1, LeO (bits_Len64.j0 k y0 y1) (bits_Len64.j0 (k + 1) y0 y1))
  | 0 => fun _ _ r h => by simp [bits_Len64.j0] at h
  | k + 1 => by
    have ih0 := bits_Len64.mono_l k
    · intro y0 y1
      unfold bits_Len64.j0
      repeat' first
      | (with_reducible exact ih0 _ _)
      | (with_reducible exact LeO.refl _)
      | (with_reducible exact LeO.none _)
      | (with_reducible refine LeO.ite ?_ ?_)
      | (with_reducible refine LeO.bind ?_ (fun _ => ?_))
      | exact ih0 _ _
      | exact LeO.none _
      | refine LeO.ite ?_ ?_
      | refine LeO.bind ?_ (fun _ => ?_)
theorem bits_Len64.mono : ∀ a0 k, LeO (bits_Len64.f k a0) (bits_Len64.f (k + 1) a0) := by
  intro a0 k
  have ih0 := bits_Len64.mono_l k
  unfold bits_Len64.f
  repeat' first
      | (with_reducible exact ih0 _ _)
      | (with_reducible exact LeO.refl _)
      | (with_reducible exact LeO.none _)
      | (with_reducible refine LeO.ite ?_ ?_)
      | (with_reducible refine LeO.bind ?_ (fun _ => ?_))
      | exact ih0 _ _
      | exact LeO.none _
      | refine LeO.ite ?_ ?_
      | refine LeO.bind ?_ (fun _ => ?_)
set_option maxHeartbeats 8000000 in
set_option maxRecDepth 100000 in
theorem bits_Len64.calls (k : Nat) (a0 : Int) (r : Int) (w : World) (h : bits_Len64.f k a0 = some r) :
    Calls Tryd.prog 138 #[.int .u64 a0] w fun e w' => e = .returned (.int .i64 r) ∧ Drawn0 w w' := by
  have H : (if a0 ≥ 4294967296 then (bits_Len64.j0 k (a0 / 4294967296) 32) else (bits_Len64.j0 k a0 0)) = some r := h
  clear h
  have HC2 := Aside0.mk H
  clear H
  go_enter Tryd.func138, Tryd.ntmps138
  go_upto_if 4 with (fail)
  go_cut [0, 2] (fun v0 v2 wc => ∃ (kq : Nat) (x0_1 : Int) (x2_1 : Int), v0 = .int .u64 x0_1 ∧ v2 = .int .i64 x2_1 ∧ Aside0 (bits_Len64.j0 kq x0_1 x2_1 = some r) ∧ Aside0 (kq ≤ k) ∧ Drawn0 w wc)
  case first =>
    have H := HC2.out
    clear HC2
    by_cases c3 : a0 ≥ 4294967296
    · rw [if_pos c3] at H
      have c3b0 : decide (4294967296 ≤ a0) = true := decide_eq_true c3
      clear c3
      (first | rw [c3b0] | (simp only [i64_w, i32_w]; rw [c3b0]) | skip)
      have H' := Aside0.mk H
      clear H
      go_wp2
      go_meet
      case rel => exact ⟨_, (a0 / 4294967296), (32), (by first | rfl | (simp; done) | (simp [*]; done)), (by first | rfl | (simp; done) | (simp [*]; done)), H', ⟨by first | omega | exact Nat.le_refl _⟩, by repeat (first | exact Drawn0.refl _ | apply Drawn0.step)⟩
    · rw [if_neg c3] at H
      have c3b0 : decide (4294967296 ≤ a0) = false := decide_eq_false c3
      clear c3
      (first | rw [c3b0] | (simp only [i64_w, i32_w]; rw [c3b0]) | skip)
      have H' := Aside0.mk H
      clear H
      go_wp2
      go_meet
      case rel => exact ⟨_, (a0), (0), (by first | rfl | (simp; done) | (simp [*]; done)), (by first | rfl | (simp; done) | (simp [*]; done)), H', ⟨by first | omega | exact Nat.le_refl _⟩, by repeat (first | exact Drawn0.refl _ | apply Drawn0.step)⟩
  case rest =>
    clear HC2
    try clear c1
    try clear p2
    try clear c3
    try clear c3b0
    obtain ⟨kq, x0_1, x2_1, rfl, rfl, HA, HJ1, ⟨mc1, rfl⟩⟩ := hcut
    cases kq with
    | zero => exact absurd HA.out (by simp [bits_Len64.j0])
    | succ kj1 =>
      have H := HA.out
      clear HA
      simp only [bits_Len64.j0] at H
      by_cases c4 : x0_1 ≥ 65536
      · rw [if_pos c4] at H
        have c4b0 : decide (65536 ≤ x0_1) = true := decide_eq_true c4
        clear c4
        by_cases c5 : (x0_1 / 65536) ≥ 256
        · rw [if_pos c5] at H
          have c5b0 : decide (256 ≤ (x0_1 / 65536)) = true := decide_eq_true c5
          clear c5
          obtain ⟨ji6, hji6⟩ : ∃ j_ : Int, (((x0_1 / 65536) / 256) % 256) = j_ := ⟨_, rfl⟩
          replace H : (if 0 ≤ (ji6) then (if (ji6) < 256 then (some (wrap64 ((wrap64 ((wrap64 (x2_1 + 16)) + 8)) + (wrap64 (bt (⟨#[0, 1, 2, 2, 3, 3, 3, 3, 4, 4, 4, 4, 4, 4, 4, 4, 5, 5, 5, 5, 5, 5, 5, 5, 5, 5, 5, 5, 5, 5, 5, 5, 6, 6, 6, 6, 6, 6, 6, 6, 6, 6, 6, 6, 6, 6, 6, 6, 6, 6, 6, 6, 6, 6, 6, 6, 6, 6, 6, 6, 6, 6, 6, 6, 7, 7, 7, 7, 7, 7, 7, 7, 7, 7, 7, 7, 7, 7, 7, 7, 7, 7, 7, 7, 7, 7, 7, 7, 7, 7, 7, 7, 7, 7, 7, 7, 7, 7, 7, 7, 7, 7, 7, 7, 7, 7, 7, 7, 7, 7, 7, 7, 7, 7, 7, 7, 7, 7, 7, 7, 7, 7, 7, 7, 7, 7, 7, 7, 8, 8, 8, 8, 8, 8, 8, 8, 8, 8, 8, 8, 8, 8, 8, 8, 8, 8, 8, 8, 8, 8, 8, 8, 8, 8, 8, 8, 8, 8, 8, 8, 8, 8, 8, 8, 8, 8, 8, 8, 8, 8, 8, 8, 8, 8, 8, 8, 8, 8, 8, 8, 8, 8, 8, 8, 8, 8, 8, 8, 8, 8, 8, 8, 8, 8, 8, 8, 8, 8, 8, 8, 8, 8, 8, 8, 8, 8, 8, 8, 8, 8, 8, 8, 8, 8, 8, 8, 8, 8, 8, 8, 8, 8, 8, 8, 8, 8, 8, 8, 8, 8, 8, 8, 8, 8, 8, 8, 8, 8, 8, 8, 8, 8, 8, 8, 8, 8, 8, 8, 8, 8, 8, 8, 8, 8, 8, 8]⟩ : ByteArray) (ji6)))))) else (none)) else (none)) = some r := by first | (rw [hji6] at H; exact H) | (simp only [hji6] at H ⊢; exact H)
          by_cases c7 : 0 ≤ (ji6)
          · rw [if_pos c7] at H
            have c7b0 : decide (0 ≤ (ji6)) = true := decide_eq_true c7
            clear c7
            by_cases c8 : (ji6) < 256
            · rw [if_pos c8] at H
              have c8b0 : decide ((ji6) < 256) = true := decide_eq_true c8
              clear c8
              obtain rfl := Option.some.inj H
              have p9 : 0 ≤ ((ji6) : Int) := of_decide_eq_true (by first | (with_reducible assumption) | assumption)
              have q9 : (ji6) < (256 : Int) := of_decide_eq_true (by first | (with_reducible assumption) | assumption)
              have hx9 := bt_at (⟨#[0, 1, 2, 2, 3, 3, 3, 3, 4, 4, 4, 4, 4, 4, 4, 4, 5, 5, 5, 5, 5, 5, 5, 5, 5, 5, 5, 5, 5, 5, 5, 5, 6, 6, 6, 6, 6, 6, 6, 6, 6, 6, 6, 6, 6, 6, 6, 6, 6, 6, 6, 6, 6, 6, 6, 6, 6, 6, 6, 6, 6, 6, 6, 6, 7, 7, 7, 7, 7, 7, 7, 7, 7, 7, 7, 7, 7, 7, 7, 7, 7, 7, 7, 7, 7, 7, 7, 7, 7, 7, 7, 7, 7, 7, 7, 7, 7, 7, 7, 7, 7, 7, 7, 7, 7, 7, 7, 7, 7, 7, 7, 7, 7, 7, 7, 7, 7, 7, 7, 7, 7, 7, 7, 7, 7, 7, 7, 7, 8, 8, 8, 8, 8, 8, 8, 8, 8, 8, 8, 8, 8, 8, 8, 8, 8, 8, 8, 8, 8, 8, 8, 8, 8, 8, 8, 8, 8, 8, 8, 8, 8, 8, 8, 8, 8, 8, 8, 8, 8, 8, 8, 8, 8, 8, 8, 8, 8, 8, 8, 8, 8, 8, 8, 8, 8, 8, 8, 8, 8, 8, 8, 8, 8, 8, 8, 8, 8, 8, 8, 8, 8, 8, 8, 8, 8, 8, 8, 8, 8, 8, 8, 8, 8, 8, 8, 8, 8, 8, 8, 8, 8, 8, 8, 8, 8, 8, 8, 8, 8, 8, 8, 8, 8, 8, 8, 8, 8, 8, 8, 8, 8, 8, 8, 8, 8, 8, 8, 8, 8, 8, 8, 8, 8, 8, 8, 8]⟩ : ByteArray) (ji6)
              replace p9 := eq_true p9
              replace q9 := eq_true q9
              go_wp2
              go_ret
              exact ⟨by first | rfl | (simp; done) | (simp only [← hji6] <;> (first | rfl | simp)) | (simp [*]; done), by repeat (first | exact Drawn0.refl _ | apply Drawn0.step)⟩
            · rw [if_neg c8] at H
              exact absurd H (by simp)
          · rw [if_neg c7] at H
            exact absurd H (by simp)
        · rw [if_neg c5] at H
          have c5b0 : decide (256 ≤ (x0_1 / 65536)) = false := decide_eq_false c5
          clear c5
          obtain ⟨ji10, hji10⟩ : ∃ j_ : Int, ((x0_1 / 65536) % 256) = j_ := ⟨_, rfl⟩
          replace H : (if 0 ≤ (ji10) then (if (ji10) < 256 then (some (wrap64 ((wrap64 (x2_1 + 16)) + (wrap64 (bt (⟨#[0, 1, 2, 2, 3, 3, 3, 3, 4, 4, 4, 4, 4, 4, 4, 4, 5, 5, 5, 5, 5, 5, 5, 5, 5, 5, 5, 5, 5, 5, 5, 5, 6, 6, 6, 6, 6, 6, 6, 6, 6, 6, 6, 6, 6, 6, 6, 6, 6, 6, 6, 6, 6, 6, 6, 6, 6, 6, 6, 6, 6, 6, 6, 6, 7, 7, 7, 7, 7, 7, 7, 7, 7, 7, 7, 7, 7, 7, 7, 7, 7, 7, 7, 7, 7, 7, 7, 7, 7, 7, 7, 7, 7, 7, 7, 7, 7, 7, 7, 7, 7, 7, 7, 7, 7, 7, 7, 7, 7, 7, 7, 7, 7, 7, 7, 7, 7, 7, 7, 7, 7, 7, 7, 7, 7, 7, 7, 7, 8, 8, 8, 8, 8, 8, 8, 8, 8, 8, 8, 8, 8, 8, 8, 8, 8, 8, 8, 8, 8, 8, 8, 8, 8, 8, 8, 8, 8, 8, 8, 8, 8, 8, 8, 8, 8, 8, 8, 8, 8, 8, 8, 8, 8, 8, 8, 8, 8, 8, 8, 8, 8, 8, 8, 8, 8, 8, 8, 8, 8, 8, 8, 8, 8, 8, 8, 8, 8, 8, 8, 8, 8, 8, 8, 8, 8, 8, 8, 8, 8, 8, 8, 8, 8, 8, 8, 8, 8, 8, 8, 8, 8, 8, 8, 8, 8, 8, 8, 8, 8, 8, 8, 8, 8, 8, 8, 8, 8, 8, 8, 8, 8, 8, 8, 8, 8, 8, 8, 8, 8, 8, 8, 8, 8, 8, 8, 8]⟩ : ByteArray) (ji10)))))) else (none)) else (none)) = some r := by first | (rw [hji10] at H; exact H) | (simp only [hji10] at H ⊢; exact H)
          by_cases c11 : 0 ≤ (ji10)
          · rw [if_pos c11] at H
            have c11b0 : decide (0 ≤ (ji10)) = true := decide_eq_true c11
            clear c11
            by_cases c12 : (ji10) < 256
            · rw [if_pos c12] at H
              have c12b0 : decide ((ji10) < 256) = true := decide_eq_true c12
              clear c12
              obtain rfl := Option.some.inj H
              have p13 : 0 ≤ ((ji10) : Int) := of_decide_eq_true (by first | (with_reducible assumption) | assumption)
              have q13 : (ji10) < (256 : Int) := of_decide_eq_true (by first | (with_reducible assumption) | assumption)
              have hx13 := bt_at (⟨#[0, 1, 2, 2, 3, 3, 3, 3, 4, 4, 4, 4, 4, 4, 4, 4, 5, 5, 5, 5, 5, 5, 5, 5, 5, 5, 5, 5, 5, 5, 5, 5, 6, 6, 6, 6, 6, 6, 6, 6, 6, 6, 6, 6, 6, 6, 6, 6, 6, 6, 6, 6, 6, 6, 6, 6, 6, 6, 6, 6, 6, 6, 6, 6, 7, 7, 7, 7, 7, 7, 7, 7, 7, 7, 7, 7, 7, 7, 7, 7, 7, 7, 7, 7, 7, 7, 7, 7, 7, 7, 7, 7, 7, 7, 7, 7, 7, 7, 7, 7, 7, 7, 7, 7, 7, 7, 7, 7, 7, 7, 7, 7, 7, 7, 7, 7, 7, 7, 7, 7, 7, 7, 7, 7, 7, 7, 7, 7, 8, 8, 8, 8, 8, 8, 8, 8, 8, 8, 8, 8, 8, 8, 8, 8, 8, 8, 8, 8, 8, 8, 8, 8, 8, 8, 8, 8, 8, 8, 8, 8, 8, 8, 8, 8, 8, 8, 8, 8, 8, 8, 8, 8, 8, 8, 8, 8, 8, 8, 8, 8, 8, 8, 8, 8, 8, 8, 8, 8, 8, 8, 8, 8, 8, 8, 8, 8, 8, 8, 8, 8, 8, 8, 8, 8, 8, 8, 8, 8, 8, 8, 8, 8, 8, 8, 8, 8, 8, 8, 8, 8, 8, 8, 8, 8, 8, 8, 8, 8, 8, 8, 8, 8, 8, 8, 8, 8, 8, 8, 8, 8, 8, 8, 8, 8, 8, 8, 8, 8, 8, 8, 8, 8, 8, 8, 8, 8]⟩ : ByteArray) (ji10)
              replace p13 := eq_true p13
              replace q13 := eq_true q13
              go_wp2
              go_ret
              exact ⟨by first | rfl | (simp; done) | (simp only [← hji10] <;> (first | rfl | simp)) | (simp [*]; done), by repeat (first | exact Drawn0.refl _ | apply Drawn0.step)⟩
            · rw [if_neg c12] at H
              exact absurd H (by simp)
          · rw [if_neg c11] at H
            exact absurd H (by simp)
      · rw [if_neg c4] at H
        have c4b0 : decide (65536 ≤ x0_1) = false := decide_eq_false c4
        clear c4
        by_cases c14 : x0_1 ≥ 256
        · rw [if_pos c14] at H
          have c14b0 : decide (256 ≤ x0_1) = true := decide_eq_true c14
          clear c14
          obtain ⟨ji15, hji15⟩ : ∃ j_ : Int, ((x0_1 / 256) % 256) = j_ := ⟨_, rfl⟩
          replace H : (if 0 ≤ (ji15) then (if (ji15) < 256 then (some (wrap64 ((wrap64 (x2_1 + 8)) + (wrap64 (bt (⟨#[0, 1, 2, 2, 3, 3, 3, 3, 4, 4, 4, 4, 4, 4, 4, 4, 5, 5, 5, 5, 5, 5, 5, 5, 5, 5, 5, 5, 5, 5, 5, 5, 6, 6, 6, 6, 6, 6, 6, 6, 6, 6, 6, 6, 6, 6, 6, 6, 6, 6, 6, 6, 6, 6, 6, 6, 6, 6, 6, 6, 6, 6, 6, 6, 7, 7, 7, 7, 7, 7, 7, 7, 7, 7, 7, 7, 7, 7, 7, 7, 7, 7, 7, 7, 7, 7, 7, 7, 7, 7, 7, 7, 7, 7, 7, 7, 7, 7, 7, 7, 7, 7, 7, 7, 7, 7, 7, 7, 7, 7, 7, 7, 7, 7, 7, 7, 7, 7, 7, 7, 7, 7, 7, 7, 7, 7, 7, 7, 8, 8, 8, 8, 8, 8, 8, 8, 8, 8, 8, 8, 8, 8, 8, 8, 8, 8, 8, 8, 8, 8, 8, 8, 8, 8, 8, 8, 8, 8, 8, 8, 8, 8, 8, 8, 8, 8, 8, 8, 8, 8, 8, 8, 8, 8, 8, 8, 8, 8, 8, 8, 8, 8, 8, 8, 8, 8, 8, 8, 8, 8, 8, 8, 8, 8, 8, 8, 8, 8, 8, 8, 8, 8, 8, 8, 8, 8, 8, 8, 8, 8, 8, 8, 8, 8, 8, 8, 8, 8, 8, 8, 8, 8, 8, 8, 8, 8, 8, 8, 8, 8, 8, 8, 8, 8, 8, 8, 8, 8, 8, 8, 8, 8, 8, 8, 8, 8, 8, 8, 8, 8, 8, 8, 8, 8, 8, 8]⟩ : ByteArray) (ji15)))))) else (none)) else (none)) = some r := by first | (rw [hji15] at H; exact H) | (simp only [hji15] at H ⊢; exact H)
          by_cases c16 : 0 ≤ (ji15)
          · rw [if_pos c16] at H
            have c16b0 : decide (0 ≤ (ji15)) = true := decide_eq_true c16
            clear c16
            by_cases c17 : (ji15) < 256
            · rw [if_pos c17] at H
              have c17b0 : decide ((ji15) < 256) = true := decide_eq_true c17
              clear c17
              obtain rfl := Option.some.inj H
              have p18 : 0 ≤ ((ji15) : Int) := of_decide_eq_true (by first | (with_reducible assumption) | assumption)
              have q18 : (ji15) < (256 : Int) := of_decide_eq_true (by first | (with_reducible assumption) | assumption)
              have hx18 := bt_at (⟨#[0, 1, 2, 2, 3, 3, 3, 3, 4, 4, 4, 4, 4, 4, 4, 4, 5, 5, 5, 5, 5, 5, 5, 5, 5, 5, 5, 5, 5, 5, 5, 5, 6, 6, 6, 6, 6, 6, 6, 6, 6, 6, 6, 6, 6, 6, 6, 6, 6, 6, 6, 6, 6, 6, 6, 6, 6, 6, 6, 6, 6, 6, 6, 6, 7, 7, 7, 7, 7, 7, 7, 7, 7, 7, 7, 7, 7, 7, 7, 7, 7, 7, 7, 7, 7, 7, 7, 7, 7, 7, 7, 7, 7, 7, 7, 7, 7, 7, 7, 7, 7, 7, 7, 7, 7, 7, 7, 7, 7, 7, 7, 7, 7, 7, 7, 7, 7, 7, 7, 7, 7, 7, 7, 7, 7, 7, 7, 7, 8, 8, 8, 8, 8, 8, 8, 8, 8, 8, 8, 8, 8, 8, 8, 8, 8, 8, 8, 8, 8, 8, 8, 8, 8, 8, 8, 8, 8, 8, 8, 8, 8, 8, 8, 8, 8, 8, 8, 8, 8, 8, 8, 8, 8, 8, 8, 8, 8, 8, 8, 8, 8, 8, 8, 8, 8, 8, 8, 8, 8, 8, 8, 8, 8, 8, 8, 8, 8, 8, 8, 8, 8, 8, 8, 8, 8, 8, 8, 8, 8, 8, 8, 8, 8, 8, 8, 8, 8, 8, 8, 8, 8, 8, 8, 8, 8, 8, 8, 8, 8, 8, 8, 8, 8, 8, 8, 8, 8, 8, 8, 8, 8, 8, 8, 8, 8, 8, 8, 8, 8, 8, 8, 8, 8, 8, 8, 8]⟩ : ByteArray) (ji15)
              replace p18 := eq_true p18
              replace q18 := eq_true q18
              go_wp2
              go_ret
              exact ⟨by first | rfl | (simp; done) | (simp only [← hji15] <;> (first | rfl | simp)) | (simp [*]; done), by repeat (first | exact Drawn0.refl _ | apply Drawn0.step)⟩
            · rw [if_neg c17] at H
              exact absurd H (by simp)
          · rw [if_neg c16] at H
            exact absurd H (by simp)
        · rw [if_neg c14] at H
          have c14b0 : decide (256 ≤ x0_1) = false := decide_eq_false c14
          clear c14
          obtain ⟨ji19, hji19⟩ : ∃ j_ : Int, ((x0_1) % 256) = j_ := ⟨_, rfl⟩
          replace H : (if 0 ≤ (ji19) then (if (ji19) < 256 then (some (wrap64 (x2_1 + (wrap64 (bt (⟨#[0, 1, 2, 2, 3, 3, 3, 3, 4, 4, 4, 4, 4, 4, 4, 4, 5, 5, 5, 5, 5, 5, 5, 5, 5, 5, 5, 5, 5, 5, 5, 5, 6, 6, 6, 6, 6, 6, 6, 6, 6, 6, 6, 6, 6, 6, 6, 6, 6, 6, 6, 6, 6, 6, 6, 6, 6, 6, 6, 6, 6, 6, 6, 6, 7, 7, 7, 7, 7, 7, 7, 7, 7, 7, 7, 7, 7, 7, 7, 7, 7, 7, 7, 7, 7, 7, 7, 7, 7, 7, 7, 7, 7, 7, 7, 7, 7, 7, 7, 7, 7, 7, 7, 7, 7, 7, 7, 7, 7, 7, 7, 7, 7, 7, 7, 7, 7, 7, 7, 7, 7, 7, 7, 7, 7, 7, 7, 7, 8, 8, 8, 8, 8, 8, 8, 8, 8, 8, 8, 8, 8, 8, 8, 8, 8, 8, 8, 8, 8, 8, 8, 8, 8, 8, 8, 8, 8, 8, 8, 8, 8, 8, 8, 8, 8, 8, 8, 8, 8, 8, 8, 8, 8, 8, 8, 8, 8, 8, 8, 8, 8, 8, 8, 8, 8, 8, 8, 8, 8, 8, 8, 8, 8, 8, 8, 8, 8, 8, 8, 8, 8, 8, 8, 8, 8, 8, 8, 8, 8, 8, 8, 8, 8, 8, 8, 8, 8, 8, 8, 8, 8, 8, 8, 8, 8, 8, 8, 8, 8, 8, 8, 8, 8, 8, 8, 8, 8, 8, 8, 8, 8, 8, 8, 8, 8, 8, 8, 8, 8, 8, 8, 8, 8, 8, 8, 8]⟩ : ByteArray) (ji19)))))) else (none)) else (none)) = some r := by first | (rw [hji19] at H; exact H) | (simp only [hji19] at H ⊢; exact H)
          by_cases c20 : 0 ≤ (ji19)
          · rw [if_pos c20] at H
            have c20b0 : decide (0 ≤ (ji19)) = true := decide_eq_true c20
            clear c20
            by_cases c21 : (ji19) < 256
            · rw [if_pos c21] at H
              have c21b0 : decide ((ji19) < 256) = true := decide_eq_true c21
              clear c21
              obtain rfl := Option.some.inj H
              have p22 : 0 ≤ ((ji19) : Int) := of_decide_eq_true (by first | (with_reducible assumption) | assumption)
              have q22 : (ji19) < (256 : Int) := of_decide_eq_true (by first | (with_reducible assumption) | assumption)
              have hx22 := bt_at (⟨#[0, 1, 2, 2, 3, 3, 3, 3, 4, 4, 4, 4, 4, 4, 4, 4, 5, 5, 5, 5, 5, 5, 5, 5, 5, 5, 5, 5, 5, 5, 5, 5, 6, 6, 6, 6, 6, 6, 6, 6, 6, 6, 6, 6, 6, 6, 6, 6, 6, 6, 6, 6, 6, 6, 6, 6, 6, 6, 6, 6, 6, 6, 6, 6, 7, 7, 7, 7, 7, 7, 7, 7, 7, 7, 7, 7, 7, 7, 7, 7, 7, 7, 7, 7, 7, 7, 7, 7, 7, 7, 7, 7, 7, 7, 7, 7, 7, 7, 7, 7, 7, 7, 7, 7, 7, 7, 7, 7, 7, 7, 7, 7, 7, 7, 7, 7, 7, 7, 7, 7, 7, 7, 7, 7, 7, 7, 7, 7, 8, 8, 8, 8, 8, 8, 8, 8, 8, 8, 8, 8, 8, 8, 8, 8, 8, 8, 8, 8, 8, 8, 8, 8, 8, 8, 8, 8, 8, 8, 8, 8, 8, 8, 8, 8, 8, 8, 8, 8, 8, 8, 8, 8, 8, 8, 8, 8, 8, 8, 8, 8, 8, 8, 8, 8, 8, 8, 8, 8, 8, 8, 8, 8, 8, 8, 8, 8, 8, 8, 8, 8, 8, 8, 8, 8, 8, 8, 8, 8, 8, 8, 8, 8, 8, 8, 8, 8, 8, 8, 8, 8, 8, 8, 8, 8, 8, 8, 8, 8, 8, 8, 8, 8, 8, 8, 8, 8, 8, 8, 8, 8, 8, 8, 8, 8, 8, 8, 8, 8, 8, 8, 8, 8, 8, 8, 8, 8]⟩ : ByteArray) (ji19)
              replace p22 := eq_true p22
              replace q22 := eq_true q22
              go_wp2
              go_ret
              exact ⟨by first | rfl | (simp; done) | (simp only [← hji19] <;> (first | rfl | simp)) | (simp [*]; done), by repeat (first | exact Drawn0.refl _ | apply Drawn0.step)⟩
            · rw [if_neg c21] at H
              exact absurd H (by simp)
          · rw [if_neg c20] at H
            exact absurd H (by simp)
def bits_LeadingZeros64.f (k : Nat) (a0 : Int) : Option (Int) := (bits_Len64.f k a0).bind fun t121 => (some (wrap64 (64 - t121)))
theorem bits_LeadingZeros64.mono : ∀ a0 k, LeO (bits_LeadingZeros64.f k a0) (bits_LeadingZeros64.f (k + 1) a0) := by
  intro a0 k
  unfold bits_LeadingZeros64.f
  repeat' first
      | (with_reducible exact bits_Len64.mono _ _)
      | (with_reducible exact LeO.refl _)
      | (with_reducible exact LeO.none _)
      | (with_reducible refine LeO.ite ?_ ?_)
      | (with_reducible refine LeO.bind ?_ (fun _ => ?_))
      | exact bits_Len64.mono _ _
      | exact LeO.none _
      | refine LeO.ite ?_ ?_
      | refine LeO.bind ?_ (fun _ => ?_)
set_option maxHeartbeats 8000000 in
set_option maxRecDepth 100000 in
theorem bits_LeadingZeros64.calls (k : Nat) (a0 : Int) (r : Int) (w : World) (h : bits_LeadingZeros64.f k a0 = some r) :
    Calls Tryd.prog 126 #[.int .u64 a0] w fun e w' => e = .returned (.int .i64 r) ∧ Drawn0 w w' := by
  have H : ((bits_Len64.f k a0).bind fun t121 => (some (wrap64 (64 - t121)))) = some r := h
  clear h
  replace H := Option.bind_eq_some_iff.mp H
  obtain ⟨t121, A20, H⟩ := H
  replace H : (some (wrap64 (64 - t121))) = some r := H
  have A2 := Aside0.mk A20
  clear A20
  obtain rfl := Option.some.inj H
  go_enter Tryd.func126, Tryd.ntmps126
  go_wp2_with (first | ((with_reducible refine gate_callee (f := 138) rfl ?_); refine goesL_ (some 4) rfl rfl Tryd.func138 (by kernel_rfl) rfl #[.int .u64 a0] rfl qe_ ?_; (with_reducible refine (bits_Len64.calls k a0 t121 _ A2.out).mono ?_); rintro e w' ⟨rfl, ⟨nd, rfl⟩⟩; refine ⟨_, rfl, ?_⟩))
  go_ret
  exact ⟨by first | rfl | (simp; done) | (simp [*]; done), by repeat (first | exact Drawn0.refl _ | apply Drawn0.step)⟩
end Go.Proofs.YtdjnneflpkllmaaDoor.Q

namespace Go.Proofs.YtdjnneflpkllmaaDoor.Q
open Go.RowKit Go.Proofs.YtdjnneflpkllmaaDoorW.PrintWords Go.Proofs.YtdjnneflpkllmaaDoorW.PrintLast Go.Proofs.YtdjnneflpkllmaaDoorW.PrintMore
attribute [local go_sem] max2_int min2_int max_two min_two max_three min_three max_four min_four   -- for this text's walks alone
set_option linter.unusedVariables false
set_option linter.unusedSimpArgs false
mutual
def bits_Div64_g.j2 : Nat → Int → Int → Int → Int → Int → Int → Int → Int → Option (Int × Int)
  | 0, _, _, _, _, _, _, _, _ => none
  | k + 1, x2, x8, x9, x10, x11, x13, x14, x15 => if x9 = 0 then (none) else (bits_Div64_g.l1 k x2 x8 x9 x10 x14 x15 (IntKind.u64.wrap ((IntKind.u64.wrap ((IntKind.u64.wrap ((IntKind.u64.wrap (x11 * 4294967296)) + x13)) - (IntKind.u64.wrap (x15 * x2)))) - (IntKind.u64.wrap ((IntKind.u64.wrap (Int.tdiv (IntKind.u64.wrap ((IntKind.u64.wrap ((IntKind.u64.wrap (x11 * 4294967296)) + x13)) - (IntKind.u64.wrap (x15 * x2)))) x9)) * x9)))) (IntKind.u64.wrap ((IntKind.u64.wrap ((IntKind.u64.wrap (x11 * 4294967296)) + x13)) - (IntKind.u64.wrap (x15 * x2)))) (IntKind.u64.wrap (Int.tdiv (IntKind.u64.wrap ((IntKind.u64.wrap ((IntKind.u64.wrap (x11 * 4294967296)) + x13)) - (IntKind.u64.wrap (x15 * x2)))) x9)))
def bits_Div64_g.l1 : Nat → Int → Int → Int → Int → Int → Int → Int → Int → Int → Option (Int × Int)
  | 0, _, _, _, _, _, _, _, _, _ => none
  | k + 1, x2, x8, x9, x10, x14, x15, x16, x17, x18 => if x18 ≥ 4294967296 then (bits_Div64_g.j4 k x2 x8 x9 x10 x14 x15 x16 x17 x18 true) else (bits_Div64_g.j4 k x2 x8 x9 x10 x14 x15 x16 x17 x18 (decide ((IntKind.u64.wrap (x18 * x10)) > (IntKind.u64.wrap ((IntKind.u64.wrap (4294967296 * x16)) + x14)))))
def bits_Div64_g.j4 : Nat → Int → Int → Int → Int → Int → Int → Int → Int → Int → Bool → Option (Int × Int)
  | 0, _, _, _, _, _, _, _, _, _, _ => none
  | k + 1, x2, x8, x9, x10, x14, x15, x16, x17, x18, x113 => if x113 = true then (if (IntKind.u64.wrap (x16 + x9)) ≥ 4294967296 then (if 0 ≤ x8 then (some (IntKind.u64.wrap ((IntKind.u64.wrap (x15 * 4294967296)) + (IntKind.u64.wrap (x18 - 1))), shr .u64 (IntKind.u64.wrap ((IntKind.u64.wrap ((IntKind.u64.wrap (x17 * 4294967296)) + x14)) - (IntKind.u64.wrap ((IntKind.u64.wrap (x18 - 1)) * x2)))) x8)) else (none)) else (bits_Div64_g.l1 k x2 x8 x9 x10 x14 x15 (IntKind.u64.wrap (x16 + x9)) x17 (IntKind.u64.wrap (x18 - 1)))) else (if 0 ≤ x8 then (some (IntKind.u64.wrap ((IntKind.u64.wrap (x15 * 4294967296)) + x18), shr .u64 (IntKind.u64.wrap ((IntKind.u64.wrap ((IntKind.u64.wrap (x17 * 4294967296)) + x14)) - (IntKind.u64.wrap (x18 * x2)))) x8)) else (none))
def bits_Div64_g.l0 : Nat → Int → Int → Int → Int → Int → Int → Int → Int → Int → Option (Int × Int)
  | 0, _, _, _, _, _, _, _, _, _ => none
  | k + 1, x2, x8, x9, x10, x11, x13, x14, x15, x16 => if x15 ≥ 4294967296 then (bits_Div64_g.j1 k x2 x8 x9 x10 x11 x13 x14 x15 x16 true) else (bits_Div64_g.j1 k x2 x8 x9 x10 x11 x13 x14 x15 x16 (decide ((IntKind.u64.wrap (x15 * x10)) > (IntKind.u64.wrap ((IntKind.u64.wrap (4294967296 * x16)) + x13)))))
def bits_Div64_g.j1 : Nat → Int → Int → Int → Int → Int → Int → Int → Int → Int → Bool → Option (Int × Int)
  | 0, _, _, _, _, _, _, _, _, _, _ => none
  | k + 1, x2, x8, x9, x10, x11, x13, x14, x15, x16, x78 => if x78 = true then (if (IntKind.u64.wrap (x16 + x9)) ≥ 4294967296 then (bits_Div64_g.j2 k x2 x8 x9 x10 x11 x13 x14 (IntKind.u64.wrap (x15 - 1))) else (bits_Div64_g.l0 k x2 x8 x9 x10 x11 x13 x14 (IntKind.u64.wrap (x15 - 1)) (IntKind.u64.wrap (x16 + x9)))) else (bits_Div64_g.j2 k x2 x8 x9 x10 x11 x13 x14 x15)
end
def bits_Div64_g.f (k : Nat) (a0 : Int) (a1 : Int) (a2 : Int) : Option (Int × Int) := if a0 = 0 then (if a2 = 0 then (none) else (some (IntKind.u64.wrap (Int.tdiv a1 a2), Int.tmod a1 a2))) else ((bits_LeadingZeros64.f k a2).bind fun t122 => (if 0 ≤ (IntKind.u64.wrap (t122)) then (if 0 ≤ (IntKind.u64.wrap (64 - (IntKind.u64.wrap (t122)))) then (if ((shl .u64 a2 (IntKind.u64.wrap (t122))) / 4294967296) = 0 then (none) else (bits_Div64_g.l0 k (shl .u64 a2 (IntKind.u64.wrap (t122))) (IntKind.u64.wrap (t122)) ((shl .u64 a2 (IntKind.u64.wrap (t122))) / 4294967296) (Go.bits .and .u64 (shl .u64 a2 (IntKind.u64.wrap (t122))) 4294967295) (Go.bits .or .u64 (shl .u64 a0 (IntKind.u64.wrap (t122))) (shr .u64 a1 (IntKind.u64.wrap (64 - (IntKind.u64.wrap (t122)))))) ((shl .u64 a1 (IntKind.u64.wrap (t122))) / 4294967296) (Go.bits .and .u64 (shl .u64 a1 (IntKind.u64.wrap (t122))) 4294967295) (IntKind.u64.wrap (Int.tdiv (Go.bits .or .u64 (shl .u64 a0 (IntKind.u64.wrap (t122))) (shr .u64 a1 (IntKind.u64.wrap (64 - (IntKind.u64.wrap (t122)))))) ((shl .u64 a2 (IntKind.u64.wrap (t122))) / 4294967296))) (IntKind.u64.wrap ((Go.bits .or .u64 (shl .u64 a0 (IntKind.u64.wrap (t122))) (shr .u64 a1 (IntKind.u64.wrap (64 - (IntKind.u64.wrap (t122)))))) - (IntKind.u64.wrap ((IntKind.u64.wrap (Int.tdiv (Go.bits .or .u64 (shl .u64 a0 (IntKind.u64.wrap (t122))) (shr .u64 a1 (IntKind.u64.wrap (64 - (IntKind.u64.wrap (t122)))))) ((shl .u64 a2 (IntKind.u64.wrap (t122))) / 4294967296))) * ((shl .u64 a2 (IntKind.u64.wrap (t122))) / 4294967296))))))) else (none)) else (none)))
theorem bits_Div64_g.mono_l : ∀ k, (∀ y0 y1 y2 y3 y4 y5 y6 y7, LeO (bits_Div64_g.j2 k y0 y1 y2 y3 y4 y5 y6 y7) (bits_Div64_g.j2 (k + 1) y0 y1 y2 y3 y4 y5 y6 y7)) ∧ (∀ y0 y1 y2 y3 y4 y5 y6 y7 y8, LeO (bits_Div64_g.l1 k y0 y1 y2 y3 y4 y5 y6 y7 y8) (bits_Div64_g.l1 (k + 1) y0 y1 y2 y3 y4 y5 y6 y7 y8)) ∧ (∀ y0 y1 y2 y3 y4 y5 y6 y7 y8 y9, LeO (bits_Div64_g.j4 k y0 y1 y2 y3 y4 y5 y6 y7 y8 y9) (bits_Div64_g.j4 (k + 1) y0 y1 y2 y3 y4 y5 y6 y7 y8 y9)) ∧ (∀ y0 y1 y2 y3 y4 y5 y6 y7 y8, LeO (bits_Div64_g.l0 k y0 y1 y2 y3 y4 y5 y6 y7 y8) (bits_Div64_g.l0 (k + 1) y0 y1 y2 y3 y4 y5 y6 y7 y8)) ∧ (∀ y0 y1 y2 y3 y4 y5 y6 y7 y8 y9, LeO (bits_Div64_g.j1 k y0 y1 y2 y3 y4 y5 y6 y7 y8 y9) (bits_Div64_g.j1 (k + 1) y0 y1 y2 y3 y4 y5 y6 y7 y8 y9))
  | 0 => ⟨fun _ _ _ _ _ _ _ _ r h => by simp [bits_Div64_g.j2] at h, fun _ _ _ _ _ _ _ _ _ r h => by simp [bits_Div64_g.l1] at h, fun _ _ _ _ _ _ _ _ _ _ r h => by simp [bits_Div64_g.j4] at h, fun _ _ _ _ _ _ _ _ _ r h => by simp [bits_Div64_g.l0] at h, fun _ _ _ _ _ _ _ _ _ _ r h => by simp [bits_Div64_g.j1] at h⟩
  | k + 1 => by
    obtain ⟨ih0, ih1, ih2, ih3, ih4⟩ := bits_Div64_g.mono_l k
    refine ⟨?_, ?_, ?_, ?_, ?_⟩
    · intro y0 y1 y2 y3 y4 y5 y6 y7
      unfold bits_Div64_g.j2
      repeat' first
      | (with_reducible exact ih0 _ _ _ _ _ _ _ _)
      | (with_reducible exact ih1 _ _ _ _ _ _ _ _ _)
      | (with_reducible exact ih2 _ _ _ _ _ _ _ _ _ _)
      | (with_reducible exact ih3 _ _ _ _ _ _ _ _ _)
      | (with_reducible exact ih4 _ _ _ _ _ _ _ _ _ _)
      | (with_reducible exact bits_LeadingZeros64.mono _ _)
      | (with_reducible exact LeO.refl _)
      | (with_reducible exact LeO.none _)
      | (with_reducible refine LeO.ite ?_ ?_)
      | (with_reducible refine LeO.bind ?_ (fun _ => ?_))
      | exact ih0 _ _ _ _ _ _ _ _
      | exact ih1 _ _ _ _ _ _ _ _ _
      | exact ih2 _ _ _ _ _ _ _ _ _ _
      | exact ih3 _ _ _ _ _ _ _ _ _
      | exact ih4 _ _ _ _ _ _ _ _ _ _
      | exact bits_LeadingZeros64.mono _ _
      | exact LeO.none _
      | refine LeO.ite ?_ ?_
      | refine LeO.bind ?_ (fun _ => ?_)
    · intro y0 y1 y2 y3 y4 y5 y6 y7 y8
      unfold bits_Div64_g.l1
      repeat' first
      | (with_reducible exact ih0 _ _ _ _ _ _ _ _)
      | (with_reducible exact ih1 _ _ _ _ _ _ _ _ _)
      | (with_reducible exact ih2 _ _ _ _ _ _ _ _ _ _)
      | (with_reducible exact ih3 _ _ _ _ _ _ _ _ _)
      | (with_reducible exact ih4 _ _ _ _ _ _ _ _ _ _)
      | (with_reducible exact bits_LeadingZeros64.mono _ _)
      | (with_reducible exact LeO.refl _)
      | (with_reducible exact LeO.none _)
      | (with_reducible refine LeO.ite ?_ ?_)
      | (with_reducible refine LeO.bind ?_ (fun _ => ?_))
      | exact ih0 _ _ _ _ _ _ _ _
      | exact ih1 _ _ _ _ _ _ _ _ _
      | exact ih2 _ _ _ _ _ _ _ _ _ _
      | exact ih3 _ _ _ _ _ _ _ _ _
      | exact ih4 _ _ _ _ _ _ _ _ _ _
      | exact bits_LeadingZeros64.mono _ _
      | exact LeO.none _
      | refine LeO.ite ?_ ?_
      | refine LeO.bind ?_ (fun _ => ?_)
    · intro y0 y1 y2 y3 y4 y5 y6 y7 y8 y9
      unfold bits_Div64_g.j4
      repeat' first
      | (with_reducible exact ih0 _ _ _ _ _ _ _ _)
      | (with_reducible exact ih1 _ _ _ _ _ _ _ _ _)
      | (with_reducible exact ih2 _ _ _ _ _ _ _ _ _ _)
      | (with_reducible exact ih3 _ _ _ _ _ _ _ _ _)
      | (with_reducible exact ih4 _ _ _ _ _ _ _ _ _ _)
      | (with_reducible exact bits_LeadingZeros64.mono _ _)
      | (with_reducible exact LeO.refl _)
      | (with_reducible exact LeO.none _)
      | (with_reducible refine LeO.ite ?_ ?_)
      | (with_reducible refine LeO.bind ?_ (fun _ => ?_))
      | exact ih0 _ _ _ _ _ _ _ _
      | exact ih1 _ _ _ _ _ _ _ _ _
      | exact ih2 _ _ _ _ _ _ _ _ _ _
      | exact ih3 _ _ _ _ _ _ _ _ _
      | exact ih4 _ _ _ _ _ _ _ _ _ _
      | exact bits_LeadingZeros64.mono _ _
      | exact LeO.none _
      | refine LeO.ite ?_ ?_
      | refine LeO.bind ?_ (fun _ => ?_)
    · intro y0 y1 y2 y3 y4 y5 y6 y7 y8
      unfold bits_Div64_g.l0
      repeat' first
      | (with_reducible exact ih0 _ _ _ _ _ _ _ _)
      | (with_reducible exact ih1 _ _ _ _ _ _ _ _ _)
      | (with_reducible exact ih2 _ _ _ _ _ _ _ _ _ _)
      | (with_reducible exact ih3 _ _ _ _ _ _ _ _ _)
      | (with_reducible exact ih4 _ _ _ _ _ _ _ _ _ _)
      | (with_reducible exact bits_LeadingZeros64.mono _ _)
      | (with_reducible exact LeO.refl _)
      | (with_reducible exact LeO.none _)
      | (with_reducible refine LeO.ite ?_ ?_)
      | (with_reducible refine LeO.bind ?_ (fun _ => ?_))
      | exact ih0 _ _ _ _ _ _ _ _
      | exact ih1 _ _ _ _ _ _ _ _ _
      | exact ih2 _ _ _ _ _ _ _ _ _ _
      | exact ih3 _ _ _ _ _ _ _ _ _
      | exact ih4 _ _ _ _ _ _ _ _ _ _
      | exact bits_LeadingZeros64.mono _ _
      | exact LeO.none _
      | refine LeO.ite ?_ ?_
      | refine LeO.bind ?_ (fun _ => ?_)
    · intro y0 y1 y2 y3 y4 y5 y6 y7 y8 y9
      unfold bits_Div64_g.j1
      repeat' first
      | (with_reducible exact ih0 _ _ _ _ _ _ _ _)
      | (with_reducible exact ih1 _ _ _ _ _ _ _ _ _)
      | (with_reducible exact ih2 _ _ _ _ _ _ _ _ _ _)
      | (with_reducible exact ih3 _ _ _ _ _ _ _ _ _)
      | (with_reducible exact ih4 _ _ _ _ _ _ _ _ _ _)
      | (with_reducible exact bits_LeadingZeros64.mono _ _)
      | (with_reducible exact LeO.refl _)
      | (with_reducible exact LeO.none _)
      | (with_reducible refine LeO.ite ?_ ?_)
      | (with_reducible refine LeO.bind ?_ (fun _ => ?_))
      | exact ih0 _ _ _ _ _ _ _ _
      | exact ih1 _ _ _ _ _ _ _ _ _
      | exact ih2 _ _ _ _ _ _ _ _ _ _
      | exact ih3 _ _ _ _ _ _ _ _ _
      | exact ih4 _ _ _ _ _ _ _ _ _ _
      | exact bits_LeadingZeros64.mono _ _
      | exact LeO.none _
      | refine LeO.ite ?_ ?_
      | refine LeO.bind ?_ (fun _ => ?_)
theorem bits_Div64_g.mono : ∀ a0 a1 a2 k, LeO (bits_Div64_g.f k a0 a1 a2) (bits_Div64_g.f (k + 1) a0 a1 a2) := by
  intro a0 a1 a2 k
  obtain ⟨ih0, ih1, ih2, ih3, ih4⟩ := bits_Div64_g.mono_l k
  unfold bits_Div64_g.f
  repeat' first
      | (with_reducible exact ih0 _ _ _ _ _ _ _ _)
      | (with_reducible exact ih1 _ _ _ _ _ _ _ _ _)
      | (with_reducible exact ih2 _ _ _ _ _ _ _ _ _ _)
      | (with_reducible exact ih3 _ _ _ _ _ _ _ _ _)
      | (with_reducible exact ih4 _ _ _ _ _ _ _ _ _ _)
      | (with_reducible exact bits_LeadingZeros64.mono _ _)
      | (with_reducible exact LeO.refl _)
      | (with_reducible exact LeO.none _)
      | (with_reducible refine LeO.ite ?_ ?_)
      | (with_reducible refine LeO.bind ?_ (fun _ => ?_))
      | exact ih0 _ _ _ _ _ _ _ _
      | exact ih1 _ _ _ _ _ _ _ _ _
      | exact ih2 _ _ _ _ _ _ _ _ _ _
      | exact ih3 _ _ _ _ _ _ _ _ _
      | exact ih4 _ _ _ _ _ _ _ _ _ _
      | exact bits_LeadingZeros64.mono _ _
      | exact LeO.none _
      | refine LeO.ite ?_ ?_
      | refine LeO.bind ?_ (fun _ => ?_)
set_option maxHeartbeats 8000000 in
set_option maxRecDepth 100000 in
theorem bits_Div64_g.calls (k : Nat) (a0 : Int) (a1 : Int) (a2 : Int) (r1 : Int) (r2 : Int) (w : World) (g0 : (a2 == 0) = false) (g1 : decide (a2 ≤ a0) = false) (h : bits_Div64_g.f k a0 a1 a2 = some (r1, r2)) :
    Calls Tryd.prog 112 #[.int .u64 a0, .int .u64 a1, .int .u64 a2] w fun e w' => e = .returned (.tuple #[.int .u64 r1, .int .u64 r2]) ∧ Drawn0 w w' := by
  have H : (if a0 = 0 then (if a2 = 0 then (none) else (some (IntKind.u64.wrap (Int.tdiv a1 a2), Int.tmod a1 a2))) else ((bits_LeadingZeros64.f k a2).bind fun t122 => (if 0 ≤ (IntKind.u64.wrap (t122)) then (if 0 ≤ (IntKind.u64.wrap (64 - (IntKind.u64.wrap (t122)))) then (if ((shl .u64 a2 (IntKind.u64.wrap (t122))) / 4294967296) = 0 then (none) else (bits_Div64_g.l0 k (shl .u64 a2 (IntKind.u64.wrap (t122))) (IntKind.u64.wrap (t122)) ((shl .u64 a2 (IntKind.u64.wrap (t122))) / 4294967296) (Go.bits .and .u64 (shl .u64 a2 (IntKind.u64.wrap (t122))) 4294967295) (Go.bits .or .u64 (shl .u64 a0 (IntKind.u64.wrap (t122))) (shr .u64 a1 (IntKind.u64.wrap (64 - (IntKind.u64.wrap (t122)))))) ((shl .u64 a1 (IntKind.u64.wrap (t122))) / 4294967296) (Go.bits .and .u64 (shl .u64 a1 (IntKind.u64.wrap (t122))) 4294967295) (IntKind.u64.wrap (Int.tdiv (Go.bits .or .u64 (shl .u64 a0 (IntKind.u64.wrap (t122))) (shr .u64 a1 (IntKind.u64.wrap (64 - (IntKind.u64.wrap (t122)))))) ((shl .u64 a2 (IntKind.u64.wrap (t122))) / 4294967296))) (IntKind.u64.wrap ((Go.bits .or .u64 (shl .u64 a0 (IntKind.u64.wrap (t122))) (shr .u64 a1 (IntKind.u64.wrap (64 - (IntKind.u64.wrap (t122)))))) - (IntKind.u64.wrap ((IntKind.u64.wrap (Int.tdiv (Go.bits .or .u64 (shl .u64 a0 (IntKind.u64.wrap (t122))) (shr .u64 a1 (IntKind.u64.wrap (64 - (IntKind.u64.wrap (t122)))))) ((shl .u64 a2 (IntKind.u64.wrap (t122))) / 4294967296))) * ((shl .u64 a2 (IntKind.u64.wrap (t122))) / 4294967296))))))) else (none)) else (none)))) = some (r1, r2) := h
  clear h
  by_cases c4 : a0 = 0
  · rw [if_pos c4] at H
    have c4b0 : (a0 == 0) = true := beq_iff_eq.mpr c4
    have c4b1 : (a0 != 0) = false := bne_eq_false_iff_eq.mpr c4
    clear c4
    by_cases c5 : a2 = 0
    · rw [if_pos c5] at H
      exact absurd H (by simp)
    · rw [if_neg c5] at H
      have c5b0 : (a2 == 0) = false := beq_eq_false_iff_ne.mpr c5
      have c5b1 : (a2 != 0) = true := bne_iff_ne.mpr c5
      simp only [Option.some.injEq, Prod.mk.injEq] at H
      obtain ⟨rfl, rfl⟩ := H
      go_enter Tryd.func112, Tryd.ntmps112
      go_wp2
      repeat (go_quiet (fail); try go_wp2)
      go_ret2
      exact ⟨by first | rfl | (simp; done) | (simp [*]; done), by repeat (first | exact Drawn0.refl _ | apply Drawn0.step)⟩
  · rw [if_neg c4] at H
    have c4b0 : (a0 == 0) = false := beq_eq_false_iff_ne.mpr c4
    have c4b1 : (a0 != 0) = true := bne_iff_ne.mpr c4
    replace H := Option.bind_eq_some_iff.mp H
    obtain ⟨t122, A60, H⟩ := H
    replace H : (if 0 ≤ (IntKind.u64.wrap (t122)) then (if 0 ≤ (IntKind.u64.wrap (64 - (IntKind.u64.wrap (t122)))) then (if ((shl .u64 a2 (IntKind.u64.wrap (t122))) / 4294967296) = 0 then (none) else (bits_Div64_g.l0 k (shl .u64 a2 (IntKind.u64.wrap (t122))) (IntKind.u64.wrap (t122)) ((shl .u64 a2 (IntKind.u64.wrap (t122))) / 4294967296) (Go.bits .and .u64 (shl .u64 a2 (IntKind.u64.wrap (t122))) 4294967295) (Go.bits .or .u64 (shl .u64 a0 (IntKind.u64.wrap (t122))) (shr .u64 a1 (IntKind.u64.wrap (64 - (IntKind.u64.wrap (t122)))))) ((shl .u64 a1 (IntKind.u64.wrap (t122))) / 4294967296) (Go.bits .and .u64 (shl .u64 a1 (IntKind.u64.wrap (t122))) 4294967295) (IntKind.u64.wrap (Int.tdiv (Go.bits .or .u64 (shl .u64 a0 (IntKind.u64.wrap (t122))) (shr .u64 a1 (IntKind.u64.wrap (64 - (IntKind.u64.wrap (t122)))))) ((shl .u64 a2 (IntKind.u64.wrap (t122))) / 4294967296))) (IntKind.u64.wrap ((Go.bits .or .u64 (shl .u64 a0 (IntKind.u64.wrap (t122))) (shr .u64 a1 (IntKind.u64.wrap (64 - (IntKind.u64.wrap (t122)))))) - (IntKind.u64.wrap ((IntKind.u64.wrap (Int.tdiv (Go.bits .or .u64 (shl .u64 a0 (IntKind.u64.wrap (t122))) (shr .u64 a1 (IntKind.u64.wrap (64 - (IntKind.u64.wrap (t122)))))) ((shl .u64 a2 (IntKind.u64.wrap (t122))) / 4294967296))) * ((shl .u64 a2 (IntKind.u64.wrap (t122))) / 4294967296))))))) else (none)) else (none)) = some (r1, r2) := H
    have A6 := Aside0.mk A60
    clear A60
    obtain ⟨ji7, hji7⟩ : ∃ j_ : Int, (IntKind.u64.wrap (t122)) = j_ := ⟨_, rfl⟩
    replace H : (if 0 ≤ (ji7) then (if 0 ≤ (IntKind.u64.wrap (64 - (ji7))) then (if ((shl .u64 a2 (ji7)) / 4294967296) = 0 then (none) else (bits_Div64_g.l0 k (shl .u64 a2 (ji7)) ji7 ((shl .u64 a2 (ji7)) / 4294967296) (Go.bits .and .u64 (shl .u64 a2 (ji7)) 4294967295) (Go.bits .or .u64 (shl .u64 a0 (ji7)) (shr .u64 a1 (IntKind.u64.wrap (64 - (ji7))))) ((shl .u64 a1 (ji7)) / 4294967296) (Go.bits .and .u64 (shl .u64 a1 (ji7)) 4294967295) (IntKind.u64.wrap (Int.tdiv (Go.bits .or .u64 (shl .u64 a0 (ji7)) (shr .u64 a1 (IntKind.u64.wrap (64 - (ji7))))) ((shl .u64 a2 (ji7)) / 4294967296))) (IntKind.u64.wrap ((Go.bits .or .u64 (shl .u64 a0 (ji7)) (shr .u64 a1 (IntKind.u64.wrap (64 - (ji7))))) - (IntKind.u64.wrap ((IntKind.u64.wrap (Int.tdiv (Go.bits .or .u64 (shl .u64 a0 (ji7)) (shr .u64 a1 (IntKind.u64.wrap (64 - (ji7))))) ((shl .u64 a2 (ji7)) / 4294967296))) * ((shl .u64 a2 (ji7)) / 4294967296))))))) else (none)) else (none)) = some (r1, r2) := by first | (rw [hji7] at H; exact H) | (simp only [hji7] at H ⊢; exact H)
    (try rw [hji7] at A6)
    by_cases c8 : 0 ≤ (ji7)
    · rw [if_pos c8] at H
      have c8b0 := eq_true c8
      have c8b1 : decide (0 ≤ (ji7)) = true := decide_eq_true c8
      clear c8
      obtain ⟨ji9, hji9⟩ : ∃ j_ : Int, (shl .u64 a2 (ji7)) = j_ := ⟨_, rfl⟩
      replace H : (if 0 ≤ (IntKind.u64.wrap (64 - (ji7))) then (if ((ji9) / 4294967296) = 0 then (none) else (bits_Div64_g.l0 k ji9 ji7 ((ji9) / 4294967296) (Go.bits .and .u64 (ji9) 4294967295) (Go.bits .or .u64 (shl .u64 a0 (ji7)) (shr .u64 a1 (IntKind.u64.wrap (64 - (ji7))))) ((shl .u64 a1 (ji7)) / 4294967296) (Go.bits .and .u64 (shl .u64 a1 (ji7)) 4294967295) (IntKind.u64.wrap (Int.tdiv (Go.bits .or .u64 (shl .u64 a0 (ji7)) (shr .u64 a1 (IntKind.u64.wrap (64 - (ji7))))) ((ji9) / 4294967296))) (IntKind.u64.wrap ((Go.bits .or .u64 (shl .u64 a0 (ji7)) (shr .u64 a1 (IntKind.u64.wrap (64 - (ji7))))) - (IntKind.u64.wrap ((IntKind.u64.wrap (Int.tdiv (Go.bits .or .u64 (shl .u64 a0 (ji7)) (shr .u64 a1 (IntKind.u64.wrap (64 - (ji7))))) ((ji9) / 4294967296))) * ((ji9) / 4294967296))))))) else (none)) = some (r1, r2) := by first | (rw [hji9] at H; exact H) | (simp only [hji9] at H ⊢; exact H)
      (try rw [hji9] at A6)
      have hji9_ : (IntKind.u64.wrap (a2 * 2 ^ min (ji7).toNat 64)) = ji9 := hji9
      have hji9z : (ji7) ≤ 64 → (IntKind.u64.wrap (a2 * 2 ^ (ji7).toNat)) = ji9 := shl_small hji9
      have c10b0 := eq_true (of_decide_eq_true (by first | (with_reducible assumption) | assumption) : 0 ≤ (ji7))
      obtain ⟨ji11, hji11⟩ : ∃ j_ : Int, (shl .u64 a0 (ji7)) = j_ := ⟨_, rfl⟩
      replace H : (if 0 ≤ (IntKind.u64.wrap (64 - (ji7))) then (if ((ji9) / 4294967296) = 0 then (none) else (bits_Div64_g.l0 k ji9 ji7 ((ji9) / 4294967296) (Go.bits .and .u64 (ji9) 4294967295) (Go.bits .or .u64 (ji11) (shr .u64 a1 (IntKind.u64.wrap (64 - (ji7))))) ((shl .u64 a1 (ji7)) / 4294967296) (Go.bits .and .u64 (shl .u64 a1 (ji7)) 4294967295) (IntKind.u64.wrap (Int.tdiv (Go.bits .or .u64 (ji11) (shr .u64 a1 (IntKind.u64.wrap (64 - (ji7))))) ((ji9) / 4294967296))) (IntKind.u64.wrap ((Go.bits .or .u64 (ji11) (shr .u64 a1 (IntKind.u64.wrap (64 - (ji7))))) - (IntKind.u64.wrap ((IntKind.u64.wrap (Int.tdiv (Go.bits .or .u64 (ji11) (shr .u64 a1 (IntKind.u64.wrap (64 - (ji7))))) ((ji9) / 4294967296))) * ((ji9) / 4294967296))))))) else (none)) = some (r1, r2) := by first | (rw [hji11] at H; exact H) | (simp only [hji11] at H ⊢; exact H)
      (try rw [hji11] at A6)
      have hji11_ : (IntKind.u64.wrap (a0 * 2 ^ min (ji7).toNat 64)) = ji11 := hji11
      have hji11z : (ji7) ≤ 64 → (IntKind.u64.wrap (a0 * 2 ^ (ji7).toNat)) = ji11 := shl_small hji11
      obtain ⟨ji12, hji12⟩ : ∃ j_ : Int, (IntKind.u64.wrap (64 - (ji7))) = j_ := ⟨_, rfl⟩
      replace H : (if 0 ≤ (ji12) then (if ((ji9) / 4294967296) = 0 then (none) else (bits_Div64_g.l0 k ji9 ji7 ((ji9) / 4294967296) (Go.bits .and .u64 (ji9) 4294967295) (Go.bits .or .u64 (ji11) (shr .u64 a1 (ji12))) ((shl .u64 a1 (ji7)) / 4294967296) (Go.bits .and .u64 (shl .u64 a1 (ji7)) 4294967295) (IntKind.u64.wrap (Int.tdiv (Go.bits .or .u64 (ji11) (shr .u64 a1 (ji12))) ((ji9) / 4294967296))) (IntKind.u64.wrap ((Go.bits .or .u64 (ji11) (shr .u64 a1 (ji12))) - (IntKind.u64.wrap ((IntKind.u64.wrap (Int.tdiv (Go.bits .or .u64 (ji11) (shr .u64 a1 (ji12))) ((ji9) / 4294967296))) * ((ji9) / 4294967296))))))) else (none)) = some (r1, r2) := by first | (rw [hji12] at H; exact H) | (simp only [hji12] at H ⊢; exact H)
      (try rw [hji12] at A6)
      by_cases c13 : 0 ≤ (ji12)
      · rw [if_pos c13] at H
        have c13b0 := eq_true c13
        have c13b1 : decide (0 ≤ (ji12)) = true := decide_eq_true c13
        clear c13
        obtain ⟨ji14, hji14⟩ : ∃ j_ : Int, (shr .u64 a1 (ji12)) = j_ := ⟨_, rfl⟩
        replace H : (if ((ji9) / 4294967296) = 0 then (none) else (bits_Div64_g.l0 k ji9 ji7 ((ji9) / 4294967296) (Go.bits .and .u64 (ji9) 4294967295) (Go.bits .or .u64 (ji11) (ji14)) ((shl .u64 a1 (ji7)) / 4294967296) (Go.bits .and .u64 (shl .u64 a1 (ji7)) 4294967295) (IntKind.u64.wrap (Int.tdiv (Go.bits .or .u64 (ji11) (ji14)) ((ji9) / 4294967296))) (IntKind.u64.wrap ((Go.bits .or .u64 (ji11) (ji14)) - (IntKind.u64.wrap ((IntKind.u64.wrap (Int.tdiv (Go.bits .or .u64 (ji11) (ji14)) ((ji9) / 4294967296))) * ((ji9) / 4294967296))))))) = some (r1, r2) := by first | (rw [hji14] at H; exact H) | (simp only [hji14] at H ⊢; exact H)
        (try rw [hji14] at A6)
        have hji14_ : (a1 / 2 ^ min (ji12).toNat 64) = ji14 := hji14
        have hji14z : (ji12) ≤ 64 → (a1 / 2 ^ (ji12).toNat) = ji14 := shr_small hji14
        have c15b0 := eq_true (of_decide_eq_true (by first | (with_reducible assumption) | assumption) : 0 ≤ (ji7))
        obtain ⟨ji16, hji16⟩ : ∃ j_ : Int, (shl .u64 a1 (ji7)) = j_ := ⟨_, rfl⟩
        replace H : (if ((ji9) / 4294967296) = 0 then (none) else (bits_Div64_g.l0 k ji9 ji7 ((ji9) / 4294967296) (Go.bits .and .u64 (ji9) 4294967295) (Go.bits .or .u64 (ji11) (ji14)) ((ji16) / 4294967296) (Go.bits .and .u64 (ji16) 4294967295) (IntKind.u64.wrap (Int.tdiv (Go.bits .or .u64 (ji11) (ji14)) ((ji9) / 4294967296))) (IntKind.u64.wrap ((Go.bits .or .u64 (ji11) (ji14)) - (IntKind.u64.wrap ((IntKind.u64.wrap (Int.tdiv (Go.bits .or .u64 (ji11) (ji14)) ((ji9) / 4294967296))) * ((ji9) / 4294967296))))))) = some (r1, r2) := by first | (rw [hji16] at H; exact H) | (simp only [hji16] at H ⊢; exact H)
        (try rw [hji16] at A6)
        have hji16_ : (IntKind.u64.wrap (a1 * 2 ^ min (ji7).toNat 64)) = ji16 := hji16
        have hji16z : (ji7) ≤ 64 → (IntKind.u64.wrap (a1 * 2 ^ (ji7).toNat)) = ji16 := shl_small hji16
        by_cases c17 : ((ji9) / 4294967296) = 0
        · rw [if_pos c17] at H
          exact absurd H (by simp)
        · rw [if_neg c17] at H
          have c17b0 : (((ji9) / 4294967296) == 0) = false := beq_eq_false_iff_ne.mpr c17
          have c17b1 : (((ji9) / 4294967296) != 0) = true := bne_iff_ne.mpr c17
          have HC18 := Aside0.mk H
          clear H
          go_enter Tryd.func112, Tryd.ntmps112
          go_upto_block 0 with (first | (go_at_call 126; (with_reducible refine (bits_LeadingZeros64.calls k a2 t122 _ A6.out).mono ?_); rintro e w' ⟨rfl, ⟨nd, rfl⟩⟩; (try first | exact ⟨rfl, _, World.drewN_drewN _ _ _⟩ | exact ⟨rfl, _, Eq.trans (World.drewN_drewN _ _ _) (congrArg (World.drewN _) (Nat.add_assoc _ _ _))⟩)))
          repeat (go_quiet (first | (go_at_call 126; (with_reducible refine (bits_LeadingZeros64.calls k a2 t122 _ A6.out).mono ?_); rintro e w' ⟨rfl, ⟨nd, rfl⟩⟩; (try first | exact ⟨rfl, _, World.drewN_drewN _ _ _⟩ | exact ⟨rfl, _, Eq.trans (World.drewN_drewN _ _ _) (congrArg (World.drewN _) (Nat.add_assoc _ _ _))⟩))); go_upto_block 0 with (first | (go_at_call 126; (with_reducible refine (bits_LeadingZeros64.calls k a2 t122 _ A6.out).mono ?_); rintro e w' ⟨rfl, ⟨nd, rfl⟩⟩; (try first | exact ⟨rfl, _, World.drewN_drewN _ _ _⟩ | exact ⟨rfl, _, Eq.trans (World.drewN_drewN _ _ _) (congrArg (World.drewN _) (Nat.add_assoc _ _ _))⟩))))
          (try simp only [Act.put, List.setIfInBounds_toArray, List.set_cons_zero, List.set_cons_succ])
          go_cut [15] (fun v15 wc => ∃ (kq : Nat) (x15_17 : Int), v15 = .int .u64 x15_17 ∧ Aside0 (bits_Div64_g.j2 kq ji9 ji7 ((ji9) / 4294967296) (Go.bits .and .u64 (ji9) 4294967295) (Go.bits .or .u64 (ji11) (ji14)) ((ji16) / 4294967296) (Go.bits .and .u64 (ji16) 4294967295) x15_17 = some (r1, r2)) ∧ Aside0 (kq ≤ k) ∧ Drawn0 w wc)
          case first =>
            have H := HC18.out
            clear HC18
            have H' := Aside0.mk H
            clear H
            go_wp2
            repeat (go_quiet (fail); try go_wp2)
            go_loopg [15, 16] k (fun kq v15 v16 w' => ∃ (x15_1 : Int) (x16_1 : Int), v15 = .int .u64 x15_1 ∧ v16 = .int .u64 x16_1 ∧ Aside0 (bits_Div64_g.l0 kq ji9 ji7 ((ji9) / 4294967296) (Go.bits .and .u64 (ji9) 4294967295) (Go.bits .or .u64 (ji11) (ji14)) ((ji16) / 4294967296) (Go.bits .and .u64 (ji16) 4294967295) x15_1 x16_1 = some (r1, r2)) ∧ Aside0 (kq ≤ k) ∧ Drawn0 w w')
            case atStart => exact ⟨(IntKind.u64.wrap (Int.tdiv (Go.bits .or .u64 (ji11) (ji14)) ((ji9) / 4294967296))), (IntKind.u64.wrap ((Go.bits .or .u64 (ji11) (ji14)) - (IntKind.u64.wrap ((IntKind.u64.wrap (Int.tdiv (Go.bits .or .u64 (ji11) (ji14)) ((ji9) / 4294967296))) * ((ji9) / 4294967296))))), (by first | rfl | (simp; done) | (simp only [← hji9, ← hji11, ← hji14] <;> (first | rfl | simp)) | (simp [*]; done)), (by first | rfl | (simp; done) | (simp only [← hji9, ← hji11, ← hji14] <;> (first | rfl | simp)) | (simp [*]; done)), H', ⟨Nat.le_refl _⟩, by repeat (first | exact Drawn0.refl _ | apply Drawn0.step)⟩
            case round =>
              clear H'
              try clear c1
              try clear p2
              try clear c4
              try clear c4b0
              try clear c4b1
              try clear c5
              try clear c5b0
              try clear c5b1
              try clear c8
              try clear c8b0
              try clear c8b1
              try clear c10
              try clear c10b0
              try clear c11
              try clear c13
              try clear c13b0
              try clear c13b1
              try clear c15
              try clear c15b0
              try clear c17
              try clear c17b0
              try clear c17b1
              obtain ⟨x15_1, x16_1, rfl, rfl, HA, HK1, ⟨m1, rfl⟩⟩ := hrel
              cases gk with
              | zero => exact absurd HA.out (by simp [bits_Div64_g.l0])
              | succ k1 =>
                have H := HA.out
                clear HA
                simp only [bits_Div64_g.l0] at H
                have HC19 := Aside0.mk H
                clear H
                go_upto_region 17 with (fail)
                repeat (go_quiet (fail); go_upto_region 17 with (fail))
                go_cut [78] (fun v78 wc => ∃ (kq : Nat) (x78_18 : Bool), v78 = .bool x78_18 ∧ Aside0 (bits_Div64_g.j1 kq ji9 ji7 ((ji9) / 4294967296) (Go.bits .and .u64 (ji9) 4294967295) (Go.bits .or .u64 (ji11) (ji14)) ((ji16) / 4294967296) (Go.bits .and .u64 (ji16) 4294967295) x15_1 x16_1 x78_18 = some (r1, r2)) ∧ Aside0 (kq ≤ k1) ∧ Drawn0 w wc)
                case first =>
                  have H := HC19.out
                  clear HC19
                  by_cases c20 : x15_1 ≥ 4294967296
                  · rw [if_pos c20] at H
                    have c20b0 : decide (4294967296 ≤ x15_1) = true := decide_eq_true c20
                    clear c20
                    (first | rw [c20b0] | (simp only [i64_w, i32_w]; rw [c20b0]) | skip)
                    have H' := Aside0.mk H
                    clear H
                    go_wp2
                    repeat (go_quiet (fail); try go_wp2)
                    go_meet
                    case rel => exact ⟨_, (true), (by first | rfl | (simp; done) | (simp [*]; done)), H', ⟨by have := HK1.out; first | omega | exact Nat.le_refl _⟩, by repeat (first | exact Drawn0.refl _ | apply Drawn0.step)⟩
                  · rw [if_neg c20] at H
                    have c20b0 : decide (4294967296 ≤ x15_1) = false := decide_eq_false c20
                    clear c20
                    (first | rw [c20b0] | (simp only [i64_w, i32_w]; rw [c20b0]) | skip)
                    have H' := Aside0.mk H
                    clear H
                    go_wp2
                    repeat (go_quiet (fail); try go_wp2)
                    go_meet
                    case rel => exact ⟨_, (decide ((IntKind.u64.wrap (x15_1 * (Go.bits .and .u64 (ji9) 4294967295))) > (IntKind.u64.wrap ((IntKind.u64.wrap (4294967296 * x16_1)) + ((ji16) / 4294967296))))), (by first | rfl | (simp; done) | (simp only [← hji9, ← hji16] <;> (first | rfl | simp)) | (simp [*]; done)), H', ⟨by have := HK1.out; first | omega | exact Nat.le_refl _⟩, by repeat (first | exact Drawn0.refl _ | apply Drawn0.step)⟩
                case rest =>
                  clear HC19
                  try clear c1
                  try clear c2
                  try clear p2
                  try clear c4
                  try clear c4b0
                  try clear c4b1
                  try clear c5
                  try clear c5b0
                  try clear c5b1
                  try clear c8
                  try clear c8b0
                  try clear c8b1
                  try clear c10
                  try clear c10b0
                  try clear c11
                  try clear c13
                  try clear c13b0
                  try clear c13b1
                  try clear c15
                  try clear c15b0
                  try clear c17
                  try clear c17b0
                  try clear c17b1
                  try clear c20
                  try clear c20b0
                  try clear p2
                  obtain ⟨kq, x78_18, rfl, HA, HJ18, ⟨mc18, rfl⟩⟩ := hcut
                  cases kq with
                  | zero => exact absurd HA.out (by simp [bits_Div64_g.j1])
                  | succ kj18 =>
                    have H := HA.out
                    clear HA
                    simp only [bits_Div64_g.j1] at H
                    by_cases c21 : x78_18 = true
                    · subst c21
                      have H1 : (if (IntKind.u64.wrap (x16_1 + ((ji9) / 4294967296))) ≥ 4294967296 then (bits_Div64_g.j2 kj18 ji9 ji7 ((ji9) / 4294967296) (Go.bits .and .u64 (ji9) 4294967295) (Go.bits .or .u64 (ji11) (ji14)) ((ji16) / 4294967296) (Go.bits .and .u64 (ji16) 4294967295) (IntKind.u64.wrap (x15_1 - 1))) else (bits_Div64_g.l0 kj18 ji9 ji7 ((ji9) / 4294967296) (Go.bits .and .u64 (ji9) 4294967295) (Go.bits .or .u64 (ji11) (ji14)) ((ji16) / 4294967296) (Go.bits .and .u64 (ji16) 4294967295) (IntKind.u64.wrap (x15_1 - 1)) (IntKind.u64.wrap (x16_1 + ((ji9) / 4294967296))))) = some (r1, r2) := by rw [if_pos rfl] at H; exact H
                      clear H
                      have H := H1
                      clear H1
                      by_cases c22 : (IntKind.u64.wrap (x16_1 + ((ji9) / 4294967296))) ≥ 4294967296
                      · rw [if_pos c22] at H
                        have c22b0 : decide (4294967296 ≤ (IntKind.u64.wrap (x16_1 + ((ji9) / 4294967296)))) = true := decide_eq_true c22
                        clear c22
                        have H' := Aside0.mk H
                        clear H
                        go_wp2
                        repeat (go_quiet (fail); try go_wp2)
                        go_meet
                        case rel => exact ⟨_, (IntKind.u64.wrap (x15_1 - 1)), (by first | rfl | (simp; done) | (simp [*]; done)), H', ⟨by have := HK1.out; have := HJ18.out; first | omega | exact Nat.le_refl _⟩, by repeat (first | exact Drawn0.refl _ | apply Drawn0.step)⟩
                      · rw [if_neg c22] at H
                        have c22b0 : decide (4294967296 ≤ (IntKind.u64.wrap (x16_1 + ((ji9) / 4294967296)))) = false := decide_eq_false c22
                        clear c22
                        have H' := Aside0.mk H
                        clear H
                        go_wp2
                        repeat (go_quiet (fail); try go_wp2)
                        go_roundg kj18
                        case measure => have := HK1.out; have := HJ18.out; omega
                        case rel => exact ⟨(IntKind.u64.wrap (x15_1 - 1)), (IntKind.u64.wrap (x16_1 + ((ji9) / 4294967296))), (by first | rfl | (simp; done) | (simp [*]; done)), (by first | rfl | (simp; done) | (simp only [← hji9] <;> (first | rfl | simp)) | (simp [*]; done)), H', ⟨by have := HK1.out; have := HJ18.out; omega⟩, by repeat (first | exact Drawn0.refl _ | apply Drawn0.step)⟩
                    · replace c21 := Bool.eq_false_iff.mpr c21
                      subst c21
                      have H1 : (bits_Div64_g.j2 kj18 ji9 ji7 ((ji9) / 4294967296) (Go.bits .and .u64 (ji9) 4294967295) (Go.bits .or .u64 (ji11) (ji14)) ((ji16) / 4294967296) (Go.bits .and .u64 (ji16) 4294967295) x15_1) = some (r1, r2) := by rw [if_neg (show ¬ (false = true) by decide)] at H; exact H
                      clear H
                      have H := H1
                      clear H1
                      have H' := Aside0.mk H
                      clear H
                      go_wp2
                      repeat (go_quiet (fail); try go_wp2)
                      go_meet
                      case rel => exact ⟨_, (x15_1), (by first | rfl | (simp; done) | (simp [*]; done)), H', ⟨by have := HK1.out; have := HJ18.out; first | omega | exact Nat.le_refl _⟩, by repeat (first | exact Drawn0.refl _ | apply Drawn0.step)⟩
          case rest =>
            clear HC18
            try clear c1
            try clear c2
            try clear p2
            try clear c4
            try clear c4b0
            try clear c4b1
            try clear c5
            try clear c5b0
            try clear c5b1
            try clear c8
            try clear c8b0
            try clear c8b1
            try clear c10
            try clear c10b0
            try clear c11
            try clear c13
            try clear c13b0
            try clear c13b1
            try clear c15
            try clear c15b0
            try clear c17
            try clear c17b0
            try clear c17b1
            try clear c18
            try clear c20
            try clear c20b0
            try clear c21
            try clear c22
            try clear c22b0
            try clear p2
            obtain ⟨kq, x15_17, rfl, HA, HJ17, ⟨mc17, rfl⟩⟩ := hcut
            cases kq with
            | zero => exact absurd HA.out (by simp [bits_Div64_g.j2])
            | succ kj17 =>
              have H := HA.out
              clear HA
              simp only [bits_Div64_g.j2] at H
              by_cases c23 : ((ji9) / 4294967296) = 0
              · rw [if_pos c23] at H
                exact absurd H (by simp)
              · rw [if_neg c23] at H
                have c23b0 : (((ji9) / 4294967296) == 0) = false := beq_eq_false_iff_ne.mpr c23
                have c23b1 : (((ji9) / 4294967296) != 0) = true := bne_iff_ne.mpr c23
                have H' := Aside0.mk H
                clear H
                go_wp2
                repeat (go_quiet (fail); try go_wp2)
                go_loopg [16, 18] kj17 (fun kq v16 v18 w' => ∃ (x16_2 : Int) (x18_2 : Int), v16 = .int .u64 x16_2 ∧ v18 = .int .u64 x18_2 ∧ Aside0 (bits_Div64_g.l1 kq ji9 ji7 ((ji9) / 4294967296) (Go.bits .and .u64 (ji9) 4294967295) (Go.bits .and .u64 (ji16) 4294967295) x15_17 x16_2 (IntKind.u64.wrap ((IntKind.u64.wrap ((IntKind.u64.wrap ((Go.bits .or .u64 (ji11) (ji14)) * 4294967296)) + ((ji16) / 4294967296))) - (IntKind.u64.wrap (x15_17 * ji9)))) x18_2 = some (r1, r2)) ∧ Aside0 (kq ≤ kj17) ∧ Drawn0 w w')
                case atStart => exact ⟨(IntKind.u64.wrap ((IntKind.u64.wrap ((IntKind.u64.wrap ((IntKind.u64.wrap ((Go.bits .or .u64 (ji11) (ji14)) * 4294967296)) + ((ji16) / 4294967296))) - (IntKind.u64.wrap (x15_17 * ji9)))) - (IntKind.u64.wrap ((IntKind.u64.wrap (Int.tdiv (IntKind.u64.wrap ((IntKind.u64.wrap ((IntKind.u64.wrap ((Go.bits .or .u64 (ji11) (ji14)) * 4294967296)) + ((ji16) / 4294967296))) - (IntKind.u64.wrap (x15_17 * ji9)))) ((ji9) / 4294967296))) * ((ji9) / 4294967296))))), (IntKind.u64.wrap (Int.tdiv (IntKind.u64.wrap ((IntKind.u64.wrap ((IntKind.u64.wrap ((Go.bits .or .u64 (ji11) (ji14)) * 4294967296)) + ((ji16) / 4294967296))) - (IntKind.u64.wrap (x15_17 * ji9)))) ((ji9) / 4294967296))), (by first | rfl | (simp; done) | (simp only [← hji9, ← hji11, ← hji14, ← hji16] <;> (first | rfl | simp)) | (simp [*]; done)), (by first | rfl | (simp; done) | (simp only [← hji9, ← hji11, ← hji14, ← hji16] <;> (first | rfl | simp)) | (simp [*]; done)), H', ⟨Nat.le_refl _⟩, by repeat (first | exact Drawn0.refl _ | apply Drawn0.step)⟩
                case round =>
                  clear H'
                  try clear c1
                  try clear c2
                  try clear p2
                  try clear c4
                  try clear c4b0
                  try clear c4b1
                  try clear c5
                  try clear c5b0
                  try clear c5b1
                  try clear c8
                  try clear c8b0
                  try clear c8b1
                  try clear c10
                  try clear c10b0
                  try clear c11
                  try clear c13
                  try clear c13b0
                  try clear c13b1
                  try clear c15
                  try clear c15b0
                  try clear c17
                  try clear c17b0
                  try clear c17b1
                  try clear c18
                  try clear c20
                  try clear c20b0
                  try clear c21
                  try clear c22
                  try clear c22b0
                  try clear c23
                  try clear c23b0
                  try clear c23b1
                  try clear p2
                  obtain ⟨x16_2, x18_2, rfl, rfl, HA, HK2, ⟨m2, rfl⟩⟩ := hrel
                  cases gk with
                  | zero => exact absurd HA.out (by simp [bits_Div64_g.l1])
                  | succ k2 =>
                    have H := HA.out
                    clear HA
                    simp only [bits_Div64_g.l1] at H
                    have HC24 := Aside0.mk H
                    clear H
                    go_upto_region 24 with (fail)
                    repeat (go_quiet (fail); go_upto_region 24 with (fail))
                    go_cut [113] (fun v113 wc => ∃ (kq : Nat) (x113_23 : Bool), v113 = .bool x113_23 ∧ Aside0 (bits_Div64_g.j4 kq ji9 ji7 ((ji9) / 4294967296) (Go.bits .and .u64 (ji9) 4294967295) (Go.bits .and .u64 (ji16) 4294967295) x15_17 x16_2 (IntKind.u64.wrap ((IntKind.u64.wrap ((IntKind.u64.wrap ((Go.bits .or .u64 (ji11) (ji14)) * 4294967296)) + ((ji16) / 4294967296))) - (IntKind.u64.wrap (x15_17 * ji9)))) x18_2 x113_23 = some (r1, r2)) ∧ Aside0 (kq ≤ k2) ∧ Drawn0 w wc)
                    case first =>
                      have H := HC24.out
                      clear HC24
                      by_cases c25 : x18_2 ≥ 4294967296
                      · rw [if_pos c25] at H
                        have c25b0 : decide (4294967296 ≤ x18_2) = true := decide_eq_true c25
                        clear c25
                        (first | rw [c25b0] | (simp only [i64_w, i32_w]; rw [c25b0]) | skip)
                        have H' := Aside0.mk H
                        clear H
                        go_wp2
                        repeat (go_quiet (fail); try go_wp2)
                        go_meet
                        case rel => exact ⟨_, (true), (by first | rfl | (simp; done) | (simp [*]; done)), H', ⟨by have := HJ17.out; have := HK2.out; first | omega | exact Nat.le_refl _⟩, by repeat (first | exact Drawn0.refl _ | apply Drawn0.step)⟩
                      · rw [if_neg c25] at H
                        have c25b0 : decide (4294967296 ≤ x18_2) = false := decide_eq_false c25
                        clear c25
                        (first | rw [c25b0] | (simp only [i64_w, i32_w]; rw [c25b0]) | skip)
                        have H' := Aside0.mk H
                        clear H
                        go_wp2
                        repeat (go_quiet (fail); try go_wp2)
                        go_meet
                        case rel => exact ⟨_, (decide ((IntKind.u64.wrap (x18_2 * (Go.bits .and .u64 (ji9) 4294967295))) > (IntKind.u64.wrap ((IntKind.u64.wrap (4294967296 * x16_2)) + (Go.bits .and .u64 (ji16) 4294967295))))), (by first | rfl | (simp; done) | (simp only [← hji9, ← hji16] <;> (first | rfl | simp)) | (simp [*]; done)), H', ⟨by have := HJ17.out; have := HK2.out; first | omega | exact Nat.le_refl _⟩, by repeat (first | exact Drawn0.refl _ | apply Drawn0.step)⟩
                    case rest =>
                      clear HC24
                      try clear c1
                      try clear c2
                      try clear p2
                      try clear c4
                      try clear c4b0
                      try clear c4b1
                      try clear c5
                      try clear c5b0
                      try clear c5b1
                      try clear c8
                      try clear c8b0
                      try clear c8b1
                      try clear c10
                      try clear c10b0
                      try clear c11
                      try clear c13
                      try clear c13b0
                      try clear c13b1
                      try clear c15
                      try clear c15b0
                      try clear c17
                      try clear c17b0
                      try clear c17b1
                      try clear c18
                      try clear c20
                      try clear c20b0
                      try clear c21
                      try clear c22
                      try clear c22b0
                      try clear c23
                      try clear c23b0
                      try clear c23b1
                      try clear c25
                      try clear c25b0
                      try clear p2
                      obtain ⟨kq, x113_23, rfl, HA, HJ23, ⟨mc23, rfl⟩⟩ := hcut
                      cases kq with
                      | zero => exact absurd HA.out (by simp [bits_Div64_g.j4])
                      | succ kj23 =>
                        have H := HA.out
                        clear HA
                        simp only [bits_Div64_g.j4] at H
                        by_cases c26 : x113_23 = true
                        · subst c26
                          have H1 : (if (IntKind.u64.wrap (x16_2 + ((ji9) / 4294967296))) ≥ 4294967296 then (if 0 ≤ ji7 then (some (IntKind.u64.wrap ((IntKind.u64.wrap (x15_17 * 4294967296)) + (IntKind.u64.wrap (x18_2 - 1))), shr .u64 (IntKind.u64.wrap ((IntKind.u64.wrap ((IntKind.u64.wrap ((IntKind.u64.wrap ((IntKind.u64.wrap ((IntKind.u64.wrap ((Go.bits .or .u64 (ji11) (ji14)) * 4294967296)) + ((ji16) / 4294967296))) - (IntKind.u64.wrap (x15_17 * ji9)))) * 4294967296)) + (Go.bits .and .u64 (ji16) 4294967295))) - (IntKind.u64.wrap ((IntKind.u64.wrap (x18_2 - 1)) * ji9)))) ji7)) else (none)) else (bits_Div64_g.l1 kj23 ji9 ji7 ((ji9) / 4294967296) (Go.bits .and .u64 (ji9) 4294967295) (Go.bits .and .u64 (ji16) 4294967295) x15_17 (IntKind.u64.wrap (x16_2 + ((ji9) / 4294967296))) (IntKind.u64.wrap ((IntKind.u64.wrap ((IntKind.u64.wrap ((Go.bits .or .u64 (ji11) (ji14)) * 4294967296)) + ((ji16) / 4294967296))) - (IntKind.u64.wrap (x15_17 * ji9)))) (IntKind.u64.wrap (x18_2 - 1)))) = some (r1, r2) := by rw [if_pos rfl] at H; exact H
                          clear H
                          have H := H1
                          clear H1
                          by_cases c27 : (IntKind.u64.wrap (x16_2 + ((ji9) / 4294967296))) ≥ 4294967296
                          · rw [if_pos c27] at H
                            have c27b0 : decide (4294967296 ≤ (IntKind.u64.wrap (x16_2 + ((ji9) / 4294967296)))) = true := decide_eq_true c27
                            clear c27
                            by_cases c28 : 0 ≤ ji7
                            · rw [if_pos c28] at H
                              have c28b0 := eq_true c28
                              have c28b1 : decide (0 ≤ ji7) = true := decide_eq_true c28
                              clear c28
                              obtain ⟨ji29, hji29⟩ : ∃ j_ : Int, (shr .u64 (IntKind.u64.wrap ((IntKind.u64.wrap ((IntKind.u64.wrap ((IntKind.u64.wrap ((IntKind.u64.wrap ((IntKind.u64.wrap ((Go.bits .or .u64 (ji11) (ji14)) * 4294967296)) + ((ji16) / 4294967296))) - (IntKind.u64.wrap (x15_17 * ji9)))) * 4294967296)) + (Go.bits .and .u64 (ji16) 4294967295))) - (IntKind.u64.wrap ((IntKind.u64.wrap (x18_2 - 1)) * ji9)))) ji7) = j_ := ⟨_, rfl⟩
                              replace H : (some (IntKind.u64.wrap ((IntKind.u64.wrap (x15_17 * 4294967296)) + (IntKind.u64.wrap (x18_2 - 1))), ji29)) = some (r1, r2) := by first | (rw [hji29] at H; exact H) | (simp only [hji29] at H ⊢; exact H)
                              have hji29_ : ((IntKind.u64.wrap ((IntKind.u64.wrap ((IntKind.u64.wrap ((IntKind.u64.wrap ((IntKind.u64.wrap ((IntKind.u64.wrap ((Go.bits .or .u64 (ji11) (ji14)) * 4294967296)) + ((ji16) / 4294967296))) - (IntKind.u64.wrap (x15_17 * ji9)))) * 4294967296)) + (Go.bits .and .u64 (ji16) 4294967295))) - (IntKind.u64.wrap ((IntKind.u64.wrap (x18_2 - 1)) * ji9)))) / 2 ^ min ji7.toNat 64) = ji29 := hji29
                              have hji29z : ji7 ≤ 64 → ((IntKind.u64.wrap ((IntKind.u64.wrap ((IntKind.u64.wrap ((IntKind.u64.wrap ((IntKind.u64.wrap ((IntKind.u64.wrap ((Go.bits .or .u64 (ji11) (ji14)) * 4294967296)) + ((ji16) / 4294967296))) - (IntKind.u64.wrap (x15_17 * ji9)))) * 4294967296)) + (Go.bits .and .u64 (ji16) 4294967295))) - (IntKind.u64.wrap ((IntKind.u64.wrap (x18_2 - 1)) * ji9)))) / 2 ^ ji7.toNat) = ji29 := shr_small hji29
                              simp only [Option.some.injEq, Prod.mk.injEq] at H
                              obtain ⟨rfl, rfl⟩ := H
                              go_wp2
                              repeat (go_quiet (fail); try go_wp2)
                              go_ret2
                              exact ⟨by first | rfl | (simp; done) | (simp only [← hji7, ← hji9, ← hji11, ← hji12, ← hji14, ← hji16, ← hji29] <;> (first | rfl | simp)) | (simp [*]; done), by repeat (first | exact Drawn0.refl _ | apply Drawn0.step)⟩
                            · rw [if_neg c28] at H
                              exact absurd H (by simp)
                          · rw [if_neg c27] at H
                            have c27b0 : decide (4294967296 ≤ (IntKind.u64.wrap (x16_2 + ((ji9) / 4294967296)))) = false := decide_eq_false c27
                            clear c27
                            have H' := Aside0.mk H
                            clear H
                            go_wp2
                            repeat (go_quiet (fail); try go_wp2)
                            go_roundg kj23
                            case measure => have := HJ17.out; have := HK2.out; have := HJ23.out; omega
                            case rel => exact ⟨(IntKind.u64.wrap (x16_2 + ((ji9) / 4294967296))), (IntKind.u64.wrap (x18_2 - 1)), (by first | rfl | (simp; done) | (simp only [← hji9] <;> (first | rfl | simp)) | (simp [*]; done)), (by first | rfl | (simp; done) | (simp [*]; done)), H', ⟨by have := HJ17.out; have := HK2.out; have := HJ23.out; omega⟩, by repeat (first | exact Drawn0.refl _ | apply Drawn0.step)⟩
                        · replace c26 := Bool.eq_false_iff.mpr c26
                          subst c26
                          have H1 : (if 0 ≤ ji7 then (some (IntKind.u64.wrap ((IntKind.u64.wrap (x15_17 * 4294967296)) + x18_2), shr .u64 (IntKind.u64.wrap ((IntKind.u64.wrap ((IntKind.u64.wrap ((IntKind.u64.wrap ((IntKind.u64.wrap ((IntKind.u64.wrap ((Go.bits .or .u64 (ji11) (ji14)) * 4294967296)) + ((ji16) / 4294967296))) - (IntKind.u64.wrap (x15_17 * ji9)))) * 4294967296)) + (Go.bits .and .u64 (ji16) 4294967295))) - (IntKind.u64.wrap (x18_2 * ji9)))) ji7)) else (none)) = some (r1, r2) := by rw [if_neg (show ¬ (false = true) by decide)] at H; exact H
                          clear H
                          have H := H1
                          clear H1
                          by_cases c30 : 0 ≤ ji7
                          · rw [if_pos c30] at H
                            have c30b0 := eq_true c30
                            have c30b1 : decide (0 ≤ ji7) = true := decide_eq_true c30
                            clear c30
                            obtain ⟨ji31, hji31⟩ : ∃ j_ : Int, (shr .u64 (IntKind.u64.wrap ((IntKind.u64.wrap ((IntKind.u64.wrap ((IntKind.u64.wrap ((IntKind.u64.wrap ((IntKind.u64.wrap ((Go.bits .or .u64 (ji11) (ji14)) * 4294967296)) + ((ji16) / 4294967296))) - (IntKind.u64.wrap (x15_17 * ji9)))) * 4294967296)) + (Go.bits .and .u64 (ji16) 4294967295))) - (IntKind.u64.wrap (x18_2 * ji9)))) ji7) = j_ := ⟨_, rfl⟩
                            replace H : (some (IntKind.u64.wrap ((IntKind.u64.wrap (x15_17 * 4294967296)) + x18_2), ji31)) = some (r1, r2) := by first | (rw [hji31] at H; exact H) | (simp only [hji31] at H ⊢; exact H)
                            have hji31_ : ((IntKind.u64.wrap ((IntKind.u64.wrap ((IntKind.u64.wrap ((IntKind.u64.wrap ((IntKind.u64.wrap ((IntKind.u64.wrap ((Go.bits .or .u64 (ji11) (ji14)) * 4294967296)) + ((ji16) / 4294967296))) - (IntKind.u64.wrap (x15_17 * ji9)))) * 4294967296)) + (Go.bits .and .u64 (ji16) 4294967295))) - (IntKind.u64.wrap (x18_2 * ji9)))) / 2 ^ min ji7.toNat 64) = ji31 := hji31
                            have hji31z : ji7 ≤ 64 → ((IntKind.u64.wrap ((IntKind.u64.wrap ((IntKind.u64.wrap ((IntKind.u64.wrap ((IntKind.u64.wrap ((IntKind.u64.wrap ((Go.bits .or .u64 (ji11) (ji14)) * 4294967296)) + ((ji16) / 4294967296))) - (IntKind.u64.wrap (x15_17 * ji9)))) * 4294967296)) + (Go.bits .and .u64 (ji16) 4294967295))) - (IntKind.u64.wrap (x18_2 * ji9)))) / 2 ^ ji7.toNat) = ji31 := shr_small hji31
                            simp only [Option.some.injEq, Prod.mk.injEq] at H
                            obtain ⟨rfl, rfl⟩ := H
                            go_wp2
                            repeat (go_quiet (fail); try go_wp2)
                            go_ret2
                            exact ⟨by first | rfl | (simp; done) | (simp only [← hji7, ← hji9, ← hji11, ← hji12, ← hji14, ← hji16, ← hji31] <;> (first | rfl | simp)) | (simp [*]; done), by repeat (first | exact Drawn0.refl _ | apply Drawn0.step)⟩
                          · rw [if_neg c30] at H
                            exact absurd H (by simp)
      · rw [if_neg c13] at H
        exact absurd H (by simp)
    · rw [if_neg c8] at H
      exact absurd H (by simp)
/-- Div64 as it is: where it does not panic. -/
def bits_Div64.f (k : Nat) (a0 a1 a2 : Int) : Option (Int × Int) := if a2 = 0 then none else if a2 ≤ a0 then none else bits_Div64_g.f k a0 a1 a2
theorem bits_Div64.mono : ∀ a0 a1 a2 k, LeO (bits_Div64.f k a0 a1 a2) (bits_Div64.f (k + 1) a0 a1 a2) := by
  intro a0 a1 a2 k
  unfold bits_Div64.f
  exact LeO.ite (LeO.refl _) (LeO.ite (LeO.refl _) (bits_Div64_g.mono _ _ _ _))
theorem bits_Div64.calls (k : Nat) (a0 a1 a2 r1 r2 : Int) (w : World) (h : bits_Div64.f k a0 a1 a2 = some (r1, r2)) :
    Calls Tryd.prog 112 #[.int .u64 a0, .int .u64 a1, .int .u64 a2] w fun e w' => e = .returned (.tuple #[.int .u64 r1, .int .u64 r2]) ∧ Drawn0 w w' := by
  unfold bits_Div64.f at h
  by_cases h0 : a2 = 0
  · rw [if_pos h0] at h; cases h
  · rw [if_neg h0] at h
    by_cases h1 : a2 ≤ a0
    · rw [if_pos h1] at h; cases h
    · rw [if_neg h1] at h
      exact bits_Div64_g.calls k a0 a1 a2 r1 r2 w (beq_eq_false_iff_ne.mpr h0) (decide_eq_false h1) h
end Go.Proofs.YtdjnneflpkllmaaDoor.Q

namespace Go.Proofs.YtdjnneflpkllmaaDoor.Q
open Go.RowKit Go.Proofs.YtdjnneflpkllmaaDoorW.PrintWords Go.Proofs.YtdjnneflpkllmaaDoorW.PrintLast Go.Proofs.YtdjnneflpkllmaaDoorW.PrintMore
attribute [local go_sem] max2_int min2_int max_two min_two max_three min_three max_four min_four   -- for this text's walks alone
set_option linter.unusedVariables false
set_option linter.unusedSimpArgs false
def bits_Mul64.f (a0 : Int) (a1 : Int) : Option (Int × Int) := some (IntKind.u64.wrap ((IntKind.u64.wrap ((IntKind.u64.wrap ((a0 / 4294967296) * (a1 / 4294967296))) + ((IntKind.u64.wrap ((IntKind.u64.wrap ((a0 / 4294967296) * (Go.bits .and .u64 a1 4294967295))) + ((IntKind.u64.wrap ((Go.bits .and .u64 a0 4294967295) * (Go.bits .and .u64 a1 4294967295))) / 4294967296))) / 4294967296))) + ((IntKind.u64.wrap ((Go.bits .and .u64 (IntKind.u64.wrap ((IntKind.u64.wrap ((a0 / 4294967296) * (Go.bits .and .u64 a1 4294967295))) + ((IntKind.u64.wrap ((Go.bits .and .u64 a0 4294967295) * (Go.bits .and .u64 a1 4294967295))) / 4294967296))) 4294967295) + (IntKind.u64.wrap ((Go.bits .and .u64 a0 4294967295) * (a1 / 4294967296))))) / 4294967296)), IntKind.u64.wrap (a0 * a1))
end Go.Proofs.YtdjnneflpkllmaaDoor.Q

namespace Go.Proofs.Num
open Go.RowKit Go.Proofs.YtdjnneflpkllmaaDoorW.PrintWords Go.Proofs.YtdjnneflpkllmaaDoorW.PrintMore Go.Proofs.YtdjnneflpkllmaaDoor.Q
set_option linter.unusedVariables false
set_option linter.unusedSimpArgs false
theorem div_of {N y q : Int} (hy : 0 < y) (h1 : q * y ≤ N) (h2 : N < (q + 1) * y) : q = N / y ∧ N - q * y = N % y := by
  have e := Int.mul_ediv_add_emod N y
  have r0 := Int.emod_nonneg N (show y ≠ 0 by omega)
  have r1 := Int.emod_lt_of_pos N hy
  have a : q < N / y + 1 := by
    refine Int.lt_of_mul_lt_mul_right (a := y) ?_ (by omega)
    have : (N / y + 1) * y = y * (N / y) + y := by grind
    omega
  have b : N / y < q + 1 := by
    refine Int.lt_of_mul_lt_mul_right (a := y) ?_ (by omega)
    have : N / y * y = y * (N / y) := Int.mul_comm _ _
    omega
  have c : q = N / y := by omega
  subst c
  have : N / y * y = y * (N / y) := Int.mul_comm _ _
  exact ⟨rfl, by omega⟩
end Go.Proofs.Num

namespace Go.Proofs.Num
open Go.RowKit Go.Proofs.YtdjnneflpkllmaaDoorW.PrintWords Go.Proofs.YtdjnneflpkllmaaDoorW.PrintMore Go.Proofs.YtdjnneflpkllmaaDoor.Q
set_option linter.unusedVariables false
set_option linter.unusedSimpArgs false
/-- How long a number is. -/
def IsLen (x : Int) (r : Nat) : Prop := x < 2 ^ r ∧ (0 < x → 1 ≤ r ∧ 2 ^ (r - 1) ≤ x)
instance (x : Int) (r : Nat) : Decidable (IsLen x r) := inferInstanceAs (Decidable (_ ∧ _))
end Go.Proofs.Num

namespace Go.Proofs.YtdjnneflpkllmaaDoor.Q
open Go.RowKit Go.Proofs.YtdjnneflpkllmaaDoorW.PrintWords Go.Proofs.YtdjnneflpkllmaaDoorW.PrintLast Go.Proofs.YtdjnneflpkllmaaDoorW.PrintMore
attribute [local go_sem] max2_int min2_int max_two min_two max_three min_three max_four min_four   -- for this text's walks alone
set_option linter.unusedVariables false
set_option linter.unusedSimpArgs false
def num_size.f (a0 : Int) : Option (Int) := if a0 < 0 then (some (IntKind.u64.wrap (-(IntKind.u64.wrap (a0))))) else (some (IntKind.u64.wrap (a0)))
set_option maxHeartbeats 8000000 in
set_option maxRecDepth 100000 in
theorem num_size.calls (a0 : Int) (r : Int) (w : World) (h : num_size.f a0 = some r) :
    Calls Tryd.prog 78 #[.int .i64 a0] w fun e w' => e = .returned (.int .u64 r) ∧ Drawn0 w w' := by
  have H : (if a0 < 0 then (some (IntKind.u64.wrap (-(IntKind.u64.wrap (a0))))) else (some (IntKind.u64.wrap (a0)))) = some r := h
  clear h
  by_cases c2 : a0 < 0
  · rw [if_pos c2] at H
    have c2b0 : decide (a0 < 0) = true := decide_eq_true c2
    clear c2
    obtain rfl := Option.some.inj H
    go_enter Tryd.func78, Tryd.ntmps78
    go_wp2
    go_ret
    exact ⟨by first | rfl | (simp; done) | (simp [*]; done), by repeat (first | exact Drawn0.refl _ | apply Drawn0.step)⟩
  · rw [if_neg c2] at H
    have c2b0 : decide (a0 < 0) = false := decide_eq_false c2
    clear c2
    obtain rfl := Option.some.inj H
    go_enter Tryd.func78, Tryd.ntmps78
    go_wp2
    go_ret
    exact ⟨by first | rfl | (simp; done) | (simp [*]; done), by repeat (first | exact Drawn0.refl _ | apply Drawn0.step)⟩
end Go.Proofs.YtdjnneflpkllmaaDoor.Q
