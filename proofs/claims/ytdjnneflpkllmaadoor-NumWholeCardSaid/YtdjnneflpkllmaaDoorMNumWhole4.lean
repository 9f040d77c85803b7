/- Part 4 of the proof of NumWhole. -/
import Derived.Test.YtdjnneflpkllmaaDoorMNumWhole3

namespace Go.Proofs.YtdjnneflpkllmaaDoor.Q
open Go.RowKit Go.Proofs.YtdjnneflpkllmaaDoorW.PrintWords Go.Proofs.YtdjnneflpkllmaaDoorW.PrintLast Go.Proofs.YtdjnneflpkllmaaDoorW.PrintMore
attribute [local go_sem] max2_int min2_int max_two min_two max_three min_three max_four min_four
set_option linter.unusedVariables false
set_option linter.unusedSimpArgs false
def merinoref01_subD.l0 : Nat → List Int → List Int → List Int → Int → Int → Option (List Int)
 | 0, _, _, _, _, _ => none
 | k + 1, x0, x1, x5, x6, x7 => if x7 < (x0.length : Int) then (if 0 ≤ x7 then (if x7 < (x1.length : Int) then (if (wrap64 ((wrap64 ((rd x0 x7) - x6)) - (rd x1 x7))) < 0 then (if x5.length < 17592186044416 then (merinoref01_subD.l0 k x0 x1 (x5 ++ [wrap64 ((wrap64 ((wrap64 ((rd x0 x7) - x6)) - (rd x1 x7))) + 10000)]) 1 (wrap64 (x7 + 1))) else (none)) else (if x5.length < 17592186044416 then (merinoref01_subD.l0 k x0 x1 (x5 ++ [wrap64 ((wrap64 ((rd x0 x7) - x6)) - (rd x1 x7))]) 0 (wrap64 (x7 + 1))) else (none))) else (if (wrap64 ((rd x0 x7) - x6)) < 0 then (if x5.length < 17592186044416 then (merinoref01_subD.l0 k x0 x1 (x5 ++ [wrap64 ((wrap64 ((rd x0 x7) - x6)) + 10000)]) 1 (wrap64 (x7 + 1))) else (none)) else (if x5.length < 17592186044416 then (merinoref01_subD.l0 k x0 x1 (x5 ++ [wrap64 ((rd x0 x7) - x6)]) 0 (wrap64 (x7 + 1))) else (none)))) else (none)) else ((merinoref01_trim.f k x5).bind fun t238 => (some t238))
def merinoref01_subD.f (k : Nat) (l0 : List Int) (l1 : List Int) : Option (List Int) := merinoref01_subD.l0 k l0 l1 ([] : List Int) 0 0
set_option maxHeartbeats 8000000 in
set_option maxRecDepth 100000 in
theorem merinoref01_subD.calls (k : Nat) (A0 : Option Addr) (c0 : Nat) (l0 : List Int) (A1 : Option Addr) (c1 : Nat) (l1 : List Int) (r : List Int) (w : World) (hr0 : Kd.C (Kd.int .i64) w A0 l0.length l0) (hc0 : l0.length ≤ c0) (hr1 : Kd.C (Kd.int .i64) w A1 l1.length l1) (hc1 : l1.length ≤ c1) (h : merinoref01_subD.f k l0 l1 = some r) :
  Calls Tryd.prog 107 #[.slice A0 l0.length c0, .slice A1 l1.length c1] w fun e w' => ∃ v0_ : Value, e = .returned (v0_) ∧ Kd.R (Kd.int .i64) 3 w' w.heap.size (fun _ => True) v0_ r ∧ Below w.heap.size w w' := by
 have HR0 := Aside0.mk hr0
 have HC0 := Aside0.mk hc0
 clear hr0 hc0
 have HR1 := Aside0.mk hr1
 have HC1 := Aside0.mk hc1
 clear hr1 hc1
 have HB := Aside0.mk (Below.refl w.heap.size w)
 have H : (merinoref01_subD.l0 k l0 l1 ([] : List Int) 0 0) = some r := h
 clear h
 have H' := Aside0.mk H
 clear H
 go_enter Tryd.func107, Tryd.ntmps107
 go_wp2
 go_loopg [5, 6, 7] k (fun kq v5 v6 v7 w' => ∃ (x5_1 : List Int) (x6_1 : Int) (x7_1 : Int), v6 = .int .i64 x6_1 ∧ v7 = .int .i64 x7_1 ∧ Aside0 (merinoref01_subD.l0 kq l0 l1 x5_1 x6_1 x7_1 = some r) ∧ Aside0 (kq ≤ k) ∧ Aside0 (Kd.R (Kd.int .i64) 3 w' w.heap.size (fun _ => True) v5 x5_1) ∧ Aside0 (Below w.heap.size w w'))
 case atStart => exact ⟨(([] : List Int)), (0), (0), (by first | rfl | (simp; done) | (simp [*]; done)), (by first | rfl | (simp; done) | (simp [*]; done)), H', ⟨Nat.le_refl _⟩, ⟨by first | exact Kd.R_nil _ _ _ _ _ | exact Kd.N_nil _ _ _ _ _ | exact Kd.V_nil _ _ _ _ _ | exact Kd.Q_nil _ _ _ _ _ | exact Kd.S_nil _ _ _ _ _⟩, ⟨(q0_ HB.out)⟩⟩
 case round =>
  clear H'
  try clear c1
  try clear p2
  obtain ⟨x5_1, x6_1, x7_1, rfl, rfl, HA, HK1, HO_5, HB⟩ := hrel
  cases gk with
  | zero => exact absurd HA.out (by simp [merinoref01_subD.l0])
  | succ k1 =>
   have H := HA.out
   clear HA
   simp only [merinoref01_subD.l0] at H
   by_cases c3 : x7_1 < (l0.length : Int)
   ·rw [if_pos c3] at H
    have c3b0 : decide (x7_1 < (l0.length : Int)) = true := decide_eq_true c3
    clear c3
    by_cases c4 : 0 ≤ x7_1
    ·rw [if_pos c4] at H
     have c4b0 : decide (0 ≤ x7_1) = true := decide_eq_true c4
     clear c4
     by_cases c5 : x7_1 < (l1.length : Int)
     ·rw [if_pos c5] at H
      have c5b0 : decide (x7_1 < (l1.length : Int)) = true := decide_eq_true c5
      clear c5
      by_cases c6 : (wrap64 ((wrap64 ((rd l0 x7_1) - x6_1)) - (rd l1 x7_1))) < 0
      ·rw [if_pos c6] at H
       have c6b0 : decide ((wrap64 ((wrap64 ((rd l0 x7_1) - x6_1)) - (rd l1 x7_1))) < 0) = true := decide_eq_true c6
       clear c6
       by_cases c7 : x5_1.length < 17592186044416
       ·rw [if_pos c7] at H
        have LMc7 := Aside0.mk c7
        clear c7
        obtain ⟨y243, hy243⟩ : ∃ y_ : List Int, y_ = (x5_1 ++ [wrap64 ((wrap64 ((wrap64 ((rd l0 x7_1) - x6_1)) - (rd l1 x7_1))) + 10000)]) := ⟨_, rfl⟩
        replace H : (merinoref01_subD.l0 k1 l0 l1 y243 1 (wrap64 (x7_1 + 1))) = some r := by first | (rw [hy243]; with_reducible exact H) | (have H2_ := (Option.bind_some _ _).symm.trans H; rw [hy243]; with_reducible exact H2_) | (have H2_ := (Option.bind_some _ _).symm.trans H; with_reducible exact H2_) | with_reducible exact H | (rw [hy243]; exact H) | exact H
        have Ny243 := Aside0.mk hy243
        clear hy243
        have H' := Aside0.mk H
        clear H
        have p241 : 0 ≤ (x7_1 : Int) := od_
        have q241 : x7_1 < (l0.length : Int) := od_
        obtain ⟨ad241, e241, hx241_0⟩ := Kd.at_int HR0.out x7_1 p241 q241
        cases e241
        replace hx241_0 := (HB.out.cell (World.block_lt_of_cell? w _ hx241_0)).trans hx241_0
        replace p241 := eq_true p241
        replace q241 := eq_true q241
        have p242 : 0 ≤ (x7_1 : Int) := od_
        have q242 : x7_1 < (l1.length : Int) := od_
        obtain ⟨ad242, e242, hx242_0⟩ := Kd.at_int HR1.out x7_1 p242 q242
        cases e242
        replace hx242_0 := (HB.out.cell (World.block_lt_of_cell? w _ hx242_0)).trans hx242_0
        replace p242 := eq_true p242
        replace q242 := eq_true q242
        go_wp2_with (first | ((with_reducible refine gate_builtin (b := .append) (xs := #[.tmp 35, .tmp 37]) rfl ?_); at_builtin; refine Kd.R_append (Kd.int .i64) (w0 := w) w.heap.size rfl (.tmp 35) (.tmp 37) 29 3 (.int .i64 0) 8 rfl Tryd.underlying29 info3 rfl (by decide) (by omega) u5 x5_1 (wrap64 ((wrap64 ((wrap64 ((rd l0 x7_1) - x6_1)) - (rd l1 x7_1))) + 10000)) [.int .i64 (wrap64 ((wrap64 ((wrap64 ((rd l0 x7_1) - x6_1)) - (rd l1 x7_1))) + 10000))] (fun _ => True) (fun _ => False) rfl rfl ?aP (fun _ hk => hk.elim) ?aF ?aO ?aB ?aS ?aL ?_; (case aP => exact rfl); (case aB => exact (q0_ HB.out)); (case aF => exact (fun _ _ => trivial)); (case aO => exact (qr_ HO_5.out)); (case aS => exact (below_size (q0_ HB.out))); (case aL => have := LMc7.out; omega); intro v244 w8 ho hb hg hat; rw [← Ny243.out] at ho; have n0_ := Aside0.mk (hb); have n1_ := Aside0.mk (ho); clear HB; clear HO_5; have HB := n0_; have HO245 := n1_; clear n0_ n1_; clear ho hb hg hat))
        go_roundg k1
        case measure => have := HK1.out; omega
        case rel => exact ⟨(y243), (1), (wrap64 (x7_1 + 1)), (by first | rfl | (simp; done) | (simp [*]; done)), (by first | rfl | (simp; done) | (simp [*]; done)), H', ⟨by have := HK1.out; omega⟩, ⟨by refine qr_ ?_; exact HO245.out⟩, ⟨(q0_ HB.out)⟩⟩
       ·rw [if_neg c7] at H
        exact absurd H (by simp)
      ·rw [if_neg c6] at H
       have c6b0 : decide ((wrap64 ((wrap64 ((rd l0 x7_1) - x6_1)) - (rd l1 x7_1))) < 0) = false := decide_eq_false c6
       clear c6
       by_cases c9 : x5_1.length < 17592186044416
       ·rw [if_pos c9] at H
        have LMc9 := Aside0.mk c9
        clear c9
        obtain ⟨y246, hy246⟩ : ∃ y_ : List Int, y_ = (x5_1 ++ [wrap64 ((wrap64 ((rd l0 x7_1) - x6_1)) - (rd l1 x7_1))]) := ⟨_, rfl⟩
        replace H : (merinoref01_subD.l0 k1 l0 l1 y246 0 (wrap64 (x7_1 + 1))) = some r := by first | (rw [hy246]; with_reducible exact H) | (have H2_ := (Option.bind_some _ _).symm.trans H; rw [hy246]; with_reducible exact H2_) | (have H2_ := (Option.bind_some _ _).symm.trans H; with_reducible exact H2_) | with_reducible exact H | (rw [hy246]; exact H) | exact H
        have Ny246 := Aside0.mk hy246
        clear hy246
        have H' := Aside0.mk H
        clear H
        have p241 : 0 ≤ (x7_1 : Int) := od_
        have q241 : x7_1 < (l0.length : Int) := od_
        obtain ⟨ad241, e241, hx241_0⟩ := Kd.at_int HR0.out x7_1 p241 q241
        cases e241
        replace hx241_0 := (HB.out.cell (World.block_lt_of_cell? w _ hx241_0)).trans hx241_0
        replace p241 := eq_true p241
        replace q241 := eq_true q241
        have p242 : 0 ≤ (x7_1 : Int) := od_
        have q242 : x7_1 < (l1.length : Int) := od_
        obtain ⟨ad242, e242, hx242_0⟩ := Kd.at_int HR1.out x7_1 p242 q242
        cases e242
        replace hx242_0 := (HB.out.cell (World.block_lt_of_cell? w _ hx242_0)).trans hx242_0
        replace p242 := eq_true p242
        replace q242 := eq_true q242
        go_wp2_with (first | ((with_reducible refine gate_builtin (b := .append) (xs := #[.tmp 35, .tmp 37]) rfl ?_); at_builtin; refine Kd.R_append (Kd.int .i64) (w0 := w) w.heap.size rfl (.tmp 35) (.tmp 37) 29 3 (.int .i64 0) 8 rfl Tryd.underlying29 info3 rfl (by decide) (by omega) u5 x5_1 (wrap64 ((wrap64 ((rd l0 x7_1) - x6_1)) - (rd l1 x7_1))) [.int .i64 (wrap64 ((wrap64 ((rd l0 x7_1) - x6_1)) - (rd l1 x7_1)))] (fun _ => True) (fun _ => False) rfl rfl ?aP (fun _ hk => hk.elim) ?aF ?aO ?aB ?aS ?aL ?_; (case aP => exact rfl); (case aB => exact (q0_ HB.out)); (case aF => exact (fun _ _ => trivial)); (case aO => exact (qr_ HO_5.out)); (case aS => exact (below_size (q0_ HB.out))); (case aL => have := LMc9.out; omega); intro v247 w10 ho hb hg hat; rw [← Ny246.out] at ho; have n0_ := Aside0.mk (hb); have n1_ := Aside0.mk (ho); clear HB; clear HO_5; have HB := n0_; have HO248 := n1_; clear n0_ n1_; clear ho hb hg hat))
        go_roundg k1
        case measure => have := HK1.out; omega
        case rel => exact ⟨(y246), (0), (wrap64 (x7_1 + 1)), (by first | rfl | (simp; done) | (simp [*]; done)), (by first | rfl | (simp; done) | (simp [*]; done)), H', ⟨by have := HK1.out; omega⟩, ⟨by refine qr_ ?_; exact HO248.out⟩, ⟨(q0_ HB.out)⟩⟩
       ·rw [if_neg c9] at H
        exact absurd H (by simp)
     ·rw [if_neg c5] at H
      have c5b0 : decide (x7_1 < (l1.length : Int)) = false := decide_eq_false c5
      clear c5
      by_cases c11 : (wrap64 ((rd l0 x7_1) - x6_1)) < 0
      ·rw [if_pos c11] at H
       have c11b0 : decide ((wrap64 ((rd l0 x7_1) - x6_1)) < 0) = true := decide_eq_true c11
       clear c11
       by_cases c12 : x5_1.length < 17592186044416
       ·rw [if_pos c12] at H
        have LMc12 := Aside0.mk c12
        clear c12
        obtain ⟨y249, hy249⟩ : ∃ y_ : List Int, y_ = (x5_1 ++ [wrap64 ((wrap64 ((rd l0 x7_1) - x6_1)) + 10000)]) := ⟨_, rfl⟩
        replace H : (merinoref01_subD.l0 k1 l0 l1 y249 1 (wrap64 (x7_1 + 1))) = some r := by first | (rw [hy249]; with_reducible exact H) | (have H2_ := (Option.bind_some _ _).symm.trans H; rw [hy249]; with_reducible exact H2_) | (have H2_ := (Option.bind_some _ _).symm.trans H; with_reducible exact H2_) | with_reducible exact H | (rw [hy249]; exact H) | exact H
        have Ny249 := Aside0.mk hy249
        clear hy249
        have H' := Aside0.mk H
        clear H
        have p241 : 0 ≤ (x7_1 : Int) := od_
        have q241 : x7_1 < (l0.length : Int) := od_
        obtain ⟨ad241, e241, hx241_0⟩ := Kd.at_int HR0.out x7_1 p241 q241
        cases e241
        replace hx241_0 := (HB.out.cell (World.block_lt_of_cell? w _ hx241_0)).trans hx241_0
        replace p241 := eq_true p241
        replace q241 := eq_true q241
        go_wp2_with (first | ((with_reducible refine gate_builtin (b := .append) (xs := #[.tmp 35, .tmp 37]) rfl ?_); at_builtin; refine Kd.R_append (Kd.int .i64) (w0 := w) w.heap.size rfl (.tmp 35) (.tmp 37) 29 3 (.int .i64 0) 8 rfl Tryd.underlying29 info3 rfl (by decide) (by omega) u5 x5_1 (wrap64 ((wrap64 ((rd l0 x7_1) - x6_1)) + 10000)) [.int .i64 (wrap64 ((wrap64 ((rd l0 x7_1) - x6_1)) + 10000))] (fun _ => True) (fun _ => False) rfl rfl ?aP (fun _ hk => hk.elim) ?aF ?aO ?aB ?aS ?aL ?_; (case aP => exact rfl); (case aB => exact (q0_ HB.out)); (case aF => exact (fun _ _ => trivial)); (case aO => exact (qr_ HO_5.out)); (case aS => exact (below_size (q0_ HB.out))); (case aL => have := LMc12.out; omega); intro v250 w13 ho hb hg hat; rw [← Ny249.out] at ho; have n0_ := Aside0.mk (hb); have n1_ := Aside0.mk (ho); clear HB; clear HO_5; have HB := n0_; have HO251 := n1_; clear n0_ n1_; clear ho hb hg hat))
        go_roundg k1
        case measure => have := HK1.out; omega
        case rel => exact ⟨(y249), (1), (wrap64 (x7_1 + 1)), (by first | rfl | (simp; done) | (simp [*]; done)), (by first | rfl | (simp; done) | (simp [*]; done)), H', ⟨by have := HK1.out; omega⟩, ⟨by refine qr_ ?_; exact HO251.out⟩, ⟨(q0_ HB.out)⟩⟩
       ·rw [if_neg c12] at H
        exact absurd H (by simp)
      ·rw [if_neg c11] at H
       have c11b0 : decide ((wrap64 ((rd l0 x7_1) - x6_1)) < 0) = false := decide_eq_false c11
       clear c11
       by_cases c14 : x5_1.length < 17592186044416
       ·rw [if_pos c14] at H
        have LMc14 := Aside0.mk c14
        clear c14
        obtain ⟨y252, hy252⟩ : ∃ y_ : List Int, y_ = (x5_1 ++ [wrap64 ((rd l0 x7_1) - x6_1)]) := ⟨_, rfl⟩
        replace H : (merinoref01_subD.l0 k1 l0 l1 y252 0 (wrap64 (x7_1 + 1))) = some r := by first | (rw [hy252]; with_reducible exact H) | (have H2_ := (Option.bind_some _ _).symm.trans H; rw [hy252]; with_reducible exact H2_) | (have H2_ := (Option.bind_some _ _).symm.trans H; with_reducible exact H2_) | with_reducible exact H | (rw [hy252]; exact H) | exact H
        have Ny252 := Aside0.mk hy252
        clear hy252
        have H' := Aside0.mk H
        clear H
        have p241 : 0 ≤ (x7_1 : Int) := od_
        have q241 : x7_1 < (l0.length : Int) := od_
        obtain ⟨ad241, e241, hx241_0⟩ := Kd.at_int HR0.out x7_1 p241 q241
        cases e241
        replace hx241_0 := (HB.out.cell (World.block_lt_of_cell? w _ hx241_0)).trans hx241_0
        replace p241 := eq_true p241
        replace q241 := eq_true q241
        go_wp2_with (first | ((with_reducible refine gate_builtin (b := .append) (xs := #[.tmp 35, .tmp 37]) rfl ?_); at_builtin; refine Kd.R_append (Kd.int .i64) (w0 := w) w.heap.size rfl (.tmp 35) (.tmp 37) 29 3 (.int .i64 0) 8 rfl Tryd.underlying29 info3 rfl (by decide) (by omega) u5 x5_1 (wrap64 ((rd l0 x7_1) - x6_1)) [.int .i64 (wrap64 ((rd l0 x7_1) - x6_1))] (fun _ => True) (fun _ => False) rfl rfl ?aP (fun _ hk => hk.elim) ?aF ?aO ?aB ?aS ?aL ?_; (case aP => exact rfl); (case aB => exact (q0_ HB.out)); (case aF => exact (fun _ _ => trivial)); (case aO => exact (qr_ HO_5.out)); (case aS => exact (below_size (q0_ HB.out))); (case aL => have := LMc14.out; omega); intro v253 w15 ho hb hg hat; rw [← Ny252.out] at ho; have n0_ := Aside0.mk (hb); have n1_ := Aside0.mk (ho); clear HB; clear HO_5; have HB := n0_; have HO254 := n1_; clear n0_ n1_; clear ho hb hg hat))
        go_roundg k1
        case measure => have := HK1.out; omega
        case rel => exact ⟨(y252), (0), (wrap64 (x7_1 + 1)), (by first | rfl | (simp; done) | (simp [*]; done)), (by first | rfl | (simp; done) | (simp [*]; done)), H', ⟨by have := HK1.out; omega⟩, ⟨by refine qr_ ?_; exact HO254.out⟩, ⟨(q0_ HB.out)⟩⟩
       ·rw [if_neg c14] at H
        exact absurd H (by simp)
    ·rw [if_neg c4] at H
     exact absurd H (by simp)
   ·rw [if_neg c3] at H
    have c3b0 : decide (x7_1 < (l0.length : Int)) = false := decide_eq_false c3
    clear c3
    replace H := Option.bind_eq_some_iff.mp H
    obtain ⟨t238, A160, H⟩ := H
    replace H : (some t238) = some r := H
    have A16 := Aside0.mk A160
    clear A160
    obtain rfl := Option.some.inj H
    obtain ⟨Ao17, co17, eo17⟩ := Kd.R_slice HO_5.out
    subst eo17
    go_wp2_with (first | ((with_reducible refine gate_callee (f := 110) rfl ?_); refine goesL_ (some 40) rfl rfl Tryd.func110 (by kernel_rfl) rfl #[.slice Ao17 x5_1.length co17] rfl qe_ ?_; (with_reducible refine (merinoref01_trim.calls k1 _ _ x5_1 t238 _ ?side1 ?side2 A16.out).mono ?_); (case side1 => exact qc_ (Kd.R_reads' HO_5.out).2.2); (case side2 => exact (Kd.R_reads' HO_5.out).2.1); rintro e w18 ⟨v239, rfl, ho0, hb⟩; refine ⟨_, rfl, ?_⟩; have n0_ := Aside0.mk (Kd.R_elder' (qr_ HO_5.out) (Kd.R_base ho0) hb); have n1_ := Aside0.mk (Kd.R_lower (Kd.R_new' ho0 (Kd.R_lt (qr_ HO_5.out))) (below_size (q0_ HB.out))); have n2_ := Aside0.mk (below_step (q0_ HB.out) hb); clear HO_5; clear HB; have HO_5 := n0_; have HO240 := n1_; have HB := n2_; clear n0_ n1_ n2_; (try clear hb); (try clear hb2); (try clear hk); (try clear hi); (try clear ho0)))
    go_ret
    exact ⟨_, by first | rfl | (simp [errW_none, errW_some] <;> rfl) | (simp [*, errW_none, errW_some] <;> rfl), by refine qr_ ?_; exact Kd.R_mono HO240.out (fun _ hk => trivial), (q0_ HB.out)⟩
set_option maxRecDepth 100000 in
theorem field31_1_ (b : Bool) (A : Option Addr) (n c : Nat) (W : World) : (Instr.field 31 (.agg #[.bool b, .slice A n c]) 1).run Tryd.prog W = .ok (.slice A n c) W := by rfl
attribute [local go_sem] field31_1_
mutual
def merinoref01_divD.l0 : Nat → List Int → List Int → List Int → List Int → Int → Option (List Int × List Int)
 | 0, _, _, _, _, _ => none
 | k + 1, x0, x1, x6, x7, x8 => if x8 ≥ 0 then (if 0 ≤ x8 then (if x8 < (x0.length : Int) then ((some (([rd x0 x8] : List Int) : List Int)).bind fun y386 => (if y386.length + x7.length < 17592186044416 then ((merinoref01_trim.f k (y386 ++ x7)).bind fun t392 => (merinoref01_divD.l1 k x0 x1 x6 t392 x8 0 9999)) else (none))) else (none)) else (none)) else ((merinoref01_trim.f k x6).bind fun t382 => (some (t382, x7)))
def merinoref01_divD.l1 : Nat → List Int → List Int → List Int → List Int → Int → Int → Int → Option (List Int × List Int)
 | 0, _, _, _, _, _, _, _ => none
 | k + 1, x0, x1, x6, x7, x8, x10, x11 => if x10 < x11 then ((merinoref01_trim.f k (([wrap64 (Int.tdiv (wrap64 ((wrap64 (x10 + x11)) + 1)) 2)] : List Int))).bind fun t411 => ((merinoref01_mulD.f k x1 t411).bind fun t414 => ((merinoref01_cmpD.f k t414 x7).bind fun t417 => (if t417 ≤ 0 then (merinoref01_divD.l1 k x0 x1 x6 x7 x8 (wrap64 (Int.tdiv (wrap64 ((wrap64 (x10 + x11)) + 1)) 2)) x11) else (merinoref01_divD.l1 k x0 x1 x6 x7 x8 x10 (wrap64 ((wrap64 (Int.tdiv (wrap64 ((wrap64 (x10 + x11)) + 1)) 2)) - 1))))))) else (if 0 ≤ x8 then (if x8 < (x6.length : Int) then ((merinoref01_trim.f k (([x10] : List Int))).bind fun t399 => ((merinoref01_mulD.f k x1 t399).bind fun t402 => ((merinoref01_subD.f k x7 t402).bind fun t405 => (merinoref01_divD.l0 k x0 x1 (x6.set (x8 : Int).toNat x10) t405 (wrap64 (x8 - 1)))))) else (none)) else (none))
end
def merinoref01_divD.f (k : Nat) (l0 : List Int) (l1 : List Int) : Option (List Int × List Int) := if (l1.length : Int) = 0 then (some (([] : List Int), ([] : List Int))) else (if 0 ≤ (l0.length : Int) then (if ((l0.length : Int) : Int).toNat ≤ 35184372088832 then (merinoref01_divD.l0 k l0 l1 (List.replicate ((l0.length : Int) : Int).toNat 0) ([] : List Int) (wrap64 ((l0.length : Int) - 1))) else (none)) else (none))
set_option maxHeartbeats 8000000 in
set_option maxRecDepth 100000 in
theorem merinoref01_divD.calls (k : Nat) (A0 : Option Addr) (c0 : Nat) (l0 : List Int) (A1 : Option Addr) (c1 : Nat) (l1 : List Int) (r1 : List Int) (r2 : List Int) (w : World) (hr0 : Kd.C (Kd.int .i64) w A0 l0.length l0) (hc0 : l0.length ≤ c0) (hr1 : Kd.C (Kd.int .i64) w A1 l1.length l1) (hc1 : l1.length ≤ c1) (h : merinoref01_divD.f k l0 l1 = some (r1, r2)) :
  Calls Tryd.prog 105 #[.slice A0 l0.length c0, .slice A1 l1.length c1] w fun e w' => ∃ v0_ v1_ : Value, e = .returned (.tuple #[v0_, v1_]) ∧ Kd.R (Kd.int .i64) 3 w' w.heap.size (fun k_ => some k_ ≠ (v1_ : Value).ownBlock) v0_ r1 ∧ Kd.R (Kd.int .i64) 3 w' w.heap.size (fun k_ => some k_ ≠ (v0_ : Value).ownBlock) v1_ r2 ∧ Below w.heap.size w w' := by
 have HR0 := Aside0.mk hr0
 have HC0 := Aside0.mk hc0
 clear hr0 hc0
 have HR1 := Aside0.mk hr1
 have HC1 := Aside0.mk hc1
 clear hr1 hc1
 have HB := Aside0.mk (Below.refl w.heap.size w)
 have H : (if (l1.length : Int) = 0 then (some (([] : List Int), ([] : List Int))) else (if 0 ≤ (l0.length : Int) then (if ((l0.length : Int) : Int).toNat ≤ 35184372088832 then (merinoref01_divD.l0 k l0 l1 (List.replicate ((l0.length : Int) : Int).toNat 0) ([] : List Int) (wrap64 ((l0.length : Int) - 1))) else (none)) else (none))) = some (r1, r2) := h
 clear h
 by_cases c3 : (l1.length : Int) = 0
 ·rw [if_pos c3] at H
  have c3b0 : ((l1.length : Int) == 0) = true := beq_iff_eq.mpr c3
  have c3b1 : ((l1.length : Int) != 0) = false := bne_eq_false_iff_eq.mpr c3
  clear c3
  simp only [Option.some.injEq, Prod.mk.injEq] at H
  obtain ⟨rfl, rfl⟩ := H
  go_enter Tryd.func105, Tryd.ntmps105
  go_wp2
  go_ret2
  exact ⟨_, _, by first | rfl | (simp [errW_none, errW_some] <;> rfl) | (simp [*, errW_none, errW_some] <;> rfl), by first | exact Kd.R_nil _ _ _ _ _ | exact Kd.N_nil _ _ _ _ _ | exact Kd.V_nil _ _ _ _ _ | exact Kd.Q_nil _ _ _ _ _ | exact Kd.S_nil _ _ _ _ _, by first | exact Kd.R_nil _ _ _ _ _ | exact Kd.N_nil _ _ _ _ _ | exact Kd.V_nil _ _ _ _ _ | exact Kd.Q_nil _ _ _ _ _ | exact Kd.S_nil _ _ _ _ _, (q0_ HB.out)⟩
 ·rw [if_neg c3] at H
  have c3b0 : ((l1.length : Int) == 0) = false := beq_eq_false_iff_ne.mpr c3
  have c3b1 : ((l1.length : Int) != 0) = true := bne_iff_ne.mpr c3
  have c3b2 : ¬ (l1 = []) := fun h_ => c3 (by rw [h_]; rfl)
  by_cases c4 : 0 ≤ (l0.length : Int)
  ·rw [if_pos c4] at H
   have c4b0 := eq_true c4
   have c4b1 : decide (0 ≤ (l0.length : Int)) = true := decide_eq_true c4
   clear c4
   by_cases c5 : ((l0.length : Int) : Int).toNat ≤ 35184372088832
   ·rw [if_pos c5] at H
    have c5b0 := eq_true c5
    have c5b1 : decide (((l0.length : Int) : Int).toNat ≤ 35184372088832) = true := decide_eq_true c5
    clear c5
    obtain ⟨y379, hy379⟩ : ∃ y_ : List Int, y_ = (List.replicate ((l0.length : Int) : Int).toNat 0) := ⟨_, rfl⟩
    replace H : (merinoref01_divD.l0 k l0 l1 y379 ([] : List Int) (wrap64 ((l0.length : Int) - 1))) = some (r1, r2) := by first | (rw [hy379]; with_reducible exact H) | (have H2_ := (Option.bind_some _ _).symm.trans H; rw [hy379]; with_reducible exact H2_) | (have H2_ := (Option.bind_some _ _).symm.trans H; with_reducible exact H2_) | with_reducible exact H | (rw [hy379]; exact H) | exact H
    have Ny379 := Aside0.mk hy379
    clear hy379
    have H' := Aside0.mk H
    clear H
    go_enter Tryd.func105, Tryd.ntmps105
    go_wp2_with (first | ((with_reducible refine gate_dst (N := 19) rfl ?_); refine Kd.R_make (Kd.int .i64) _ 3 rfl (N := 19) rfl 29 _ _ rfl (l0.length : Int) rfl rfl Tryd.underlying29 (.int .i64 0) 8 info3 rfl (by decide) (by omega) 0 (ok := fun _ => True) (okp := fun _ => True) rfl (fun _ hk => hk) trivial (od_) (Nat.le_trans (Nat.mul_le_mul_right _ (od_ : (l0.length : Int).toNat ≤ 35184372088832)) (by omega)) (Below.refl _ _) (Nat.le_refl _) ?_; intro v380 w6 ho7 hb hg_ hnew_; clear hg_ hnew_; (first | rw [← Ny379.out] at ho7 | (simp only [Int.reduceToNat] at ho7; rw [← Ny379.out] at ho7)); have n0_ := Aside0.mk (Kd.R_lower ho7 (below_size (q0_ HB.out))); have n1_ := Aside0.mk (below_step (q0_ HB.out) hb); clear HB; have HO381 := n0_; have HB := n1_; clear n0_ n1_; clear hb ho7))
    go_loopg [7, 8] k (fun kq v7 v8 w' => ∃ (x6_1 : List Int) (x7_1 : List Int) (x8_1 : Int), v8 = .int .i64 x8_1 ∧ Aside0 (merinoref01_divD.l0 kq l0 l1 x6_1 x7_1 x8_1 = some (r1, r2)) ∧ Aside0 (kq ≤ k) ∧ Aside0 (Kd.R (Kd.int .i64) 3 w' w.heap.size (fun k_ => some k_ ≠ (v7 : Value).ownBlock) v380 x6_1) ∧ Aside0 (Kd.R (Kd.int .i64) 3 w' w.heap.size (fun k_ => some k_ ≠ (v380 : Value).ownBlock) v7 x7_1) ∧ Aside0 (Below w.heap.size w w'))
    case atStart => exact ⟨(y379), (([] : List Int)), (wrap64 ((l0.length : Int) - 1)), (by first | rfl | (simp; done) | (simp [*]; done)), H', ⟨Nat.le_refl _⟩, ⟨by refine qr_ ?_; exact Kd.R_mono HO381.out (fun _ hk => (by simp [Value.ownBlock]))⟩, ⟨by first | exact Kd.R_nil _ _ _ _ _ | exact Kd.N_nil _ _ _ _ _ | exact Kd.V_nil _ _ _ _ _ | exact Kd.Q_nil _ _ _ _ _ | exact Kd.S_nil _ _ _ _ _⟩, ⟨(q0_ HB.out)⟩⟩
    case round =>
     clear H'
     try clear c1
     try clear p2
     try clear c3
     try clear c3b0
     try clear c3b1
     try clear c3b2
     try clear c4
     try clear c4b0
     try clear c4b1
     try clear c5
     try clear c5b0
     try clear c5b1
     try clear p6
     obtain ⟨x6_1, x7_1, x8_1, rfl, HA, HK1, HO_6, HO_7, HB⟩ := hrel
     cases gk with
     | zero => exact absurd HA.out (by simp [merinoref01_divD.l0])
     | succ k1 =>
      have H := HA.out
      clear HA
      simp only [merinoref01_divD.l0] at H
      by_cases c8 : x8_1 ≥ 0
      ·rw [if_pos c8] at H
       have c8b0 : decide (0 ≤ x8_1) = true := decide_eq_true c8
       clear c8
       by_cases c9 : 0 ≤ x8_1
       ·rw [if_pos c9] at H
        have c9b0 : decide (0 ≤ x8_1) = true := decide_eq_true c9
        clear c9
        by_cases c10 : x8_1 < (l0.length : Int)
        ·rw [if_pos c10] at H
         have c10b0 : decide (x8_1 < (l0.length : Int)) = true := decide_eq_true c10
         clear c10
         obtain ⟨y386, hy386⟩ : ∃ y_ : List Int, y_ = (([rd l0 x8_1] : List Int)) := ⟨_, rfl⟩
         replace H : (if y386.length + x7_1.length < 17592186044416 then ((merinoref01_trim.f k1 (y386 ++ x7_1)).bind fun t392 => (merinoref01_divD.l1 k1 l0 l1 x6_1 t392 x8_1 0 9999)) else (none)) = some (r1, r2) := by first | (rw [hy386]; with_reducible exact H) | (have H2_ := (Option.bind_some _ _).symm.trans H; rw [hy386]; with_reducible exact H2_) | (have H2_ := (Option.bind_some _ _).symm.trans H; with_reducible exact H2_) | with_reducible exact H | (rw [hy386]; exact H) | exact H
         have Ny386 := Aside0.mk hy386
         clear hy386
         by_cases c11 : y386.length + x7_1.length < 17592186044416
         ·rw [if_pos c11] at H
          have LMc11 := Aside0.mk c11
          clear c11
          obtain ⟨y389, hy389⟩ : ∃ y_ : List Int, y_ = (y386 ++ x7_1) := ⟨_, rfl⟩
          replace H : ((merinoref01_trim.f k1 y389).bind fun t392 => (merinoref01_divD.l1 k1 l0 l1 x6_1 t392 x8_1 0 9999)) = some (r1, r2) := by first | (rw [hy389]; with_reducible exact H) | (have H2_ := (Option.bind_some _ _).symm.trans H; rw [hy389]; with_reducible exact H2_) | (have H2_ := (Option.bind_some _ _).symm.trans H; with_reducible exact H2_) | with_reducible exact H | (rw [hy389]; exact H) | exact H
          have Ny389 := Aside0.mk hy389
          clear hy389
          replace H := Option.bind_eq_some_iff.mp H
          obtain ⟨t392, A120, H⟩ := H
          replace H : (merinoref01_divD.l1 k1 l0 l1 x6_1 t392 x8_1 0 9999) = some (r1, r2) := H
          have A12 := Aside0.mk A120
          clear A120
          have H' := Aside0.mk H
          clear H
          have p385 : 0 ≤ (x8_1 : Int) := od_
          have q385 : x8_1 < (l0.length : Int) := od_
          obtain ⟨ad385, e385, hx385_0⟩ := Kd.at_int HR0.out x8_1 p385 q385
          cases e385
          replace hx385_0 := (HB.out.cell (World.block_lt_of_cell? w _ hx385_0)).trans hx385_0
          replace p385 := eq_true p385
          replace q385 := eq_true q385
          go_wp2_with (first | ((with_reducible refine gate_dst (N := 31) rfl ?_); refine Kd.R_lit (Kd.int .i64) _ 3 ?hg (N := 31) ?hd (xs := ([rd l0 x8_1] : List Int)) (inner := [.int .i64 (rd l0 x8_1)]) (ok := fun _ => True) (okp := fun _ => True) ?hr ?hp (fun _ hk => hk) trivial (Below.refl _ _) (Nat.le_refl _) (by simp) ?_; (case hd => rfl); (case hg => rfl); (case hr => first | (go_simp; done) | (go_simp; rfl)); (case hp => exact (Reps.one (show Kd.M (Kd.int .i64) _ _ _ (rd l0 x8_1) [.int .i64 (rd l0 x8_1)] from rfl) (Reps.none _ _))); intro v387 w13 ho14 hb hg_ hnew_; clear hg_ hnew_; (first | rw [← Ny386.out] at ho14 | (simp only [Int.reduceToNat] at ho14; rw [← Ny386.out] at ho14)); have n0_ := Aside0.mk (Kd.R_elder' (qr_ HO_6.out) (Kd.R_base ho14) hb); have n1_ := Aside0.mk (Kd.R_elder' (qr_ HO_7.out) (Kd.R_base ho14) hb); have n2_ := Aside0.mk (Kd.R_lower (Kd.R_new' (Kd.R_new' ho14 (Kd.R_lt (qr_ HO_6.out))) (Kd.R_lt (qr_ HO_7.out))) (below_size (q0_ HB.out))); have n3_ := Aside0.mk (below_step (q0_ HB.out) hb); clear HO_6; clear HO_7; clear HB; have HO_6 := n0_; have HO_7 := n1_; have HO388 := n2_; have HB := n3_; clear n0_ n1_ n2_ n3_; clear hb ho14; obtain ⟨Ao16, co16, eo16⟩ := Kd.R_slice HO_7.out; subst eo16) | ((with_reducible refine gate_builtin (b := .append) (xs := #[.tmp 32, .tmp 33]) rfl ?_); at_builtin; refine Kd.R_append_rows (Kd.int .i64) (w0 := w) w.heap.size rfl (.tmp 32) (.tmp 33) 29 3 (.int .i64 0) 8 rfl Tryd.underlying29 info3 rfl (by decide) (by omega) v387 y386 x7_1 _ _ _ (fun k_ => some k_ ≠ (v380 : Value).ownBlock ∧ some k_ ≠ (.slice Ao16 x7_1.length co16 : Value).ownBlock) (fun _ => False) rfl rfl ?aO ?aR (fun _ _ h => h) (fun _ h => h.elim) ?aF ?aB ?aS ?aL ?_; (case aR => exact qc_ (Kd.R_reads' HO_7.out).2.2); (case aB => exact (q0_ HB.out)); (case aF => exact (fun k_ hk => ⟨Kd.fresh' (Kd.R_lt (qr_ HO_6.out)) k_ hk, Kd.fresh' (Kd.R_lt (qr_ HO_7.out)) k_ hk⟩)); (case aO => exact (by refine qr_ ?_; exact Kd.R_mono HO388.out (fun _ hk => ⟨hk.1.2, hk.2⟩))); (case aS => exact (below_size (q0_ HB.out))); (case aL => have := LMc11.out; omega); intro v390 w15 ho hb hg hat; rw [← Ny389.out] at ho; have n0_ := Aside0.mk (Kd.R_after (ok := (fun k_ => some k_ ≠ (.slice Ao16 x7_1.length co16 : Value).ownBlock)) (qr_ HO_6.out) hg hat); have n1_ := Aside0.mk (Kd.R_after (ok := (fun k_ => some k_ ≠ (v380 : Value).ownBlock)) (qr_ HO_7.out) hg hat); have n2_ := Aside0.mk (hb); have n3_ := Aside0.mk (ho); clear HO_6; clear HO_7; clear HB; clear HO388; have HO_6 := n0_; have HO_7 := n1_; have HB := n2_; have HO391 := n3_; clear n0_ n1_ n2_ n3_; clear ho hb hg hat; obtain ⟨Ao17, co17, eo17⟩ := Kd.R_slice HO391.out; subst eo17) | ((with_reducible refine gate_callee (f := 110) rfl ?_); refine goesL_ (some 35) rfl rfl Tryd.func110 (by kernel_rfl) rfl #[.slice Ao17 y389.length co17] rfl qe_ ?_; (with_reducible refine (merinoref01_trim.calls k1 _ _ y389 t392 _ ?side1 ?side2 A12.out).mono ?_); (case side1 => exact qc_ (Kd.R_reads' HO391.out).2.2); (case side2 => exact (Kd.R_reads' HO391.out).2.1); rintro e w18 ⟨v393, rfl, ho0, hb⟩; refine ⟨_, rfl, ?_⟩; have n0_ := Aside0.mk (Kd.R_elder' (qr_ HO_6.out) (Kd.R_base ho0) hb); have n1_ := Aside0.mk (Kd.R_elder' (qr_ HO_7.out) (Kd.R_base ho0) hb); have n2_ := Aside0.mk (Kd.R_elder' (qr_ HO391.out) (Kd.R_base ho0) hb); have n3_ := Aside0.mk (Kd.R_lower (Kd.R_new' (Kd.R_new' (Kd.R_new' ho0 (Kd.R_lt (qr_ HO_6.out))) (Kd.R_lt (qr_ HO_7.out))) (Kd.R_lt (qr_ HO391.out))) (below_size (q0_ HB.out))); have n4_ := Aside0.mk (below_step (q0_ HB.out) hb); clear HO_6; clear HO_7; clear HO391; clear HB; have HO_6 := n0_; have HO_7 := n1_; have HO391 := n2_; have HO394 := n3_; have HB := n4_; clear n0_ n1_ n2_ n3_ n4_; (try clear hb); (try clear hb2); (try clear hk); (try clear hi); (try clear ho0)))
          go_loopg [10, 11] k1 (fun kq v10 v11 w' => ∃ (x10_2 : Int) (x11_2 : Int), v10 = .int .i64 x10_2 ∧ v11 = .int .i64 x11_2 ∧ Aside0 (merinoref01_divD.l1 kq l0 l1 x6_1 t392 x8_1 x10_2 x11_2 = some (r1, r2)) ∧ Aside0 (kq ≤ k1) ∧ Aside0 (Kd.R (Kd.int .i64) 3 w' w.heap.size (fun k_ => some k_ ≠ (v393 : Value).ownBlock) v380 x6_1) ∧ Aside0 (Kd.R (Kd.int .i64) 3 w' w.heap.size (fun k_ => some k_ ≠ (v380 : Value).ownBlock) v393 t392) ∧ Aside0 (Below w.heap.size w w'))
          case atStart => exact ⟨(0), (9999), (by first | rfl | (simp; done) | (simp [*]; done)), (by first | rfl | (simp; done) | (simp [*]; done)), H', ⟨Nat.le_refl _⟩, ⟨by refine qr_ ?_; exact Kd.R_mono HO_6.out (fun _ hk => hk.2)⟩, ⟨by refine qr_ ?_; exact Kd.R_mono HO394.out (fun _ hk => hk.1.1.2)⟩, ⟨(q0_ HB.out)⟩⟩
          case round =>
           clear H'
           try clear c1
           try clear p2
           try clear c3
           try clear c3b0
           try clear c3b1
           try clear c3b2
           try clear p3
           try clear q3
           try clear hx3
           try clear c4
           try clear c4b0
           try clear c4b1
           try clear c5
           try clear c5b0
           try clear c5b1
           try clear p6
           try clear c8
           try clear c8b0
           try clear c9
           try clear c9b0
           try clear c10
           try clear c10b0
           try clear c11
           try clear hx385_0
           try clear p2
           try clear p385
           try clear p6
           try clear q385
           obtain ⟨x10_2, x11_2, rfl, rfl, HA, HK2, HO_6, HO_7, HB⟩ := hrel
           cases gk with
           | zero => exact absurd HA.out (by simp [merinoref01_divD.l1])
           | succ k2 =>
            have H := HA.out
            clear HA
            simp only [merinoref01_divD.l1] at H
            by_cases c19 : x10_2 < x11_2
            ·rw [if_pos c19] at H
             have c19b0 : decide (x10_2 < x11_2) = true := decide_eq_true c19
             clear c19
             obtain ⟨y408, hy408⟩ : ∃ y_ : List Int, y_ = (([wrap64 (Int.tdiv (wrap64 ((wrap64 (x10_2 + x11_2)) + 1)) 2)] : List Int)) := ⟨_, rfl⟩
             replace H : ((merinoref01_trim.f k2 y408).bind fun t411 => ((merinoref01_mulD.f k2 l1 t411).bind fun t414 => ((merinoref01_cmpD.f k2 t414 t392).bind fun t417 => (if t417 ≤ 0 then (merinoref01_divD.l1 k2 l0 l1 x6_1 t392 x8_1 (wrap64 (Int.tdiv (wrap64 ((wrap64 (x10_2 + x11_2)) + 1)) 2)) x11_2) else (merinoref01_divD.l1 k2 l0 l1 x6_1 t392 x8_1 x10_2 (wrap64 ((wrap64 (Int.tdiv (wrap64 ((wrap64 (x10_2 + x11_2)) + 1)) 2)) - 1))))))) = some (r1, r2) := by first | (rw [hy408]; with_reducible exact H) | (have H2_ := (Option.bind_some _ _).symm.trans H; rw [hy408]; with_reducible exact H2_) | (have H2_ := (Option.bind_some _ _).symm.trans H; with_reducible exact H2_) | with_reducible exact H | (rw [hy408]; exact H) | exact H
             have Ny408 := Aside0.mk hy408
             clear hy408
             replace H := Option.bind_eq_some_iff.mp H
             obtain ⟨t411, A200, H⟩ := H
             replace H : ((merinoref01_mulD.f k2 l1 t411).bind fun t414 => ((merinoref01_cmpD.f k2 t414 t392).bind fun t417 => (if t417 ≤ 0 then (merinoref01_divD.l1 k2 l0 l1 x6_1 t392 x8_1 (wrap64 (Int.tdiv (wrap64 ((wrap64 (x10_2 + x11_2)) + 1)) 2)) x11_2) else (merinoref01_divD.l1 k2 l0 l1 x6_1 t392 x8_1 x10_2 (wrap64 ((wrap64 (Int.tdiv (wrap64 ((wrap64 (x10_2 + x11_2)) + 1)) 2)) - 1)))))) = some (r1, r2) := H
             have A20 := Aside0.mk A200
             clear A200
             replace H := Option.bind_eq_some_iff.mp H
             obtain ⟨t414, A210, H⟩ := H
             replace H : ((merinoref01_cmpD.f k2 t414 t392).bind fun t417 => (if t417 ≤ 0 then (merinoref01_divD.l1 k2 l0 l1 x6_1 t392 x8_1 (wrap64 (Int.tdiv (wrap64 ((wrap64 (x10_2 + x11_2)) + 1)) 2)) x11_2) else (merinoref01_divD.l1 k2 l0 l1 x6_1 t392 x8_1 x10_2 (wrap64 ((wrap64 (Int.tdiv (wrap64 ((wrap64 (x10_2 + x11_2)) + 1)) 2)) - 1))))) = some (r1, r2) := H
             have A21 := Aside0.mk A210
             clear A210
             replace H := Option.bind_eq_some_iff.mp H
             obtain ⟨t417, A220, H⟩ := H
             replace H : (if t417 ≤ 0 then (merinoref01_divD.l1 k2 l0 l1 x6_1 t392 x8_1 (wrap64 (Int.tdiv (wrap64 ((wrap64 (x10_2 + x11_2)) + 1)) 2)) x11_2) else (merinoref01_divD.l1 k2 l0 l1 x6_1 t392 x8_1 x10_2 (wrap64 ((wrap64 (Int.tdiv (wrap64 ((wrap64 (x10_2 + x11_2)) + 1)) 2)) - 1)))) = some (r1, r2) := H
             have A22 := Aside0.mk A220
             clear A220
             by_cases c23 : t417 ≤ 0
             ·rw [if_pos c23] at H
              have c23b0 : decide (t417 ≤ 0) = true := decide_eq_true c23
              clear c23
              have H' := Aside0.mk H
              clear H
              go_wp2_with (first | ((with_reducible refine gate_dst (N := 46) rfl ?_); refine Kd.R_lit (Kd.int .i64) _ 3 ?hg (N := 46) ?hd (xs := ([wrap64 (Int.tdiv (wrap64 ((wrap64 (x10_2 + x11_2)) + 1)) 2)] : List Int)) (inner := [.int .i64 (wrap64 (Int.tdiv (wrap64 ((wrap64 (x10_2 + x11_2)) + 1)) 2))]) (ok := fun _ => True) (okp := fun _ => True) ?hr ?hp (fun _ hk => hk) trivial (Below.refl _ _) (Nat.le_refl _) (by simp) ?_; (case hd => rfl); (case hg => rfl); (case hr => first | (go_simp; done) | (go_simp; rfl)); (case hp => exact (Reps.one (show Kd.M (Kd.int .i64) _ _ _ (wrap64 (Int.tdiv (wrap64 ((wrap64 (x10_2 + x11_2)) + 1)) 2)) [.int .i64 (wrap64 (Int.tdiv (wrap64 ((wrap64 (x10_2 + x11_2)) + 1)) 2))] from rfl) (Reps.none _ _))); intro v409 w24 ho25 hb hg_ hnew_; clear hg_ hnew_; (first | rw [← Ny408.out] at ho25 | (simp only [Int.reduceToNat] at ho25; rw [← Ny408.out] at ho25)); have n0_ := Aside0.mk (Kd.R_elder' (qr_ HO_6.out) (Kd.R_base ho25) hb); have n1_ := Aside0.mk (Kd.R_elder' (qr_ HO_7.out) (Kd.R_base ho25) hb); have n2_ := Aside0.mk (Kd.R_lower (Kd.R_new' (Kd.R_new' ho25 (Kd.R_lt (qr_ HO_6.out))) (Kd.R_lt (qr_ HO_7.out))) (below_size (q0_ HB.out))); have n3_ := Aside0.mk (below_step (q0_ HB.out) hb); clear HO_6; clear HO_7; clear HB; have HO_6 := n0_; have HO_7 := n1_; have HO410 := n2_; have HB := n3_; clear n0_ n1_ n2_ n3_; clear hb ho25; obtain ⟨Ao26, co26, eo26⟩ := Kd.R_slice HO410.out; subst eo26) | ((with_reducible refine gate_callee (f := 110) rfl ?_); refine goesL_ (some 47) rfl rfl Tryd.func110 (by kernel_rfl) rfl #[.slice Ao26 y408.length co26] rfl qe_ ?_; (with_reducible refine (merinoref01_trim.calls k2 _ _ y408 t411 _ ?side1 ?side2 A20.out).mono ?_); (case side1 => exact qc_ (Kd.R_reads' HO410.out).2.2); (case side2 => exact (Kd.R_reads' HO410.out).2.1); rintro e w27 ⟨v412, rfl, ho0, hb⟩; refine ⟨_, rfl, ?_⟩; have n0_ := Aside0.mk (Kd.R_elder' (qr_ HO_6.out) (Kd.R_base ho0) hb); have n1_ := Aside0.mk (Kd.R_elder' (qr_ HO_7.out) (Kd.R_base ho0) hb); have n2_ := Aside0.mk (Kd.R_elder' (qr_ HO410.out) (Kd.R_base ho0) hb); have n3_ := Aside0.mk (Kd.R_lower (Kd.R_new' (Kd.R_new' (Kd.R_new' ho0 (Kd.R_lt (qr_ HO_6.out))) (Kd.R_lt (qr_ HO_7.out))) (Kd.R_lt (qr_ HO410.out))) (below_size (q0_ HB.out))); have n4_ := Aside0.mk (below_step (q0_ HB.out) hb); clear HO_6; clear HO_7; clear HO410; clear HB; have HO_6 := n0_; have HO_7 := n1_; have HO410 := n2_; have HO413 := n3_; have HB := n4_; clear n0_ n1_ n2_ n3_ n4_; (try clear hb); (try clear hb2); (try clear hk); (try clear hi); (try clear ho0); obtain ⟨Ao28, co28, eo28⟩ := Kd.R_slice HO413.out; subst eo28) | ((with_reducible refine gate_callee (f := 74) rfl ?_); refine goesL_ (some 48) rfl rfl Tryd.func74 (by kernel_rfl) rfl #[.slice A1 l1.length c1, .slice Ao28 t411.length co28] rfl qe_ ?_; (with_reducible refine (merinoref01_mulD.calls k2 _ _ l1 _ _ t411 t414 _ ?side1 ?side2 ?side3 ?side4 A21.out).mono ?_); (case side1 => exact qc_ (Kd.C_below HR1.out HB.out)); (case side2 => exact HC1.out); (case side3 => exact qc_ (Kd.R_reads' HO413.out).2.2); (case side4 => exact (Kd.R_reads' HO413.out).2.1); rintro e w29 ⟨v415, rfl, ho0, hb⟩; refine ⟨_, rfl, ?_⟩; have n0_ := Aside0.mk (Kd.R_elder' (qr_ HO_6.out) (Kd.R_base ho0) hb); have n1_ := Aside0.mk (Kd.R_elder' (qr_ HO_7.out) (Kd.R_base ho0) hb); have n2_ := Aside0.mk (Kd.R_elder' (qr_ HO410.out) (Kd.R_base ho0) hb); have n3_ := Aside0.mk (Kd.R_elder' (qr_ HO413.out) (Kd.R_base ho0) hb); have n4_ := Aside0.mk (Kd.R_lower (Kd.R_new' (Kd.R_new' (Kd.R_new' (Kd.R_new' ho0 (Kd.R_lt (qr_ HO_6.out))) (Kd.R_lt (qr_ HO_7.out))) (Kd.R_lt (qr_ HO410.out))) (Kd.R_lt (qr_ HO413.out))) (below_size (q0_ HB.out))); have n5_ := Aside0.mk (below_step (q0_ HB.out) hb); clear HO_6; clear HO_7; clear HO410; clear HO413; clear HB; have HO_6 := n0_; have HO_7 := n1_; have HO410 := n2_; have HO413 := n3_; have HO416 := n4_; have HB := n5_; clear n0_ n1_ n2_ n3_ n4_ n5_; (try clear hb); (try clear hb2); (try clear hk); (try clear hi); (try clear ho0); obtain ⟨Ao30, co30, eo30⟩ := Kd.R_slice HO416.out; subst eo30; obtain ⟨Ao31, co31, eo31⟩ := Kd.R_slice HO_7.out; subst eo31) | ((with_reducible refine gate_callee (f := 76) rfl ?_); refine goesL_ (some 51) rfl rfl Tryd.func76 (by kernel_rfl) rfl #[.slice Ao30 t414.length co30, .slice Ao31 t392.length co31] rfl qe_ ?_; (with_reducible refine (merinoref01_cmpD.calls k2 _ _ t414 _ _ t392 t417 _ ?side1 ?side2 ?side3 ?side4 A22.out).mono ?_); (case side1 => exact qc_ (Kd.R_reads' HO416.out).2.2); (case side2 => exact (Kd.R_reads' HO416.out).2.1); (case side3 => exact qc_ (Kd.R_reads' HO_7.out).2.2); (case side4 => exact (Kd.R_reads' HO_7.out).2.1); rintro e w' ⟨rfl, ⟨nd, rfl⟩⟩; refine ⟨_, rfl, ?_⟩))
              go_roundg k2
              case measure => have := HK1.out; have := HK2.out; omega
              case rel => exact ⟨(wrap64 (Int.tdiv (wrap64 ((wrap64 (x10_2 + x11_2)) + 1)) 2)), (x11_2), (by first | rfl | (simp; done) | (simp [*]; done)), (by first | rfl | (simp; done) | (simp [*]; done)), H', ⟨by have := HK1.out; have := HK2.out; omega⟩, ⟨by refine qr_ ?_; exact Kd.R_mono HO_6.out (fun _ hk => hk.1.1.1)⟩, ⟨by refine qr_ ?_; exact Kd.R_mono HO_7.out (fun _ hk => hk.1.1.1)⟩, ⟨(q0_ HB.out)⟩⟩
             ·rw [if_neg c23] at H
              have c23b0 : decide (t417 ≤ 0) = false := decide_eq_false c23
              clear c23
              have H' := Aside0.mk H
              clear H
              go_wp2_with (first | ((with_reducible refine gate_dst (N := 46) rfl ?_); refine Kd.R_lit (Kd.int .i64) _ 3 ?hg (N := 46) ?hd (xs := ([wrap64 (Int.tdiv (wrap64 ((wrap64 (x10_2 + x11_2)) + 1)) 2)] : List Int)) (inner := [.int .i64 (wrap64 (Int.tdiv (wrap64 ((wrap64 (x10_2 + x11_2)) + 1)) 2))]) (ok := fun _ => True) (okp := fun _ => True) ?hr ?hp (fun _ hk => hk) trivial (Below.refl _ _) (Nat.le_refl _) (by simp) ?_; (case hd => rfl); (case hg => rfl); (case hr => first | (go_simp; done) | (go_simp; rfl)); (case hp => exact (Reps.one (show Kd.M (Kd.int .i64) _ _ _ (wrap64 (Int.tdiv (wrap64 ((wrap64 (x10_2 + x11_2)) + 1)) 2)) [.int .i64 (wrap64 (Int.tdiv (wrap64 ((wrap64 (x10_2 + x11_2)) + 1)) 2))] from rfl) (Reps.none _ _))); intro v409 w32 ho33 hb hg_ hnew_; clear hg_ hnew_; (first | rw [← Ny408.out] at ho33 | (simp only [Int.reduceToNat] at ho33; rw [← Ny408.out] at ho33)); have n0_ := Aside0.mk (Kd.R_elder' (qr_ HO_6.out) (Kd.R_base ho33) hb); have n1_ := Aside0.mk (Kd.R_elder' (qr_ HO_7.out) (Kd.R_base ho33) hb); have n2_ := Aside0.mk (Kd.R_lower (Kd.R_new' (Kd.R_new' ho33 (Kd.R_lt (qr_ HO_6.out))) (Kd.R_lt (qr_ HO_7.out))) (below_size (q0_ HB.out))); have n3_ := Aside0.mk (below_step (q0_ HB.out) hb); clear HO_6; clear HO_7; clear HB; have HO_6 := n0_; have HO_7 := n1_; have HO410 := n2_; have HB := n3_; clear n0_ n1_ n2_ n3_; clear hb ho33; obtain ⟨Ao34, co34, eo34⟩ := Kd.R_slice HO410.out; subst eo34) | ((with_reducible refine gate_callee (f := 110) rfl ?_); refine goesL_ (some 47) rfl rfl Tryd.func110 (by kernel_rfl) rfl #[.slice Ao34 y408.length co34] rfl qe_ ?_; (with_reducible refine (merinoref01_trim.calls k2 _ _ y408 t411 _ ?side1 ?side2 A20.out).mono ?_); (case side1 => exact qc_ (Kd.R_reads' HO410.out).2.2); (case side2 => exact (Kd.R_reads' HO410.out).2.1); rintro e w35 ⟨v412, rfl, ho0, hb⟩; refine ⟨_, rfl, ?_⟩; have n0_ := Aside0.mk (Kd.R_elder' (qr_ HO_6.out) (Kd.R_base ho0) hb); have n1_ := Aside0.mk (Kd.R_elder' (qr_ HO_7.out) (Kd.R_base ho0) hb); have n2_ := Aside0.mk (Kd.R_elder' (qr_ HO410.out) (Kd.R_base ho0) hb); have n3_ := Aside0.mk (Kd.R_lower (Kd.R_new' (Kd.R_new' (Kd.R_new' ho0 (Kd.R_lt (qr_ HO_6.out))) (Kd.R_lt (qr_ HO_7.out))) (Kd.R_lt (qr_ HO410.out))) (below_size (q0_ HB.out))); have n4_ := Aside0.mk (below_step (q0_ HB.out) hb); clear HO_6; clear HO_7; clear HO410; clear HB; have HO_6 := n0_; have HO_7 := n1_; have HO410 := n2_; have HO413 := n3_; have HB := n4_; clear n0_ n1_ n2_ n3_ n4_; (try clear hb); (try clear hb2); (try clear hk); (try clear hi); (try clear ho0); obtain ⟨Ao36, co36, eo36⟩ := Kd.R_slice HO413.out; subst eo36) | ((with_reducible refine gate_callee (f := 74) rfl ?_); refine goesL_ (some 48) rfl rfl Tryd.func74 (by kernel_rfl) rfl #[.slice A1 l1.length c1, .slice Ao36 t411.length co36] rfl qe_ ?_; (with_reducible refine (merinoref01_mulD.calls k2 _ _ l1 _ _ t411 t414 _ ?side1 ?side2 ?side3 ?side4 A21.out).mono ?_); (case side1 => exact qc_ (Kd.C_below HR1.out HB.out)); (case side2 => exact HC1.out); (case side3 => exact qc_ (Kd.R_reads' HO413.out).2.2); (case side4 => exact (Kd.R_reads' HO413.out).2.1); rintro e w37 ⟨v415, rfl, ho0, hb⟩; refine ⟨_, rfl, ?_⟩; have n0_ := Aside0.mk (Kd.R_elder' (qr_ HO_6.out) (Kd.R_base ho0) hb); have n1_ := Aside0.mk (Kd.R_elder' (qr_ HO_7.out) (Kd.R_base ho0) hb); have n2_ := Aside0.mk (Kd.R_elder' (qr_ HO410.out) (Kd.R_base ho0) hb); have n3_ := Aside0.mk (Kd.R_elder' (qr_ HO413.out) (Kd.R_base ho0) hb); have n4_ := Aside0.mk (Kd.R_lower (Kd.R_new' (Kd.R_new' (Kd.R_new' (Kd.R_new' ho0 (Kd.R_lt (qr_ HO_6.out))) (Kd.R_lt (qr_ HO_7.out))) (Kd.R_lt (qr_ HO410.out))) (Kd.R_lt (qr_ HO413.out))) (below_size (q0_ HB.out))); have n5_ := Aside0.mk (below_step (q0_ HB.out) hb); clear HO_6; clear HO_7; clear HO410; clear HO413; clear HB; have HO_6 := n0_; have HO_7 := n1_; have HO410 := n2_; have HO413 := n3_; have HO416 := n4_; have HB := n5_; clear n0_ n1_ n2_ n3_ n4_ n5_; (try clear hb); (try clear hb2); (try clear hk); (try clear hi); (try clear ho0); obtain ⟨Ao38, co38, eo38⟩ := Kd.R_slice HO416.out; subst eo38; obtain ⟨Ao39, co39, eo39⟩ := Kd.R_slice HO_7.out; subst eo39) | ((with_reducible refine gate_callee (f := 76) rfl ?_); refine goesL_ (some 51) rfl rfl Tryd.func76 (by kernel_rfl) rfl #[.slice Ao38 t414.length co38, .slice Ao39 t392.length co39] rfl qe_ ?_; (with_reducible refine (merinoref01_cmpD.calls k2 _ _ t414 _ _ t392 t417 _ ?side1 ?side2 ?side3 ?side4 A22.out).mono ?_); (case side1 => exact qc_ (Kd.R_reads' HO416.out).2.2); (case side2 => exact (Kd.R_reads' HO416.out).2.1); (case side3 => exact qc_ (Kd.R_reads' HO_7.out).2.2); (case side4 => exact (Kd.R_reads' HO_7.out).2.1); rintro e w' ⟨rfl, ⟨nd, rfl⟩⟩; refine ⟨_, rfl, ?_⟩))
              go_roundg k2
              case measure => have := HK1.out; have := HK2.out; omega
              case rel => exact ⟨(x10_2), (wrap64 ((wrap64 (Int.tdiv (wrap64 ((wrap64 (x10_2 + x11_2)) + 1)) 2)) - 1)), (by first | rfl | (simp; done) | (simp [*]; done)), (by first | rfl | (simp; done) | (simp [*]; done)), H', ⟨by have := HK1.out; have := HK2.out; omega⟩, ⟨by refine qr_ ?_; exact Kd.R_mono HO_6.out (fun _ hk => hk.1.1.1)⟩, ⟨by refine qr_ ?_; exact Kd.R_mono HO_7.out (fun _ hk => hk.1.1.1)⟩, ⟨(q0_ HB.out)⟩⟩
            ·rw [if_neg c19] at H
             have c19b0 : decide (x10_2 < x11_2) = false := decide_eq_false c19
             clear c19
             by_cases c40 : 0 ≤ x8_1
             ·rw [if_pos c40] at H
              have c40b0 : decide (0 ≤ x8_1) = true := decide_eq_true c40
              clear c40
              by_cases c41 : x8_1 < (x6_1.length : Int)
              ·rw [if_pos c41] at H
               have c41b0 : decide (x8_1 < (x6_1.length : Int)) = true := decide_eq_true c41
               clear c41
               obtain ⟨y395, hy395⟩ : ∃ y_ : List Int, y_ = (x6_1.set (x8_1 : Int).toNat x10_2) := ⟨_, rfl⟩
               replace H : ((merinoref01_trim.f k2 (([x10_2] : List Int))).bind fun t399 => ((merinoref01_mulD.f k2 l1 t399).bind fun t402 => ((merinoref01_subD.f k2 t392 t402).bind fun t405 => (merinoref01_divD.l0 k2 l0 l1 y395 t405 (wrap64 (x8_1 - 1)))))) = some (r1, r2) := by first | (rw [hy395]; with_reducible exact H) | (have H2_ := (Option.bind_some _ _).symm.trans H; rw [hy395]; with_reducible exact H2_) | (have H2_ := (Option.bind_some _ _).symm.trans H; with_reducible exact H2_) | with_reducible exact H | (rw [hy395]; exact H) | exact H
               have Ny395 := Aside0.mk hy395
               clear hy395
               obtain ⟨y396, hy396⟩ : ∃ y_ : List Int, y_ = (([x10_2] : List Int)) := ⟨_, rfl⟩
               replace H : ((merinoref01_trim.f k2 y396).bind fun t399 => ((merinoref01_mulD.f k2 l1 t399).bind fun t402 => ((merinoref01_subD.f k2 t392 t402).bind fun t405 => (merinoref01_divD.l0 k2 l0 l1 y395 t405 (wrap64 (x8_1 - 1)))))) = some (r1, r2) := by first | (rw [hy396]; with_reducible exact H) | (have H2_ := (Option.bind_some _ _).symm.trans H; rw [hy396]; with_reducible exact H2_) | (have H2_ := (Option.bind_some _ _).symm.trans H; with_reducible exact H2_) | with_reducible exact H | (rw [hy396]; exact H) | exact H
               have Ny396 := Aside0.mk hy396
               clear hy396
               replace H := Option.bind_eq_some_iff.mp H
               obtain ⟨t399, A430, H⟩ := H
               replace H : ((merinoref01_mulD.f k2 l1 t399).bind fun t402 => ((merinoref01_subD.f k2 t392 t402).bind fun t405 => (merinoref01_divD.l0 k2 l0 l1 y395 t405 (wrap64 (x8_1 - 1))))) = some (r1, r2) := H
               have A43 := Aside0.mk A430
               clear A430
               replace H := Option.bind_eq_some_iff.mp H
               obtain ⟨t402, A440, H⟩ := H
               replace H : ((merinoref01_subD.f k2 t392 t402).bind fun t405 => (merinoref01_divD.l0 k2 l0 l1 y395 t405 (wrap64 (x8_1 - 1)))) = some (r1, r2) := H
               have A44 := Aside0.mk A440
               clear A440
               replace H := Option.bind_eq_some_iff.mp H
               obtain ⟨t405, A450, H⟩ := H
               replace H : (merinoref01_divD.l0 k2 l0 l1 y395 t405 (wrap64 (x8_1 - 1))) = some (r1, r2) := H
               have A45 := Aside0.mk A450
               clear A450
               have H' := Aside0.mk H
               clear H
               have p42 : 0 ≤ (x8_1 : Int) := od_
               have q42 : (x8_1 : Int) < ((x6_1.length : Int) : Int) := od_
               obtain ⟨go42, co42, eo42, gb42, gl42, cl42, HG42⟩ := Kd.R_form HO_6.out (by omega)
               (first | cases eo42 | (injection eo42 with ea_ en_ ec_; (first | subst ea_ | (injection ea_ with ea_; subst ea_)); subst ec_; clear en_))
               have GB42 := Aside0.mk gb42
               have GG42 := Aside0.mk HG42
               clear gb42 gl42 HG42
               obtain ⟨hx42_0, hf42_0⟩ := Kd.R_celln 0 HO_6.out (x8_1 : Int) p42 q42
               replace p42 := eq_true p42
               replace q42 := eq_true q42
               have HP46 := Kd.R_putg HO_6.out (x8_1 : Int) x10_2
               go_wp2_with (first | ((with_reducible refine gate_store (t := 3) (p := 59) rfl ?_); refine store_event (t := 3) (p := 59) (v := ?vo_w47) (w1 := (wr.setCell ⟨go42, (x8_1 : Int).toNat, none⟩ (.int .i64 x10_2))) ?hg ?ho ?hn ?hr ?_; (case ho => rfl); (case hg => rfl); (case hn => rfl); (case hr => first | (go_simp; done) | (go_simp; rfl)); intro w47 hw; have hg : wr.grownBy w47 (some go42) := (by rw [hw]; exact HP46.2); have hp_ : Kd.R (Kd.int .i64) 3 w47 w.heap.size (fun k_ => some k_ ≠ (v393 : Value).ownBlock) (.slice (some ⟨go42, 0, none⟩) x6_1.length co42) y395 := (by rw [hw, Ny395.out]; exact HP46.1); clear HP46; have n0_ := Aside0.mk (hp_); have n1_ := Aside0.mk (Kd.R_after (v := (.slice (some ⟨go42, 0, none⟩) x6_1.length co42)) (v1 := (.slice (some ⟨go42, 0, none⟩) x6_1.length co42)) (ok := (fun _ => True)) (by refine qr_ ?_; exact Kd.R_mono HO_7.out (fun _ hk => ⟨trivial, hk⟩)) hg (.inl rfl)); have n2_ := Aside0.mk ((by rw [hw]; exact below_set (HB.out) GB42.out : Below w.heap.size w w47)); clear HO_6; clear HO_7; clear HB; have HO_6 := n0_; have HO_7 := n1_; have HB := n2_; clear n0_ n1_ n2_; clear hg hw hp_) | ((with_reducible refine gate_dst (N := 63) rfl ?_); refine Kd.R_lit (Kd.int .i64) _ 3 ?hg (N := 63) ?hd (xs := ([x10_2] : List Int)) (inner := [.int .i64 x10_2]) (ok := fun _ => True) (okp := fun _ => True) ?hr ?hp (fun _ hk => hk) trivial (Below.refl _ _) (Nat.le_refl _) (by simp) ?_; (case hd => rfl); (case hg => rfl); (case hr => first | (go_simp; done) | (go_simp; rfl)); (case hp => exact (Reps.one (show Kd.M (Kd.int .i64) _ _ _ x10_2 [.int .i64 x10_2] from rfl) (Reps.none _ _))); intro v397 w48 ho49 hb hg_ hnew_; clear hg_ hnew_; (first | rw [← Ny396.out] at ho49 | (simp only [Int.reduceToNat] at ho49; rw [← Ny396.out] at ho49)); have n0_ := Aside0.mk (Kd.R_elder' (qr_ HO_6.out) (Kd.R_base ho49) hb); have n1_ := Aside0.mk (Kd.R_elder' (qr_ HO_7.out) (Kd.R_base ho49) hb); have n2_ := Aside0.mk (Kd.R_lower (Kd.R_new' (Kd.R_new' ho49 (Kd.R_lt (qr_ HO_6.out))) (Kd.R_lt (qr_ HO_7.out))) (below_size (q0_ HB.out))); have n3_ := Aside0.mk (below_step (q0_ HB.out) hb); clear HO_6; clear HO_7; clear HB; have HO_6 := n0_; have HO_7 := n1_; have HO398 := n2_; have HB := n3_; clear n0_ n1_ n2_ n3_; clear hb ho49; obtain ⟨Ao50, co50, eo50⟩ := Kd.R_slice HO398.out; subst eo50) | ((with_reducible refine gate_callee (f := 110) rfl ?_); refine goesL_ (some 64) rfl rfl Tryd.func110 (by kernel_rfl) rfl #[.slice Ao50 y396.length co50] rfl qe_ ?_; (with_reducible refine (merinoref01_trim.calls k2 _ _ y396 t399 _ ?side1 ?side2 A43.out).mono ?_); (case side1 => exact qc_ (Kd.R_reads' HO398.out).2.2); (case side2 => exact (Kd.R_reads' HO398.out).2.1); rintro e w51 ⟨v400, rfl, ho0, hb⟩; refine ⟨_, rfl, ?_⟩; have n0_ := Aside0.mk (Kd.R_elder' (qr_ HO_6.out) (Kd.R_base ho0) hb); have n1_ := Aside0.mk (Kd.R_elder' (qr_ HO_7.out) (Kd.R_base ho0) hb); have n2_ := Aside0.mk (Kd.R_elder' (qr_ HO398.out) (Kd.R_base ho0) hb); have n3_ := Aside0.mk (Kd.R_lower (Kd.R_new' (Kd.R_new' (Kd.R_new' ho0 (Kd.R_lt (qr_ HO_6.out))) (Kd.R_lt (qr_ HO_7.out))) (Kd.R_lt (qr_ HO398.out))) (below_size (q0_ HB.out))); have n4_ := Aside0.mk (below_step (q0_ HB.out) hb); clear HO_6; clear HO_7; clear HO398; clear HB; have HO_6 := n0_; have HO_7 := n1_; have HO398 := n2_; have HO401 := n3_; have HB := n4_; clear n0_ n1_ n2_ n3_ n4_; (try clear hb); (try clear hb2); (try clear hk); (try clear hi); (try clear ho0); obtain ⟨Ao52, co52, eo52⟩ := Kd.R_slice HO401.out; subst eo52) | ((with_reducible refine gate_callee (f := 74) rfl ?_); refine goesL_ (some 65) rfl rfl Tryd.func74 (by kernel_rfl) rfl #[.slice A1 l1.length c1, .slice Ao52 t399.length co52] rfl qe_ ?_; (with_reducible refine (merinoref01_mulD.calls k2 _ _ l1 _ _ t399 t402 _ ?side1 ?side2 ?side3 ?side4 A44.out).mono ?_); (case side1 => exact qc_ (Kd.C_below HR1.out HB.out)); (case side2 => exact HC1.out); (case side3 => exact qc_ (Kd.R_reads' HO401.out).2.2); (case side4 => exact (Kd.R_reads' HO401.out).2.1); rintro e w53 ⟨v403, rfl, ho0, hb⟩; refine ⟨_, rfl, ?_⟩; have n0_ := Aside0.mk (Kd.R_elder' (qr_ HO_6.out) (Kd.R_base ho0) hb); have n1_ := Aside0.mk (Kd.R_elder' (qr_ HO_7.out) (Kd.R_base ho0) hb); have n2_ := Aside0.mk (Kd.R_elder' (qr_ HO398.out) (Kd.R_base ho0) hb); have n3_ := Aside0.mk (Kd.R_elder' (qr_ HO401.out) (Kd.R_base ho0) hb); have n4_ := Aside0.mk (Kd.R_lower (Kd.R_new' (Kd.R_new' (Kd.R_new' (Kd.R_new' ho0 (Kd.R_lt (qr_ HO_6.out))) (Kd.R_lt (qr_ HO_7.out))) (Kd.R_lt (qr_ HO398.out))) (Kd.R_lt (qr_ HO401.out))) (below_size (q0_ HB.out))); have n5_ := Aside0.mk (below_step (q0_ HB.out) hb); clear HO_6; clear HO_7; clear HO398; clear HO401; clear HB; have HO_6 := n0_; have HO_7 := n1_; have HO398 := n2_; have HO401 := n3_; have HO404 := n4_; have HB := n5_; clear n0_ n1_ n2_ n3_ n4_ n5_; (try clear hb); (try clear hb2); (try clear hk); (try clear hi); (try clear ho0); obtain ⟨Ao54, co54, eo54⟩ := Kd.R_slice HO_7.out; subst eo54; obtain ⟨Ao55, co55, eo55⟩ := Kd.R_slice HO404.out; subst eo55) | ((with_reducible refine gate_callee (f := 107) rfl ?_); refine goesL_ (some 66) rfl rfl Tryd.func107 (by kernel_rfl) rfl #[.slice Ao54 t392.length co54, .slice Ao55 t402.length co55] rfl qe_ ?_; (with_reducible refine (merinoref01_subD.calls k2 _ _ t392 _ _ t402 t405 _ ?side1 ?side2 ?side3 ?side4 A45.out).mono ?_); (case side1 => exact qc_ (Kd.R_reads' HO_7.out).2.2); (case side2 => exact (Kd.R_reads' HO_7.out).2.1); (case side3 => exact qc_ (Kd.R_reads' HO404.out).2.2); (case side4 => exact (Kd.R_reads' HO404.out).2.1); rintro e w56 ⟨v406, rfl, ho0, hb⟩; refine ⟨_, rfl, ?_⟩; have n0_ := Aside0.mk (Kd.R_elder' (qr_ HO_6.out) (Kd.R_base ho0) hb); have n1_ := Aside0.mk (Kd.R_elder' (qr_ HO_7.out) (Kd.R_base ho0) hb); have n2_ := Aside0.mk (Kd.R_elder' (qr_ HO398.out) (Kd.R_base ho0) hb); have n3_ := Aside0.mk (Kd.R_elder' (qr_ HO401.out) (Kd.R_base ho0) hb); have n4_ := Aside0.mk (Kd.R_elder' (qr_ HO404.out) (Kd.R_base ho0) hb); have n5_ := Aside0.mk (Kd.R_lower (Kd.R_new' (Kd.R_new' (Kd.R_new' (Kd.R_new' (Kd.R_new' ho0 (Kd.R_lt (qr_ HO_6.out))) (Kd.R_lt (qr_ HO_7.out))) (Kd.R_lt (qr_ HO398.out))) (Kd.R_lt (qr_ HO401.out))) (Kd.R_lt (qr_ HO404.out))) (below_size (q0_ HB.out))); have n6_ := Aside0.mk (below_step (q0_ HB.out) hb); clear HO_6; clear HO_7; clear HO398; clear HO401; clear HO404; clear HB; have HO_6 := n0_; have HO_7 := n1_; have HO398 := n2_; have HO401 := n3_; have HO404 := n4_; have HO407 := n5_; have HB := n6_; clear n0_ n1_ n2_ n3_ n4_ n5_ n6_; (try clear hb); (try clear hb2); (try clear hk); (try clear hi); (try clear ho0)))
               go_roundg k2
               case measure => have := HK1.out; have := HK2.out; omega
               case rel => exact ⟨(y395), (t405), (wrap64 (x8_1 - 1)), (by first | rfl | (simp; done) | (simp [*]; done)), H', ⟨by have := HK1.out; have := HK2.out; omega⟩, ⟨by refine qr_ ?_; exact Kd.R_mono HO_6.out (fun _ hk => hk.2)⟩, ⟨by refine qr_ ?_; exact Kd.R_mono HO407.out (fun _ hk => hk.1.1.1.1.2)⟩, ⟨(q0_ HB.out)⟩⟩
              ·rw [if_neg c41] at H
               exact absurd H (by simp)
             ·rw [if_neg c40] at H
              exact absurd H (by simp)
         ·rw [if_neg c11] at H
          exact absurd H (by simp)
        ·rw [if_neg c10] at H
         exact absurd H (by simp)
       ·rw [if_neg c9] at H
        exact absurd H (by simp)
      ·rw [if_neg c8] at H
       have c8b0 : decide (0 ≤ x8_1) = false := decide_eq_false c8
       clear c8
       replace H := Option.bind_eq_some_iff.mp H
       obtain ⟨t382, A570, H⟩ := H
       replace H : (some (t382, x7_1)) = some (r1, r2) := H
       have A57 := Aside0.mk A570
       clear A570
       simp only [Option.some.injEq, Prod.mk.injEq] at H
       obtain ⟨rfl, rfl⟩ := H
       obtain ⟨Ao58, co58, eo58⟩ := Kd.R_slice HO_6.out
       subst eo58
       go_wp2_with (first | ((with_reducible refine gate_callee (f := 110) rfl ?_); refine goesL_ (some 68) rfl rfl Tryd.func110 (by kernel_rfl) rfl #[.slice Ao58 x6_1.length co58] rfl qe_ ?_; (with_reducible refine (merinoref01_trim.calls k1 _ _ x6_1 t382 _ ?side1 ?side2 A57.out).mono ?_); (case side1 => exact qc_ (Kd.R_reads' HO_6.out).2.2); (case side2 => exact (Kd.R_reads' HO_6.out).2.1); rintro e w59 ⟨v383, rfl, ho0, hb⟩; refine ⟨_, rfl, ?_⟩; have n0_ := Aside0.mk (Kd.R_elder' (qr_ HO_6.out) (Kd.R_base ho0) hb); have n1_ := Aside0.mk (Kd.R_elder' (qr_ HO_7.out) (Kd.R_base ho0) hb); have n2_ := Aside0.mk (Kd.R_lower (Kd.R_new' (Kd.R_new' ho0 (Kd.R_lt (qr_ HO_6.out))) (Kd.R_lt (qr_ HO_7.out))) (below_size (q0_ HB.out))); have n3_ := Aside0.mk (below_step (q0_ HB.out) hb); clear HO_6; clear HO_7; clear HB; have HO_6 := n0_; have HO_7 := n1_; have HO384 := n2_; have HB := n3_; clear n0_ n1_ n2_ n3_; (try clear hb); (try clear hb2); (try clear hk); (try clear hi); (try clear ho0)))
       go_ret2
       exact ⟨_, _, by first | rfl | (simp [errW_none, errW_some] <;> rfl) | (simp [*, errW_none, errW_some] <;> rfl), by refine qr_ ?_; exact Kd.R_mono HO384.out (fun _ hk => hk.2), by refine qr_ ?_; exact Kd.R_mono HO_7.out (fun _ hk => hk.2), (q0_ HB.out)⟩
   ·rw [if_neg c5] at H
    exact absurd H (by simp)
  ·rw [if_neg c4] at H
   exact absurd H (by simp)
end Go.Proofs.YtdjnneflpkllmaaDoor.Q

namespace Go.Proofs.Num
open Go.RowKit Go.Proofs.YtdjnneflpkllmaaDoorW.PrintWords Go.Proofs.YtdjnneflpkllmaaDoorW.PrintMore Go.Proofs.YtdjnneflpkllmaaDoor.Q
set_option linter.unusedVariables false
set_option linter.unusedSimpArgs false
theorem valD_snoc (l : List Int) (D : Int) : valD (l ++ [D]) = valD l + D * pw l.length := by
  rw [← vt_all (l ++ [D]) (i := l.length + 1) (by simp), vt_succ]
  congr 1
  · unfold vt; rw [List.take_left']; rfl
  · congr 1
    unfold at_; simp
theorem dig_snoc {l : List Int} {D : Int} (h : Dig l) (h0 : 0 ≤ D) (h1 : D < 10000) : Dig (l ++ [D]) := fun z hz => by
  rcases List.mem_append.1 hz with h' | h'
  · exact h z h'
  · rw [List.mem_singleton] at h'; subst h'; exact ⟨h0, h1⟩
theorem at_none {l : List Int} {i : Nat} (h : l.length ≤ i) : at_ l i = 0 := by
  unfold at_
  rw [List.getD_eq_getElem?_getD, List.getElem?_eq_none h]
  rfl
theorem sub_l0 {a b : List Int} (ha : Dig a) (hb : Dig b) (hs : a.length ≤ 1000) (hl : b.length ≤ a.length) (hle : valD b ≤ valD a) : ∀ (c i : Nat), a.length - i = c → i ≤ a.length → ∀ (out : List Int) (cy : Int), Dig out → out.length = i → (cy = 0 ∨ cy = 1) → valD out = vt a i - vt b i + cy * pw i →
    ∃ r, Ev (fun k => merinoref01_subD.l0 k a b out cy (i : Int)) r ∧ Good r (valD a - valD b) ∧ r.length ≤ a.length := by
  intro c
  induction c with
  | zero =>
    intro i hc hi out cy hd ho h01 hv
    obtain rfl : i = a.length := by omega
    rw [vt_all a (Nat.le_refl _), vt_all b hl] at hv
    have ob := valD_bd hd
    rw [ho] at ob
    have : cy = 0 := by
      rcases h01 with h | h
      · exact h
      · subst h; omega
    subst this
    obtain ⟨r, E, g, hr⟩ := trim_ok (l := out) (by unfold short; omega) hd
    rw [hv, Int.zero_mul, Int.add_zero] at g
    refine ⟨r, ?_, g, by omega⟩
    exact Ev.step (f := fun k => (merinoref01_trim.f k out).bind fun t238 => some t238) (fun k => by rw [merinoref01_subD.l0, if_neg (by omega)]) (Ev.bind E (Ev.now _))
  | succ c ih =>
    intro i hc hi out cy hd ho h01 hv
    have x := ha.at_ i
    have y := hb.at_ i
    obtain ⟨S, hS⟩ : ∃ S, S = at_ a i - cy - at_ b i := ⟨_, rfl⟩
    have R : ∀ k, merinoref01_subD.l0 (k + 1) a b out cy (i : Int) = if S < 0 then merinoref01_subD.l0 k a b (out ++ [S + 10000]) 1 ((i + 1 : Nat) : Int) else merinoref01_subD.l0 k a b (out ++ [S]) 0 ((i + 1 : Nat) : Int) := fun k => by
      rw [merinoref01_subD.l0, if_pos (by omega), if_pos (by omega), rd_nat, rd_nat, wd64 (x := at_ a i - cy) (by omega) (by omega), wd64 (x := (i : Int) + 1) (by omega) (by omega)]
      rw [show (i : Int) + 1 = ((i + 1 : Nat) : Int) by omega]
      by_cases hb' : (i : Int) < (b.length : Int)
      · rw [if_pos hb', ← hS, wd64 (x := S) (by omega) (by omega), wd64 (x := S + 10000) (by omega) (by omega)]
        by_cases h0 : S < 0
        · rw [if_pos h0, if_pos h0, if_pos (by omega)]
        · rw [if_neg h0, if_neg h0, if_pos (by omega)]
      · have hz : at_ b i = 0 := at_none (by omega)
        have hS' : at_ a i - cy = S := by omega
        rw [if_neg hb', hS', wd64 (x := S + 10000) (by omega) (by omega)]
        by_cases h0 : S < 0
        · rw [if_pos h0, if_pos h0, if_pos (by omega)]
        · rw [if_neg h0, if_neg h0, if_pos (by omega)]
    by_cases h0 : S < 0
    · obtain ⟨r, E, q⟩ := ih (i + 1) (by omega) (by omega) (out ++ [S + 10000]) 1 (dig_snoc hd (by omega) (by omega)) (by simp; omega) (.inr rfl) (by
        rw [valD_snoc, ho, hv, vt_succ, vt_succ, pw_succ, hS]
        grind)
      exact ⟨r, Ev.step (f := fun k => merinoref01_subD.l0 k a b (out ++ [S + 10000]) 1 ((i + 1 : Nat) : Int)) (fun k => by rw [R, if_pos h0]) E, q⟩
    · obtain ⟨r, E, q⟩ := ih (i + 1) (by omega) (by omega) (out ++ [S]) 0 (dig_snoc hd (by omega) (by omega)) (by simp; omega) (.inl rfl) (by
        rw [valD_snoc, ho, hv, vt_succ, vt_succ, pw_succ, hS]
        grind)
      exact ⟨r, Ev.step (f := fun k => merinoref01_subD.l0 k a b (out ++ [S]) 0 ((i + 1 : Nat) : Int)) (fun k => by rw [R, if_neg h0]) E, q⟩
theorem sub_ok {a b : List Int} {x y : Int} (ga : Good a x) (gb : Good b y) (hs : a.length ≤ 1000) (h : y ≤ x) : ∃ r, Ev (fun k => merinoref01_subD.f k a b) r ∧ Good r (x - y) ∧ r.length ≤ a.length := by
  have hl : b.length ≤ a.length := by
    rcases Nat.lt_or_ge a.length b.length with h1 | h1
    · have := lt_of_len ga.dig gb.dig gb.norm h1
      have := ga.val
      have := gb.val
      omega
    · exact h1
  rw [← ga.val, ← gb.val] at h ⊢
  exact sub_l0 ga.dig gb.dig hs hl h a.length 0 rfl (by omega) [] 0 (fun z hz => by cases hz) rfl (.inl rfl) (by simp [valD, vt_zero])
theorem one_ok {d : Int} (h0 : 0 ≤ d) (h1 : d < 10000) : ∃ r, Ev (fun k => merinoref01_trim.f k [d]) r ∧ Good r d ∧ r.length ≤ 1 := by
  obtain ⟨r, E, g, hr⟩ := trim_ok (l := [d]) (by simp [short]) (fun z hz => by rw [List.mem_singleton] at hz; subst hz; exact ⟨h0, h1⟩)
  refine ⟨r, E, ?_, by simpa using hr⟩
  have : valD [d] = d := by simp [valD]
  rw [this] at g
  exact g
theorem div_l1 {a b q rm : List Int} {B R : Int} (gb : Good b B) (gr : Good rm R) (hb : b.length ≤ 450) (hr : rm.length ≤ 900) (hB : 0 < B) {i : Int} {Q : List Int × List Int → Prop} (hi : 0 ≤ i) (hq : i < (q.length : Int))
    (K : ∀ lo rm', lo * B ≤ R → R < (lo + 1) * B → 0 ≤ lo → lo < 10000 → Good rm' (R - lo * B) → ∃ v, Ev (fun k => merinoref01_divD.l0 k a b (q.set i.toNat lo) rm' (wrap64 (i - 1))) v ∧ Q v) :
    ∀ (c : Nat) (lo hi : Int), hi - lo = c → 0 ≤ lo → lo ≤ hi → hi < 10000 → lo * B ≤ R → R < (hi + 1) * B → ∃ v, Ev (fun k => merinoref01_divD.l1 k a b q rm i lo hi) v ∧ Q v := by
  intro c
  induction c using Nat.strongRecOn with
  | ind c ih =>
    intro lo hi hc h0 hle h1 hl hu
    by_cases hlt : lo < hi
    · obtain ⟨M, hM⟩ : ∃ M, M = (lo + hi + 1) / 2 := ⟨_, rfl⟩
      have hM0 : lo < M ∧ M ≤ hi := by omega
      obtain ⟨dm, Ed, gd, ld⟩ := one_ok (d := M) (by omega) (by omega)
      obtain ⟨pm, Ep, gp, lp⟩ := mul_ok gb.dig gd.dig (by omega)
      rw [gb.val, gd.val] at gp
      have Ec := cmpD_ok gp gr (by omega)
      have S : ∀ v, Ev (fun k => if cmpI (B * M) R ≤ 0 then merinoref01_divD.l1 k a b q rm i M hi else merinoref01_divD.l1 k a b q rm i lo (M - 1)) v → Ev (fun k => merinoref01_divD.l1 k a b q rm i lo hi) v := fun v E => by
        refine Ev.step (f := fun k => (merinoref01_trim.f k [M]).bind fun t411 => ((merinoref01_mulD.f k b t411).bind fun t414 => ((merinoref01_cmpD.f k t414 rm).bind fun t417 => (if t417 ≤ 0 then (merinoref01_divD.l1 k a b q rm i M hi) else (merinoref01_divD.l1 k a b q rm i lo (M - 1)))))) (fun k => ?_) (Ev.bind Ed (Ev.bind Ep (Ev.bind Ec E)))
        rw [merinoref01_divD.l1, if_pos hlt, wd64 (x := lo + hi) (by omega) (by omega), wd64 (x := lo + hi + 1) (by omega) (by omega), Int.tdiv_eq_ediv_of_nonneg (by omega), ← hM, wd64 (x := M) (by omega) (by omega), wd64 (x := M - 1) (by omega) (by omega)]
      rcases Int.lt_or_le R (B * M) with hx | hx
      · have hcmp : ¬ cmpI (B * M) R ≤ 0 := by unfold cmpI; rw [if_neg (by omega), if_pos hx]; omega
        obtain ⟨v, E, hv⟩ := ih (M - 1 - lo).toNat (by omega) lo (M - 1) (by omega) h0 (by omega) (by omega) hl (by rw [show M - 1 + 1 = M by omega, Int.mul_comm]; exact hx)
        exact ⟨v, S v (by simp only [if_neg hcmp]; exact E), hv⟩
      · have hcmp : cmpI (B * M) R ≤ 0 := by unfold cmpI; (repeat' split) <;> omega
        obtain ⟨v, E, hv⟩ := ih (hi - M).toNat (by omega) M hi (by omega) (by omega) (by omega) h1 (by rw [Int.mul_comm]; exact hx) hu
        exact ⟨v, S v (by simp only [if_pos hcmp]; exact E), hv⟩
    · obtain rfl : lo = hi := by omega
      obtain ⟨dm, Ed, gd, ld⟩ := one_ok h0 h1
      obtain ⟨pm, Ep, gp, lp⟩ := mul_ok gb.dig gd.dig (by omega)
      rw [gb.val, gd.val, Int.mul_comm] at gp
      obtain ⟨rm', Es, gs, ls⟩ := sub_ok gr gp (by omega) hl
      obtain ⟨v, E, hv⟩ := K lo rm' hl hu h0 h1 gs
      refine ⟨v, ?_, hv⟩
      refine Ev.step (f := fun k => (merinoref01_trim.f k [lo]).bind fun t399 => ((merinoref01_mulD.f k b t399).bind fun t402 => ((merinoref01_subD.f k rm t402).bind fun t405 => (merinoref01_divD.l0 k a b (q.set i.toNat lo) t405 (wrap64 (i - 1)))))) (fun k => ?_) (Ev.bind Ed (Ev.bind Ep (Ev.bind Es E)))
      rw [merinoref01_divD.l1, if_neg hlt, if_pos hi, if_pos hq]
theorem div_l0 {a b : List Int} {B : Int} (ha : Dig a) (gb : Good b B) (hB : 0 < B) (hla : a.length ≤ 450) (hlb : b.length ≤ 450) : ∀ (m : Nat), m ≤ a.length → ∀ (q rm : List Int) (R : Int), Dig q → q.length = a.length → (∀ j, j < m → at_ q j = 0) → Good rm R → 0 ≤ R → R < B → valD a = vt a m + valD q * B + R * pw m →
    ∃ v, Ev (fun k => merinoref01_divD.l0 k a b q rm ((m : Int) - 1)) v ∧ (Good v.1 (valD a / B) ∧ Good v.2 (valD a % B)) := by
  intro m
  induction m with
  | zero =>
    intro hm q rm R hq hl hz gr R0 R1 hv
    obtain ⟨t, E, g, ht⟩ := trim_ok (l := q) (by unfold short; omega) hq
    rw [vt_zero, pw_zero] at hv
    have hv' : valD a = R + B * valD q := by grind
    refine ⟨(t, rm), ?_, ?_, ?_⟩
    · exact Ev.step (f := fun k => (merinoref01_trim.f k q).bind fun t382 => some (t382, rm)) (fun k => by rw [merinoref01_divD.l0, if_neg (by omega)]) (Ev.bind E (Ev.now _))
    · have : valD a / B = valD q := by rw [hv', Int.add_mul_ediv_left _ _ (by omega), Int.ediv_eq_zero_of_lt R0 R1, Int.zero_add]
      rw [this]
      exact g
    · have : valD a % B = R := by rw [hv', Int.add_mul_emod_self_left, Int.emod_eq_of_lt R0 R1]
      rw [this]
      exact gr
  | succ m ih =>
    intro hm q rm R hq hl hz gr R0 R1 hv
    have x := ha.at_ m
    have lr : rm.length ≤ b.length := gr.len (by have := (valD_bd gb.dig).2; rw [gb.val] at this; omega)
    have hd : Dig ([at_ a m] ++ rm) := fun z hzz => by
      rcases List.mem_append.1 hzz with h | h
      · rw [List.mem_singleton] at h; subst h; exact x
      · exact gr.dig z h
    obtain ⟨nx, E, gn, ln⟩ := trim_ok (l := [at_ a m] ++ rm) (by simp [short]; omega) hd
    have vn : valD ([at_ a m] ++ rm) = at_ a m + 10000 * R := by
      have := gr.val
      simp [valD, this]
    rw [vn] at gn
    obtain ⟨v, Ev', hv'⟩ := div_l1 (a := a) (q := q) gb gn hlb (by simp at ln; omega) hB (i := (m : Int)) (Q := fun v => Good v.1 (valD a / B) ∧ Good v.2 (valD a % B)) (by omega) (by omega) (fun lo rm' h1 h2 h3 h4 g => by
      have e : wrap64 ((m : Int) - 1) = (m : Int) - 1 := wd64 (by omega) (by omega)
      rw [e]
      have e2 : (lo + 1) * B = lo * B + B := by grind
      refine ih (by omega) (q.set m lo) rm' (at_ a m + 10000 * R - lo * B) (hq.set _ h3 h4) (by simpa using hl) (fun j hj => by rw [at_set_ne (by omega)]; exact hz j (by omega)) g (by omega) (by omega) ?_
      rw [valD_set _ _ _ (by omega), hz m (by omega), hv, vt_succ, pw_succ]
      grind) 9999 0 9999 (by omega) (by omega) (by omega) (by omega) (by omega) (by omega)
    refine ⟨v, ?_, hv'⟩
    have e : ((m + 1 : Nat) : Int) - 1 = (m : Int) := by omega
    rw [e]
    refine Ev.step (f := fun k => (merinoref01_trim.f k ([at_ a m] ++ rm)).bind fun t392 => merinoref01_divD.l1 k a b q t392 (m : Int) 0 9999) (fun k => ?_) (Ev.bind E Ev')
    rw [merinoref01_divD.l0, if_pos (by omega), if_pos (by omega), if_pos (by omega), rd_nat]
    simp only [Option.bind_some]
    rw [if_pos (by simp; omega)]
theorem div_ok {a b : List Int} {A B : Int} (ga : Good a A) (gb : Good b B) (hB : 0 < B) (hla : a.length ≤ 450) (hlb : b.length ≤ 450) : ∃ v, Ev (fun k => merinoref01_divD.f k a b) v ∧ (Good v.1 (A / B) ∧ Good v.2 (A % B)) := by
  have hb0 : b.length ≠ 0 := fun h => by
    have : b = [] := List.eq_nil_of_length_eq_zero h
    have := gb.zero_iff.1 this
    omega
  obtain ⟨v, E, h⟩ := div_l0 ga.dig gb hB hla hlb a.length (Nat.le_refl _) (List.replicate a.length 0) [] 0 (fun z hz => by rw [List.mem_replicate] at hz; omega) (by simp) (fun j _ => at_replicate _ _) Good.nil (by omega) hB (by rw [vt_all a (Nat.le_refl _), valD_replicate]; simp)
  rw [ga.val] at h
  refine ⟨v, ?_, h⟩
  have : (fun k => merinoref01_divD.f k a b) = fun k => merinoref01_divD.l0 k a b (List.replicate a.length 0) [] ((a.length : Int) - 1) := funext fun k => by
    unfold merinoref01_divD.f
    rw [if_neg (by omega), if_pos (by omega), if_pos (by omega), wd64 (by omega) (by omega)]
    rfl
  rw [this]
  exact E
end Go.Proofs.Num

namespace Go.Proofs.YtdjnneflpkllmaaDoor.Q
open Go.RowKit Go.Proofs.YtdjnneflpkllmaaDoorW.PrintWords Go.Proofs.YtdjnneflpkllmaaDoorW.PrintLast Go.Proofs.YtdjnneflpkllmaaDoorW.PrintMore
attribute [local go_sem] max2_int min2_int max_two min_two max_three min_three max_four min_four
set_option linter.unusedVariables false
set_option linter.unusedSimpArgs false
mutual
def merinoref01_addD.l0 : Nat → List Int → List Int → List Int → Int → Int → Option (List Int)
 | 0, _, _, _, _, _ => none
 | k + 1, x0, x1, x5, x6, x7 => if x7 < (x0.length : Int) then (merinoref01_addD.j1 k x0 x1 x5 x6 x7 true) else (if x7 < (x1.length : Int) then (merinoref01_addD.j1 k x0 x1 x5 x6 x7 true) else (merinoref01_addD.j1 k x0 x1 x5 x6 x7 (decide (x6 > 0))))
def merinoref01_addD.j1 : Nat → List Int → List Int → List Int → Int → Int → Bool → Option (List Int)
 | 0, _, _, _, _, _, _ => none
 | k + 1, x0, x1, x5, x6, x7, x22 => if x22 = true then (if x7 < (x0.length : Int) then (if 0 ≤ x7 then (if x7 < (x1.length : Int) then (if x5.length < 17592186044416 then (merinoref01_addD.l0 k x0 x1 (x5 ++ [Int.tmod (wrap64 ((wrap64 (x6 + (rd x0 x7))) + (rd x1 x7))) 10000]) (wrap64 (Int.tdiv (wrap64 ((wrap64 (x6 + (rd x0 x7))) + (rd x1 x7))) 10000)) (wrap64 (x7 + 1))) else (none)) else (if x5.length < 17592186044416 then (merinoref01_addD.l0 k x0 x1 (x5 ++ [Int.tmod (wrap64 (x6 + (rd x0 x7))) 10000]) (wrap64 (Int.tdiv (wrap64 (x6 + (rd x0 x7))) 10000)) (wrap64 (x7 + 1))) else (none))) else (none)) else (if x7 < (x1.length : Int) then (if 0 ≤ x7 then (if x5.length < 17592186044416 then (merinoref01_addD.l0 k x0 x1 (x5 ++ [Int.tmod (wrap64 (x6 + (rd x1 x7))) 10000]) (wrap64 (Int.tdiv (wrap64 (x6 + (rd x1 x7))) 10000)) (wrap64 (x7 + 1))) else (none)) else (none)) else (if x5.length < 17592186044416 then (merinoref01_addD.l0 k x0 x1 (x5 ++ [Int.tmod x6 10000]) (wrap64 (Int.tdiv x6 10000)) (wrap64 (x7 + 1))) else (none)))) else (some x5)
end
def merinoref01_addD.f (k : Nat) (l0 : List Int) (l1 : List Int) : Option (List Int) := merinoref01_addD.l0 k l0 l1 ([] : List Int) 0 0
set_option maxHeartbeats 8000000 in
set_option maxRecDepth 100000 in
theorem merinoref01_addD.calls (k : Nat) (A0 : Option Addr) (c0 : Nat) (l0 : List Int) (A1 : Option Addr) (c1 : Nat) (l1 : List Int) (r : List Int) (w : World) (hr0 : Kd.C (Kd.int .i64) w A0 l0.length l0) (hc0 : l0.length ≤ c0) (hr1 : Kd.C (Kd.int .i64) w A1 l1.length l1) (hc1 : l1.length ≤ c1) (h : merinoref01_addD.f k l0 l1 = some r) :
  Calls Tryd.prog 106 #[.slice A0 l0.length c0, .slice A1 l1.length c1] w fun e w' => ∃ v0_ : Value, e = .returned (v0_) ∧ Kd.R (Kd.int .i64) 3 w' w.heap.size (fun _ => True) v0_ r ∧ Below w.heap.size w w' := by
 have HR0 := Aside0.mk hr0
 have HC0 := Aside0.mk hc0
 clear hr0 hc0
 have HR1 := Aside0.mk hr1
 have HC1 := Aside0.mk hc1
 clear hr1 hc1
 have HB := Aside0.mk (Below.refl w.heap.size w)
 have H : (merinoref01_addD.l0 k l0 l1 ([] : List Int) 0 0) = some r := h
 clear h
 have H' := Aside0.mk H
 clear H
 go_enter Tryd.func106, Tryd.ntmps106
 go_wp2
 go_loopg [5, 6, 7] k (fun kq v5 v6 v7 w' => ∃ (x5_1 : List Int) (x6_1 : Int) (x7_1 : Int), v6 = .int .i64 x6_1 ∧ v7 = .int .i64 x7_1 ∧ Aside0 (merinoref01_addD.l0 kq l0 l1 x5_1 x6_1 x7_1 = some r) ∧ Aside0 (kq ≤ k) ∧ Aside0 (Kd.R (Kd.int .i64) 3 w' w.heap.size (fun _ => True) v5 x5_1) ∧ Aside0 (Below w.heap.size w w'))
 case atStart => exact ⟨(([] : List Int)), (0), (0), (by first | rfl | (simp; done) | (simp [*]; done)), (by first | rfl | (simp; done) | (simp [*]; done)), H', ⟨Nat.le_refl _⟩, ⟨by first | exact Kd.R_nil _ _ _ _ _ | exact Kd.N_nil _ _ _ _ _ | exact Kd.V_nil _ _ _ _ _ | exact Kd.Q_nil _ _ _ _ _ | exact Kd.S_nil _ _ _ _ _⟩, ⟨(q0_ HB.out)⟩⟩
 case round =>
  clear H'
  try clear c1
  try clear p2
  obtain ⟨x5_1, x6_1, x7_1, rfl, rfl, HA, HK1, HO_5, HB⟩ := hrel
  cases gk with
  | zero => exact absurd HA.out (by simp [merinoref01_addD.l0])
  | succ k1 =>
   have H := HA.out
   clear HA
   simp only [merinoref01_addD.l0] at H
   have HC3 := Aside0.mk H
   clear H
   go_upto_region 4 with (fail)
   go_cut [22] (fun v22 wc => ∃ (kq : Nat) (x22_2 : Bool), v22 = .bool x22_2 ∧ Aside0 (merinoref01_addD.j1 kq l0 l1 x5_1 x6_1 x7_1 x22_2 = some r) ∧ Aside0 (kq ≤ k1) ∧ Aside0 (Kd.R (Kd.int .i64) 3 wc w.heap.size (fun _ => True) u5 x5_1) ∧ Aside0 (Below w.heap.size w wc))
   case first =>
    have H := HC3.out
    clear HC3
    by_cases c4 : x7_1 < (l0.length : Int)
    ·rw [if_pos c4] at H
     have c4b0 : decide (x7_1 < (l0.length : Int)) = true := decide_eq_true c4
     clear c4
     (first | rw [c4b0] | (simp only [i64_w, i32_w]; rw [c4b0]) | skip)
     have H' := Aside0.mk H
     clear H
     go_wp2
     go_meet
     case rel => exact ⟨_, (true), (by first | rfl | (simp; done) | (simp [*]; done)), H', ⟨by have := HK1.out; first | omega | exact Nat.le_refl _⟩, ⟨by refine qr_ ?_; exact HO_5.out⟩, ⟨(q0_ HB.out)⟩⟩
    ·rw [if_neg c4] at H
     have c4b0 : decide (x7_1 < (l0.length : Int)) = false := decide_eq_false c4
     clear c4
     (first | rw [c4b0] | (simp only [i64_w, i32_w]; rw [c4b0]) | skip)
     by_cases c5 : x7_1 < (l1.length : Int)
     ·rw [if_pos c5] at H
      have c5b0 : decide (x7_1 < (l1.length : Int)) = true := decide_eq_true c5
      clear c5
      have H' := Aside0.mk H
      clear H
      go_wp2
      go_meet
      case rel => exact ⟨_, (true), (by first | rfl | (simp; done) | (simp [*]; done)), H', ⟨by have := HK1.out; first | omega | exact Nat.le_refl _⟩, ⟨by refine qr_ ?_; exact HO_5.out⟩, ⟨(q0_ HB.out)⟩⟩
     ·rw [if_neg c5] at H
      have c5b0 : decide (x7_1 < (l1.length : Int)) = false := decide_eq_false c5
      clear c5
      have H' := Aside0.mk H
      clear H
      go_wp2
      go_meet
      case rel => exact ⟨_, (decide (x6_1 > 0)), (by first | rfl | (simp; done) | (simp [*]; done)), H', ⟨by have := HK1.out; first | omega | exact Nat.le_refl _⟩, ⟨by refine qr_ ?_; exact HO_5.out⟩, ⟨(q0_ HB.out)⟩⟩
   case rest =>
    clear HC3
    try clear c1
    try clear p2
    try clear c4
    try clear c4b0
    try clear c5
    try clear c5b0
    try clear p2
    obtain ⟨kq, x22_2, rfl, HA, HJ2, HO_5, HB⟩ := hcut
    cases kq with
    | zero => exact absurd HA.out (by simp [merinoref01_addD.j1])
    | succ kj2 =>
     have H := HA.out
     clear HA
     simp only [merinoref01_addD.j1] at H
     by_cases c6 : x22_2 = true
     ·subst c6
      have H1 : (if x7_1 < (l0.length : Int) then (if 0 ≤ x7_1 then (if x7_1 < (l1.length : Int) then (if x5_1.length < 17592186044416 then (merinoref01_addD.l0 kj2 l0 l1 (x5_1 ++ [Int.tmod (wrap64 ((wrap64 (x6_1 + (rd l0 x7_1))) + (rd l1 x7_1))) 10000]) (wrap64 (Int.tdiv (wrap64 ((wrap64 (x6_1 + (rd l0 x7_1))) + (rd l1 x7_1))) 10000)) (wrap64 (x7_1 + 1))) else (none)) else (if x5_1.length < 17592186044416 then (merinoref01_addD.l0 kj2 l0 l1 (x5_1 ++ [Int.tmod (wrap64 (x6_1 + (rd l0 x7_1))) 10000]) (wrap64 (Int.tdiv (wrap64 (x6_1 + (rd l0 x7_1))) 10000)) (wrap64 (x7_1 + 1))) else (none))) else (none)) else (if x7_1 < (l1.length : Int) then (if 0 ≤ x7_1 then (if x5_1.length < 17592186044416 then (merinoref01_addD.l0 kj2 l0 l1 (x5_1 ++ [Int.tmod (wrap64 (x6_1 + (rd l1 x7_1))) 10000]) (wrap64 (Int.tdiv (wrap64 (x6_1 + (rd l1 x7_1))) 10000)) (wrap64 (x7_1 + 1))) else (none)) else (none)) else (if x5_1.length < 17592186044416 then (merinoref01_addD.l0 kj2 l0 l1 (x5_1 ++ [Int.tmod x6_1 10000]) (wrap64 (Int.tdiv x6_1 10000)) (wrap64 (x7_1 + 1))) else (none)))) = some r := by rw [if_pos rfl] at H; exact H
      clear H
      have H := H1
      clear H1
      by_cases c7 : x7_1 < (l0.length : Int)
      ·rw [if_pos c7] at H
       have c7b0 : decide (x7_1 < (l0.length : Int)) = true := decide_eq_true c7
       clear c7
       by_cases c8 : 0 ≤ x7_1
       ·rw [if_pos c8] at H
        have c8b0 : decide (0 ≤ x7_1) = true := decide_eq_true c8
        clear c8
        by_cases c9 : x7_1 < (l1.length : Int)
        ·rw [if_pos c9] at H
         have c9b0 : decide (x7_1 < (l1.length : Int)) = true := decide_eq_true c9
         clear c9
         by_cases c10 : x5_1.length < 17592186044416
         ·rw [if_pos c10] at H
          have LMc10 := Aside0.mk c10
          clear c10
          obtain ⟨y225, hy225⟩ : ∃ y_ : List Int, y_ = (x5_1 ++ [Int.tmod (wrap64 ((wrap64 (x6_1 + (rd l0 x7_1))) + (rd l1 x7_1))) 10000]) := ⟨_, rfl⟩
          replace H : (merinoref01_addD.l0 kj2 l0 l1 y225 (wrap64 (Int.tdiv (wrap64 ((wrap64 (x6_1 + (rd l0 x7_1))) + (rd l1 x7_1))) 10000)) (wrap64 (x7_1 + 1))) = some r := by first | (rw [hy225]; with_reducible exact H) | (have H2_ := (Option.bind_some _ _).symm.trans H; rw [hy225]; with_reducible exact H2_) | (have H2_ := (Option.bind_some _ _).symm.trans H; with_reducible exact H2_) | with_reducible exact H | (rw [hy225]; exact H) | exact H
          have Ny225 := Aside0.mk hy225
          clear hy225
          have H' := Aside0.mk H
          clear H
          have p223 : 0 ≤ (x7_1 : Int) := od_
          have q223 : x7_1 < (l0.length : Int) := od_
          obtain ⟨ad223, e223, hx223_0⟩ := Kd.at_int HR0.out x7_1 p223 q223
          cases e223
          replace hx223_0 := (HB.out.cell (World.block_lt_of_cell? w _ hx223_0)).trans hx223_0
          replace p223 := eq_true p223
          replace q223 := eq_true q223
          have p224 : 0 ≤ (x7_1 : Int) := od_
          have q224 : x7_1 < (l1.length : Int) := od_
          obtain ⟨ad224, e224, hx224_0⟩ := Kd.at_int HR1.out x7_1 p224 q224
          cases e224
          replace hx224_0 := (HB.out.cell (World.block_lt_of_cell? w _ hx224_0)).trans hx224_0
          replace p224 := eq_true p224
          replace q224 := eq_true q224
          go_wp2_with (first | ((with_reducible refine gate_builtin (b := .append) (xs := #[.tmp 46, .tmp 49]) rfl ?_); (try (refine gate_guard (by rfl) ?_; dsimp only)); at_builtin; refine Kd.R_append (Kd.int .i64) (w0 := w) w.heap.size rfl (.tmp 46) (.tmp 49) 29 3 (.int .i64 0) 8 rfl Tryd.underlying29 info3 rfl (by decide) (by omega) u5 x5_1 (Int.tmod (wrap64 ((wrap64 (x6_1 + (rd l0 x7_1))) + (rd l1 x7_1))) 10000) [.int .i64 (Int.tmod (wrap64 ((wrap64 (x6_1 + (rd l0 x7_1))) + (rd l1 x7_1))) 10000)] (fun _ => True) (fun _ => False) rfl rfl ?aP (fun _ hk => hk.elim) ?aF ?aO ?aB ?aS ?aL ?_; (case aP => exact rfl); (case aB => exact (q0_ HB.out)); (case aF => exact (fun _ _ => trivial)); (case aO => exact (qr_ HO_5.out)); (case aS => exact (below_size (q0_ HB.out))); (case aL => have := LMc10.out; omega); intro v226 w11 ho hb hg hat; rw [← Ny225.out] at ho; have n0_ := Aside0.mk (hb); have n1_ := Aside0.mk (ho); clear HB; clear HO_5; have HB := n0_; have HO227 := n1_; clear n0_ n1_; clear ho hb hg hat))
          go_roundg kj2
          case measure => have := HK1.out; have := HJ2.out; omega
          case rel => exact ⟨(y225), (wrap64 (Int.tdiv (wrap64 ((wrap64 (x6_1 + (rd l0 x7_1))) + (rd l1 x7_1))) 10000)), (wrap64 (x7_1 + 1)), (by first | rfl | (simp; done) | (simp [*]; done)), (by first | rfl | (simp; done) | (simp [*]; done)), H', ⟨by have := HK1.out; have := HJ2.out; omega⟩, ⟨by refine qr_ ?_; exact HO227.out⟩, ⟨(q0_ HB.out)⟩⟩
         ·rw [if_neg c10] at H
          exact absurd H (by simp)
        ·rw [if_neg c9] at H
         have c9b0 : decide (x7_1 < (l1.length : Int)) = false := decide_eq_false c9
         clear c9
         by_cases c12 : x5_1.length < 17592186044416
         ·rw [if_pos c12] at H
          have LMc12 := Aside0.mk c12
          clear c12
          obtain ⟨y228, hy228⟩ : ∃ y_ : List Int, y_ = (x5_1 ++ [Int.tmod (wrap64 (x6_1 + (rd l0 x7_1))) 10000]) := ⟨_, rfl⟩
          replace H : (merinoref01_addD.l0 kj2 l0 l1 y228 (wrap64 (Int.tdiv (wrap64 (x6_1 + (rd l0 x7_1))) 10000)) (wrap64 (x7_1 + 1))) = some r := by first | (rw [hy228]; with_reducible exact H) | (have H2_ := (Option.bind_some _ _).symm.trans H; rw [hy228]; with_reducible exact H2_) | (have H2_ := (Option.bind_some _ _).symm.trans H; with_reducible exact H2_) | with_reducible exact H | (rw [hy228]; exact H) | exact H
          have Ny228 := Aside0.mk hy228
          clear hy228
          have H' := Aside0.mk H
          clear H
          have p223 : 0 ≤ (x7_1 : Int) := od_
          have q223 : x7_1 < (l0.length : Int) := od_
          obtain ⟨ad223, e223, hx223_0⟩ := Kd.at_int HR0.out x7_1 p223 q223
          cases e223
          replace hx223_0 := (HB.out.cell (World.block_lt_of_cell? w _ hx223_0)).trans hx223_0
          replace p223 := eq_true p223
          replace q223 := eq_true q223
          go_wp2_with (first | ((with_reducible refine gate_builtin (b := .append) (xs := #[.tmp 46, .tmp 49]) rfl ?_); (try (refine gate_guard (by rfl) ?_; dsimp only)); at_builtin; refine Kd.R_append (Kd.int .i64) (w0 := w) w.heap.size rfl (.tmp 46) (.tmp 49) 29 3 (.int .i64 0) 8 rfl Tryd.underlying29 info3 rfl (by decide) (by omega) u5 x5_1 (Int.tmod (wrap64 (x6_1 + (rd l0 x7_1))) 10000) [.int .i64 (Int.tmod (wrap64 (x6_1 + (rd l0 x7_1))) 10000)] (fun _ => True) (fun _ => False) rfl rfl ?aP (fun _ hk => hk.elim) ?aF ?aO ?aB ?aS ?aL ?_; (case aP => exact rfl); (case aB => exact (q0_ HB.out)); (case aF => exact (fun _ _ => trivial)); (case aO => exact (qr_ HO_5.out)); (case aS => exact (below_size (q0_ HB.out))); (case aL => have := LMc12.out; omega); intro v229 w13 ho hb hg hat; rw [← Ny228.out] at ho; have n0_ := Aside0.mk (hb); have n1_ := Aside0.mk (ho); clear HB; clear HO_5; have HB := n0_; have HO230 := n1_; clear n0_ n1_; clear ho hb hg hat))
          go_roundg kj2
          case measure => have := HK1.out; have := HJ2.out; omega
          case rel => exact ⟨(y228), (wrap64 (Int.tdiv (wrap64 (x6_1 + (rd l0 x7_1))) 10000)), (wrap64 (x7_1 + 1)), (by first | rfl | (simp; done) | (simp [*]; done)), (by first | rfl | (simp; done) | (simp [*]; done)), H', ⟨by have := HK1.out; have := HJ2.out; omega⟩, ⟨by refine qr_ ?_; exact HO230.out⟩, ⟨(q0_ HB.out)⟩⟩
         ·rw [if_neg c12] at H
          exact absurd H (by simp)
       ·rw [if_neg c8] at H
        exact absurd H (by simp)
      ·rw [if_neg c7] at H
       have c7b0 : decide (x7_1 < (l0.length : Int)) = false := decide_eq_false c7
       clear c7
       by_cases c14 : x7_1 < (l1.length : Int)
       ·rw [if_pos c14] at H
        have c14b0 : decide (x7_1 < (l1.length : Int)) = true := decide_eq_true c14
        clear c14
        by_cases c15 : 0 ≤ x7_1
        ·rw [if_pos c15] at H
         have c15b0 : decide (0 ≤ x7_1) = true := decide_eq_true c15
         clear c15
         by_cases c16 : x5_1.length < 17592186044416
         ·rw [if_pos c16] at H
          have LMc16 := Aside0.mk c16
          clear c16
          obtain ⟨y232, hy232⟩ : ∃ y_ : List Int, y_ = (x5_1 ++ [Int.tmod (wrap64 (x6_1 + (rd l1 x7_1))) 10000]) := ⟨_, rfl⟩
          replace H : (merinoref01_addD.l0 kj2 l0 l1 y232 (wrap64 (Int.tdiv (wrap64 (x6_1 + (rd l1 x7_1))) 10000)) (wrap64 (x7_1 + 1))) = some r := by first | (rw [hy232]; with_reducible exact H) | (have H2_ := (Option.bind_some _ _).symm.trans H; rw [hy232]; with_reducible exact H2_) | (have H2_ := (Option.bind_some _ _).symm.trans H; with_reducible exact H2_) | with_reducible exact H | (rw [hy232]; exact H) | exact H
          have Ny232 := Aside0.mk hy232
          clear hy232
          have H' := Aside0.mk H
          clear H
          have p231 : 0 ≤ (x7_1 : Int) := od_
          have q231 : x7_1 < (l1.length : Int) := od_
          obtain ⟨ad231, e231, hx231_0⟩ := Kd.at_int HR1.out x7_1 p231 q231
          cases e231
          replace hx231_0 := (HB.out.cell (World.block_lt_of_cell? w _ hx231_0)).trans hx231_0
          replace p231 := eq_true p231
          replace q231 := eq_true q231
          go_wp2_with (first | ((with_reducible refine gate_builtin (b := .append) (xs := #[.tmp 46, .tmp 49]) rfl ?_); (try (refine gate_guard (by rfl) ?_; dsimp only)); at_builtin; refine Kd.R_append (Kd.int .i64) (w0 := w) w.heap.size rfl (.tmp 46) (.tmp 49) 29 3 (.int .i64 0) 8 rfl Tryd.underlying29 info3 rfl (by decide) (by omega) u5 x5_1 (Int.tmod (wrap64 (x6_1 + (rd l1 x7_1))) 10000) [.int .i64 (Int.tmod (wrap64 (x6_1 + (rd l1 x7_1))) 10000)] (fun _ => True) (fun _ => False) rfl rfl ?aP (fun _ hk => hk.elim) ?aF ?aO ?aB ?aS ?aL ?_; (case aP => exact rfl); (case aB => exact (q0_ HB.out)); (case aF => exact (fun _ _ => trivial)); (case aO => exact (qr_ HO_5.out)); (case aS => exact (below_size (q0_ HB.out))); (case aL => have := LMc16.out; omega); intro v233 w17 ho hb hg hat; rw [← Ny232.out] at ho; have n0_ := Aside0.mk (hb); have n1_ := Aside0.mk (ho); clear HB; clear HO_5; have HB := n0_; have HO234 := n1_; clear n0_ n1_; clear ho hb hg hat))
          go_roundg kj2
          case measure => have := HK1.out; have := HJ2.out; omega
          case rel => exact ⟨(y232), (wrap64 (Int.tdiv (wrap64 (x6_1 + (rd l1 x7_1))) 10000)), (wrap64 (x7_1 + 1)), (by first | rfl | (simp; done) | (simp [*]; done)), (by first | rfl | (simp; done) | (simp [*]; done)), H', ⟨by have := HK1.out; have := HJ2.out; omega⟩, ⟨by refine qr_ ?_; exact HO234.out⟩, ⟨(q0_ HB.out)⟩⟩
         ·rw [if_neg c16] at H
          exact absurd H (by simp)
        ·rw [if_neg c15] at H
         exact absurd H (by simp)
       ·rw [if_neg c14] at H
        have c14b0 : decide (x7_1 < (l1.length : Int)) = false := decide_eq_false c14
        clear c14
        by_cases c18 : x5_1.length < 17592186044416
        ·rw [if_pos c18] at H
         have LMc18 := Aside0.mk c18
         clear c18
         obtain ⟨y235, hy235⟩ : ∃ y_ : List Int, y_ = (x5_1 ++ [Int.tmod x6_1 10000]) := ⟨_, rfl⟩
         replace H : (merinoref01_addD.l0 kj2 l0 l1 y235 (wrap64 (Int.tdiv x6_1 10000)) (wrap64 (x7_1 + 1))) = some r := by first | (rw [hy235]; with_reducible exact H) | (have H2_ := (Option.bind_some _ _).symm.trans H; rw [hy235]; with_reducible exact H2_) | (have H2_ := (Option.bind_some _ _).symm.trans H; with_reducible exact H2_) | with_reducible exact H | (rw [hy235]; exact H) | exact H
         have Ny235 := Aside0.mk hy235
         clear hy235
         have H' := Aside0.mk H
         clear H
         go_wp2_with (first | ((with_reducible refine gate_builtin (b := .append) (xs := #[.tmp 46, .tmp 49]) rfl ?_); (try (refine gate_guard (by rfl) ?_; dsimp only)); at_builtin; refine Kd.R_append (Kd.int .i64) (w0 := w) w.heap.size rfl (.tmp 46) (.tmp 49) 29 3 (.int .i64 0) 8 rfl Tryd.underlying29 info3 rfl (by decide) (by omega) u5 x5_1 (Int.tmod x6_1 10000) [.int .i64 (Int.tmod x6_1 10000)] (fun _ => True) (fun _ => False) rfl rfl ?aP (fun _ hk => hk.elim) ?aF ?aO ?aB ?aS ?aL ?_; (case aP => exact rfl); (case aB => exact (q0_ HB.out)); (case aF => exact (fun _ _ => trivial)); (case aO => exact (qr_ HO_5.out)); (case aS => exact (below_size (q0_ HB.out))); (case aL => have := LMc18.out; omega); intro v236 w19 ho hb hg hat; rw [← Ny235.out] at ho; have n0_ := Aside0.mk (hb); have n1_ := Aside0.mk (ho); clear HB; clear HO_5; have HB := n0_; have HO237 := n1_; clear n0_ n1_; clear ho hb hg hat))
         go_roundg kj2
         case measure => have := HK1.out; have := HJ2.out; omega
         case rel => exact ⟨(y235), (wrap64 (Int.tdiv x6_1 10000)), (wrap64 (x7_1 + 1)), (by first | rfl | (simp; done) | (simp [*]; done)), (by first | rfl | (simp; done) | (simp [*]; done)), H', ⟨by have := HK1.out; have := HJ2.out; omega⟩, ⟨by refine qr_ ?_; exact HO237.out⟩, ⟨(q0_ HB.out)⟩⟩
        ·rw [if_neg c18] at H
         exact absurd H (by simp)
     ·replace c6 := Bool.eq_false_iff.mpr c6
      subst c6
      have H1 : (some x5_1) = some r := by rw [if_neg (show ¬ (false = true) by decide)] at H; exact H
      clear H
      have H := H1
      clear H1
      obtain rfl := Option.some.inj H
      go_wp2
      go_ret
      exact ⟨_, by first | rfl | (simp [errW_none, errW_some] <;> rfl) | (simp [*, errW_none, errW_some] <;> rfl), by refine qr_ ?_; exact HO_5.out, (q0_ HB.out)⟩
def merinoref01_Plus.f (k : Nat) (a0_0 : Bool) (l0_1 : List Int) (a1_0 : Bool) (l1_1 : List Int) : Option (Bool × List Int) := if (a0_0 == a1_0) = true then ((merinoref01_addD.f k l0_1 l1_1).bind fun t258 => ((merinoref01_whole.f k a0_0 t258).bind fun bt261 => (some (bt261.1, bt261.2)))) else ((merinoref01_cmpD.f k l0_1 l1_1).bind fun t265 => (if t265 ≥ 0 then ((merinoref01_subD.f k l0_1 l1_1).bind fun t266 => ((merinoref01_whole.f k a0_0 t266).bind fun bt269 => (some (bt269.1, bt269.2)))) else ((merinoref01_subD.f k l1_1 l0_1).bind fun t273 => ((merinoref01_whole.f k a1_0 t273).bind fun bt276 => (some (bt276.1, bt276.2))))))
def merinoref01_Plus.T2 : Bool × List (List Nat × List Nat) := (true, [([], []), ([0], [0]), ([], []), ([2], [2]), ([], []), ([4], [4]), ([3, 5], [3, 5]), ([1, 6, 6], [1, 6]), ([7, 7, 0, 1, 2, 3, 4, 5, 6, 7], [7])])
def merinoref01_Plus.B2 : List Nat := [0, 1, 0, 4, 0, 16, 60, 127, 255]
theorem merinoref01_Plus.tab2 : rtab .any (opsOf Tryd.f84 2) = merinoref01_Plus.T2 := by kernel_rfl
theorem merinoref01_Plus.bits2 : waitsOk merinoref01_Plus.T2.2 merinoref01_Plus.B2 = true := by kernel_rfl
def merinoref01_Plus.T4 : Bool × List (List Nat × List Nat) := (true, [([], []), ([0], [0]), ([], []), ([2], [2]), ([], []), ([4], [4]), ([3, 5], [3, 5]), ([1, 6, 6], [1, 6]), ([7, 7, 0, 1, 2, 3, 4, 5, 6, 7], [7])])
def merinoref01_Plus.B4 : List Nat := [0, 1, 0, 4, 0, 16, 60, 127, 255]
theorem merinoref01_Plus.tab4 : rtab .any (opsOf Tryd.f84 4) = merinoref01_Plus.T4 := by kernel_rfl
theorem merinoref01_Plus.bits4 : waitsOk merinoref01_Plus.T4.2 merinoref01_Plus.B4 = true := by kernel_rfl
def merinoref01_Plus.T5 : Bool × List (List Nat × List Nat) := (true, [([], []), ([0], [0]), ([], []), ([2], [2]), ([], []), ([4], [4]), ([3, 5], [3, 5]), ([1, 6, 6], [1, 6]), ([7, 7, 0, 1, 2, 3, 4, 5, 6, 7], [7])])
def merinoref01_Plus.B5 : List Nat := [0, 1, 0, 4, 0, 16, 60, 127, 255]
theorem merinoref01_Plus.tab5 : rtab .any (opsOf Tryd.f84 5) = merinoref01_Plus.T5 := by kernel_rfl
theorem merinoref01_Plus.bits5 : waitsOk merinoref01_Plus.T5.2 merinoref01_Plus.B5 = true := by kernel_rfl
set_option maxHeartbeats 8000000 in
set_option maxRecDepth 100000 in
theorem merinoref01_Plus.calls (k : Nat) (a0_0 : Bool) (A0_1 : Option Addr) (c0_1 : Nat) (l0_1 : List Int) (a1_0 : Bool) (A1_1 : Option Addr) (c1_1 : Nat) (l1_1 : List Int) (r1 : Bool) (r2 : List Int) (w : World) (hr0_1 : Kd.C (Kd.int .i64) w A0_1 l0_1.length l0_1) (hc0_1 : l0_1.length ≤ c0_1) (hr1_1 : Kd.C (Kd.int .i64) w A1_1 l1_1.length l1_1) (hc1_1 : l1_1.length ≤ c1_1) (h : merinoref01_Plus.f k a0_0 l0_1 a1_0 l1_1 = some (r1, r2)) :
  Calls Tryd.prog 84 #[.agg #[.bool a0_0, .slice A0_1 l0_1.length c0_1], .agg #[.bool a1_0, .slice A1_1 l1_1.length c1_1]] w fun e w' => ∃ v1_ : Value, e = .returned (.agg #[.bool r1, v1_]) ∧ Kd.R (Kd.int .i64) 3 w' w.heap.size (fun _ => True) v1_ r2 ∧ Below w.heap.size w w' := by
 have hu31 := Tryd.underlying31
 have HR0_1 := Aside0.mk hr0_1
 have HC0_1 := Aside0.mk hc0_1
 clear hr0_1 hc0_1
 have HR1_1 := Aside0.mk hr1_1
 have HC1_1 := Aside0.mk hc1_1
 clear hr1_1 hc1_1
 have HB := Aside0.mk (Below.refl w.heap.size w)
 have H : (if (a0_0 == a1_0) = true then ((merinoref01_addD.f k l0_1 l1_1).bind fun t258 => ((merinoref01_whole.f k a0_0 t258).bind fun bt261 => (some (bt261.1, bt261.2)))) else ((merinoref01_cmpD.f k l0_1 l1_1).bind fun t265 => (if t265 ≥ 0 then ((merinoref01_subD.f k l0_1 l1_1).bind fun t266 => ((merinoref01_whole.f k a0_0 t266).bind fun bt269 => (some (bt269.1, bt269.2)))) else ((merinoref01_subD.f k l1_1 l0_1).bind fun t273 => ((merinoref01_whole.f k a1_0 t273).bind fun bt276 => (some (bt276.1, bt276.2))))))) = some (r1, r2) := h
 clear h
 by_cases c3 : (a0_0 == a1_0) = true
 ·rw [if_pos c3] at H
  have c3b0 : (a0_0 == a1_0) = true := c3
  (try (have c3b1 : decide (a0_0 = a1_0) = true := by simpa using c3))
  (try (have c3b2 : (a0_0 == a1_0) = true := by simpa using c3))
  clear c3
  replace H := Option.bind_eq_some_iff.mp H
  obtain ⟨t258, A40, H⟩ := H
  replace H : ((merinoref01_whole.f k a0_0 t258).bind fun bt261 => (some (bt261.1, bt261.2))) = some (r1, r2) := H
  have A4 := Aside0.mk A40
  clear A40
  replace H := Option.bind_eq_some_iff.mp H
  obtain ⟨⟨t261, t262⟩, A50, H⟩ := H
  replace H : (some (t261, t262)) = some (r1, r2) := H
  have A5 := Aside0.mk A50
  clear A50
  simp only [Option.some.injEq, Prod.mk.injEq] at H
  obtain ⟨rfl, rfl⟩ := H
  go_enter Tryd.func84, Tryd.ntmps84
  try go_wp2_with (first | ((with_reducible refine gate_dst (N := 2) rfl ?_); refine qx_ 2 #[.bool a0_0, .slice A0_1 l0_1.length c0_1] 31 ?hr ?_; (case hr => first | (go_simp; done) | (go_simp; rfl)); intro gb255 hg w6 hbox hb; have n0_ := Aside0.mk (below_step (q0_ HB.out) hb); have n1_ := Aside0.mk (hbox); have n2_ := Aside0.mk (qs_ hg (q0_ HB.out) : w.heap.size ≤ gb255); have n3_ := n2_; clear HB; have HB := n0_; have BK255 := n1_; have GW255 := n2_; have GE255 := n3_; clear n0_ n1_ n2_ n3_; clear hb hbox hg) | ((with_reducible refine gate_dst (N := 3) rfl ?_); refine qx_ 3 #[.bool a1_0, .slice A1_1 l1_1.length c1_1] 31 ?hr ?_; (case hr => first | (go_simp; done) | (go_simp; rfl)); intro gb256 hg w7 hbox hb; have n0_ := Aside0.mk (qk_ BK255.out hb); have n1_ := Aside0.mk (below_step (q1_ HB.out GE255.out) hb); have n2_ := Aside0.mk (hbox); have n3_ := Aside0.mk (qs_ hg (q1_ HB.out GE255.out) : w.heap.size ≤ gb256); have n4_ := n3_; have n5_ := Aside0.mk (qn_ hg BK255.out); have n6_ := Aside0.mk (Ne.symm (qn_ hg BK255.out)); clear BK255; clear HB; have BK255 := n0_; have HB := n1_; have BK256 := n2_; have GW256 := n3_; have GE256 := n4_; have NB255_256 := n5_; have NB256_255 := n6_; clear n0_ n1_ n2_ n3_ n4_ n5_ n6_; clear hb hbox hg) | ((with_reducible refine gate_dst (N := 4) rfl ?_); refine qx_ 4 #[.bool false, .slice none 0 0] 31 ?hr ?_; (case hr => first | (go_simp; done) | (go_simp; rfl)); intro gb257 hg w8 hbox hb; have n0_ := Aside0.mk (qk_ BK255.out hb); have n1_ := Aside0.mk (qk_ BK256.out hb); have n2_ := Aside0.mk (below_step (q2_ HB.out GE255.out GE256.out) hb); have n3_ := Aside0.mk (hbox); have n4_ := Aside0.mk (qs_ hg (q2_ HB.out GE255.out GE256.out) : w.heap.size ≤ gb257); have n5_ := n4_; have n6_ := Aside0.mk (qn_ hg BK255.out); have n7_ := Aside0.mk (Ne.symm (qn_ hg BK255.out)); have n8_ := Aside0.mk (qn_ hg BK256.out); have n9_ := Aside0.mk (Ne.symm (qn_ hg BK256.out)); clear BK255; clear BK256; clear HB; have BK255 := n0_; have BK256 := n1_; have HB := n2_; have BK257 := n3_; have GW257 := n4_; have GE257 := n5_; have NB255_257 := n6_; have NB257_255 := n7_; have NB256_257 := n8_; have NB257_256 := n9_; clear n0_ n1_ n2_ n3_ n4_ n5_ n6_ n7_ n8_ n9_; clear hb hbox hg; have hnb9 := NB255_256.out; have hnc9 := NB256_255.out; have hnb10 := NB255_257.out; have hnc10 := NB257_255.out; have hcz11_0 : w8.cell? ⟨gb255, 0, none⟩ = some (.bool a0_0) := (blk_cell BK255.out 0).trans rfl; have hcz11_1 : w8.cell? ⟨gb255, 1, none⟩ = some (.slice A0_1 l0_1.length c0_1) := (blk_cell BK255.out 1).trans rfl; have hfz11_0 := blk_frozen BK255.out 0; have hfz11_1 := blk_frozen BK255.out 1; have hnb12 := NB256_257.out; have hnc12 := NB257_256.out; have hcz13_0 : w8.cell? ⟨gb256, 0, none⟩ = some (.bool a1_0) := (blk_cell BK256.out 0).trans rfl; have hcz13_1 : w8.cell? ⟨gb256, 1, none⟩ = some (.slice A1_1 l1_1.length c1_1) := (blk_cell BK256.out 1).trans rfl; have hfz13_0 := blk_frozen BK256.out 0; have hfz13_1 := blk_frozen BK256.out 1))
  have n0_ := Aside0.mk (blk_drew BK255.out)
  have n1_ := Aside0.mk (blk_drew BK256.out)
  have n2_ := Aside0.mk (blk_drew BK257.out)
  have n3_ := Aside0.mk (below_drew1 HB.out)
  clear BK255
  clear BK256
  clear BK257
  clear HB
  have BK255 := n0_
  have BK256 := n1_
  have BK257 := n2_
  have HB := n3_
  clear n0_ n1_ n2_ n3_
  refine start_ (n := 9) (S := fun w' => w'.cell? ⟨gb255, 0, none⟩ = some (.bool a0_0) ∧ w'.cell? ⟨gb255, 1, none⟩ = some (.slice A0_1 l0_1.length c0_1) ∧ w'.cell? ⟨gb256, 0, none⟩ = some (.bool a1_0) ∧ w'.cell? ⟨gb256, 1, none⟩ = some (.slice A1_1 l1_1.length c1_1)) (ds := []) #[false, false, false, false, false, false, false, false, false] (by kernel_rfl) rfl rfl ⟨(blk_cell BK255.out 0).trans rfl, (blk_cell BK255.out 1).trans rfl, (blk_cell BK256.out 0).trans rfl, (blk_cell BK256.out 1).trans rfl⟩ (fun hHeld => ?_); refine with_tabW merinoref01_Plus.tab2 merinoref01_Plus.bits2 (fun HT_ HW_ => ?_)
  generalize w8.drew = w14 at BK255 BK256 BK257 HB hHeld ⊢
  refine pu_ 0 10 9 1 HT_.out ?_
  refine pu_ 2 12 9 5 HT_.out ?_
  refine pu_ 4 14 9 21 HT_.out ?_
  refine ta_ 1 11 9 23 rfl rfl HT_.out HW_.out hHeld (Or.inl ⟨by rfl, by rintro w' ⟨s0, s1, s2, s3⟩; go_simp; with_reducible rfl⟩) ?_
  refine ta_ 3 13 9 31 rfl rfl HT_.out HW_.out hHeld (Or.inl ⟨by rfl, by rintro w' ⟨s0, s1, s2, s3⟩; go_simp; with_reducible rfl⟩) ?_
  refine ta_ 5 15 9 63 rfl rfl HT_.out HW_.out hHeld (Or.inl ⟨by rfl, by rintro w' ⟨s0, s1, s2, s3⟩; go_simp; with_reducible rfl⟩) ?_
  refine one_ (i := 6) (N := some 16) #[true, true, true, true, true, true, true, false, false] rfl rfl (one_of HT_.out (by kernel_rfl)) (by decide) (fun K hK => ?_)
  refine goes_ Tryd.func106 (by kernel_rfl) rfl #[.slice A0_1 l0_1.length c0_1, .slice A1_1 l1_1.length c1_1] (by rfl) rfl rfl qe_ ?_
  with_reducible refine (merinoref01_addD.calls k _ _ l0_1 _ _ l1_1 t258 _ ?side1 ?side2 ?side3 ?side4 A4.out).mono ?_
  (case side1 => exact qc_ (Kd.C_below HR0_1.out HB.out))
  (case side2 => exact HC0_1.out)
  (case side3 => exact qc_ (Kd.C_below HR1_1.out HB.out))
  (case side4 => exact HC1_1.out)
  rintro e w15 ⟨v259, rfl, ho0, hb⟩
  refine ⟨_, rfl, ?_⟩
  have n0_ := Aside0.mk (Kd.R_lower ho0 (below_size (q3_ HB.out GE255.out GE256.out GE257.out)))
  have n1_ := Aside0.mk (qk_ BK255.out hb)
  have n2_ := Aside0.mk (qk_ BK256.out hb)
  have n3_ := Aside0.mk (qk_ BK257.out hb)
  have n4_ := Aside0.mk (below_step (q3_ HB.out GE255.out GE256.out GE257.out) hb)
  clear BK255
  clear BK256
  clear BK257
  clear HB
  have HO260 := n0_
  have BK255 := n1_
  have BK256 := n2_
  have BK257 := n3_
  have HB := n4_
  clear n0_ n1_ n2_ n3_ n4_
  (try clear hb)
  (try clear hb2)
  (try clear hk)
  (try clear hi)
  (try clear ho0)
  obtain ⟨Ao16, co16, eo16⟩ := Kd.R_slice HO260.out
  (first | subst eo16 | (injection eo16 with f1_ f2_ f3_; have f4_ := f1_.symm; have f5_ := f3_.symm; clear f1_ f2_ f3_; subst f4_; subst f5_))
  refine hK.out _ _ ⟨(blk_cell BK255.out 0).trans rfl, (blk_cell BK255.out 1).trans rfl, (blk_cell BK256.out 0).trans rfl, (blk_cell BK256.out 1).trans rfl⟩ (fun hHeld => ?_)
  clear hK K
  refine norm_ (a' := ?_) ?_ ?_
  rotate_left
  ·show Act.put _ (some 16) _ = _
   simp only [Act.put, List.setIfInBounds_toArray, List.set_cons_zero, List.set_cons_succ, i64_w, i32_w]
   rfl
  refine one_ (i := 7) (N := some 17) #[true, true, true, true, true, true, true, true, false] rfl rfl (one_of HT_.out (by kernel_rfl)) (by decide) (fun K hK => ?_)
  refine goes_ Tryd.func73 (by kernel_rfl) rfl #[.bool a0_0, .slice Ao16 t258.length co16] (by rfl) rfl rfl qe_ ?_
  with_reducible refine (merinoref01_whole.calls k a0_0 _ _ t258 t261 t262 _ ?side1 ?side2 A5.out).mono ?_
  (case side1 => exact qc_ (Kd.R_reads' HO260.out).2.2)
  (case side2 => exact (Kd.R_reads' HO260.out).2.1)
  rintro e w17 ⟨v263, rfl, ho0, hb⟩
  refine ⟨_, rfl, ?_⟩
  have n0_ := Aside0.mk (Kd.R_elder' (qr_ HO260.out) (Kd.R_base ho0) hb)
  have n1_ := Aside0.mk (Kd.R_lower (Kd.R_new' ho0 (Kd.R_lt (qr_ HO260.out))) (below_size (q3_ HB.out GE255.out GE256.out GE257.out)))
  have n2_ := Aside0.mk (qk_ BK255.out hb)
  have n3_ := Aside0.mk (qk_ BK256.out hb)
  have n4_ := Aside0.mk (qk_ BK257.out hb)
  have n5_ := Aside0.mk (below_step (q3_ HB.out GE255.out GE256.out GE257.out) hb)
  clear HO260
  clear BK255
  clear BK256
  clear BK257
  clear HB
  have HO260 := n0_
  have HO264 := n1_
  have BK255 := n2_
  have BK256 := n3_
  have BK257 := n4_
  have HB := n5_
  clear n0_ n1_ n2_ n3_ n4_ n5_
  (try clear hb)
  (try clear hb2)
  (try clear hk)
  (try clear hi)
  (try clear ho0)
  obtain ⟨Ao19, co19, eo19⟩ := Kd.R_slice HO264.out
  (first | subst eo19 | (injection eo19 with f1_ f2_ f3_; have f4_ := f1_.symm; have f5_ := f3_.symm; clear f1_ f2_ f3_; subst f4_; subst f5_))
  refine hK.out _ _ ⟨(blk_cell BK255.out 0).trans rfl, (blk_cell BK255.out 1).trans rfl, (blk_cell BK256.out 0).trans rfl, (blk_cell BK256.out 1).trans rfl⟩ (fun hHeld => ?_)
  clear hK K
  refine norm_ (a' := ?_) ?_ ?_
  rotate_left
  ·show Act.put _ (some 17) _ = _
   simp only [Act.put, List.setIfInBounds_toArray, List.set_cons_zero, List.set_cons_succ, i64_w, i32_w]
   rfl
  refine one_ (i := 8) (N := none) #[true, true, true, true, true, true, true, true, true] rfl rfl (one_of HT_.out (by kernel_rfl)) (by decide) (fun K hK => ?_)
  have hs18 : w17.cell? ⟨gb257, 0, none⟩ = some (.bool false) := (blk_cell BK257.out 0).trans rfl
  have hfs18 := blk_frozen BK257.out 0
  have hns18_0 := NB255_257.out
  have hns18_1 := NB256_257.out
  have hms18_0 := NB257_255.out
  have hms18_1 := NB257_256.out
  have hs20 : w17.cell? ⟨gb257, 1, none⟩ = some (.slice none 0 0) := (blk_cell BK257.out 1).trans rfl
  have hfs20 := blk_frozen BK257.out 1
  have hns20_0 := NB255_257.out
  have hns20_1 := NB256_257.out
  have hms20_0 := NB257_255.out
  have hms20_1 := NB257_256.out
  refine skip_ (w1 := ?_) (by rfl) rfl ?_ ?_
  rotate_left
  ·go_simp
   rfl
  refine hK.out _ _ ⟨((cell_far (p := ⟨gb257, _, none⟩) NB255_257.out _).trans (((cell_far (p := ⟨gb257, _, none⟩) NB255_257.out _).trans (hHeld.1)))), ((cell_far (p := ⟨gb257, _, none⟩) NB255_257.out _).trans (((cell_far (p := ⟨gb257, _, none⟩) NB255_257.out _).trans (hHeld.2.1)))), ((cell_far (p := ⟨gb257, _, none⟩) NB256_257.out _).trans (((cell_far (p := ⟨gb257, _, none⟩) NB256_257.out _).trans (hHeld.2.2.1)))), ((cell_far (p := ⟨gb257, _, none⟩) NB256_257.out _).trans (((cell_far (p := ⟨gb257, _, none⟩) NB256_257.out _).trans (hHeld.2.2.2))))⟩ (fun hHeld => ?_)
  clear hK K
  refine done_ (done_of HT_.out (by kernel_rfl)) ?_
  try go_wp2
  refine bodyPost_ret (results_cell_row rfl _ _ gb257 31 #[.bool t261, .slice Ao19 t262.length co19] (0, 0) _ rfl (by refine qb_ ?_; refine blk_put (cs := #[.bool t261, .slice none 0 0]) ?_ 1 _ rfl; refine qb_ ?_; refine blk_put (cs := #[.bool false, .slice none 0 0]) ?_ 0 _ rfl; refine qb_ ?_; exact BK257.out) Tryd.underlying31 rfl (by kernel_rfl)) rfl ?_
  exact ⟨_, by first | rfl | (simp [errW_none, errW_some] <;> rfl) | (simp [*, errW_none, errW_some] <;> rfl), by refine qr_ ?_; exact Kd.R_mono (Kd.R_far (p := ⟨gb257, 1, none⟩) (Kd.R_far (p := ⟨gb257, 0, none⟩) (Kd.R_types HO264.out BK257.out (by decide)) (fun _ hk => hk.2) (.bool t261)) (fun _ hk => hk.2) (.slice Ao19 t262.length co19)) (fun _ hk => trivial), (q3_ HB.out GE255.out GE256.out GE257.out)⟩
 ·rw [if_neg c3] at H
  have c3b0 : (a0_0 == a1_0) = false := by simpa using c3
  (try (have c3b1 : decide (a0_0 = a1_0) = false := by simpa using c3))
  (try (have c3b2 : (a0_0 == a1_0) = false := by simpa using c3))
  (try (have c3b3 : ¬ (a0_0 = a1_0) := by simpa using c3))
  clear c3
  replace H := Option.bind_eq_some_iff.mp H
  obtain ⟨t265, A210, H⟩ := H
  replace H : (if t265 ≥ 0 then ((merinoref01_subD.f k l0_1 l1_1).bind fun t266 => ((merinoref01_whole.f k a0_0 t266).bind fun bt269 => (some (bt269.1, bt269.2)))) else ((merinoref01_subD.f k l1_1 l0_1).bind fun t273 => ((merinoref01_whole.f k a1_0 t273).bind fun bt276 => (some (bt276.1, bt276.2))))) = some (r1, r2) := H
  have A21 := Aside0.mk A210
  clear A210
  by_cases c22 : t265 ≥ 0
  ·rw [if_pos c22] at H
   have c22b0 : decide (0 ≤ t265) = true := decide_eq_true c22
   clear c22
   replace H := Option.bind_eq_some_iff.mp H
   obtain ⟨t266, A230, H⟩ := H
   replace H : ((merinoref01_whole.f k a0_0 t266).bind fun bt269 => (some (bt269.1, bt269.2))) = some (r1, r2) := H
   have A23 := Aside0.mk A230
   clear A230
   replace H := Option.bind_eq_some_iff.mp H
   obtain ⟨⟨t269, t270⟩, A240, H⟩ := H
   replace H : (some (t269, t270)) = some (r1, r2) := H
   have A24 := Aside0.mk A240
   clear A240
   simp only [Option.some.injEq, Prod.mk.injEq] at H
   obtain ⟨rfl, rfl⟩ := H
   go_enter Tryd.func84, Tryd.ntmps84
   try go_wp2_with (first | ((with_reducible refine gate_dst (N := 2) rfl ?_); refine qx_ 2 #[.bool a0_0, .slice A0_1 l0_1.length c0_1] 31 ?hr ?_; (case hr => first | (go_simp; done) | (go_simp; rfl)); intro gb255 hg w25 hbox hb; have n0_ := Aside0.mk (below_step (q0_ HB.out) hb); have n1_ := Aside0.mk (hbox); have n2_ := Aside0.mk (qs_ hg (q0_ HB.out) : w.heap.size ≤ gb255); have n3_ := n2_; clear HB; have HB := n0_; have BK255 := n1_; have GW255 := n2_; have GE255 := n3_; clear n0_ n1_ n2_ n3_; clear hb hbox hg) | ((with_reducible refine gate_dst (N := 3) rfl ?_); refine qx_ 3 #[.bool a1_0, .slice A1_1 l1_1.length c1_1] 31 ?hr ?_; (case hr => first | (go_simp; done) | (go_simp; rfl)); intro gb256 hg w26 hbox hb; have n0_ := Aside0.mk (qk_ BK255.out hb); have n1_ := Aside0.mk (below_step (q1_ HB.out GE255.out) hb); have n2_ := Aside0.mk (hbox); have n3_ := Aside0.mk (qs_ hg (q1_ HB.out GE255.out) : w.heap.size ≤ gb256); have n4_ := n3_; have n5_ := Aside0.mk (qn_ hg BK255.out); have n6_ := Aside0.mk (Ne.symm (qn_ hg BK255.out)); clear BK255; clear HB; have BK255 := n0_; have HB := n1_; have BK256 := n2_; have GW256 := n3_; have GE256 := n4_; have NB255_256 := n5_; have NB256_255 := n6_; clear n0_ n1_ n2_ n3_ n4_ n5_ n6_; clear hb hbox hg) | ((with_reducible refine gate_dst (N := 4) rfl ?_); refine qx_ 4 #[.bool false, .slice none 0 0] 31 ?hr ?_; (case hr => first | (go_simp; done) | (go_simp; rfl)); intro gb257 hg w27 hbox hb; have n0_ := Aside0.mk (qk_ BK255.out hb); have n1_ := Aside0.mk (qk_ BK256.out hb); have n2_ := Aside0.mk (below_step (q2_ HB.out GE255.out GE256.out) hb); have n3_ := Aside0.mk (hbox); have n4_ := Aside0.mk (qs_ hg (q2_ HB.out GE255.out GE256.out) : w.heap.size ≤ gb257); have n5_ := n4_; have n6_ := Aside0.mk (qn_ hg BK255.out); have n7_ := Aside0.mk (Ne.symm (qn_ hg BK255.out)); have n8_ := Aside0.mk (qn_ hg BK256.out); have n9_ := Aside0.mk (Ne.symm (qn_ hg BK256.out)); clear BK255; clear BK256; clear HB; have BK255 := n0_; have BK256 := n1_; have HB := n2_; have BK257 := n3_; have GW257 := n4_; have GE257 := n5_; have NB255_257 := n6_; have NB257_255 := n7_; have NB256_257 := n8_; have NB257_256 := n9_; clear n0_ n1_ n2_ n3_ n4_ n5_ n6_ n7_ n8_ n9_; clear hb hbox hg; have hnb28 := NB255_256.out; have hnc28 := NB256_255.out; have hnb29 := NB255_257.out; have hnc29 := NB257_255.out; have hcz30_0 : w27.cell? ⟨gb255, 0, none⟩ = some (.bool a0_0) := (blk_cell BK255.out 0).trans rfl; have hcz30_1 : w27.cell? ⟨gb255, 1, none⟩ = some (.slice A0_1 l0_1.length c0_1) := (blk_cell BK255.out 1).trans rfl; have hfz30_0 := blk_frozen BK255.out 0; have hfz30_1 := blk_frozen BK255.out 1; have hnb31 := NB256_257.out; have hnc31 := NB257_256.out; have hcz32_0 : w27.cell? ⟨gb256, 0, none⟩ = some (.bool a1_0) := (blk_cell BK256.out 0).trans rfl; have hcz32_1 : w27.cell? ⟨gb256, 1, none⟩ = some (.slice A1_1 l1_1.length c1_1) := (blk_cell BK256.out 1).trans rfl; have hfz32_0 := blk_frozen BK256.out 0; have hfz32_1 := blk_frozen BK256.out 1) | ((with_reducible refine gate_callee (f := 76) rfl ?_); refine goesL_ (some 22) rfl rfl Tryd.func76 (by kernel_rfl) rfl #[.slice A0_1 l0_1.length c0_1, .slice A1_1 l1_1.length c1_1] rfl qe_ ?_; (with_reducible refine (merinoref01_cmpD.calls k _ _ l0_1 _ _ l1_1 t265 _ ?side1 ?side2 ?side3 ?side4 A21.out).mono ?_); (case side1 => exact qc_ (Kd.C_below HR0_1.out HB.out)); (case side2 => exact HC0_1.out); (case side3 => exact qc_ (Kd.C_below HR1_1.out HB.out)); (case side4 => exact HC1_1.out); rintro e w' ⟨rfl, ⟨nd, rfl⟩⟩; refine ⟨_, rfl, ?_⟩; (try (rw [drewN_self w27]; generalize hq_ : World.drewN w27 _ = w27; have n0_ : Aside0 (w27.heap[gb255]? = some (.cells #[.bool a0_0, .slice A0_1 l0_1.length c0_1] 31 (0, 0))) := ⟨by rw [← hq_]; exact (qb_ BK255.out)⟩; have n1_ : Aside0 (w27.heap[gb256]? = some (.cells #[.bool a1_0, .slice A1_1 l1_1.length c1_1] 31 (0, 0))) := ⟨by rw [← hq_]; exact (qb_ BK256.out)⟩; have n2_ : Aside0 (w27.heap[gb257]? = some (.cells #[.bool false, .slice none 0 0] 31 (0, 0))) := ⟨by rw [← hq_]; exact (qb_ BK257.out)⟩; have n3_ : Aside0 (Below w.heap.size w w27) := ⟨by rw [← hq_]; exact (q3_ HB.out GE255.out GE256.out GE257.out)⟩; clear BK255 BK256 BK257 HB hq_; have BK255 := n0_; have BK256 := n1_; have BK257 := n2_; have HB := n3_; clear n0_ n1_ n2_ n3_))))
   have n0_ := Aside0.mk (blk_drew BK255.out)
   have n1_ := Aside0.mk (blk_drew BK256.out)
   have n2_ := Aside0.mk (blk_drew BK257.out)
   have n3_ := Aside0.mk (below_drew1 HB.out)
   clear BK255
   clear BK256
   clear BK257
   clear HB
   have BK255 := n0_
   have BK256 := n1_
   have BK257 := n2_
   have HB := n3_
   clear n0_ n1_ n2_ n3_
   refine start_ (n := 9) (S := fun w' => w'.cell? ⟨gb255, 0, none⟩ = some (.bool a0_0) ∧ w'.cell? ⟨gb255, 1, none⟩ = some (.slice A0_1 l0_1.length c0_1) ∧ w'.cell? ⟨gb256, 0, none⟩ = some (.bool a1_0) ∧ w'.cell? ⟨gb256, 1, none⟩ = some (.slice A1_1 l1_1.length c1_1)) (ds := []) #[false, false, false, false, false, false, false, false, false] (by kernel_rfl) rfl rfl ⟨(blk_cell BK255.out 0).trans rfl, (blk_cell BK255.out 1).trans rfl, (blk_cell BK256.out 0).trans rfl, (blk_cell BK256.out 1).trans rfl⟩ (fun hHeld => ?_); refine with_tabW merinoref01_Plus.tab4 merinoref01_Plus.bits4 (fun HT_ HW_ => ?_)
   generalize w27.drew = w33 at BK255 BK256 BK257 HB hHeld ⊢
   refine pu_ 0 24 9 1 HT_.out ?_
   refine pu_ 2 26 9 5 HT_.out ?_
   refine pu_ 4 28 9 21 HT_.out ?_
   refine ta_ 1 25 9 23 rfl rfl HT_.out HW_.out hHeld (Or.inl ⟨by rfl, by rintro w' ⟨s0, s1, s2, s3⟩; go_simp; with_reducible rfl⟩) ?_
   refine ta_ 3 27 9 31 rfl rfl HT_.out HW_.out hHeld (Or.inl ⟨by rfl, by rintro w' ⟨s0, s1, s2, s3⟩; go_simp; with_reducible rfl⟩) ?_
   refine ta_ 5 29 9 63 rfl rfl HT_.out HW_.out hHeld (Or.inl ⟨by rfl, by rintro w' ⟨s0, s1, s2, s3⟩; go_simp; with_reducible rfl⟩) ?_
   refine one_ (i := 6) (N := some 30) #[true, true, true, true, true, true, true, false, false] rfl rfl (one_of HT_.out (by kernel_rfl)) (by decide) (fun K hK => ?_)
   refine goes_ Tryd.func107 (by kernel_rfl) rfl #[.slice A0_1 l0_1.length c0_1, .slice A1_1 l1_1.length c1_1] (by rfl) rfl rfl qe_ ?_
   with_reducible refine (merinoref01_subD.calls k _ _ l0_1 _ _ l1_1 t266 _ ?side1 ?side2 ?side3 ?side4 A23.out).mono ?_
   (case side1 => exact qc_ (Kd.C_below HR0_1.out HB.out))
   (case side2 => exact HC0_1.out)
   (case side3 => exact qc_ (Kd.C_below HR1_1.out HB.out))
   (case side4 => exact HC1_1.out)
   rintro e w34 ⟨v267, rfl, ho0, hb⟩
   refine ⟨_, rfl, ?_⟩
   have n0_ := Aside0.mk (Kd.R_lower ho0 (below_size (q3_ HB.out GE255.out GE256.out GE257.out)))
   have n1_ := Aside0.mk (qk_ BK255.out hb)
   have n2_ := Aside0.mk (qk_ BK256.out hb)
   have n3_ := Aside0.mk (qk_ BK257.out hb)
   have n4_ := Aside0.mk (below_step (q3_ HB.out GE255.out GE256.out GE257.out) hb)
   clear BK255
   clear BK256
   clear BK257
   clear HB
   have HO268 := n0_
   have BK255 := n1_
   have BK256 := n2_
   have BK257 := n3_
   have HB := n4_
   clear n0_ n1_ n2_ n3_ n4_
   (try clear hb)
   (try clear hb2)
   (try clear hk)
   (try clear hi)
   (try clear ho0)
   obtain ⟨Ao35, co35, eo35⟩ := Kd.R_slice HO268.out
   (first | subst eo35 | (injection eo35 with f1_ f2_ f3_; have f4_ := f1_.symm; have f5_ := f3_.symm; clear f1_ f2_ f3_; subst f4_; subst f5_))
   refine hK.out _ _ ⟨(blk_cell BK255.out 0).trans rfl, (blk_cell BK255.out 1).trans rfl, (blk_cell BK256.out 0).trans rfl, (blk_cell BK256.out 1).trans rfl⟩ (fun hHeld => ?_)
   clear hK K
   refine norm_ (a' := ?_) ?_ ?_
   rotate_left
   ·show Act.put _ (some 30) _ = _
    simp only [Act.put, List.setIfInBounds_toArray, List.set_cons_zero, List.set_cons_succ, i64_w, i32_w]
    rfl
   refine one_ (i := 7) (N := some 31) #[true, true, true, true, true, true, true, true, false] rfl rfl (one_of HT_.out (by kernel_rfl)) (by decide) (fun K hK => ?_)
   refine goes_ Tryd.func73 (by kernel_rfl) rfl #[.bool a0_0, .slice Ao35 t266.length co35] (by rfl) rfl rfl qe_ ?_
   with_reducible refine (merinoref01_whole.calls k a0_0 _ _ t266 t269 t270 _ ?side1 ?side2 A24.out).mono ?_
   (case side1 => exact qc_ (Kd.R_reads' HO268.out).2.2)
   (case side2 => exact (Kd.R_reads' HO268.out).2.1)
   rintro e w36 ⟨v271, rfl, ho0, hb⟩
   refine ⟨_, rfl, ?_⟩
   have n0_ := Aside0.mk (Kd.R_elder' (qr_ HO268.out) (Kd.R_base ho0) hb)
   have n1_ := Aside0.mk (Kd.R_lower (Kd.R_new' ho0 (Kd.R_lt (qr_ HO268.out))) (below_size (q3_ HB.out GE255.out GE256.out GE257.out)))
   have n2_ := Aside0.mk (qk_ BK255.out hb)
   have n3_ := Aside0.mk (qk_ BK256.out hb)
   have n4_ := Aside0.mk (qk_ BK257.out hb)
   have n5_ := Aside0.mk (below_step (q3_ HB.out GE255.out GE256.out GE257.out) hb)
   clear HO268
   clear BK255
   clear BK256
   clear BK257
   clear HB
   have HO268 := n0_
   have HO272 := n1_
   have BK255 := n2_
   have BK256 := n3_
   have BK257 := n4_
   have HB := n5_
   clear n0_ n1_ n2_ n3_ n4_ n5_
   (try clear hb)
   (try clear hb2)
   (try clear hk)
   (try clear hi)
   (try clear ho0)
   obtain ⟨Ao38, co38, eo38⟩ := Kd.R_slice HO272.out
   (first | subst eo38 | (injection eo38 with f1_ f2_ f3_; have f4_ := f1_.symm; have f5_ := f3_.symm; clear f1_ f2_ f3_; subst f4_; subst f5_))
   refine hK.out _ _ ⟨(blk_cell BK255.out 0).trans rfl, (blk_cell BK255.out 1).trans rfl, (blk_cell BK256.out 0).trans rfl, (blk_cell BK256.out 1).trans rfl⟩ (fun hHeld => ?_)
   clear hK K
   refine norm_ (a' := ?_) ?_ ?_
   rotate_left
   ·show Act.put _ (some 31) _ = _
    simp only [Act.put, List.setIfInBounds_toArray, List.set_cons_zero, List.set_cons_succ, i64_w, i32_w]
    rfl
   refine one_ (i := 8) (N := none) #[true, true, true, true, true, true, true, true, true] rfl rfl (one_of HT_.out (by kernel_rfl)) (by decide) (fun K hK => ?_)
   have hs37 : w36.cell? ⟨gb257, 0, none⟩ = some (.bool false) := (blk_cell BK257.out 0).trans rfl
   have hfs37 := blk_frozen BK257.out 0
   have hns37_0 := NB255_257.out
   have hns37_1 := NB256_257.out
   have hms37_0 := NB257_255.out
   have hms37_1 := NB257_256.out
   have hs39 : w36.cell? ⟨gb257, 1, none⟩ = some (.slice none 0 0) := (blk_cell BK257.out 1).trans rfl
   have hfs39 := blk_frozen BK257.out 1
   have hns39_0 := NB255_257.out
   have hns39_1 := NB256_257.out
   have hms39_0 := NB257_255.out
   have hms39_1 := NB257_256.out
   refine skip_ (w1 := ?_) (by rfl) rfl ?_ ?_
   rotate_left
   ·go_simp
    rfl
   refine hK.out _ _ ⟨((cell_far (p := ⟨gb257, _, none⟩) NB255_257.out _).trans (((cell_far (p := ⟨gb257, _, none⟩) NB255_257.out _).trans (hHeld.1)))), ((cell_far (p := ⟨gb257, _, none⟩) NB255_257.out _).trans (((cell_far (p := ⟨gb257, _, none⟩) NB255_257.out _).trans (hHeld.2.1)))), ((cell_far (p := ⟨gb257, _, none⟩) NB256_257.out _).trans (((cell_far (p := ⟨gb257, _, none⟩) NB256_257.out _).trans (hHeld.2.2.1)))), ((cell_far (p := ⟨gb257, _, none⟩) NB256_257.out _).trans (((cell_far (p := ⟨gb257, _, none⟩) NB256_257.out _).trans (hHeld.2.2.2))))⟩ (fun hHeld => ?_)
   clear hK K
   refine done_ (done_of HT_.out (by kernel_rfl)) ?_
   try go_wp2
   refine bodyPost_ret (results_cell_row rfl _ _ gb257 31 #[.bool t269, .slice Ao38 t270.length co38] (0, 0) _ rfl (by refine qb_ ?_; refine blk_put (cs := #[.bool t269, .slice none 0 0]) ?_ 1 _ rfl; refine qb_ ?_; refine blk_put (cs := #[.bool false, .slice none 0 0]) ?_ 0 _ rfl; refine qb_ ?_; exact BK257.out) Tryd.underlying31 rfl (by kernel_rfl)) rfl ?_
   exact ⟨_, by first | rfl | (simp [errW_none, errW_some] <;> rfl) | (simp [*, errW_none, errW_some] <;> rfl), by refine qr_ ?_; exact Kd.R_mono (Kd.R_far (p := ⟨gb257, 1, none⟩) (Kd.R_far (p := ⟨gb257, 0, none⟩) (Kd.R_types HO272.out BK257.out (by decide)) (fun _ hk => hk.2) (.bool t269)) (fun _ hk => hk.2) (.slice Ao38 t270.length co38)) (fun _ hk => trivial), (q3_ HB.out GE255.out GE256.out GE257.out)⟩
  ·rw [if_neg c22] at H
   have c22b0 : decide (0 ≤ t265) = false := decide_eq_false c22
   clear c22
   replace H := Option.bind_eq_some_iff.mp H
   obtain ⟨t273, A400, H⟩ := H
   replace H : ((merinoref01_whole.f k a1_0 t273).bind fun bt276 => (some (bt276.1, bt276.2))) = some (r1, r2) := H
   have A40 := Aside0.mk A400
   clear A400
   replace H := Option.bind_eq_some_iff.mp H
   obtain ⟨⟨t276, t277⟩, A410, H⟩ := H
   replace H : (some (t276, t277)) = some (r1, r2) := H
   have A41 := Aside0.mk A410
   clear A410
   simp only [Option.some.injEq, Prod.mk.injEq] at H
   obtain ⟨rfl, rfl⟩ := H
   go_enter Tryd.func84, Tryd.ntmps84
   try go_wp2_with (first | ((with_reducible refine gate_dst (N := 2) rfl ?_); refine qx_ 2 #[.bool a0_0, .slice A0_1 l0_1.length c0_1] 31 ?hr ?_; (case hr => first | (go_simp; done) | (go_simp; rfl)); intro gb255 hg w42 hbox hb; have n0_ := Aside0.mk (below_step (q0_ HB.out) hb); have n1_ := Aside0.mk (hbox); have n2_ := Aside0.mk (qs_ hg (q0_ HB.out) : w.heap.size ≤ gb255); have n3_ := n2_; clear HB; have HB := n0_; have BK255 := n1_; have GW255 := n2_; have GE255 := n3_; clear n0_ n1_ n2_ n3_; clear hb hbox hg) | ((with_reducible refine gate_dst (N := 3) rfl ?_); refine qx_ 3 #[.bool a1_0, .slice A1_1 l1_1.length c1_1] 31 ?hr ?_; (case hr => first | (go_simp; done) | (go_simp; rfl)); intro gb256 hg w43 hbox hb; have n0_ := Aside0.mk (qk_ BK255.out hb); have n1_ := Aside0.mk (below_step (q1_ HB.out GE255.out) hb); have n2_ := Aside0.mk (hbox); have n3_ := Aside0.mk (qs_ hg (q1_ HB.out GE255.out) : w.heap.size ≤ gb256); have n4_ := n3_; have n5_ := Aside0.mk (qn_ hg BK255.out); have n6_ := Aside0.mk (Ne.symm (qn_ hg BK255.out)); clear BK255; clear HB; have BK255 := n0_; have HB := n1_; have BK256 := n2_; have GW256 := n3_; have GE256 := n4_; have NB255_256 := n5_; have NB256_255 := n6_; clear n0_ n1_ n2_ n3_ n4_ n5_ n6_; clear hb hbox hg) | ((with_reducible refine gate_dst (N := 4) rfl ?_); refine qx_ 4 #[.bool false, .slice none 0 0] 31 ?hr ?_; (case hr => first | (go_simp; done) | (go_simp; rfl)); intro gb257 hg w44 hbox hb; have n0_ := Aside0.mk (qk_ BK255.out hb); have n1_ := Aside0.mk (qk_ BK256.out hb); have n2_ := Aside0.mk (below_step (q2_ HB.out GE255.out GE256.out) hb); have n3_ := Aside0.mk (hbox); have n4_ := Aside0.mk (qs_ hg (q2_ HB.out GE255.out GE256.out) : w.heap.size ≤ gb257); have n5_ := n4_; have n6_ := Aside0.mk (qn_ hg BK255.out); have n7_ := Aside0.mk (Ne.symm (qn_ hg BK255.out)); have n8_ := Aside0.mk (qn_ hg BK256.out); have n9_ := Aside0.mk (Ne.symm (qn_ hg BK256.out)); clear BK255; clear BK256; clear HB; have BK255 := n0_; have BK256 := n1_; have HB := n2_; have BK257 := n3_; have GW257 := n4_; have GE257 := n5_; have NB255_257 := n6_; have NB257_255 := n7_; have NB256_257 := n8_; have NB257_256 := n9_; clear n0_ n1_ n2_ n3_ n4_ n5_ n6_ n7_ n8_ n9_; clear hb hbox hg; have hnb45 := NB255_256.out; have hnc45 := NB256_255.out; have hnb46 := NB255_257.out; have hnc46 := NB257_255.out; have hcz47_0 : w44.cell? ⟨gb255, 0, none⟩ = some (.bool a0_0) := (blk_cell BK255.out 0).trans rfl; have hcz47_1 : w44.cell? ⟨gb255, 1, none⟩ = some (.slice A0_1 l0_1.length c0_1) := (blk_cell BK255.out 1).trans rfl; have hfz47_0 := blk_frozen BK255.out 0; have hfz47_1 := blk_frozen BK255.out 1; have hnb48 := NB256_257.out; have hnc48 := NB257_256.out; have hcz49_0 : w44.cell? ⟨gb256, 0, none⟩ = some (.bool a1_0) := (blk_cell BK256.out 0).trans rfl; have hcz49_1 : w44.cell? ⟨gb256, 1, none⟩ = some (.slice A1_1 l1_1.length c1_1) := (blk_cell BK256.out 1).trans rfl; have hfz49_0 := blk_frozen BK256.out 0; have hfz49_1 := blk_frozen BK256.out 1) | ((with_reducible refine gate_callee (f := 76) rfl ?_); refine goesL_ (some 22) rfl rfl Tryd.func76 (by kernel_rfl) rfl #[.slice A0_1 l0_1.length c0_1, .slice A1_1 l1_1.length c1_1] rfl qe_ ?_; (with_reducible refine (merinoref01_cmpD.calls k _ _ l0_1 _ _ l1_1 t265 _ ?side1 ?side2 ?side3 ?side4 A21.out).mono ?_); (case side1 => exact qc_ (Kd.C_below HR0_1.out HB.out)); (case side2 => exact HC0_1.out); (case side3 => exact qc_ (Kd.C_below HR1_1.out HB.out)); (case side4 => exact HC1_1.out); rintro e w' ⟨rfl, ⟨nd, rfl⟩⟩; refine ⟨_, rfl, ?_⟩; (try (rw [drewN_self w44]; generalize hq_ : World.drewN w44 _ = w44; have n0_ : Aside0 (w44.heap[gb255]? = some (.cells #[.bool a0_0, .slice A0_1 l0_1.length c0_1] 31 (0, 0))) := ⟨by rw [← hq_]; exact (qb_ BK255.out)⟩; have n1_ : Aside0 (w44.heap[gb256]? = some (.cells #[.bool a1_0, .slice A1_1 l1_1.length c1_1] 31 (0, 0))) := ⟨by rw [← hq_]; exact (qb_ BK256.out)⟩; have n2_ : Aside0 (w44.heap[gb257]? = some (.cells #[.bool false, .slice none 0 0] 31 (0, 0))) := ⟨by rw [← hq_]; exact (qb_ BK257.out)⟩; have n3_ : Aside0 (Below w.heap.size w w44) := ⟨by rw [← hq_]; exact (q3_ HB.out GE255.out GE256.out GE257.out)⟩; clear BK255 BK256 BK257 HB hq_; have BK255 := n0_; have BK256 := n1_; have BK257 := n2_; have HB := n3_; clear n0_ n1_ n2_ n3_))))
   have n0_ := Aside0.mk (blk_drew BK255.out)
   have n1_ := Aside0.mk (blk_drew BK256.out)
   have n2_ := Aside0.mk (blk_drew BK257.out)
   have n3_ := Aside0.mk (below_drew1 HB.out)
   clear BK255
   clear BK256
   clear BK257
   clear HB
   have BK255 := n0_
   have BK256 := n1_
   have BK257 := n2_
   have HB := n3_
   clear n0_ n1_ n2_ n3_
   refine start_ (n := 9) (S := fun w' => w'.cell? ⟨gb256, 0, none⟩ = some (.bool a1_0) ∧ w'.cell? ⟨gb256, 1, none⟩ = some (.slice A1_1 l1_1.length c1_1) ∧ w'.cell? ⟨gb255, 0, none⟩ = some (.bool a0_0) ∧ w'.cell? ⟨gb255, 1, none⟩ = some (.slice A0_1 l0_1.length c0_1)) (ds := []) #[false, false, false, false, false, false, false, false, false] (by kernel_rfl) rfl rfl ⟨(blk_cell BK256.out 0).trans rfl, (blk_cell BK256.out 1).trans rfl, (blk_cell BK255.out 0).trans rfl, (blk_cell BK255.out 1).trans rfl⟩ (fun hHeld => ?_); refine with_tabW merinoref01_Plus.tab5 merinoref01_Plus.bits5 (fun HT_ HW_ => ?_)
   generalize w44.drew = w50 at BK255 BK256 BK257 HB hHeld ⊢
   refine pu_ 0 32 9 1 HT_.out ?_
   refine pu_ 2 34 9 5 HT_.out ?_
   refine pu_ 4 36 9 21 HT_.out ?_
   refine ta_ 1 33 9 23 rfl rfl HT_.out HW_.out hHeld (Or.inl ⟨by rfl, by rintro w' ⟨s0, s1, s2, s3⟩; go_simp; with_reducible rfl⟩) ?_
   refine ta_ 3 35 9 31 rfl rfl HT_.out HW_.out hHeld (Or.inl ⟨by rfl, by rintro w' ⟨s0, s1, s2, s3⟩; go_simp; with_reducible rfl⟩) ?_
   refine ta_ 5 37 9 63 rfl rfl HT_.out HW_.out hHeld (Or.inl ⟨by rfl, by rintro w' ⟨s0, s1, s2, s3⟩; go_simp; with_reducible rfl⟩) ?_
   refine one_ (i := 6) (N := some 38) #[true, true, true, true, true, true, true, false, false] rfl rfl (one_of HT_.out (by kernel_rfl)) (by decide) (fun K hK => ?_)
   refine goes_ Tryd.func107 (by kernel_rfl) rfl #[.slice A1_1 l1_1.length c1_1, .slice A0_1 l0_1.length c0_1] (by rfl) rfl rfl qe_ ?_
   with_reducible refine (merinoref01_subD.calls k _ _ l1_1 _ _ l0_1 t273 _ ?side1 ?side2 ?side3 ?side4 A40.out).mono ?_
   (case side1 => exact qc_ (Kd.C_below HR1_1.out HB.out))
   (case side2 => exact HC1_1.out)
   (case side3 => exact qc_ (Kd.C_below HR0_1.out HB.out))
   (case side4 => exact HC0_1.out)
   rintro e w51 ⟨v274, rfl, ho0, hb⟩
   refine ⟨_, rfl, ?_⟩
   have n0_ := Aside0.mk (Kd.R_lower ho0 (below_size (q3_ HB.out GE255.out GE256.out GE257.out)))
   have n1_ := Aside0.mk (qk_ BK255.out hb)
   have n2_ := Aside0.mk (qk_ BK256.out hb)
   have n3_ := Aside0.mk (qk_ BK257.out hb)
   have n4_ := Aside0.mk (below_step (q3_ HB.out GE255.out GE256.out GE257.out) hb)
   clear BK255
   clear BK256
   clear BK257
   clear HB
   have HO275 := n0_
   have BK255 := n1_
   have BK256 := n2_
   have BK257 := n3_
   have HB := n4_
   clear n0_ n1_ n2_ n3_ n4_
   (try clear hb)
   (try clear hb2)
   (try clear hk)
   (try clear hi)
   (try clear ho0)
   obtain ⟨Ao52, co52, eo52⟩ := Kd.R_slice HO275.out
   (first | subst eo52 | (injection eo52 with f1_ f2_ f3_; have f4_ := f1_.symm; have f5_ := f3_.symm; clear f1_ f2_ f3_; subst f4_; subst f5_))
   refine hK.out _ _ ⟨(blk_cell BK256.out 0).trans rfl, (blk_cell BK256.out 1).trans rfl, (blk_cell BK255.out 0).trans rfl, (blk_cell BK255.out 1).trans rfl⟩ (fun hHeld => ?_)
   clear hK K
   refine norm_ (a' := ?_) ?_ ?_
   rotate_left
   ·show Act.put _ (some 38) _ = _
    simp only [Act.put, List.setIfInBounds_toArray, List.set_cons_zero, List.set_cons_succ, i64_w, i32_w]
    rfl
   refine one_ (i := 7) (N := some 39) #[true, true, true, true, true, true, true, true, false] rfl rfl (one_of HT_.out (by kernel_rfl)) (by decide) (fun K hK => ?_)
   refine goes_ Tryd.func73 (by kernel_rfl) rfl #[.bool a1_0, .slice Ao52 t273.length co52] (by rfl) rfl rfl qe_ ?_
   with_reducible refine (merinoref01_whole.calls k a1_0 _ _ t273 t276 t277 _ ?side1 ?side2 A41.out).mono ?_
   (case side1 => exact qc_ (Kd.R_reads' HO275.out).2.2)
   (case side2 => exact (Kd.R_reads' HO275.out).2.1)
   rintro e w53 ⟨v278, rfl, ho0, hb⟩
   refine ⟨_, rfl, ?_⟩
   have n0_ := Aside0.mk (Kd.R_elder' (qr_ HO275.out) (Kd.R_base ho0) hb)
   have n1_ := Aside0.mk (Kd.R_lower (Kd.R_new' ho0 (Kd.R_lt (qr_ HO275.out))) (below_size (q3_ HB.out GE255.out GE256.out GE257.out)))
   have n2_ := Aside0.mk (qk_ BK255.out hb)
   have n3_ := Aside0.mk (qk_ BK256.out hb)
   have n4_ := Aside0.mk (qk_ BK257.out hb)
   have n5_ := Aside0.mk (below_step (q3_ HB.out GE255.out GE256.out GE257.out) hb)
   clear HO275
   clear BK255
   clear BK256
   clear BK257
   clear HB
   have HO275 := n0_
   have HO279 := n1_
   have BK255 := n2_
   have BK256 := n3_
   have BK257 := n4_
   have HB := n5_
   clear n0_ n1_ n2_ n3_ n4_ n5_
   (try clear hb)
   (try clear hb2)
   (try clear hk)
   (try clear hi)
   (try clear ho0)
   obtain ⟨Ao55, co55, eo55⟩ := Kd.R_slice HO279.out
   (first | subst eo55 | (injection eo55 with f1_ f2_ f3_; have f4_ := f1_.symm; have f5_ := f3_.symm; clear f1_ f2_ f3_; subst f4_; subst f5_))
   refine hK.out _ _ ⟨(blk_cell BK256.out 0).trans rfl, (blk_cell BK256.out 1).trans rfl, (blk_cell BK255.out 0).trans rfl, (blk_cell BK255.out 1).trans rfl⟩ (fun hHeld => ?_)
   clear hK K
   refine norm_ (a' := ?_) ?_ ?_
   rotate_left
   ·show Act.put _ (some 39) _ = _
    simp only [Act.put, List.setIfInBounds_toArray, List.set_cons_zero, List.set_cons_succ, i64_w, i32_w]
    rfl
   refine one_ (i := 8) (N := none) #[true, true, true, true, true, true, true, true, true] rfl rfl (one_of HT_.out (by kernel_rfl)) (by decide) (fun K hK => ?_)
   have hs54 : w53.cell? ⟨gb257, 0, none⟩ = some (.bool false) := (blk_cell BK257.out 0).trans rfl
   have hfs54 := blk_frozen BK257.out 0
   have hns54_0 := NB255_257.out
   have hns54_1 := NB256_257.out
   have hms54_0 := NB257_255.out
   have hms54_1 := NB257_256.out
   have hs56 : w53.cell? ⟨gb257, 1, none⟩ = some (.slice none 0 0) := (blk_cell BK257.out 1).trans rfl
   have hfs56 := blk_frozen BK257.out 1
   have hns56_0 := NB255_257.out
   have hns56_1 := NB256_257.out
   have hms56_0 := NB257_255.out
   have hms56_1 := NB257_256.out
   refine skip_ (w1 := ?_) (by rfl) rfl ?_ ?_
   rotate_left
   ·go_simp
    rfl
   refine hK.out _ _ ⟨((cell_far (p := ⟨gb257, _, none⟩) NB256_257.out _).trans (((cell_far (p := ⟨gb257, _, none⟩) NB256_257.out _).trans (hHeld.1)))), ((cell_far (p := ⟨gb257, _, none⟩) NB256_257.out _).trans (((cell_far (p := ⟨gb257, _, none⟩) NB256_257.out _).trans (hHeld.2.1)))), ((cell_far (p := ⟨gb257, _, none⟩) NB255_257.out _).trans (((cell_far (p := ⟨gb257, _, none⟩) NB255_257.out _).trans (hHeld.2.2.1)))), ((cell_far (p := ⟨gb257, _, none⟩) NB255_257.out _).trans (((cell_far (p := ⟨gb257, _, none⟩) NB255_257.out _).trans (hHeld.2.2.2))))⟩ (fun hHeld => ?_)
   clear hK K
   refine done_ (done_of HT_.out (by kernel_rfl)) ?_
   try go_wp2
   refine bodyPost_ret (results_cell_row rfl _ _ gb257 31 #[.bool t276, .slice Ao55 t277.length co55] (0, 0) _ rfl (by refine qb_ ?_; refine blk_put (cs := #[.bool t276, .slice none 0 0]) ?_ 1 _ rfl; refine qb_ ?_; refine blk_put (cs := #[.bool false, .slice none 0 0]) ?_ 0 _ rfl; refine qb_ ?_; exact BK257.out) Tryd.underlying31 rfl (by kernel_rfl)) rfl ?_
   exact ⟨_, by first | rfl | (simp [errW_none, errW_some] <;> rfl) | (simp [*, errW_none, errW_some] <;> rfl), by refine qr_ ?_; exact Kd.R_mono (Kd.R_far (p := ⟨gb257, 1, none⟩) (Kd.R_far (p := ⟨gb257, 0, none⟩) (Kd.R_types HO279.out BK257.out (by decide)) (fun _ hk => hk.2) (.bool t276)) (fun _ hk => hk.2) (.slice Ao55 t277.length co55)) (fun _ hk => trivial), (q3_ HB.out GE255.out GE256.out GE257.out)⟩
def merinoref01_Over.f (k : Nat) (a0_0 : Bool) (l0_1 : List Int) (a1_0 : Bool) (l1_1 : List Int) : Option (Bool × List Int × Bool × List Int) := (merinoref01_divD.f k l0_1 l1_1).bind fun bt826 => (if a0_0 = true then (if (bt826.2.length : Int) = 0 then ((merinoref01_whole.f k true bt826.1).bind fun bt840 => (some (bt840.1, bt840.2, false, ([] : List Int)))) else ((merinoref01_addD.f k bt826.1 (([1] : List Int))).bind fun t847 => ((merinoref01_whole.f k true t847).bind fun bt850 => ((merinoref01_subD.f k l1_1 bt826.2).bind fun t854 => ((merinoref01_whole.f k false t854).bind fun bt857 => (some (bt850.1, bt850.2, bt857.1, bt857.2))))))) else ((merinoref01_whole.f k false bt826.1).bind fun bt832 => ((merinoref01_whole.f k false bt826.2).bind fun bt836 => (some (bt832.1, bt832.2, bt836.1, bt836.2)))))
def merinoref01_Over.T6 : Bool × List (List Nat × List Nat) := (true, [([], []), ([], []), ([0, 1], [0, 1]), ([2, 2], [2]), ([], []), ([4], [4]), ([], []), ([5, 6, 3], [5, 6]), ([7, 7], [7]), ([3, 8, 0, 1, 2, 3], [3]), ([8, 9, 0, 1, 2, 3, 4, 5, 6, 7, 8, 9], [8])])
def merinoref01_Over.B6 : List Nat := [0, 0, 3, 7, 0, 16, 0, 127, 255, 511, 1023]
theorem merinoref01_Over.tab6 : rtab .any (opsOf Tryd.f67 6) = merinoref01_Over.T6 := by kernel_rfl
theorem merinoref01_Over.bits6 : waitsOk merinoref01_Over.T6.2 merinoref01_Over.B6 = true := by kernel_rfl
set_option maxHeartbeats 8000000 in
set_option maxRecDepth 100000 in
theorem merinoref01_Over.calls (k : Nat) (a0_0 : Bool) (A0_1 : Option Addr) (c0_1 : Nat) (l0_1 : List Int) (a1_0 : Bool) (A1_1 : Option Addr) (c1_1 : Nat) (l1_1 : List Int) (r1 : Bool) (r2 : List Int) (r3 : Bool) (r4 : List Int) (w : World) (hr0_1 : Kd.C (Kd.int .i64) w A0_1 l0_1.length l0_1) (hc0_1 : l0_1.length ≤ c0_1) (hr1_1 : Kd.C (Kd.int .i64) w A1_1 l1_1.length l1_1) (hc1_1 : l1_1.length ≤ c1_1) (h : merinoref01_Over.f k a0_0 l0_1 a1_0 l1_1 = some (r1, r2, r3, r4)) :
  Calls Tryd.prog 67 #[.agg #[.bool a0_0, .slice A0_1 l0_1.length c0_1], .agg #[.bool a1_0, .slice A1_1 l1_1.length c1_1]] w fun e w' => ∃ v1_ v3_ : Value, e = .returned (.tuple #[.agg #[.bool r1, v1_], .agg #[.bool r3, v3_]]) ∧ Kd.R (Kd.int .i64) 3 w' w.heap.size (fun k_ => some k_ ≠ (v3_ : Value).ownBlock) v1_ r2 ∧ Kd.R (Kd.int .i64) 3 w' w.heap.size (fun k_ => some k_ ≠ (v1_ : Value).ownBlock) v3_ r4 ∧ Below w.heap.size w w' := by
 have hu31 := Tryd.underlying31
 have HR0_1 := Aside0.mk hr0_1
 have HC0_1 := Aside0.mk hc0_1
 clear hr0_1 hc0_1
 have HR1_1 := Aside0.mk hr1_1
 have HC1_1 := Aside0.mk hc1_1
 clear hr1_1 hc1_1
 have HB := Aside0.mk (Below.refl w.heap.size w)
 have H : ((merinoref01_divD.f k l0_1 l1_1).bind fun bt826 => (if a0_0 = true then (if (bt826.2.length : Int) = 0 then ((merinoref01_whole.f k true bt826.1).bind fun bt840 => (some (bt840.1, bt840.2, false, ([] : List Int)))) else ((merinoref01_addD.f k bt826.1 (([1] : List Int))).bind fun t847 => ((merinoref01_whole.f k true t847).bind fun bt850 => ((merinoref01_subD.f k l1_1 bt826.2).bind fun t854 => ((merinoref01_whole.f k false t854).bind fun bt857 => (some (bt850.1, bt850.2, bt857.1, bt857.2))))))) else ((merinoref01_whole.f k false bt826.1).bind fun bt832 => ((merinoref01_whole.f k false bt826.2).bind fun bt836 => (some (bt832.1, bt832.2, bt836.1, bt836.2)))))) = some (r1, r2, r3, r4) := h
 clear h
 replace H := Option.bind_eq_some_iff.mp H
 obtain ⟨⟨t826, t827⟩, A30, H⟩ := H
 replace H : (if a0_0 = true then (if (t827.length : Int) = 0 then ((merinoref01_whole.f k true t826).bind fun bt840 => (some (bt840.1, bt840.2, false, ([] : List Int)))) else ((merinoref01_addD.f k t826 (([1] : List Int))).bind fun t847 => ((merinoref01_whole.f k true t847).bind fun bt850 => ((merinoref01_subD.f k l1_1 t827).bind fun t854 => ((merinoref01_whole.f k false t854).bind fun bt857 => (some (bt850.1, bt850.2, bt857.1, bt857.2))))))) else ((merinoref01_whole.f k false t826).bind fun bt832 => ((merinoref01_whole.f k false t827).bind fun bt836 => (some (bt832.1, bt832.2, bt836.1, bt836.2))))) = some (r1, r2, r3, r4) := H
 have A3 := Aside0.mk A30
 clear A30
 by_cases c4 : a0_0 = true
 ·subst c4
  have H1 : (if (t827.length : Int) = 0 then ((merinoref01_whole.f k true t826).bind fun bt840 => (some (bt840.1, bt840.2, false, ([] : List Int)))) else ((merinoref01_addD.f k t826 (([1] : List Int))).bind fun t847 => ((merinoref01_whole.f k true t847).bind fun bt850 => ((merinoref01_subD.f k l1_1 t827).bind fun t854 => ((merinoref01_whole.f k false t854).bind fun bt857 => (some (bt850.1, bt850.2, bt857.1, bt857.2))))))) = some (r1, r2, r3, r4) := by rw [if_pos rfl] at H; exact H
  clear H
  have H := H1
  clear H1
  by_cases c5 : (t827.length : Int) = 0
  ·rw [if_pos c5] at H
   have c5b0 : ((t827.length : Int) == 0) = true := beq_iff_eq.mpr c5
   have c5b1 : ((t827.length : Int) != 0) = false := bne_eq_false_iff_eq.mpr c5
   clear c5
   replace H := Option.bind_eq_some_iff.mp H
   obtain ⟨⟨t840, t841⟩, A60, H⟩ := H
   replace H : (some (t840, t841, false, ([] : List Int))) = some (r1, r2, r3, r4) := H
   have A6 := Aside0.mk A60
   clear A60
   simp only [Option.some.injEq, Prod.mk.injEq] at H
   obtain ⟨rfl, rfl, rfl, rfl⟩ := H
   go_enter Tryd.func67, Tryd.ntmps67
   go_wp2_with (first | ((with_reducible refine gate_dst (N := 2) rfl ?_); refine qx_ 2 #[.bool true, .slice A0_1 l0_1.length c0_1] 31 ?hr ?_; (case hr => first | (go_simp; done) | (go_simp; rfl)); intro gb822 hg w7 hbox hb; have n0_ := Aside0.mk (below_step (q0_ HB.out) hb); have n1_ := Aside0.mk (hbox); have n2_ := Aside0.mk (qs_ hg (q0_ HB.out) : w.heap.size ≤ gb822); have n3_ := n2_; clear HB; have HB := n0_; have BK822 := n1_; have GW822 := n2_; have GE822 := n3_; clear n0_ n1_ n2_ n3_; clear hb hbox hg) | ((with_reducible refine gate_dst (N := 3) rfl ?_); refine qx_ 3 #[.bool a1_0, .slice A1_1 l1_1.length c1_1] 31 ?hr ?_; (case hr => first | (go_simp; done) | (go_simp; rfl)); intro gb823 hg w8 hbox hb; have n0_ := Aside0.mk (qk_ BK822.out hb); have n1_ := Aside0.mk (below_step (q1_ HB.out GE822.out) hb); have n2_ := Aside0.mk (hbox); have n3_ := Aside0.mk (qs_ hg (q1_ HB.out GE822.out) : w.heap.size ≤ gb823); have n4_ := n3_; have n5_ := Aside0.mk (qn_ hg BK822.out); have n6_ := Aside0.mk (Ne.symm (qn_ hg BK822.out)); clear BK822; clear HB; have BK822 := n0_; have HB := n1_; have BK823 := n2_; have GW823 := n3_; have GE823 := n4_; have NB822_823 := n5_; have NB823_822 := n6_; clear n0_ n1_ n2_ n3_ n4_ n5_ n6_; clear hb hbox hg) | ((with_reducible refine gate_dst (N := 4) rfl ?_); refine qx_ 4 #[.bool false, .slice none 0 0] 31 ?hr ?_; (case hr => first | (go_simp; done) | (go_simp; rfl)); intro gb824 hg w9 hbox hb; have n0_ := Aside0.mk (qk_ BK822.out hb); have n1_ := Aside0.mk (qk_ BK823.out hb); have n2_ := Aside0.mk (below_step (q2_ HB.out GE822.out GE823.out) hb); have n3_ := Aside0.mk (hbox); have n4_ := Aside0.mk (qs_ hg (q2_ HB.out GE822.out GE823.out) : w.heap.size ≤ gb824); have n5_ := n4_; have n6_ := Aside0.mk (qn_ hg BK822.out); have n7_ := Aside0.mk (Ne.symm (qn_ hg BK822.out)); have n8_ := Aside0.mk (qn_ hg BK823.out); have n9_ := Aside0.mk (Ne.symm (qn_ hg BK823.out)); clear BK822; clear BK823; clear HB; have BK822 := n0_; have BK823 := n1_; have HB := n2_; have BK824 := n3_; have GW824 := n4_; have GE824 := n5_; have NB822_824 := n6_; have NB824_822 := n7_; have NB823_824 := n8_; have NB824_823 := n9_; clear n0_ n1_ n2_ n3_ n4_ n5_ n6_ n7_ n8_ n9_; clear hb hbox hg) | ((with_reducible refine gate_dst (N := 5) rfl ?_); refine qx_ 5 #[.bool false, .slice none 0 0] 31 ?hr ?_; (case hr => first | (go_simp; done) | (go_simp; rfl)); intro gb825 hg w10 hbox hb; have n0_ := Aside0.mk (qk_ BK822.out hb); have n1_ := Aside0.mk (qk_ BK823.out hb); have n2_ := Aside0.mk (qk_ BK824.out hb); have n3_ := Aside0.mk (below_step (q3_ HB.out GE822.out GE823.out GE824.out) hb); have n4_ := Aside0.mk (hbox); have n5_ := Aside0.mk (qs_ hg (q3_ HB.out GE822.out GE823.out GE824.out) : w.heap.size ≤ gb825); have n6_ := n5_; have n7_ := Aside0.mk (qn_ hg BK822.out); have n8_ := Aside0.mk (Ne.symm (qn_ hg BK822.out)); have n9_ := Aside0.mk (qn_ hg BK823.out); have n10_ := Aside0.mk (Ne.symm (qn_ hg BK823.out)); have n11_ := Aside0.mk (qn_ hg BK824.out); have n12_ := Aside0.mk (Ne.symm (qn_ hg BK824.out)); clear BK822; clear BK823; clear BK824; clear HB; have BK822 := n0_; have BK823 := n1_; have BK824 := n2_; have HB := n3_; have BK825 := n4_; have GW825 := n5_; have GE825 := n6_; have NB822_825 := n7_; have NB825_822 := n8_; have NB823_825 := n9_; have NB825_823 := n10_; have NB824_825 := n11_; have NB825_824 := n12_; clear n0_ n1_ n2_ n3_ n4_ n5_ n6_ n7_ n8_ n9_ n10_ n11_ n12_; clear hb hbox hg; have hnb11 := NB822_823.out; have hnc11 := NB823_822.out; have hnb12 := NB822_824.out; have hnc12 := NB824_822.out; have hnb13 := NB822_825.out; have hnc13 := NB825_822.out; have hcz14_0 : w10.cell? ⟨gb822, 0, none⟩ = some (.bool true) := (blk_cell BK822.out 0).trans rfl; have hcz14_1 : w10.cell? ⟨gb822, 1, none⟩ = some (.slice A0_1 l0_1.length c0_1) := (blk_cell BK822.out 1).trans rfl; have hfz14_0 := blk_frozen BK822.out 0; have hfz14_1 := blk_frozen BK822.out 1; have hnb15 := NB823_824.out; have hnc15 := NB824_823.out; have hnb16 := NB823_825.out; have hnc16 := NB825_823.out; have hcz17_0 : w10.cell? ⟨gb823, 0, none⟩ = some (.bool a1_0) := (blk_cell BK823.out 0).trans rfl; have hcz17_1 : w10.cell? ⟨gb823, 1, none⟩ = some (.slice A1_1 l1_1.length c1_1) := (blk_cell BK823.out 1).trans rfl; have hfz17_0 := blk_frozen BK823.out 0; have hfz17_1 := blk_frozen BK823.out 1) | ((with_reducible refine gate_callee (f := 105) rfl ?_); refine goesL_ (some 13) rfl rfl Tryd.func105 (by kernel_rfl) rfl #[.slice A0_1 l0_1.length c0_1, .slice A1_1 l1_1.length c1_1] rfl qe_ ?_; (with_reducible refine (merinoref01_divD.calls k _ _ l0_1 _ _ l1_1 t826 t827 _ ?side1 ?side2 ?side3 ?side4 A3.out).mono ?_); (case side1 => exact qc_ (Kd.C_below HR0_1.out HB.out)); (case side2 => exact HC0_1.out); (case side3 => exact qc_ (Kd.C_below HR1_1.out HB.out)); (case side4 => exact HC1_1.out); rintro e w18 ⟨v828, v830, rfl, ho0, ho1, hb⟩; refine ⟨_, rfl, ?_⟩; have n0_ := Aside0.mk (Kd.R_lower ho0 (below_size (q4_ HB.out GE822.out GE823.out GE824.out GE825.out))); have n1_ := Aside0.mk (Kd.R_lower ho1 (below_size (q4_ HB.out GE822.out GE823.out GE824.out GE825.out))); have n2_ := Aside0.mk (qk_ BK822.out hb); have n3_ := Aside0.mk (qk_ BK823.out hb); have n4_ := Aside0.mk (qk_ BK824.out hb); have n5_ := Aside0.mk (qk_ BK825.out hb); have n6_ := Aside0.mk (below_step (q4_ HB.out GE822.out GE823.out GE824.out GE825.out) hb); clear BK822; clear BK823; clear BK824; clear BK825; clear HB; have HO829 := n0_; have HO831 := n1_; have BK822 := n2_; have BK823 := n3_; have BK824 := n4_; have BK825 := n5_; have HB := n6_; clear n0_ n1_ n2_ n3_ n4_ n5_ n6_; (try clear hb); (try clear hb2); (try clear hk); (try clear hi); (try clear ho0); (try clear ho1); have hcz19_0 : w18.cell? ⟨gb822, 0, none⟩ = some (.bool true) := (blk_cell BK822.out 0).trans rfl; have hcz19_1 : w18.cell? ⟨gb822, 1, none⟩ = some (.slice A0_1 l0_1.length c0_1) := (blk_cell BK822.out 1).trans rfl; have hfz19_0 := blk_frozen BK822.out 0; have hfz19_1 := blk_frozen BK822.out 1; obtain ⟨Ao20, co20, eo20⟩ := Kd.R_slice HO831.out; subst eo20; obtain ⟨Ao21, co21, eo21⟩ := Kd.R_slice HO829.out; subst eo21) | ((with_reducible refine gate_callee (f := 73) rfl ?_); refine goesL_ (some 27) rfl rfl Tryd.func73 (by kernel_rfl) rfl #[.bool true, .slice Ao21 t826.length co21] rfl qe_ ?_; (with_reducible refine (merinoref01_whole.calls k true _ _ t826 t840 t841 _ ?side1 ?side2 A6.out).mono ?_); (case side1 => exact qc_ (Kd.R_reads' HO829.out).2.2); (case side2 => exact (Kd.R_reads' HO829.out).2.1); rintro e w22 ⟨v842, rfl, ho0, hb⟩; refine ⟨_, rfl, ?_⟩; have n0_ := Aside0.mk (Kd.R_elder' (qr_ HO829.out) (Kd.R_base ho0) hb); have n1_ := Aside0.mk (Kd.R_elder' (qr_ HO831.out) (Kd.R_base ho0) hb); have n2_ := Aside0.mk (Kd.R_lower (Kd.R_new' (Kd.R_new' ho0 (Kd.R_lt (qr_ HO829.out))) (Kd.R_lt (qr_ HO831.out))) (below_size (q4_ HB.out GE822.out GE823.out GE824.out GE825.out))); have n3_ := Aside0.mk (qk_ BK822.out hb); have n4_ := Aside0.mk (qk_ BK823.out hb); have n5_ := Aside0.mk (qk_ BK824.out hb); have n6_ := Aside0.mk (qk_ BK825.out hb); have n7_ := Aside0.mk (below_step (q4_ HB.out GE822.out GE823.out GE824.out GE825.out) hb); clear HO829; clear HO831; clear BK822; clear BK823; clear BK824; clear BK825; clear HB; have HO829 := n0_; have HO831 := n1_; have HO843 := n2_; have BK822 := n3_; have BK823 := n4_; have BK824 := n5_; have BK825 := n6_; have HB := n7_; clear n0_ n1_ n2_ n3_ n4_ n5_ n6_ n7_; (try clear hb); (try clear hb2); (try clear hk); (try clear hi); (try clear ho0); have hnb23 := NB824_825.out; have hnc23 := NB825_824.out; have hcz24_0 : w22.cell? ⟨gb824, 0, none⟩ = some (.bool false) := (blk_cell BK824.out 0).trans rfl; have hcz24_1 : w22.cell? ⟨gb824, 1, none⟩ = some (.slice none 0 0) := (blk_cell BK824.out 1).trans rfl; have hfz24_0 := blk_frozen BK824.out 0; have hfz24_1 := blk_frozen BK824.out 1; obtain ⟨Ao25, co25, eo25⟩ := Kd.R_slice HO843.out; subst eo25; have hcz26_0 : w22.cell? ⟨gb825, 0, none⟩ = some (.bool false) := (blk_cell BK825.out 0).trans rfl; have hcz26_1 : w22.cell? ⟨gb825, 1, none⟩ = some (.slice none 0 0) := (blk_cell BK825.out 1).trans rfl; have hfz26_0 := blk_frozen BK825.out 0; have hfz26_1 := blk_frozen BK825.out 1))
   refine bodyPost_ret (results_cc rfl _ _ gb824 gb825 31 31 #[.bool t840, .slice Ao25 t841.length co25] #[.bool false, .slice none 0 0] (0, 0) (0, 0) _ _ rfl (by refine qb_ ?_; refine blk_far ?_ NB824_825.out _; refine qb_ ?_; refine blk_far ?_ NB824_825.out _; refine qb_ ?_; refine blk_put (cs := #[.bool t840, .slice none 0 0]) ?_ 1 _ rfl; refine qb_ ?_; refine blk_put (cs := #[.bool false, .slice none 0 0]) ?_ 0 _ rfl; refine qb_ ?_; exact BK824.out) Tryd.underlying31 rfl (by kernel_rfl) rfl (by refine qb_ ?_; refine blk_put (cs := #[.bool false, .slice none 0 0]) ?_ 1 _ rfl; refine qb_ ?_; refine blk_put (cs := #[.bool false, .slice none 0 0]) ?_ 0 _ rfl; refine qb_ ?_; refine blk_far ?_ NB825_824.out _; refine qb_ ?_; refine blk_far ?_ NB825_824.out _; refine qb_ ?_; exact BK825.out) Tryd.underlying31 rfl (by kernel_rfl)) rfl ?_
   exact ⟨_, _, by first | rfl | (simp [errW_none, errW_some] <;> rfl) | (simp [*, errW_none, errW_some] <;> rfl), by refine qr_ ?_; exact Kd.R_mono (Kd.R_far (p := ⟨gb825, 1, none⟩) (Kd.R_far (p := ⟨gb825, 0, none⟩) (Kd.R_far (p := ⟨gb824, 1, none⟩) (Kd.R_far (p := ⟨gb824, 0, none⟩) (Kd.R_types (Kd.R_types HO843.out BK824.out (by decide)) BK825.out (by decide)) (fun _ hk => hk.1.2) (.bool t840)) (fun _ hk => hk.1.2) (.slice Ao25 t841.length co25)) (fun _ hk => hk.2) (.bool false)) (fun _ hk => hk.2) (.slice none 0 0)) (fun _ hk => (by simp [Value.ownBlock])), by first | exact Kd.R_nil _ _ _ _ _ | exact Kd.N_nil _ _ _ _ _ | exact Kd.V_nil _ _ _ _ _ | exact Kd.Q_nil _ _ _ _ _ | exact Kd.S_nil _ _ _ _ _, (q4_ HB.out GE822.out GE823.out GE824.out GE825.out)⟩
  ·rw [if_neg c5] at H
   have c5b0 : ((t827.length : Int) == 0) = false := beq_eq_false_iff_ne.mpr c5
   have c5b1 : ((t827.length : Int) != 0) = true := bne_iff_ne.mpr c5
   have c5b2 : ¬ (t827 = []) := fun h_ => c5 (by rw [h_]; rfl)
   obtain ⟨y844, hy844⟩ : ∃ y_ : List Int, y_ = (([1] : List Int)) := ⟨_, rfl⟩
   replace H : ((merinoref01_addD.f k t826 y844).bind fun t847 => ((merinoref01_whole.f k true t847).bind fun bt850 => ((merinoref01_subD.f k l1_1 t827).bind fun t854 => ((merinoref01_whole.f k false t854).bind fun bt857 => (some (bt850.1, bt850.2, bt857.1, bt857.2)))))) = some (r1, r2, r3, r4) := by first | (rw [hy844]; with_reducible exact H) | (have H2_ := (Option.bind_some _ _).symm.trans H; rw [hy844]; with_reducible exact H2_) | (have H2_ := (Option.bind_some _ _).symm.trans H; with_reducible exact H2_) | with_reducible exact H | (rw [hy844]; exact H) | exact H
   have Ny844 := Aside0.mk hy844
   clear hy844
   replace H := Option.bind_eq_some_iff.mp H
   obtain ⟨t847, A270, H⟩ := H
   replace H : ((merinoref01_whole.f k true t847).bind fun bt850 => ((merinoref01_subD.f k l1_1 t827).bind fun t854 => ((merinoref01_whole.f k false t854).bind fun bt857 => (some (bt850.1, bt850.2, bt857.1, bt857.2))))) = some (r1, r2, r3, r4) := H
   have A27 := Aside0.mk A270
   clear A270
   replace H := Option.bind_eq_some_iff.mp H
   obtain ⟨⟨t850, t851⟩, A280, H⟩ := H
   replace H : ((merinoref01_subD.f k l1_1 t827).bind fun t854 => ((merinoref01_whole.f k false t854).bind fun bt857 => (some (t850, t851, bt857.1, bt857.2)))) = some (r1, r2, r3, r4) := H
   have A28 := Aside0.mk A280
   clear A280
   replace H := Option.bind_eq_some_iff.mp H
   obtain ⟨t854, A290, H⟩ := H
   replace H : ((merinoref01_whole.f k false t854).bind fun bt857 => (some (t850, t851, bt857.1, bt857.2))) = some (r1, r2, r3, r4) := H
   have A29 := Aside0.mk A290
   clear A290
   replace H := Option.bind_eq_some_iff.mp H
   obtain ⟨⟨t857, t858⟩, A300, H⟩ := H
   replace H : (some (t850, t851, t857, t858)) = some (r1, r2, r3, r4) := H
   have A30 := Aside0.mk A300
   clear A300
   simp only [Option.some.injEq, Prod.mk.injEq] at H
   obtain ⟨rfl, rfl, rfl, rfl⟩ := H
   go_enter Tryd.func67, Tryd.ntmps67
   try go_wp2_with (first | ((with_reducible refine gate_dst (N := 2) rfl ?_); refine qx_ 2 #[.bool true, .slice A0_1 l0_1.length c0_1] 31 ?hr ?_; (case hr => first | (go_simp; done) | (go_simp; rfl)); intro gb822 hg w31 hbox hb; have n0_ := Aside0.mk (below_step (q0_ HB.out) hb); have n1_ := Aside0.mk (hbox); have n2_ := Aside0.mk (qs_ hg (q0_ HB.out) : w.heap.size ≤ gb822); have n3_ := n2_; clear HB; have HB := n0_; have BK822 := n1_; have GW822 := n2_; have GE822 := n3_; clear n0_ n1_ n2_ n3_; clear hb hbox hg) | ((with_reducible refine gate_dst (N := 3) rfl ?_); refine qx_ 3 #[.bool a1_0, .slice A1_1 l1_1.length c1_1] 31 ?hr ?_; (case hr => first | (go_simp; done) | (go_simp; rfl)); intro gb823 hg w32 hbox hb; have n0_ := Aside0.mk (qk_ BK822.out hb); have n1_ := Aside0.mk (below_step (q1_ HB.out GE822.out) hb); have n2_ := Aside0.mk (hbox); have n3_ := Aside0.mk (qs_ hg (q1_ HB.out GE822.out) : w.heap.size ≤ gb823); have n4_ := n3_; have n5_ := Aside0.mk (qn_ hg BK822.out); have n6_ := Aside0.mk (Ne.symm (qn_ hg BK822.out)); clear BK822; clear HB; have BK822 := n0_; have HB := n1_; have BK823 := n2_; have GW823 := n3_; have GE823 := n4_; have NB822_823 := n5_; have NB823_822 := n6_; clear n0_ n1_ n2_ n3_ n4_ n5_ n6_; clear hb hbox hg) | ((with_reducible refine gate_dst (N := 4) rfl ?_); refine qx_ 4 #[.bool false, .slice none 0 0] 31 ?hr ?_; (case hr => first | (go_simp; done) | (go_simp; rfl)); intro gb824 hg w33 hbox hb; have n0_ := Aside0.mk (qk_ BK822.out hb); have n1_ := Aside0.mk (qk_ BK823.out hb); have n2_ := Aside0.mk (below_step (q2_ HB.out GE822.out GE823.out) hb); have n3_ := Aside0.mk (hbox); have n4_ := Aside0.mk (qs_ hg (q2_ HB.out GE822.out GE823.out) : w.heap.size ≤ gb824); have n5_ := n4_; have n6_ := Aside0.mk (qn_ hg BK822.out); have n7_ := Aside0.mk (Ne.symm (qn_ hg BK822.out)); have n8_ := Aside0.mk (qn_ hg BK823.out); have n9_ := Aside0.mk (Ne.symm (qn_ hg BK823.out)); clear BK822; clear BK823; clear HB; have BK822 := n0_; have BK823 := n1_; have HB := n2_; have BK824 := n3_; have GW824 := n4_; have GE824 := n5_; have NB822_824 := n6_; have NB824_822 := n7_; have NB823_824 := n8_; have NB824_823 := n9_; clear n0_ n1_ n2_ n3_ n4_ n5_ n6_ n7_ n8_ n9_; clear hb hbox hg) | ((with_reducible refine gate_dst (N := 5) rfl ?_); refine qx_ 5 #[.bool false, .slice none 0 0] 31 ?hr ?_; (case hr => first | (go_simp; done) | (go_simp; rfl)); intro gb825 hg w34 hbox hb; have n0_ := Aside0.mk (qk_ BK822.out hb); have n1_ := Aside0.mk (qk_ BK823.out hb); have n2_ := Aside0.mk (qk_ BK824.out hb); have n3_ := Aside0.mk (below_step (q3_ HB.out GE822.out GE823.out GE824.out) hb); have n4_ := Aside0.mk (hbox); have n5_ := Aside0.mk (qs_ hg (q3_ HB.out GE822.out GE823.out GE824.out) : w.heap.size ≤ gb825); have n6_ := n5_; have n7_ := Aside0.mk (qn_ hg BK822.out); have n8_ := Aside0.mk (Ne.symm (qn_ hg BK822.out)); have n9_ := Aside0.mk (qn_ hg BK823.out); have n10_ := Aside0.mk (Ne.symm (qn_ hg BK823.out)); have n11_ := Aside0.mk (qn_ hg BK824.out); have n12_ := Aside0.mk (Ne.symm (qn_ hg BK824.out)); clear BK822; clear BK823; clear BK824; clear HB; have BK822 := n0_; have BK823 := n1_; have BK824 := n2_; have HB := n3_; have BK825 := n4_; have GW825 := n5_; have GE825 := n6_; have NB822_825 := n7_; have NB825_822 := n8_; have NB823_825 := n9_; have NB825_823 := n10_; have NB824_825 := n11_; have NB825_824 := n12_; clear n0_ n1_ n2_ n3_ n4_ n5_ n6_ n7_ n8_ n9_ n10_ n11_ n12_; clear hb hbox hg; have hnb35 := NB822_823.out; have hnc35 := NB823_822.out; have hnb36 := NB822_824.out; have hnc36 := NB824_822.out; have hnb37 := NB822_825.out; have hnc37 := NB825_822.out; have hcz38_0 : w34.cell? ⟨gb822, 0, none⟩ = some (.bool true) := (blk_cell BK822.out 0).trans rfl; have hcz38_1 : w34.cell? ⟨gb822, 1, none⟩ = some (.slice A0_1 l0_1.length c0_1) := (blk_cell BK822.out 1).trans rfl; have hfz38_0 := blk_frozen BK822.out 0; have hfz38_1 := blk_frozen BK822.out 1; have hnb39 := NB823_824.out; have hnc39 := NB824_823.out; have hnb40 := NB823_825.out; have hnc40 := NB825_823.out; have hcz41_0 : w34.cell? ⟨gb823, 0, none⟩ = some (.bool a1_0) := (blk_cell BK823.out 0).trans rfl; have hcz41_1 : w34.cell? ⟨gb823, 1, none⟩ = some (.slice A1_1 l1_1.length c1_1) := (blk_cell BK823.out 1).trans rfl; have hfz41_0 := blk_frozen BK823.out 0; have hfz41_1 := blk_frozen BK823.out 1) | ((with_reducible refine gate_callee (f := 105) rfl ?_); refine goesL_ (some 13) rfl rfl Tryd.func105 (by kernel_rfl) rfl #[.slice A0_1 l0_1.length c0_1, .slice A1_1 l1_1.length c1_1] rfl qe_ ?_; (with_reducible refine (merinoref01_divD.calls k _ _ l0_1 _ _ l1_1 t826 t827 _ ?side1 ?side2 ?side3 ?side4 A3.out).mono ?_); (case side1 => exact qc_ (Kd.C_below HR0_1.out HB.out)); (case side2 => exact HC0_1.out); (case side3 => exact qc_ (Kd.C_below HR1_1.out HB.out)); (case side4 => exact HC1_1.out); rintro e w42 ⟨v828, v830, rfl, ho0, ho1, hb⟩; refine ⟨_, rfl, ?_⟩; have n0_ := Aside0.mk (Kd.R_lower ho0 (below_size (q4_ HB.out GE822.out GE823.out GE824.out GE825.out))); have n1_ := Aside0.mk (Kd.R_lower ho1 (below_size (q4_ HB.out GE822.out GE823.out GE824.out GE825.out))); have n2_ := Aside0.mk (qk_ BK822.out hb); have n3_ := Aside0.mk (qk_ BK823.out hb); have n4_ := Aside0.mk (qk_ BK824.out hb); have n5_ := Aside0.mk (qk_ BK825.out hb); have n6_ := Aside0.mk (below_step (q4_ HB.out GE822.out GE823.out GE824.out GE825.out) hb); clear BK822; clear BK823; clear BK824; clear BK825; clear HB; have HO829 := n0_; have HO831 := n1_; have BK822 := n2_; have BK823 := n3_; have BK824 := n4_; have BK825 := n5_; have HB := n6_; clear n0_ n1_ n2_ n3_ n4_ n5_ n6_; (try clear hb); (try clear hb2); (try clear hk); (try clear hi); (try clear ho0); (try clear ho1); have hcz43_0 : w42.cell? ⟨gb822, 0, none⟩ = some (.bool true) := (blk_cell BK822.out 0).trans rfl; have hcz43_1 : w42.cell? ⟨gb822, 1, none⟩ = some (.slice A0_1 l0_1.length c0_1) := (blk_cell BK822.out 1).trans rfl; have hfz43_0 := blk_frozen BK822.out 0; have hfz43_1 := blk_frozen BK822.out 1; obtain ⟨Ao44, co44, eo44⟩ := Kd.R_slice HO831.out; subst eo44))
   have n0_ := Aside0.mk (Kd.R_drew HO829.out)
   have n1_ := Aside0.mk (Kd.R_drew HO831.out)
   have n2_ := Aside0.mk (blk_drew BK822.out)
   have n3_ := Aside0.mk (blk_drew BK823.out)
   have n4_ := Aside0.mk (blk_drew BK824.out)
   have n5_ := Aside0.mk (blk_drew BK825.out)
   have n6_ := Aside0.mk (below_drew1 HB.out)
   clear HO829
   clear HO831
   clear BK822
   clear BK823
   clear BK824
   clear BK825
   clear HB
   have HO829 := n0_
   have HO831 := n1_
   have BK822 := n2_
   have BK823 := n3_
   have BK824 := n4_
   have BK825 := n5_
   have HB := n6_
   clear n0_ n1_ n2_ n3_ n4_ n5_ n6_
   refine start_ (n := 11) (S := fun w' => w'.cell? ⟨gb823, 0, none⟩ = some (.bool a1_0) ∧ w'.cell? ⟨gb823, 1, none⟩ = some (.slice A1_1 l1_1.length c1_1)) (ds := []) #[false, false, false, false, false, false, false, false, false, false, false] (by kernel_rfl) rfl rfl ⟨(blk_cell BK823.out 0).trans rfl, (blk_cell BK823.out 1).trans rfl⟩ (fun hHeld => ?_); refine with_tabW merinoref01_Over.tab6 merinoref01_Over.bits6 (fun HT_ HW_ => ?_)
   generalize w42.drew = w45 at HO829 HO831 BK822 BK823 BK824 BK825 HB hHeld ⊢
   refine pu_ 0 29 11 1 HT_.out ?_
   refine pu_ 4 33 11 17 HT_.out ?_
   refine pu_ 6 35 11 81 HT_.out ?_
   refine ta_ 5 34 11 113 rfl rfl HT_.out HW_.out hHeld (Or.inl ⟨by rfl, by rintro w' ⟨s0, s1⟩; go_simp; with_reducible rfl⟩) ?_
   refine one_ (i := 1) (N := some 30) #[true, true, false, false, true, true, true, false, false, false, false] rfl rfl (one_of HT_.out (by kernel_rfl)) (by decide) (fun K hK => ?_)
   refine Kd.R_lit_step (Kd.int .i64) _ 3 ?hg (N := 30) ?hd (xs := ([1] : List Int)) (inner := [.int .i64 1]) (ok := fun _ => True) (okp := fun _ => True) ?hr ?hp (fun _ hk => hk) trivial (Below.refl _ _) (Nat.le_refl _) (by simp) ?_; (case hd => rfl); (case hg => rfl); (case hr => first | (go_simp; done) | (go_simp; rfl)); (case hp => exact (Reps.one (show Kd.M (Kd.int .i64) _ _ _ 1 [.int .i64 1] from rfl) (Reps.none _ _)))
   intro v845 w46 ho47 hb hg_ hnew_
   clear hg_ hnew_
   (first | rw [← Ny844.out] at ho47 | (simp only [Int.reduceToNat] at ho47; rw [← Ny844.out] at ho47))
   have n0_ := Aside0.mk (Kd.R_elder' (qr_ HO829.out) (Kd.R_base ho47) hb)
   have n1_ := Aside0.mk (Kd.R_elder' (qr_ HO831.out) (Kd.R_base ho47) hb)
   have n2_ := Aside0.mk (Kd.R_lower (Kd.R_new' (Kd.R_new' ho47 (Kd.R_lt (qr_ HO829.out))) (Kd.R_lt (qr_ HO831.out))) (below_size (q4_ HB.out GE822.out GE823.out GE824.out GE825.out)))
   have n3_ := Aside0.mk (qk_ BK822.out hb)
   have n4_ := Aside0.mk (qk_ BK823.out hb)
   have n5_ := Aside0.mk (qk_ BK824.out hb)
   have n6_ := Aside0.mk (qk_ BK825.out hb)
   have n7_ := Aside0.mk (below_step (q4_ HB.out GE822.out GE823.out GE824.out GE825.out) hb)
   clear HO829
   clear HO831
   clear BK822
   clear BK823
   clear BK824
   clear BK825
   clear HB
   have HO829 := n0_
   have HO831 := n1_
   have HO846 := n2_
   have BK822 := n3_
   have BK823 := n4_
   have BK824 := n5_
   have BK825 := n6_
   have HB := n7_
   clear n0_ n1_ n2_ n3_ n4_ n5_ n6_ n7_
   clear hb ho47
   obtain ⟨Ao48, co48, eo48⟩ := Kd.R_slice HO829.out
   (first | subst eo48 | (injection eo48 with f1_ f2_ f3_; have f4_ := f1_.symm; have f5_ := f3_.symm; clear f1_ f2_ f3_; subst f4_; subst f5_))
   obtain ⟨Ao49, co49, eo49⟩ := Kd.R_slice HO846.out
   (first | subst eo49 | (injection eo49 with f1_ f2_ f3_; have f4_ := f1_.symm; have f5_ := f3_.symm; clear f1_ f2_ f3_; subst f4_; subst f5_))
   refine hK.out _ _ ⟨(blk_cell BK823.out 0).trans rfl, (blk_cell BK823.out 1).trans rfl⟩ (fun hHeld => ?_)
   clear hK K
   refine norm_ (a' := ?_) ?_ ?_
   rotate_left
   ·show Act.put _ (some 30) _ = _
    simp only [Act.put, List.setIfInBounds_toArray, List.set_cons_zero, List.set_cons_succ, i64_w, i32_w]
    rfl
   refine one_ (i := 2) (N := some 31) #[true, true, true, false, true, true, true, false, false, false, false] rfl rfl (one_of HT_.out (by kernel_rfl)) (by decide) (fun K hK => ?_)
   refine goes_ Tryd.func106 (by kernel_rfl) rfl #[.slice Ao48 t826.length co48, .slice Ao49 y844.length co49] (by rfl) rfl rfl qe_ ?_
   with_reducible refine (merinoref01_addD.calls k _ _ t826 _ _ y844 t847 _ ?side1 ?side2 ?side3 ?side4 A27.out).mono ?_
   (case side1 => exact qc_ (Kd.R_reads' HO829.out).2.2)
   (case side2 => exact (Kd.R_reads' HO829.out).2.1)
   (case side3 => exact qc_ (Kd.R_reads' HO846.out).2.2)
   (case side4 => exact (Kd.R_reads' HO846.out).2.1)
   rintro e w50 ⟨v848, rfl, ho0, hb⟩
   refine ⟨_, rfl, ?_⟩
   have n0_ := Aside0.mk (Kd.R_elder' (qr_ HO829.out) (Kd.R_base ho0) hb)
   have n1_ := Aside0.mk (Kd.R_elder' (qr_ HO831.out) (Kd.R_base ho0) hb)
   have n2_ := Aside0.mk (Kd.R_elder' (qr_ HO846.out) (Kd.R_base ho0) hb)
   have n3_ := Aside0.mk (Kd.R_lower (Kd.R_new' (Kd.R_new' (Kd.R_new' ho0 (Kd.R_lt (qr_ HO829.out))) (Kd.R_lt (qr_ HO831.out))) (Kd.R_lt (qr_ HO846.out))) (below_size (q4_ HB.out GE822.out GE823.out GE824.out GE825.out)))
   have n4_ := Aside0.mk (qk_ BK822.out hb)
   have n5_ := Aside0.mk (qk_ BK823.out hb)
   have n6_ := Aside0.mk (qk_ BK824.out hb)
   have n7_ := Aside0.mk (qk_ BK825.out hb)
   have n8_ := Aside0.mk (below_step (q4_ HB.out GE822.out GE823.out GE824.out GE825.out) hb)
   clear HO829
   clear HO831
   clear HO846
   clear BK822
   clear BK823
   clear BK824
   clear BK825
   clear HB
   have HO829 := n0_
   have HO831 := n1_
   have HO846 := n2_
   have HO849 := n3_
   have BK822 := n4_
   have BK823 := n5_
   have BK824 := n6_
   have BK825 := n7_
   have HB := n8_
   clear n0_ n1_ n2_ n3_ n4_ n5_ n6_ n7_ n8_
   (try clear hb)
   (try clear hb2)
   (try clear hk)
   (try clear hi)
   (try clear ho0)
   obtain ⟨Ao51, co51, eo51⟩ := Kd.R_slice HO849.out
   (first | subst eo51 | (injection eo51 with f1_ f2_ f3_; have f4_ := f1_.symm; have f5_ := f3_.symm; clear f1_ f2_ f3_; subst f4_; subst f5_))
   refine hK.out _ _ ⟨(blk_cell BK823.out 0).trans rfl, (blk_cell BK823.out 1).trans rfl⟩ (fun hHeld => ?_)
   clear hK K
   refine norm_ (a' := ?_) ?_ ?_
   rotate_left
   ·show Act.put _ (some 31) _ = _
    simp only [Act.put, List.setIfInBounds_toArray, List.set_cons_zero, List.set_cons_succ, i64_w, i32_w]
    rfl
   refine one_ (i := 3) (N := some 32) #[true, true, true, true, true, true, true, false, false, false, false] rfl rfl (one_of HT_.out (by kernel_rfl)) (by decide) (fun K hK => ?_)
   refine goes_ Tryd.func73 (by kernel_rfl) rfl #[.bool true, .slice Ao51 t847.length co51] (by rfl) rfl rfl qe_ ?_
   with_reducible refine (merinoref01_whole.calls k true _ _ t847 t850 t851 _ ?side1 ?side2 A28.out).mono ?_
   (case side1 => exact qc_ (Kd.R_reads' HO849.out).2.2)
   (case side2 => exact (Kd.R_reads' HO849.out).2.1)
   rintro e w52 ⟨v852, rfl, ho0, hb⟩
   refine ⟨_, rfl, ?_⟩
   have n0_ := Aside0.mk (Kd.R_elder' (qr_ HO829.out) (Kd.R_base ho0) hb)
   have n1_ := Aside0.mk (Kd.R_elder' (qr_ HO831.out) (Kd.R_base ho0) hb)
   have n2_ := Aside0.mk (Kd.R_elder' (qr_ HO846.out) (Kd.R_base ho0) hb)
   have n3_ := Aside0.mk (Kd.R_elder' (qr_ HO849.out) (Kd.R_base ho0) hb)
   have n4_ := Aside0.mk (Kd.R_lower (Kd.R_new' (Kd.R_new' (Kd.R_new' (Kd.R_new' ho0 (Kd.R_lt (qr_ HO829.out))) (Kd.R_lt (qr_ HO831.out))) (Kd.R_lt (qr_ HO846.out))) (Kd.R_lt (qr_ HO849.out))) (below_size (q4_ HB.out GE822.out GE823.out GE824.out GE825.out)))
   have n5_ := Aside0.mk (qk_ BK822.out hb)
   have n6_ := Aside0.mk (qk_ BK823.out hb)
   have n7_ := Aside0.mk (qk_ BK824.out hb)
   have n8_ := Aside0.mk (qk_ BK825.out hb)
   have n9_ := Aside0.mk (below_step (q4_ HB.out GE822.out GE823.out GE824.out GE825.out) hb)
   clear HO829
   clear HO831
   clear HO846
   clear HO849
   clear BK822
   clear BK823
   clear BK824
   clear BK825
   clear HB
   have HO829 := n0_
   have HO831 := n1_
   have HO846 := n2_
   have HO849 := n3_
   have HO853 := n4_
   have BK822 := n5_
   have BK823 := n6_
   have BK824 := n7_
   have BK825 := n8_
   have HB := n9_
   clear n0_ n1_ n2_ n3_ n4_ n5_ n6_ n7_ n8_ n9_
   (try clear hb)
   (try clear hb2)
   (try clear hk)
   (try clear hi)
   (try clear ho0)
   refine hK.out _ _ ⟨(blk_cell BK823.out 0).trans rfl, (blk_cell BK823.out 1).trans rfl⟩ (fun hHeld => ?_)
   clear hK K
   refine norm_ (a' := ?_) ?_ ?_
   rotate_left
   ·show Act.put _ (some 32) _ = _
    simp only [Act.put, List.setIfInBounds_toArray, List.set_cons_zero, List.set_cons_succ, i64_w, i32_w]
    rfl
   refine one_ (i := 7) (N := some 36) #[true, true, true, true, true, true, true, true, false, false, false] rfl rfl (one_of HT_.out (by kernel_rfl)) (by decide) (fun K hK => ?_)
   refine goes_ Tryd.func107 (by kernel_rfl) rfl #[.slice A1_1 l1_1.length c1_1, .slice Ao44 t827.length co44] (by rfl) rfl rfl qe_ ?_
   with_reducible refine (merinoref01_subD.calls k _ _ l1_1 _ _ t827 t854 _ ?side1 ?side2 ?side3 ?side4 A29.out).mono ?_
   (case side1 => exact qc_ (Kd.C_below HR1_1.out HB.out))
   (case side2 => exact HC1_1.out)
   (case side3 => exact qc_ (Kd.R_reads' HO831.out).2.2)
   (case side4 => exact (Kd.R_reads' HO831.out).2.1)
   rintro e w53 ⟨v855, rfl, ho0, hb⟩
   refine ⟨_, rfl, ?_⟩
   have n0_ := Aside0.mk (Kd.R_elder' (qr_ HO829.out) (Kd.R_base ho0) hb)
   have n1_ := Aside0.mk (Kd.R_elder' (qr_ HO831.out) (Kd.R_base ho0) hb)
   have n2_ := Aside0.mk (Kd.R_elder' (qr_ HO846.out) (Kd.R_base ho0) hb)
   have n3_ := Aside0.mk (Kd.R_elder' (qr_ HO849.out) (Kd.R_base ho0) hb)
   have n4_ := Aside0.mk (Kd.R_elder' (qr_ HO853.out) (Kd.R_base ho0) hb)
   have n5_ := Aside0.mk (Kd.R_lower (Kd.R_new' (Kd.R_new' (Kd.R_new' (Kd.R_new' (Kd.R_new' ho0 (Kd.R_lt (qr_ HO829.out))) (Kd.R_lt (qr_ HO831.out))) (Kd.R_lt (qr_ HO846.out))) (Kd.R_lt (qr_ HO849.out))) (Kd.R_lt (qr_ HO853.out))) (below_size (q4_ HB.out GE822.out GE823.out GE824.out GE825.out)))
   have n6_ := Aside0.mk (qk_ BK822.out hb)
   have n7_ := Aside0.mk (qk_ BK823.out hb)
   have n8_ := Aside0.mk (qk_ BK824.out hb)
   have n9_ := Aside0.mk (qk_ BK825.out hb)
   have n10_ := Aside0.mk (below_step (q4_ HB.out GE822.out GE823.out GE824.out GE825.out) hb)
   clear HO829
   clear HO831
   clear HO846
   clear HO849
   clear HO853
   clear BK822
   clear BK823
   clear BK824
   clear BK825
   clear HB
   have HO829 := n0_
   have HO831 := n1_
   have HO846 := n2_
   have HO849 := n3_
   have HO853 := n4_
   have HO856 := n5_
   have BK822 := n6_
   have BK823 := n7_
   have BK824 := n8_
   have BK825 := n9_
   have HB := n10_
   clear n0_ n1_ n2_ n3_ n4_ n5_ n6_ n7_ n8_ n9_ n10_
   (try clear hb)
   (try clear hb2)
   (try clear hk)
   (try clear hi)
   (try clear ho0)
   obtain ⟨Ao54, co54, eo54⟩ := Kd.R_slice HO856.out
   (first | subst eo54 | (injection eo54 with f1_ f2_ f3_; have f4_ := f1_.symm; have f5_ := f3_.symm; clear f1_ f2_ f3_; subst f4_; subst f5_))
   refine hK.out _ _ ⟨(blk_cell BK823.out 0).trans rfl, (blk_cell BK823.out 1).trans rfl⟩ (fun hHeld => ?_)
   clear hK K
   refine norm_ (a' := ?_) ?_ ?_
   rotate_left
   ·show Act.put _ (some 36) _ = _
    simp only [Act.put, List.setIfInBounds_toArray, List.set_cons_zero, List.set_cons_succ, i64_w, i32_w]
    rfl
   refine one_ (i := 8) (N := some 37) #[true, true, true, true, true, true, true, true, true, false, false] rfl rfl (one_of HT_.out (by kernel_rfl)) (by decide) (fun K hK => ?_)
   refine goes_ Tryd.func73 (by kernel_rfl) rfl #[.bool false, .slice Ao54 t854.length co54] (by rfl) rfl rfl qe_ ?_
   with_reducible refine (merinoref01_whole.calls k false _ _ t854 t857 t858 _ ?side1 ?side2 A30.out).mono ?_
   (case side1 => exact qc_ (Kd.R_reads' HO856.out).2.2)
   (case side2 => exact (Kd.R_reads' HO856.out).2.1)
   rintro e w55 ⟨v859, rfl, ho0, hb⟩
   refine ⟨_, rfl, ?_⟩
   have n0_ := Aside0.mk (Kd.R_elder' (qr_ HO829.out) (Kd.R_base ho0) hb)
   have n1_ := Aside0.mk (Kd.R_elder' (qr_ HO831.out) (Kd.R_base ho0) hb)
   have n2_ := Aside0.mk (Kd.R_elder' (qr_ HO846.out) (Kd.R_base ho0) hb)
   have n3_ := Aside0.mk (Kd.R_elder' (qr_ HO849.out) (Kd.R_base ho0) hb)
   have n4_ := Aside0.mk (Kd.R_elder' (qr_ HO853.out) (Kd.R_base ho0) hb)
   have n5_ := Aside0.mk (Kd.R_elder' (qr_ HO856.out) (Kd.R_base ho0) hb)
   have n6_ := Aside0.mk (Kd.R_lower (Kd.R_new' (Kd.R_new' (Kd.R_new' (Kd.R_new' (Kd.R_new' (Kd.R_new' ho0 (Kd.R_lt (qr_ HO829.out))) (Kd.R_lt (qr_ HO831.out))) (Kd.R_lt (qr_ HO846.out))) (Kd.R_lt (qr_ HO849.out))) (Kd.R_lt (qr_ HO853.out))) (Kd.R_lt (qr_ HO856.out))) (below_size (q4_ HB.out GE822.out GE823.out GE824.out GE825.out)))
   have n7_ := Aside0.mk (qk_ BK822.out hb)
   have n8_ := Aside0.mk (qk_ BK823.out hb)
   have n9_ := Aside0.mk (qk_ BK824.out hb)
   have n10_ := Aside0.mk (qk_ BK825.out hb)
   have n11_ := Aside0.mk (below_step (q4_ HB.out GE822.out GE823.out GE824.out GE825.out) hb)
   clear HO829
   clear HO831
   clear HO846
   clear HO849
   clear HO853
   clear HO856
   clear BK822
   clear BK823
   clear BK824
   clear BK825
   clear HB
   have HO829 := n0_
   have HO831 := n1_
   have HO846 := n2_
   have HO849 := n3_
   have HO853 := n4_
   have HO856 := n5_
   have HO860 := n6_
   have BK822 := n7_
   have BK823 := n8_
   have BK824 := n9_
   have BK825 := n10_
   have HB := n11_
   clear n0_ n1_ n2_ n3_ n4_ n5_ n6_ n7_ n8_ n9_ n10_ n11_
   (try clear hb)
   (try clear hb2)
   (try clear hk)
   (try clear hi)
   (try clear ho0)
   obtain ⟨Ao57, co57, eo57⟩ := Kd.R_slice HO853.out
   (first | subst eo57 | (injection eo57 with f1_ f2_ f3_; have f4_ := f1_.symm; have f5_ := f3_.symm; clear f1_ f2_ f3_; subst f4_; subst f5_))
   obtain ⟨Ao60, co60, eo60⟩ := Kd.R_slice HO860.out
   (first | subst eo60 | (injection eo60 with f1_ f2_ f3_; have f4_ := f1_.symm; have f5_ := f3_.symm; clear f1_ f2_ f3_; subst f4_; subst f5_))
   refine hK.out _ _ ⟨(blk_cell BK823.out 0).trans rfl, (blk_cell BK823.out 1).trans rfl⟩ (fun hHeld => ?_)
   clear hK K
   refine norm_ (a' := ?_) ?_ ?_
   rotate_left
   ·show Act.put _ (some 37) _ = _
    simp only [Act.put, List.setIfInBounds_toArray, List.set_cons_zero, List.set_cons_succ, i64_w, i32_w]
    rfl
   refine one_ (i := 9) (N := none) #[true, true, true, true, true, true, true, true, true, true, false] rfl rfl (one_of HT_.out (by kernel_rfl)) (by decide) (fun K hK => ?_)
   have hs56 : w55.cell? ⟨gb824, 0, none⟩ = some (.bool false) := (blk_cell BK824.out 0).trans rfl
   have hfs56 := blk_frozen BK824.out 0
   have hns56_0 := NB822_824.out
   have hns56_1 := NB823_824.out
   have hns56_3 := NB825_824.out
   have hms56_0 := NB824_822.out
   have hms56_1 := NB824_823.out
   have hms56_3 := NB824_825.out
   have hs58 : w55.cell? ⟨gb824, 1, none⟩ = some (.slice none 0 0) := (blk_cell BK824.out 1).trans rfl
   have hfs58 := blk_frozen BK824.out 1
   have hns58_0 := NB822_824.out
   have hns58_1 := NB823_824.out
   have hns58_3 := NB825_824.out
   have hms58_0 := NB824_822.out
   have hms58_1 := NB824_823.out
   have hms58_3 := NB824_825.out
   refine skip_ (w1 := ?_) (by rfl) rfl ?_ ?_
   rotate_left
   ·go_simp
    rfl
   refine hK.out _ _ ⟨((cell_far (p := ⟨gb824, _, none⟩) NB823_824.out _).trans (((cell_far (p := ⟨gb824, _, none⟩) NB823_824.out _).trans (hHeld.1)))), ((cell_far (p := ⟨gb824, _, none⟩) NB823_824.out _).trans (((cell_far (p := ⟨gb824, _, none⟩) NB823_824.out _).trans (hHeld.2))))⟩ (fun hHeld => ?_)
   clear hK K
   refine one_ (i := 10) (N := none) #[true, true, true, true, true, true, true, true, true, true, true] rfl rfl (one_of HT_.out (by kernel_rfl)) (by decide) (fun K hK => ?_)
   have hs59 : w55.cell? ⟨gb825, 0, none⟩ = some (.bool false) := (blk_cell BK825.out 0).trans rfl
   have hfs59 := blk_frozen BK825.out 0
   have hns59_0 := NB822_825.out
   have hns59_1 := NB823_825.out
   have hns59_2 := NB824_825.out
   have hms59_0 := NB825_822.out
   have hms59_1 := NB825_823.out
   have hms59_2 := NB825_824.out
   have hs61 : w55.cell? ⟨gb825, 1, none⟩ = some (.slice none 0 0) := (blk_cell BK825.out 1).trans rfl
   have hfs61 := blk_frozen BK825.out 1
   have hns61_0 := NB822_825.out
   have hns61_1 := NB823_825.out
   have hns61_2 := NB824_825.out
   have hms61_0 := NB825_822.out
   have hms61_1 := NB825_823.out
   have hms61_2 := NB825_824.out
   refine skip_ (w1 := ?_) (by rfl) rfl ?_ ?_
   rotate_left
   ·go_simp
    rfl
   refine hK.out _ _ ⟨((cell_far (p := ⟨gb825, _, none⟩) NB823_825.out _).trans (((cell_far (p := ⟨gb825, _, none⟩) NB823_825.out _).trans (hHeld.1)))), ((cell_far (p := ⟨gb825, _, none⟩) NB823_825.out _).trans (((cell_far (p := ⟨gb825, _, none⟩) NB823_825.out _).trans (hHeld.2))))⟩ (fun hHeld => ?_)
   clear hK K
   refine done_ (done_of HT_.out (by kernel_rfl)) ?_
   try go_wp2
   refine bodyPost_ret (results_cc rfl _ _ gb824 gb825 31 31 #[.bool t850, .slice Ao57 t851.length co57] #[.bool t857, .slice Ao60 t858.length co60] (0, 0) (0, 0) _ _ rfl (by refine qb_ ?_; refine blk_far ?_ NB824_825.out _; refine qb_ ?_; refine blk_far ?_ NB824_825.out _; refine qb_ ?_; refine blk_put (cs := #[.bool t850, .slice none 0 0]) ?_ 1 _ rfl; refine qb_ ?_; refine blk_put (cs := #[.bool false, .slice none 0 0]) ?_ 0 _ rfl; refine qb_ ?_; exact BK824.out) Tryd.underlying31 rfl (by kernel_rfl) rfl (by refine qb_ ?_; refine blk_put (cs := #[.bool t857, .slice none 0 0]) ?_ 1 _ rfl; refine qb_ ?_; refine blk_put (cs := #[.bool false, .slice none 0 0]) ?_ 0 _ rfl; refine qb_ ?_; refine blk_far ?_ NB825_824.out _; refine qb_ ?_; refine blk_far ?_ NB825_824.out _; refine qb_ ?_; exact BK825.out) Tryd.underlying31 rfl (by kernel_rfl)) rfl ?_
   exact ⟨_, _, by first | rfl | (simp [errW_none, errW_some] <;> rfl) | (simp [*, errW_none, errW_some] <;> rfl), by refine qr_ ?_; exact Kd.R_mono (Kd.R_far (p := ⟨gb825, 1, none⟩) (Kd.R_far (p := ⟨gb825, 0, none⟩) (Kd.R_far (p := ⟨gb824, 1, none⟩) (Kd.R_far (p := ⟨gb824, 0, none⟩) (Kd.R_types (Kd.R_types HO853.out BK824.out (by decide)) BK825.out (by decide)) (fun _ hk => hk.1.2) (.bool t850)) (fun _ hk => hk.1.2) (.slice Ao57 t851.length co57)) (fun _ hk => hk.2) (.bool t857)) (fun _ hk => hk.2) (.slice Ao60 t858.length co60)) (fun _ hk => hk.1.1.2), by refine qr_ ?_; exact Kd.R_mono (Kd.R_far (p := ⟨gb825, 1, none⟩) (Kd.R_far (p := ⟨gb825, 0, none⟩) (Kd.R_far (p := ⟨gb824, 1, none⟩) (Kd.R_far (p := ⟨gb824, 0, none⟩) (Kd.R_types (Kd.R_types HO860.out BK824.out (by decide)) BK825.out (by decide)) (fun _ hk => hk.1.2) (.bool t850)) (fun _ hk => hk.1.2) (.slice Ao57 t851.length co57)) (fun _ hk => hk.2) (.bool t857)) (fun _ hk => hk.2) (.slice Ao60 t858.length co60)) (fun _ hk => hk.1.1.1.2), (q4_ HB.out GE822.out GE823.out GE824.out GE825.out)⟩
 ·replace c4 := Bool.eq_false_iff.mpr c4
  subst c4
  have H1 : ((merinoref01_whole.f k false t826).bind fun bt832 => ((merinoref01_whole.f k false t827).bind fun bt836 => (some (bt832.1, bt832.2, bt836.1, bt836.2)))) = some (r1, r2, r3, r4) := by rw [if_neg (show ¬ (false = true) by decide)] at H; exact H
  clear H
  have H := H1
  clear H1
  replace H := Option.bind_eq_some_iff.mp H
  obtain ⟨⟨t832, t833⟩, A620, H⟩ := H
  replace H : ((merinoref01_whole.f k false t827).bind fun bt836 => (some (t832, t833, bt836.1, bt836.2))) = some (r1, r2, r3, r4) := H
  have A62 := Aside0.mk A620
  clear A620
  replace H := Option.bind_eq_some_iff.mp H
  obtain ⟨⟨t836, t837⟩, A630, H⟩ := H
  replace H : (some (t832, t833, t836, t837)) = some (r1, r2, r3, r4) := H
  have A63 := Aside0.mk A630
  clear A630
  simp only [Option.some.injEq, Prod.mk.injEq] at H
  obtain ⟨rfl, rfl, rfl, rfl⟩ := H
  go_enter Tryd.func67, Tryd.ntmps67
  go_wp2_with (first | ((with_reducible refine gate_dst (N := 2) rfl ?_); refine qx_ 2 #[.bool false, .slice A0_1 l0_1.length c0_1] 31 ?hr ?_; (case hr => first | (go_simp; done) | (go_simp; rfl)); intro gb822 hg w64 hbox hb; have n0_ := Aside0.mk (below_step (q0_ HB.out) hb); have n1_ := Aside0.mk (hbox); have n2_ := Aside0.mk (qs_ hg (q0_ HB.out) : w.heap.size ≤ gb822); have n3_ := n2_; clear HB; have HB := n0_; have BK822 := n1_; have GW822 := n2_; have GE822 := n3_; clear n0_ n1_ n2_ n3_; clear hb hbox hg) | ((with_reducible refine gate_dst (N := 3) rfl ?_); refine qx_ 3 #[.bool a1_0, .slice A1_1 l1_1.length c1_1] 31 ?hr ?_; (case hr => first | (go_simp; done) | (go_simp; rfl)); intro gb823 hg w65 hbox hb; have n0_ := Aside0.mk (qk_ BK822.out hb); have n1_ := Aside0.mk (below_step (q1_ HB.out GE822.out) hb); have n2_ := Aside0.mk (hbox); have n3_ := Aside0.mk (qs_ hg (q1_ HB.out GE822.out) : w.heap.size ≤ gb823); have n4_ := n3_; have n5_ := Aside0.mk (qn_ hg BK822.out); have n6_ := Aside0.mk (Ne.symm (qn_ hg BK822.out)); clear BK822; clear HB; have BK822 := n0_; have HB := n1_; have BK823 := n2_; have GW823 := n3_; have GE823 := n4_; have NB822_823 := n5_; have NB823_822 := n6_; clear n0_ n1_ n2_ n3_ n4_ n5_ n6_; clear hb hbox hg) | ((with_reducible refine gate_dst (N := 4) rfl ?_); refine qx_ 4 #[.bool false, .slice none 0 0] 31 ?hr ?_; (case hr => first | (go_simp; done) | (go_simp; rfl)); intro gb824 hg w66 hbox hb; have n0_ := Aside0.mk (qk_ BK822.out hb); have n1_ := Aside0.mk (qk_ BK823.out hb); have n2_ := Aside0.mk (below_step (q2_ HB.out GE822.out GE823.out) hb); have n3_ := Aside0.mk (hbox); have n4_ := Aside0.mk (qs_ hg (q2_ HB.out GE822.out GE823.out) : w.heap.size ≤ gb824); have n5_ := n4_; have n6_ := Aside0.mk (qn_ hg BK822.out); have n7_ := Aside0.mk (Ne.symm (qn_ hg BK822.out)); have n8_ := Aside0.mk (qn_ hg BK823.out); have n9_ := Aside0.mk (Ne.symm (qn_ hg BK823.out)); clear BK822; clear BK823; clear HB; have BK822 := n0_; have BK823 := n1_; have HB := n2_; have BK824 := n3_; have GW824 := n4_; have GE824 := n5_; have NB822_824 := n6_; have NB824_822 := n7_; have NB823_824 := n8_; have NB824_823 := n9_; clear n0_ n1_ n2_ n3_ n4_ n5_ n6_ n7_ n8_ n9_; clear hb hbox hg) | ((with_reducible refine gate_dst (N := 5) rfl ?_); refine qx_ 5 #[.bool false, .slice none 0 0] 31 ?hr ?_; (case hr => first | (go_simp; done) | (go_simp; rfl)); intro gb825 hg w67 hbox hb; have n0_ := Aside0.mk (qk_ BK822.out hb); have n1_ := Aside0.mk (qk_ BK823.out hb); have n2_ := Aside0.mk (qk_ BK824.out hb); have n3_ := Aside0.mk (below_step (q3_ HB.out GE822.out GE823.out GE824.out) hb); have n4_ := Aside0.mk (hbox); have n5_ := Aside0.mk (qs_ hg (q3_ HB.out GE822.out GE823.out GE824.out) : w.heap.size ≤ gb825); have n6_ := n5_; have n7_ := Aside0.mk (qn_ hg BK822.out); have n8_ := Aside0.mk (Ne.symm (qn_ hg BK822.out)); have n9_ := Aside0.mk (qn_ hg BK823.out); have n10_ := Aside0.mk (Ne.symm (qn_ hg BK823.out)); have n11_ := Aside0.mk (qn_ hg BK824.out); have n12_ := Aside0.mk (Ne.symm (qn_ hg BK824.out)); clear BK822; clear BK823; clear BK824; clear HB; have BK822 := n0_; have BK823 := n1_; have BK824 := n2_; have HB := n3_; have BK825 := n4_; have GW825 := n5_; have GE825 := n6_; have NB822_825 := n7_; have NB825_822 := n8_; have NB823_825 := n9_; have NB825_823 := n10_; have NB824_825 := n11_; have NB825_824 := n12_; clear n0_ n1_ n2_ n3_ n4_ n5_ n6_ n7_ n8_ n9_ n10_ n11_ n12_; clear hb hbox hg; have hnb68 := NB822_823.out; have hnc68 := NB823_822.out; have hnb69 := NB822_824.out; have hnc69 := NB824_822.out; have hnb70 := NB822_825.out; have hnc70 := NB825_822.out; have hcz71_0 : w67.cell? ⟨gb822, 0, none⟩ = some (.bool false) := (blk_cell BK822.out 0).trans rfl; have hcz71_1 : w67.cell? ⟨gb822, 1, none⟩ = some (.slice A0_1 l0_1.length c0_1) := (blk_cell BK822.out 1).trans rfl; have hfz71_0 := blk_frozen BK822.out 0; have hfz71_1 := blk_frozen BK822.out 1; have hnb72 := NB823_824.out; have hnc72 := NB824_823.out; have hnb73 := NB823_825.out; have hnc73 := NB825_823.out; have hcz74_0 : w67.cell? ⟨gb823, 0, none⟩ = some (.bool a1_0) := (blk_cell BK823.out 0).trans rfl; have hcz74_1 : w67.cell? ⟨gb823, 1, none⟩ = some (.slice A1_1 l1_1.length c1_1) := (blk_cell BK823.out 1).trans rfl; have hfz74_0 := blk_frozen BK823.out 0; have hfz74_1 := blk_frozen BK823.out 1) | ((with_reducible refine gate_callee (f := 105) rfl ?_); refine goesL_ (some 13) rfl rfl Tryd.func105 (by kernel_rfl) rfl #[.slice A0_1 l0_1.length c0_1, .slice A1_1 l1_1.length c1_1] rfl qe_ ?_; (with_reducible refine (merinoref01_divD.calls k _ _ l0_1 _ _ l1_1 t826 t827 _ ?side1 ?side2 ?side3 ?side4 A3.out).mono ?_); (case side1 => exact qc_ (Kd.C_below HR0_1.out HB.out)); (case side2 => exact HC0_1.out); (case side3 => exact qc_ (Kd.C_below HR1_1.out HB.out)); (case side4 => exact HC1_1.out); rintro e w75 ⟨v828, v830, rfl, ho0, ho1, hb⟩; refine ⟨_, rfl, ?_⟩; have n0_ := Aside0.mk (Kd.R_lower ho0 (below_size (q4_ HB.out GE822.out GE823.out GE824.out GE825.out))); have n1_ := Aside0.mk (Kd.R_lower ho1 (below_size (q4_ HB.out GE822.out GE823.out GE824.out GE825.out))); have n2_ := Aside0.mk (qk_ BK822.out hb); have n3_ := Aside0.mk (qk_ BK823.out hb); have n4_ := Aside0.mk (qk_ BK824.out hb); have n5_ := Aside0.mk (qk_ BK825.out hb); have n6_ := Aside0.mk (below_step (q4_ HB.out GE822.out GE823.out GE824.out GE825.out) hb); clear BK822; clear BK823; clear BK824; clear BK825; clear HB; have HO829 := n0_; have HO831 := n1_; have BK822 := n2_; have BK823 := n3_; have BK824 := n4_; have BK825 := n5_; have HB := n6_; clear n0_ n1_ n2_ n3_ n4_ n5_ n6_; (try clear hb); (try clear hb2); (try clear hk); (try clear hi); (try clear ho0); (try clear ho1); have hcz76_0 : w75.cell? ⟨gb822, 0, none⟩ = some (.bool false) := (blk_cell BK822.out 0).trans rfl; have hcz76_1 : w75.cell? ⟨gb822, 1, none⟩ = some (.slice A0_1 l0_1.length c0_1) := (blk_cell BK822.out 1).trans rfl; have hfz76_0 := blk_frozen BK822.out 0; have hfz76_1 := blk_frozen BK822.out 1; obtain ⟨Ao77, co77, eo77⟩ := Kd.R_slice HO829.out; subst eo77) | ((with_reducible refine gate_callee (f := 73) rfl ?_); refine goesL_ (some 20) rfl rfl Tryd.func73 (by kernel_rfl) rfl #[.bool false, .slice Ao77 t826.length co77] rfl qe_ ?_; (with_reducible refine (merinoref01_whole.calls k false _ _ t826 t832 t833 _ ?side1 ?side2 A62.out).mono ?_); (case side1 => exact qc_ (Kd.R_reads' HO829.out).2.2); (case side2 => exact (Kd.R_reads' HO829.out).2.1); rintro e w78 ⟨v834, rfl, ho0, hb⟩; refine ⟨_, rfl, ?_⟩; have n0_ := Aside0.mk (Kd.R_elder' (qr_ HO829.out) (Kd.R_base ho0) hb); have n1_ := Aside0.mk (Kd.R_elder' (qr_ HO831.out) (Kd.R_base ho0) hb); have n2_ := Aside0.mk (Kd.R_lower (Kd.R_new' (Kd.R_new' ho0 (Kd.R_lt (qr_ HO829.out))) (Kd.R_lt (qr_ HO831.out))) (below_size (q4_ HB.out GE822.out GE823.out GE824.out GE825.out))); have n3_ := Aside0.mk (qk_ BK822.out hb); have n4_ := Aside0.mk (qk_ BK823.out hb); have n5_ := Aside0.mk (qk_ BK824.out hb); have n6_ := Aside0.mk (qk_ BK825.out hb); have n7_ := Aside0.mk (below_step (q4_ HB.out GE822.out GE823.out GE824.out GE825.out) hb); clear HO829; clear HO831; clear BK822; clear BK823; clear BK824; clear BK825; clear HB; have HO829 := n0_; have HO831 := n1_; have HO835 := n2_; have BK822 := n3_; have BK823 := n4_; have BK824 := n5_; have BK825 := n6_; have HB := n7_; clear n0_ n1_ n2_ n3_ n4_ n5_ n6_ n7_; (try clear hb); (try clear hb2); (try clear hk); (try clear hi); (try clear ho0); obtain ⟨Ao79, co79, eo79⟩ := Kd.R_slice HO831.out; subst eo79) | ((with_reducible refine gate_callee (f := 73) rfl ?_); refine goesL_ (some 22) rfl rfl Tryd.func73 (by kernel_rfl) rfl #[.bool false, .slice Ao79 t827.length co79] rfl qe_ ?_; (with_reducible refine (merinoref01_whole.calls k false _ _ t827 t836 t837 _ ?side1 ?side2 A63.out).mono ?_); (case side1 => exact qc_ (Kd.R_reads' HO831.out).2.2); (case side2 => exact (Kd.R_reads' HO831.out).2.1); rintro e w80 ⟨v838, rfl, ho0, hb⟩; refine ⟨_, rfl, ?_⟩; have n0_ := Aside0.mk (Kd.R_elder' (qr_ HO829.out) (Kd.R_base ho0) hb); have n1_ := Aside0.mk (Kd.R_elder' (qr_ HO831.out) (Kd.R_base ho0) hb); have n2_ := Aside0.mk (Kd.R_elder' (qr_ HO835.out) (Kd.R_base ho0) hb); have n3_ := Aside0.mk (Kd.R_lower (Kd.R_new' (Kd.R_new' (Kd.R_new' ho0 (Kd.R_lt (qr_ HO829.out))) (Kd.R_lt (qr_ HO831.out))) (Kd.R_lt (qr_ HO835.out))) (below_size (q4_ HB.out GE822.out GE823.out GE824.out GE825.out))); have n4_ := Aside0.mk (qk_ BK822.out hb); have n5_ := Aside0.mk (qk_ BK823.out hb); have n6_ := Aside0.mk (qk_ BK824.out hb); have n7_ := Aside0.mk (qk_ BK825.out hb); have n8_ := Aside0.mk (below_step (q4_ HB.out GE822.out GE823.out GE824.out GE825.out) hb); clear HO829; clear HO831; clear HO835; clear BK822; clear BK823; clear BK824; clear BK825; clear HB; have HO829 := n0_; have HO831 := n1_; have HO835 := n2_; have HO839 := n3_; have BK822 := n4_; have BK823 := n5_; have BK824 := n6_; have BK825 := n7_; have HB := n8_; clear n0_ n1_ n2_ n3_ n4_ n5_ n6_ n7_ n8_; (try clear hb); (try clear hb2); (try clear hk); (try clear hi); (try clear ho0); have hnb81 := NB824_825.out; have hnc81 := NB825_824.out; have hcz82_0 : w80.cell? ⟨gb824, 0, none⟩ = some (.bool false) := (blk_cell BK824.out 0).trans rfl; have hcz82_1 : w80.cell? ⟨gb824, 1, none⟩ = some (.slice none 0 0) := (blk_cell BK824.out 1).trans rfl; have hfz82_0 := blk_frozen BK824.out 0; have hfz82_1 := blk_frozen BK824.out 1; obtain ⟨Ao83, co83, eo83⟩ := Kd.R_slice HO835.out; subst eo83; have hcz84_0 : w80.cell? ⟨gb825, 0, none⟩ = some (.bool false) := (blk_cell BK825.out 0).trans rfl; have hcz84_1 : w80.cell? ⟨gb825, 1, none⟩ = some (.slice none 0 0) := (blk_cell BK825.out 1).trans rfl; have hfz84_0 := blk_frozen BK825.out 0; have hfz84_1 := blk_frozen BK825.out 1; obtain ⟨Ao85, co85, eo85⟩ := Kd.R_slice HO839.out; subst eo85))
  refine bodyPost_ret (results_cc rfl _ _ gb824 gb825 31 31 #[.bool t832, .slice Ao83 t833.length co83] #[.bool t836, .slice Ao85 t837.length co85] (0, 0) (0, 0) _ _ rfl (by refine qb_ ?_; refine blk_far ?_ NB824_825.out _; refine qb_ ?_; refine blk_far ?_ NB824_825.out _; refine qb_ ?_; refine blk_put (cs := #[.bool t832, .slice none 0 0]) ?_ 1 _ rfl; refine qb_ ?_; refine blk_put (cs := #[.bool false, .slice none 0 0]) ?_ 0 _ rfl; refine qb_ ?_; exact BK824.out) Tryd.underlying31 rfl (by kernel_rfl) rfl (by refine qb_ ?_; refine blk_put (cs := #[.bool t836, .slice none 0 0]) ?_ 1 _ rfl; refine qb_ ?_; refine blk_put (cs := #[.bool false, .slice none 0 0]) ?_ 0 _ rfl; refine qb_ ?_; refine blk_far ?_ NB825_824.out _; refine qb_ ?_; refine blk_far ?_ NB825_824.out _; refine qb_ ?_; exact BK825.out) Tryd.underlying31 rfl (by kernel_rfl)) rfl ?_
  exact ⟨_, _, by first | rfl | (simp [errW_none, errW_some] <;> rfl) | (simp [*, errW_none, errW_some] <;> rfl), by refine qr_ ?_; exact Kd.R_mono (Kd.R_far (p := ⟨gb825, 1, none⟩) (Kd.R_far (p := ⟨gb825, 0, none⟩) (Kd.R_far (p := ⟨gb824, 1, none⟩) (Kd.R_far (p := ⟨gb824, 0, none⟩) (Kd.R_types (Kd.R_types HO835.out BK824.out (by decide)) BK825.out (by decide)) (fun _ hk => hk.1.2) (.bool t832)) (fun _ hk => hk.1.2) (.slice Ao83 t833.length co83)) (fun _ hk => hk.2) (.bool t836)) (fun _ hk => hk.2) (.slice Ao85 t837.length co85)) (fun _ hk => hk.1.1.2), by refine qr_ ?_; exact Kd.R_mono (Kd.R_far (p := ⟨gb825, 1, none⟩) (Kd.R_far (p := ⟨gb825, 0, none⟩) (Kd.R_far (p := ⟨gb824, 1, none⟩) (Kd.R_far (p := ⟨gb824, 0, none⟩) (Kd.R_types (Kd.R_types HO839.out BK824.out (by decide)) BK825.out (by decide)) (fun _ hk => hk.1.2) (.bool t832)) (fun _ hk => hk.1.2) (.slice Ao83 t833.length co83)) (fun _ hk => hk.2) (.bool t836)) (fun _ hk => hk.2) (.slice Ao85 t837.length co85)) (fun _ hk => hk.1.1.2), (q4_ HB.out GE822.out GE823.out GE824.out GE825.out)⟩
def merinoref01_Zero.f (a0_0 : Bool) (l0_1 : List Int) : Option (Bool) := some ((l0_1.length : Int) == 0)
set_option maxHeartbeats 8000000 in
set_option maxRecDepth 100000 in
theorem merinoref01_Zero.calls (a0_0 : Bool) (A0_1 : Option Addr) (c0_1 : Nat) (l0_1 : List Int) (r : Bool) (w : World) (hr0_1 : Kd.C (Kd.int .i64) w A0_1 l0_1.length l0_1) (hc0_1 : l0_1.length ≤ c0_1) (h : merinoref01_Zero.f a0_0 l0_1 = some r) :
  Calls Tryd.prog 69 #[.agg #[.bool a0_0, .slice A0_1 l0_1.length c0_1]] w fun e w' => e = .returned (.bool r) ∧ Below w.heap.size w w' := by
 have hu31 := Tryd.underlying31
 have HR0_1 := Aside0.mk hr0_1
 have HC0_1 := Aside0.mk hc0_1
 clear hr0_1 hc0_1
 have HB := Aside0.mk (Below.refl w.heap.size w)
 have H : (some ((l0_1.length : Int) == 0)) = some r := h
 clear h
 obtain rfl := Option.some.inj H
 go_enter Tryd.func69, Tryd.ntmps69
 go_wp2_with (first | ((with_reducible refine gate_dst (N := 1) rfl ?_); refine qx_ 1 #[.bool a0_0, .slice A0_1 l0_1.length c0_1] 31 ?hr ?_; (case hr => first | (go_simp; done) | (go_simp; rfl)); intro gb890 hg w2 hbox hb; have n0_ := Aside0.mk (below_step (q0_ HB.out) hb); have n1_ := Aside0.mk (hbox); have n2_ := Aside0.mk (qs_ hg (q0_ HB.out) : w.heap.size ≤ gb890); have n3_ := n2_; clear HB; have HB := n0_; have BK890 := n1_; have GW890 := n2_; have GE890 := n3_; clear n0_ n1_ n2_ n3_; clear hb hbox hg; have hcz3_0 : w2.cell? ⟨gb890, 0, none⟩ = some (.bool a0_0) := (blk_cell BK890.out 0).trans rfl; have hcz3_1 : w2.cell? ⟨gb890, 1, none⟩ = some (.slice A0_1 l0_1.length c0_1) := (blk_cell BK890.out 1).trans rfl; have hfz3_0 := blk_frozen BK890.out 0; have hfz3_1 := blk_frozen BK890.out 1))
 go_ret
 exact ⟨by first | rfl | (simp [errW_none, errW_some] <;> rfl) | (simp [*, errW_none, errW_some] <;> rfl), (q1_ HB.out GE890.out)⟩
def merinoref01_Neg.f (k : Nat) (a0_0 : Bool) (l0_1 : List Int) : Option (Bool × List Int) := (merinoref01_whole.f k (!a0_0) l0_1).bind fun bt215 => (some (bt215.1, bt215.2))
set_option maxHeartbeats 8000000 in
set_option maxRecDepth 100000 in
theorem merinoref01_Neg.calls (k : Nat) (a0_0 : Bool) (A0_1 : Option Addr) (c0_1 : Nat) (l0_1 : List Int) (r1 : Bool) (r2 : List Int) (w : World) (hr0_1 : Kd.C (Kd.int .i64) w A0_1 l0_1.length l0_1) (hc0_1 : l0_1.length ≤ c0_1) (h : merinoref01_Neg.f k a0_0 l0_1 = some (r1, r2)) :
  Calls Tryd.prog 75 #[.agg #[.bool a0_0, .slice A0_1 l0_1.length c0_1]] w fun e w' => ∃ v1_ : Value, e = .returned (.agg #[.bool r1, v1_]) ∧ Kd.R (Kd.int .i64) 3 w' w.heap.size (fun _ => True) v1_ r2 ∧ Below w.heap.size w w' := by
 have hu31 := Tryd.underlying31
 have HR0_1 := Aside0.mk hr0_1
 have HC0_1 := Aside0.mk hc0_1
 clear hr0_1 hc0_1
 have HB := Aside0.mk (Below.refl w.heap.size w)
 have H : ((merinoref01_whole.f k (!a0_0) l0_1).bind fun bt215 => (some (bt215.1, bt215.2))) = some (r1, r2) := h
 clear h
 replace H := Option.bind_eq_some_iff.mp H
 obtain ⟨⟨t215, t216⟩, A20, H⟩ := H
 replace H : (some (t215, t216)) = some (r1, r2) := H
 have A2 := Aside0.mk A20
 clear A20
 simp only [Option.some.injEq, Prod.mk.injEq] at H
 obtain ⟨rfl, rfl⟩ := H
 go_enter Tryd.func75, Tryd.ntmps75
 go_wp2_with (first | ((with_reducible refine gate_dst (N := 1) rfl ?_); refine qx_ 1 #[.bool a0_0, .slice A0_1 l0_1.length c0_1] 31 ?hr ?_; (case hr => first | (go_simp; done) | (go_simp; rfl)); intro gb213 hg w3 hbox hb; have n0_ := Aside0.mk (below_step (q0_ HB.out) hb); have n1_ := Aside0.mk (hbox); have n2_ := Aside0.mk (qs_ hg (q0_ HB.out) : w.heap.size ≤ gb213); have n3_ := n2_; clear HB; have HB := n0_; have BK213 := n1_; have GW213 := n2_; have GE213 := n3_; clear n0_ n1_ n2_ n3_; clear hb hbox hg) | ((with_reducible refine gate_dst (N := 2) rfl ?_); refine qx_ 2 #[.bool false, .slice none 0 0] 31 ?hr ?_; (case hr => first | (go_simp; done) | (go_simp; rfl)); intro gb214 hg w4 hbox hb; have n0_ := Aside0.mk (qk_ BK213.out hb); have n1_ := Aside0.mk (below_step (q1_ HB.out GE213.out) hb); have n2_ := Aside0.mk (hbox); have n3_ := Aside0.mk (qs_ hg (q1_ HB.out GE213.out) : w.heap.size ≤ gb214); have n4_ := n3_; have n5_ := Aside0.mk (qn_ hg BK213.out); have n6_ := Aside0.mk (Ne.symm (qn_ hg BK213.out)); clear BK213; clear HB; have BK213 := n0_; have HB := n1_; have BK214 := n2_; have GW214 := n3_; have GE214 := n4_; have NB213_214 := n5_; have NB214_213 := n6_; clear n0_ n1_ n2_ n3_ n4_ n5_ n6_; clear hb hbox hg; have hnb5 := NB213_214.out; have hnc5 := NB214_213.out; have hcz6_0 : w4.cell? ⟨gb213, 0, none⟩ = some (.bool a0_0) := (blk_cell BK213.out 0).trans rfl; have hcz6_1 : w4.cell? ⟨gb213, 1, none⟩ = some (.slice A0_1 l0_1.length c0_1) := (blk_cell BK213.out 1).trans rfl; have hfz6_0 := blk_frozen BK213.out 0; have hfz6_1 := blk_frozen BK213.out 1) | ((with_reducible refine gate_callee (f := 73) rfl ?_); refine goesL_ (some 8) rfl rfl Tryd.func73 (by kernel_rfl) rfl #[.bool (!a0_0), .slice A0_1 l0_1.length c0_1] rfl qe_ ?_; (with_reducible refine (merinoref01_whole.calls k (!a0_0) _ _ l0_1 t215 t216 _ ?side1 ?side2 A2.out).mono ?_); (case side1 => exact qc_ (Kd.C_below HR0_1.out HB.out)); (case side2 => exact HC0_1.out); rintro e w7 ⟨v217, rfl, ho0, hb⟩; refine ⟨_, rfl, ?_⟩; have n0_ := Aside0.mk (Kd.R_lower ho0 (below_size (q2_ HB.out GE213.out GE214.out))); have n1_ := Aside0.mk (qk_ BK213.out hb); have n2_ := Aside0.mk (qk_ BK214.out hb); have n3_ := Aside0.mk (below_step (q2_ HB.out GE213.out GE214.out) hb); clear BK213; clear BK214; clear HB; have HO218 := n0_; have BK213 := n1_; have BK214 := n2_; have HB := n3_; clear n0_ n1_ n2_ n3_; (try clear hb); (try clear hb2); (try clear hk); (try clear hi); (try clear ho0); have hcz8_0 : w7.cell? ⟨gb214, 0, none⟩ = some (.bool false) := (blk_cell BK214.out 0).trans rfl; have hcz8_1 : w7.cell? ⟨gb214, 1, none⟩ = some (.slice none 0 0) := (blk_cell BK214.out 1).trans rfl; have hfz8_0 := blk_frozen BK214.out 0; have hfz8_1 := blk_frozen BK214.out 1; obtain ⟨Ao9, co9, eo9⟩ := Kd.R_slice HO218.out; subst eo9))
 refine bodyPost_ret (results_cell_row rfl _ _ gb214 31 #[.bool t215, .slice Ao9 t216.length co9] (0, 0) _ rfl (by refine qb_ ?_; refine blk_put (cs := #[.bool t215, .slice none 0 0]) ?_ 1 _ rfl; refine qb_ ?_; refine blk_put (cs := #[.bool false, .slice none 0 0]) ?_ 0 _ rfl; refine qb_ ?_; exact BK214.out) Tryd.underlying31 rfl (by kernel_rfl)) rfl ?_
 exact ⟨_, by first | rfl | (simp [errW_none, errW_some] <;> rfl) | (simp [*, errW_none, errW_some] <;> rfl), by refine qr_ ?_; exact Kd.R_mono (Kd.R_far (p := ⟨gb214, 1, none⟩) (Kd.R_far (p := ⟨gb214, 0, none⟩) (Kd.R_types HO218.out BK214.out (by decide)) (fun _ hk => hk.2) (.bool t215)) (fun _ hk => hk.2) (.slice Ao9 t216.length co9)) (fun _ hk => trivial), (q2_ HB.out GE213.out GE214.out)⟩
end Go.Proofs.YtdjnneflpkllmaaDoor.Q

namespace Go.Proofs.Num
open Go.RowKit Go.Proofs.YtdjnneflpkllmaaDoorW.PrintWords Go.Proofs.YtdjnneflpkllmaaDoorW.PrintMore Go.Proofs.YtdjnneflpkllmaaDoor.Q
set_option linter.unusedVariables false
set_option linter.unusedSimpArgs false
theorem add_l0 {a b : List Int} (ha : Dig a) (hb : Dig b) (hs : a.length ≤ 1000) (hs2 : b.length ≤ 1000) : ∀ (c i : Nat), max a.length b.length + 1 - i = c → i ≤ max a.length b.length + 1 → ∀ (out : List Int) (cy : Int), Dig out → out.length = i → (cy = 0 ∨ cy = 1) → (max a.length b.length < i → cy = 0) → valD out + cy * pw i = vt a i + vt b i →
    ∃ r, Ev (fun k => merinoref01_addD.l0 k a b out cy (i : Int)) r ∧ (Dig r ∧ valD r = valD a + valD b ∧ r.length ≤ max a.length b.length + 1) := by
  intro c
  induction c with
  | zero =>
    intro i hc hi out cy hd ho h01 hz hv
    obtain rfl : cy = 0 := hz (by omega)
    rw [vt_all a (by omega), vt_all b (by omega), Int.zero_mul, Int.add_zero] at hv
    refine ⟨out, ?_, hd, hv, by omega⟩
    refine Ev.step (f := fun k => merinoref01_addD.j1 k a b out 0 (i : Int) false) (fun k => by rw [merinoref01_addD.l0, if_neg (by omega), if_neg (by omega)]; rfl) ?_
    exact Ev.step (f := fun _ => some out) (fun k => by rw [merinoref01_addD.j1, if_neg (by decide)]) (Ev.now _)
  | succ c ih =>
    intro i hc hi out cy hd ho h01 hz hv
    have x := ha.at_ i
    have y := hb.at_ i
    by_cases hend : a.length ≤ i ∧ b.length ≤ i ∧ cy = 0
    · obtain ⟨e1, e2, rfl⟩ := hend
      rw [vt_all a e1, vt_all b e2, Int.zero_mul, Int.add_zero] at hv
      refine ⟨out, ?_, hd, hv, by omega⟩
      refine Ev.step (f := fun k => merinoref01_addD.j1 k a b out 0 (i : Int) false) (fun k => by rw [merinoref01_addD.l0, if_neg (by omega), if_neg (by omega)]; rfl) ?_
      exact Ev.step (f := fun _ => some out) (fun k => by rw [merinoref01_addD.j1, if_neg (by decide)]) (Ev.now _)
    · obtain ⟨S, hS⟩ : ∃ S, S = cy + at_ a i + at_ b i := ⟨_, rfl⟩
      have S0 : 0 ≤ S ∧ S < 20000 := by omega
      obtain ⟨r, E, q⟩ := ih (i + 1) (by omega) (by omega) (out ++ [S % 10000]) (S / 10000) (dig_snoc hd (by omega) (by omega)) (by simp; omega) (by omega) (fun h => by
        have h1 : at_ a i = 0 := at_none (by omega)
        have h2 : at_ b i = 0 := at_none (by omega)
        omega) (by
        rw [valD_snoc, ho, vt_succ, vt_succ, pw_succ]
        have e : S % 10000 = S - 10000 * (S / 10000) := by omega
        have e2 : valD out = vt a i + vt b i - cy * pw i := by omega
        rw [e, e2, hS]
        grind)
      refine ⟨r, ?_, q⟩
      refine Ev.step (f := fun k => merinoref01_addD.j1 k a b out cy (i : Int) true) (fun k => ?_) ?_
      · rw [merinoref01_addD.l0]
        by_cases h1 : (i : Int) < (a.length : Int)
        · rw [if_pos h1]
        · by_cases h2 : (i : Int) < (b.length : Int)
          · rw [if_neg h1, if_pos h2]
          · rw [if_neg h1, if_neg h2, decide_eq_true (by omega)]
      · refine Ev.step (f := fun k => merinoref01_addD.l0 k a b (out ++ [S % 10000]) (S / 10000) ((i + 1 : Nat) : Int)) (fun k => ?_) E
        rw [merinoref01_addD.j1, if_pos rfl, rd_nat, rd_nat, wd64 (x := (i : Int) + 1) (by omega) (by omega), show (i : Int) + 1 = ((i + 1 : Nat) : Int) by omega]
        have st : ∀ T : Int, T = S → Int.tmod T 10000 = S % 10000 ∧ wrap64 (Int.tdiv T 10000) = S / 10000 := fun T hT => by
          subst hT
          rw [Int.tmod_eq_emod_of_nonneg S0.1, Int.tdiv_eq_ediv_of_nonneg S0.1]
          exact ⟨rfl, wd64 (by omega) (by omega)⟩
        by_cases h1 : (i : Int) < (a.length : Int)
        · by_cases h2 : (i : Int) < (b.length : Int)
          · have t := st (wrap64 (wrap64 (cy + at_ a i) + at_ b i)) (by rw [wd64 (x := cy + at_ a i) (by omega) (by omega), wd64 (by omega) (by omega), hS])
            rw [if_pos h1, if_pos (by omega), if_pos h2, if_pos (by omega), t.1, t.2]
          · have hz2 : at_ b i = 0 := at_none (by omega)
            have t := st (wrap64 (cy + at_ a i)) (by rw [wd64 (by omega) (by omega)]; omega)
            rw [if_pos h1, if_pos (by omega), if_neg h2, if_pos (by omega), t.1, t.2]
        · have hz1 : at_ a i = 0 := at_none (by omega)
          by_cases h2 : (i : Int) < (b.length : Int)
          · have t := st (wrap64 (cy + at_ b i)) (by rw [wd64 (by omega) (by omega)]; omega)
            rw [if_neg h1, if_pos h2, if_pos (by omega), if_pos (by omega), t.1, t.2]
          · have hz2 : at_ b i = 0 := at_none (by omega)
            have t := st cy (by omega)
            rw [if_neg h1, if_neg h2, if_pos (by omega), t.1, t.2]
theorem add_ok {a b : List Int} (ha : Dig a) (hb : Dig b) (hs : a.length ≤ 1000) (hs2 : b.length ≤ 1000) : ∃ r, Ev (fun k => merinoref01_addD.f k a b) r ∧ (Dig r ∧ valD r = valD a + valD b ∧ r.length ≤ max a.length b.length + 1) :=
  add_l0 ha hb hs hs2 (max a.length b.length + 1) 0 rfl (by omega) [] 0 (fun z hz => by cases hz) rfl (.inl rfl) (fun h => by omega) (by simp [valD, vt_zero])
theorem neg_big_ok {b : Bool} {l : List Int} {x : Int} (R : Rep b l x) (hs : l.length ≤ 1000) : ∃ r, Ev (fun k => merinoref01_Neg.f k b l) (decide (-x < 0), r) ∧ Rep (decide (-x < 0)) r (-x) ∧ r.length ≤ l.length := by
  obtain ⟨r, E, R2, hl⟩ := whole_ok (b := !b) (l := l) (x := -x) hs R.good.dig (by rw [R.good.val]; omega) (fun hne => by
    rw [R.sign]
    by_cases h : x < 0
    · rw [decide_eq_true h, decide_eq_false (by omega)]; rfl
    · rw [decide_eq_false h, decide_eq_true (by omega)]; rfl)
  refine ⟨r, ?_, R2, hl⟩
  unfold merinoref01_Neg.f
  exact Ev.bind E (Ev.now _)
theorem plus_ok {a b : Bool} {l m : List Int} {x y : Int} (R : Rep a l x) (S : Rep b m y) (hs : l.length ≤ 900) (hs2 : m.length ≤ 900) : ∃ r, Ev (fun k => merinoref01_Plus.f k a l b m) (decide (x + y < 0), r) ∧ Rep (decide (x + y < 0)) r (x + y) ∧ r.length ≤ max l.length m.length + 1 := by
  have ea := R.sign
  have eb := S.sign
  unfold merinoref01_Plus.f
  by_cases h : (x < 0 ↔ y < 0)
  · have hab : (a == b) = true := by rw [ea, eb, beq_iff_eq, decide_eq_decide]; exact h
    obtain ⟨t, E, d, v, ht⟩ := add_ok R.good.dig S.good.dig (by omega) (by omega)
    obtain ⟨r, E2, R2, hr⟩ := whole_ok (b := a) (l := t) (x := x + y) (by unfold short; omega) d (by rw [v, R.good.val, S.good.val]; omega) (fun hne => by rw [ea, decide_eq_decide]; omega)
    refine ⟨r, ?_, R2, by omega⟩
    simp only [if_pos hab]
    exact Ev.bind E (Ev.bind E2 (Ev.now _))
  · have hab : ¬ (a == b) = true := by rw [ea, eb, beq_iff_eq, decide_eq_decide]; exact h
    simp only [if_neg hab]
    have C := cmpD_ok R.good S.good (by omega)
    by_cases hc : (y.natAbs : Int) ≤ x.natAbs
    · have c0 : cmpI (x.natAbs : Int) y.natAbs ≥ 0 := by unfold cmpI; (repeat' split) <;> omega
      obtain ⟨t, E, g, ht⟩ := sub_ok R.good S.good (by omega) hc
      obtain ⟨r, E2, R2, hr⟩ := whole_ok (b := a) (l := t) (x := x + y) (by unfold short; omega) g.dig (by rw [g.val]; omega) (fun hne => by rw [ea, decide_eq_decide]; omega)
      refine ⟨r, Ev.bind C ?_, R2, by omega⟩
      simp only [if_pos c0]
      exact Ev.bind E (Ev.bind E2 (Ev.now _))
    · have c0 : ¬ cmpI (x.natAbs : Int) y.natAbs ≥ 0 := by unfold cmpI; rw [if_pos (by omega)]; omega
      obtain ⟨t, E, g, ht⟩ := sub_ok S.good R.good (by omega) (by omega)
      obtain ⟨r, E2, R2, hr⟩ := whole_ok (b := b) (l := t) (x := x + y) (by unfold short; omega) g.dig (by rw [g.val]; omega) (fun hne => by rw [eb, decide_eq_decide]; omega)
      refine ⟨r, Ev.bind C ?_, R2, by omega⟩
      simp only [if_neg c0]
      exact Ev.bind E (Ev.bind E2 (Ev.now _))
theorem over_ok {a : Bool} {l m : List Int} {x y : Int} {c : Bool} (R : Rep a l x) (gy : Good m y) (hy : 0 < y) (h1 : l.length ≤ 100) (h2 : m.length ≤ 100) : ∃ q r, Ev (fun k => merinoref01_Over.f k a l c m) (decide (x / y < 0), q, false, r) ∧ Rep (decide (x / y < 0)) q (x / y) ∧ Rep false r (x % y) ∧ q.length ≤ 110 ∧ r.length ≤ 100 := by
  obtain ⟨v, Ev1, g1, g2⟩ := div_ok R.good gy hy (by omega) (by omega)
  have l1 : v.1.length ≤ 100 := Nat.le_trans (g1.len (m := l.length) (by
    have := (valD_bd R.good.dig).2
    rw [R.good.val] at this
    have := Int.ediv_le_self y (show 0 ≤ (x.natAbs : Int) by omega)
    omega)) h1
  have n0 : 0 ≤ (x.natAbs : Int) % y := Int.emod_nonneg _ (by omega)
  have n1 : (x.natAbs : Int) % y < y := Int.emod_lt_of_pos _ hy
  have l2 : v.2.length ≤ 100 := Nat.le_trans (g2.len (m := m.length) (by have := (valD_bd gy.dig).2; rw [gy.val] at this; omega)) h2
  have q0 : 0 ≤ (x.natAbs : Int) / y := Int.ediv_nonneg (by omega) (by omega)
  have dm : y * ((x.natAbs : Int) / y) + (x.natAbs : Int) % y = x.natAbs := Int.mul_ediv_add_emod _ _
  unfold merinoref01_Over.f
  by_cases hx : x < 0
  · have ea : a = true := by rw [R.sign, decide_eq_true hx]
    subst ea
    by_cases hr : (x.natAbs : Int) % y = 0
    · have er : v.2 = [] := g2.zero_iff.2 hr
      have e1 : x = 0 + y * (-((x.natAbs : Int) / y)) := by grind
      have ed : x / y = -((x.natAbs : Int) / y) := by
        have : (0 + y * (-((x.natAbs : Int) / y))) / y = -((x.natAbs : Int) / y) := by rw [Int.add_mul_ediv_left _ _ (by omega)]; simp
        rw [← e1] at this; exact this
      have em : x % y = 0 := by
        have : (0 + y * (-((x.natAbs : Int) / y))) % y = 0 := by rw [Int.add_mul_emod_self_left]; simp
        rw [← e1] at this; exact this
      obtain ⟨q, E2, R2, hq⟩ := whole_ok (b := true) (l := v.1) (x := x / y) (by unfold short; omega) g1.dig (by rw [g1.val, ed]; omega) (fun hne => (decide_eq_true (by omega)).symm)
      refine ⟨q, [], Ev.bind Ev1 ?_, R2, ⟨by rw [em]; exact Good.nil, by rw [em]; rfl⟩, by omega, by simp⟩
      simp only [if_true, er, List.length_nil]
      exact Ev.bind E2 (Ev.now _)
    · have er : ¬ (v.2.length : Int) = 0 := fun h => hr (g2.zero_iff.1 (List.eq_nil_of_length_eq_zero (by omega)))
      have e1 : x = (y - (x.natAbs : Int) % y) + y * (-((x.natAbs : Int) / y) - 1) := by grind
      have ed : x / y = -((x.natAbs : Int) / y) - 1 := by
        have : ((y - (x.natAbs : Int) % y) + y * (-((x.natAbs : Int) / y) - 1)) / y = -((x.natAbs : Int) / y) - 1 := by rw [Int.add_mul_ediv_left _ _ (by omega), Int.ediv_eq_zero_of_lt (by omega) (by omega), Int.zero_add]
        rw [← e1] at this; exact this
      have em : x % y = y - (x.natAbs : Int) % y := by
        have : ((y - (x.natAbs : Int) % y) + y * (-((x.natAbs : Int) / y) - 1)) % y = y - (x.natAbs : Int) % y := by rw [Int.add_mul_emod_self_left, Int.emod_eq_of_lt (by omega) (by omega)]
        rw [← e1] at this; exact this
      have one : Dig [(1 : Int)] := fun z hz => by rw [List.mem_singleton] at hz; subst hz; omega
      have vone : valD [(1 : Int)] = 1 := rfl
      obtain ⟨t, E3, d3, v3, ht⟩ := add_ok g1.dig one (by omega) (by simp)
      rw [g1.val, vone] at v3
      have ht' : t.length ≤ 101 := by
        have : [(1 : Int)].length = 1 := rfl
        omega
      obtain ⟨q, E2, R2, hq⟩ := whole_ok (b := true) (l := t) (x := x / y) (by unfold short; omega) d3 (by rw [v3, ed]; omega) (fun hne => (decide_eq_true (by omega)).symm)
      obtain ⟨s, E4, g4, hs⟩ := sub_ok gy g2 (by omega) (by omega)
      obtain ⟨r, E5, R5, hr5⟩ := whole_ok (b := false) (l := s) (x := x % y) (by unfold short; omega) g4.dig (by rw [g4.val, em]; omega) (fun hne => (decide_eq_false (by omega)).symm)
      rw [decide_eq_false (show ¬ x % y < 0 by omega)] at E5 R5
      refine ⟨q, r, Ev.bind Ev1 ?_, R2, R5, by omega, by omega⟩
      simp only [if_true, if_neg er]
      exact Ev.bind E3 (Ev.bind E2 (Ev.bind E4 (Ev.bind E5 (Ev.now _))))
  · have ea : a = false := by rw [R.sign, decide_eq_false hx]
    subst ea
    have ex : (x.natAbs : Int) = x := by omega
    rw [ex] at g1 g2 q0 n0
    obtain ⟨q, E2, R2, hq⟩ := whole_ok (b := false) (l := v.1) (x := x / y) (by unfold short; omega) g1.dig (by rw [g1.val]; omega) (fun hne => (decide_eq_false (by omega)).symm)
    obtain ⟨r, E3, R3, hr⟩ := whole_ok (b := false) (l := v.2) (x := x % y) (by unfold short; omega) g2.dig (by rw [g2.val]; omega) (fun hne => (decide_eq_false (by omega)).symm)
    rw [decide_eq_false (show ¬ x % y < 0 by omega)] at E3 R3
    refine ⟨q, r, Ev.bind Ev1 ?_, R2, R3, by omega, by omega⟩
    simp only [Bool.false_eq_true, if_false]
    exact Ev.bind E2 (Ev.bind E3 (Ev.now _))
end Go.Proofs.Num

namespace Go.Proofs.Num
open Go.RowKit Go.Proofs.YtdjnneflpkllmaaDoorW.PrintWords Go.Proofs.YtdjnneflpkllmaaDoorW.PrintLast Go.Proofs.YtdjnneflpkllmaaDoorW.PrintMore Go.Proofs.YtdjnneflpkllmaaDoor.Q
set_option linter.unusedVariables false
set_option linter.unusedSimpArgs false
def BigV (w : World) (base : Nat) (v : Value) (x : Int) (L : Nat) : Prop :=
  ∃ (l : List Int) (A : Option Addr) (c : Nat), v = .agg #[.bool (decide (x < 0)), .slice A l.length c] ∧ Kd.R (Kd.int .i64) 3 w base (fun _ => True) (.slice A l.length c) l ∧ Rep (decide (x < 0)) l x ∧ l.length ≤ L
section
variable {w w' : World} {base base' : Nat} {v u : Value} {x y : Int} {L M : Nat}
theorem BigV.below (h : BigV w base v x L) (hb : Below w.heap.size w w') : BigV w' base v x L := by
  obtain ⟨l, A, c, e, r, h⟩ := h
  exact ⟨l, A, c, e, Kd.R_below r hb, h⟩
theorem BigV.lower (h : BigV w base v x L) (hb : base' ≤ base) : BigV w base' v x L := by
  obtain ⟨l, A, c, e, r, h⟩ := h
  exact ⟨l, A, c, e, Kd.R_lower r hb, h⟩
theorem bigV_mk {l : List Int} {p : Value} (hp : Kd.R (Kd.int .i64) 3 w base (fun _ => True) p l) (R : Rep (decide (x < 0)) l x) (hl : l.length ≤ L) : BigV w base (.agg #[.bool (decide (x < 0)), p]) x L := by
  obtain ⟨A, c, rfl⟩ := Kd.R_slice hp
  exact ⟨l, A, c, rfl, hp, R, hl⟩
theorem of_big (x : Int) (h1 : -9223372036854775808 ≤ x) (h2 : x ≤ 9223372036854775807) (w : World) : Calls Tryd.prog 24 #[.int .i64 x] w fun e w' => ∃ v, e = .returned v ∧ BigV w' w.heap.size v x 5 ∧ Below w.heap.size w w' := by
  obtain ⟨r, E, R, hl⟩ := of_ok h1 h2
  obtain ⟨k, hk⟩ := E.rounds
  refine (merinoref01_Of.calls k x _ r w hk).mono ?_
  rintro e w' ⟨p, rfl, hp, hb⟩
  exact ⟨_, rfl, bigV_mk hp R hl, hb⟩
theorem times_big (hu : BigV w base u x L) (hv : BigV w base' v y M) (hs : L + M ≤ 1000) : Calls Tryd.prog 22 #[u, v] w fun e w' => ∃ r, e = .returned r ∧ BigV w' w.heap.size r (x * y) (L + M) ∧ Below w.heap.size w w' := by
  obtain ⟨l1, A1, c1, rfl, r1, R1, h1⟩ := hu
  obtain ⟨l2, A2, c2, rfl, r2, R2, h2⟩ := hv
  obtain ⟨r, E, R, hl⟩ := times_ok R1 R2 (by omega)
  obtain ⟨k, hk⟩ := E.rounds
  obtain ⟨-, i1, j1⟩ := Kd.R_reads' r1
  obtain ⟨-, i2, j2⟩ := Kd.R_reads' r2
  refine (merinoref01_Times.calls k _ A1 c1 l1 _ A2 c2 l2 _ r w j1 i1 j2 i2 hk).mono ?_
  rintro e w' ⟨p, rfl, hp, hb⟩
  exact ⟨_, rfl, bigV_mk hp R (by omega), hb⟩
theorem over_big (hu : BigV w base u x L) (hv : BigV w base' v y M) (hy : 0 < y) (h1 : L ≤ 100) (h2 : M ≤ 100) : Calls Tryd.prog 67 #[u, v] w fun e w' => ∃ q r, e = .returned (.tuple #[q, r]) ∧ BigV w' w.heap.size q (x / y) 110 ∧ BigV w' w.heap.size r (x % y) 100 ∧ Below w.heap.size w w' := by
  obtain ⟨l1, A1, c1, rfl, r1, R1, g1⟩ := hu
  obtain ⟨l2, A2, c2, rfl, r2, R2, g2⟩ := hv
  have gy : Good l2 y := by
    have := R2.good
    rwa [show ((y.natAbs : Nat) : Int) = y by omega] at this
  obtain ⟨q, r, E, Rq, Rr, hlq, hlr⟩ := over_ok (c := decide (y < 0)) R1 gy hy (by omega) (by omega)
  obtain ⟨k, hk⟩ := E.rounds
  obtain ⟨-, i1, j1⟩ := Kd.R_reads' r1
  obtain ⟨-, i2, j2⟩ := Kd.R_reads' r2
  refine (merinoref01_Over.calls k _ A1 c1 l1 _ A2 c2 l2 _ q _ r w j1 i1 j2 i2 hk).mono ?_
  rintro e w' ⟨p, s, rfl, hp, hs, hb⟩
  have f : decide (x % y < 0) = false := decide_eq_false (by have := Int.emod_nonneg x (show y ≠ 0 by omega); omega)
  refine ⟨_, _, rfl, bigV_mk (Kd.R_mono hp (fun _ _ => trivial)) Rq hlq, ?_, hb⟩
  rw [← f] at Rr ⊢
  exact bigV_mk (Kd.R_mono hs (fun _ _ => trivial)) Rr hlr
end
end Go.Proofs.Num

namespace Go.Proofs.YtdjnneflpkllmaaDoor.Q
open Go.RowKit Go.Proofs.YtdjnneflpkllmaaDoorW.PrintWords Go.Proofs.YtdjnneflpkllmaaDoorW.PrintLast Go.Proofs.YtdjnneflpkllmaaDoorW.PrintMore
attribute [local go_sem] max2_int min2_int max_two min_two max_three min_three max_four min_four
set_option linter.unusedVariables false
set_option linter.unusedSimpArgs false
def num_size.f (a0 : Int) : Option (Int) := if a0 < 0 then (some (IntKind.u64.wrap (-(IntKind.u64.wrap (a0))))) else (some (IntKind.u64.wrap (a0)))
set_option maxHeartbeats 8000000 in
set_option maxRecDepth 100000 in
theorem num_size.calls (a0 : Int) (r : Int) (w : World) (h : num_size.f a0 = some r) :
  Calls Tryd.prog 78 #[.int .i64 a0] w fun e w' => e = .returned (.int .u64 r) ∧ Drawn0 w w' := by
 have H : (if a0 < 0 then (some (IntKind.u64.wrap (-(IntKind.u64.wrap (a0))))) else (some (IntKind.u64.wrap (a0)))) = some r := h
 clear h
 by_cases c2 : a0 < 0
 ·rw [if_pos c2] at H
  have c2b0 : decide (a0 < 0) = true := decide_eq_true c2
  clear c2
  obtain rfl := Option.some.inj H
  go_enter Tryd.func78, Tryd.ntmps78
  go_wp2
  go_ret
  exact ⟨by first | rfl | (simp; done) | (simp [*]; done), by repeat (first | exact Drawn0.refl _ | apply Drawn0.step)⟩
 ·rw [if_neg c2] at H
  have c2b0 : decide (a0 < 0) = false := decide_eq_false c2
  clear c2
  obtain rfl := Option.some.inj H
  go_enter Tryd.func78, Tryd.ntmps78
  go_wp2
  go_ret
  exact ⟨by first | rfl | (simp; done) | (simp [*]; done), by repeat (first | exact Drawn0.refl _ | apply Drawn0.step)⟩
def num_gcd.l0 : Nat → Int → Int → Option (Int)
 | 0, _, _ => none
 | k + 1, x0, x1 => if x1 = 0 then (some x0) else (num_gcd.l0 k x1 (Int.tmod x0 x1))
def num_gcd.f (k : Nat) (a0 : Int) (a1 : Int) : Option (Int) := num_gcd.l0 k a0 a1
set_option maxHeartbeats 8000000 in
set_option maxRecDepth 100000 in
theorem num_gcd.calls (k : Nat) (a0 : Int) (a1 : Int) (r : Int) (w : World) (h : num_gcd.f k a0 a1 = some r) :
  Calls Tryd.prog 77 #[.int .u64 a0, .int .u64 a1] w fun e w' => e = .returned (.int .u64 r) ∧ Drawn0 w w' := by
 have H : (num_gcd.l0 k a0 a1) = some r := h
 clear h
 have H' := Aside0.mk H
 clear H
 go_enter Tryd.func77, Tryd.ntmps77
 go_wp2
 repeat (go_quiet (fail); try go_wp2)
 go_loopg [0, 1] k (fun kq v0 v1 w' => ∃ (x0_1 : Int) (x1_1 : Int), v0 = .int .u64 x0_1 ∧ v1 = .int .u64 x1_1 ∧ Aside0 (num_gcd.l0 kq x0_1 x1_1 = some r) ∧ Aside0 (kq ≤ k) ∧ Drawn0 w w')
 case atStart => exact ⟨(a0), (a1), (by first | rfl | (simp; done) | (simp [*]; done)), (by first | rfl | (simp; done) | (simp [*]; done)), H', ⟨Nat.le_refl _⟩, by repeat (first | exact Drawn0.refl _ | apply Drawn0.step)⟩
 case round =>
  clear H'
  try clear p2
  obtain ⟨x0_1, x1_1, rfl, rfl, HA, HK1, ⟨m1, rfl⟩⟩ := hrel
  cases gk with
  | zero => exact absurd HA.out (by simp [num_gcd.l0])
  | succ k1 =>
   have H := HA.out
   clear HA
   simp only [num_gcd.l0] at H
   by_cases c3 : x1_1 = 0
   ·rw [if_pos c3] at H
    have c3b0 : (x1_1 == 0) = true := beq_iff_eq.mpr c3
    have c3b1 : (x1_1 != 0) = false := bne_eq_false_iff_eq.mpr c3
    clear c3
    obtain rfl := Option.some.inj H
    go_wp2
    repeat (go_quiet (fail); try go_wp2)
    go_ret
    exact ⟨by first | rfl | (simp; done) | (simp [*]; done), by repeat (first | exact Drawn0.refl _ | apply Drawn0.step)⟩
   ·rw [if_neg c3] at H
    have c3b0 : (x1_1 == 0) = false := beq_eq_false_iff_ne.mpr c3
    have c3b1 : (x1_1 != 0) = true := bne_iff_ne.mpr c3
    have H' := Aside0.mk H
    clear H
    go_wp2
    repeat (go_quiet (fail); try go_wp2)
    go_roundg k1
    case measure => have := HK1.out; omega
    case rel => exact ⟨(x1_1), (Int.tmod x0_1 x1_1), (by first | rfl | (simp; done) | (simp [*]; done)), (by first | rfl | (simp; done) | (simp [*]; done)), H', ⟨by have := HK1.out; omega⟩, by repeat (first | exact Drawn0.refl _ | apply Drawn0.step)⟩
def num_Valid.f (k : Nat) (a0_0 : Int) (a0_1 : Int) : Option (Bool) := if a0_1 ≥ 1 then (if a0_1 ≤ 1048576 then (if a0_0 ≥ (-1099511627776) then (if a0_0 ≤ 1099511627776 then ((num_size.f a0_0).bind fun t116 => ((num_gcd.f k t116 (IntKind.u64.wrap (a0_1))).bind fun t117 => (some (t117 == 1)))) else (some false)) else (some false)) else (some false)) else (some false)
set_option maxHeartbeats 8000000 in
set_option maxRecDepth 100000 in
theorem num_Valid.calls (k : Nat) (a0_0 : Int) (a0_1 : Int) (r : Bool) (w : World) (h : num_Valid.f k a0_0 a0_1 = some r) :
  Calls Tryd.prog 26 #[.agg #[.int .i64 a0_0, .int .i64 a0_1]] w fun e w' => e = .returned (.bool r) ∧ Below w.heap.size w w' := by
 have hu23 := Tryd.underlying23
 have HB := Aside0.mk (Below.refl w.heap.size w)
 have H : (if a0_1 ≥ 1 then (if a0_1 ≤ 1048576 then (if a0_0 ≥ (-1099511627776) then (if a0_0 ≤ 1099511627776 then ((num_size.f a0_0).bind fun t116 => ((num_gcd.f k t116 (IntKind.u64.wrap (a0_1))).bind fun t117 => (some (t117 == 1)))) else (some false)) else (some false)) else (some false)) else (some false)) = some r := h
 clear h
 by_cases c2 : a0_1 ≥ 1
 ·rw [if_pos c2] at H
  have c2b0 : decide (1 ≤ a0_1) = true := decide_eq_true c2
  clear c2
  by_cases c3 : a0_1 ≤ 1048576
  ·rw [if_pos c3] at H
   have c3b0 : decide (a0_1 ≤ 1048576) = true := decide_eq_true c3
   clear c3
   by_cases c4 : a0_0 ≥ (-1099511627776)
   ·rw [if_pos c4] at H
    have c4b0 : decide ((-1099511627776) ≤ a0_0) = true := decide_eq_true c4
    clear c4
    by_cases c5 : a0_0 ≤ 1099511627776
    ·rw [if_pos c5] at H
     have c5b0 : decide (a0_0 ≤ 1099511627776) = true := decide_eq_true c5
     clear c5
     replace H := Option.bind_eq_some_iff.mp H
     obtain ⟨t116, A60, H⟩ := H
     replace H : ((num_gcd.f k t116 (IntKind.u64.wrap (a0_1))).bind fun t117 => (some (t117 == 1))) = some r := H
     have A6 := Aside0.mk A60
     clear A60
     replace H := Option.bind_eq_some_iff.mp H
     obtain ⟨t117, A70, H⟩ := H
     replace H : (some (t117 == 1)) = some r := H
     have A7 := Aside0.mk A70
     clear A70
     obtain rfl := Option.some.inj H
     go_enter Tryd.func26, Tryd.ntmps26
     go_wp2_with (first | ((with_reducible refine gate_dst (N := 1) rfl ?_); refine qx_ 1 #[.int .i64 a0_0, .int .i64 a0_1] 23 ?hr ?_; (case hr => first | (go_simp; done) | (go_simp; rfl)); intro gb115 hg w8 hbox hb; have n0_ := Aside0.mk (below_step (q0_ HB.out) hb); have n1_ := Aside0.mk (hbox); have n2_ := Aside0.mk (qs_ hg (q0_ HB.out) : w.heap.size ≤ gb115); have n3_ := n2_; clear HB; have HB := n0_; have BK115 := n1_; have GW115 := n2_; have GE115 := n3_; clear n0_ n1_ n2_ n3_; clear hb hbox hg; have hcz9_0 : w8.cell? ⟨gb115, 0, none⟩ = some (.int .i64 a0_0) := (blk_cell BK115.out 0).trans rfl; have hcz9_1 : w8.cell? ⟨gb115, 1, none⟩ = some (.int .i64 a0_1) := (blk_cell BK115.out 1).trans rfl; have hfz9_0 := blk_frozen BK115.out 0; have hfz9_1 := blk_frozen BK115.out 1) | (go_at_call 78; (with_reducible refine (num_size.calls a0_0 t116 _ A6.out).mono ?_); rintro e w' ⟨rfl, ⟨nd, rfl⟩⟩; (try first | exact ⟨rfl, _, World.drewN_drewN _ _ _⟩ | exact ⟨rfl, _, Eq.trans (World.drewN_drewN _ _ _) (congrArg (World.drewN _) (Nat.add_assoc _ _ _))⟩)) | (go_at_call 77; (with_reducible refine (num_gcd.calls k t116 (IntKind.u64.wrap (a0_1)) t117 _ A7.out).mono ?_); rintro e w' ⟨rfl, ⟨nd, rfl⟩⟩; (try first | exact ⟨rfl, _, World.drewN_drewN _ _ _⟩ | exact ⟨rfl, _, Eq.trans (World.drewN_drewN _ _ _) (congrArg (World.drewN _) (Nat.add_assoc _ _ _))⟩)))
     repeat (go_quiet (first | ((with_reducible refine gate_dst (N := 1) rfl ?_); refine qx_ 1 #[.int .i64 a0_0, .int .i64 a0_1] 23 ?hr ?_; (case hr => first | (go_simp; done) | (go_simp; rfl)); intro gb115 hg w8 hbox hb; have n0_ := Aside0.mk (below_step (q0_ HB.out) hb); have n1_ := Aside0.mk (hbox); have n2_ := Aside0.mk (qs_ hg (q0_ HB.out) : w.heap.size ≤ gb115); have n3_ := n2_; clear HB; have HB := n0_; have BK115 := n1_; have GW115 := n2_; have GE115 := n3_; clear n0_ n1_ n2_ n3_; clear hb hbox hg; have hcz9_0 : w8.cell? ⟨gb115, 0, none⟩ = some (.int .i64 a0_0) := (blk_cell BK115.out 0).trans rfl; have hcz9_1 : w8.cell? ⟨gb115, 1, none⟩ = some (.int .i64 a0_1) := (blk_cell BK115.out 1).trans rfl; have hfz9_0 := blk_frozen BK115.out 0; have hfz9_1 := blk_frozen BK115.out 1) | (go_at_call 78; (with_reducible refine (num_size.calls a0_0 t116 _ A6.out).mono ?_); rintro e w' ⟨rfl, ⟨nd, rfl⟩⟩; (try first | exact ⟨rfl, _, World.drewN_drewN _ _ _⟩ | exact ⟨rfl, _, Eq.trans (World.drewN_drewN _ _ _) (congrArg (World.drewN _) (Nat.add_assoc _ _ _))⟩)) | (go_at_call 77; (with_reducible refine (num_gcd.calls k t116 (IntKind.u64.wrap (a0_1)) t117 _ A7.out).mono ?_); rintro e w' ⟨rfl, ⟨nd, rfl⟩⟩; (try first | exact ⟨rfl, _, World.drewN_drewN _ _ _⟩ | exact ⟨rfl, _, Eq.trans (World.drewN_drewN _ _ _) (congrArg (World.drewN _) (Nat.add_assoc _ _ _))⟩))); try go_wp2_with (first | ((with_reducible refine gate_dst (N := 1) rfl ?_); refine qx_ 1 #[.int .i64 a0_0, .int .i64 a0_1] 23 ?hr ?_; (case hr => first | (go_simp; done) | (go_simp; rfl)); intro gb115 hg w8 hbox hb; have n0_ := Aside0.mk (below_step (q0_ HB.out) hb); have n1_ := Aside0.mk (hbox); have n2_ := Aside0.mk (qs_ hg (q0_ HB.out) : w.heap.size ≤ gb115); have n3_ := n2_; clear HB; have HB := n0_; have BK115 := n1_; have GW115 := n2_; have GE115 := n3_; clear n0_ n1_ n2_ n3_; clear hb hbox hg; have hcz9_0 : w8.cell? ⟨gb115, 0, none⟩ = some (.int .i64 a0_0) := (blk_cell BK115.out 0).trans rfl; have hcz9_1 : w8.cell? ⟨gb115, 1, none⟩ = some (.int .i64 a0_1) := (blk_cell BK115.out 1).trans rfl; have hfz9_0 := blk_frozen BK115.out 0; have hfz9_1 := blk_frozen BK115.out 1) | (go_at_call 78; (with_reducible refine (num_size.calls a0_0 t116 _ A6.out).mono ?_); rintro e w' ⟨rfl, ⟨nd, rfl⟩⟩; (try first | exact ⟨rfl, _, World.drewN_drewN _ _ _⟩ | exact ⟨rfl, _, Eq.trans (World.drewN_drewN _ _ _) (congrArg (World.drewN _) (Nat.add_assoc _ _ _))⟩)) | (go_at_call 77; (with_reducible refine (num_gcd.calls k t116 (IntKind.u64.wrap (a0_1)) t117 _ A7.out).mono ?_); rintro e w' ⟨rfl, ⟨nd, rfl⟩⟩; (try first | exact ⟨rfl, _, World.drewN_drewN _ _ _⟩ | exact ⟨rfl, _, Eq.trans (World.drewN_drewN _ _ _) (congrArg (World.drewN _) (Nat.add_assoc _ _ _))⟩))))
     go_ret
     exact ⟨by first | rfl | (simp [errW_none, errW_some] <;> rfl) | (simp [*, errW_none, errW_some] <;> rfl), (q1_ HB.out GE115.out)⟩
    ·rw [if_neg c5] at H
     have c5b0 : decide (a0_0 ≤ 1099511627776) = false := decide_eq_false c5
     clear c5
     obtain rfl := Option.some.inj H
     go_enter Tryd.func26, Tryd.ntmps26
     go_wp2_with (first | ((with_reducible refine gate_dst (N := 1) rfl ?_); refine qx_ 1 #[.int .i64 a0_0, .int .i64 a0_1] 23 ?hr ?_; (case hr => first | (go_simp; done) | (go_simp; rfl)); intro gb115 hg w10 hbox hb; have n0_ := Aside0.mk (below_step (q0_ HB.out) hb); have n1_ := Aside0.mk (hbox); have n2_ := Aside0.mk (qs_ hg (q0_ HB.out) : w.heap.size ≤ gb115); have n3_ := n2_; clear HB; have HB := n0_; have BK115 := n1_; have GW115 := n2_; have GE115 := n3_; clear n0_ n1_ n2_ n3_; clear hb hbox hg; have hcz11_0 : w10.cell? ⟨gb115, 0, none⟩ = some (.int .i64 a0_0) := (blk_cell BK115.out 0).trans rfl; have hcz11_1 : w10.cell? ⟨gb115, 1, none⟩ = some (.int .i64 a0_1) := (blk_cell BK115.out 1).trans rfl; have hfz11_0 := blk_frozen BK115.out 0; have hfz11_1 := blk_frozen BK115.out 1))
     repeat (go_quiet (first | ((with_reducible refine gate_dst (N := 1) rfl ?_); refine qx_ 1 #[.int .i64 a0_0, .int .i64 a0_1] 23 ?hr ?_; (case hr => first | (go_simp; done) | (go_simp; rfl)); intro gb115 hg w10 hbox hb; have n0_ := Aside0.mk (below_step (q0_ HB.out) hb); have n1_ := Aside0.mk (hbox); have n2_ := Aside0.mk (qs_ hg (q0_ HB.out) : w.heap.size ≤ gb115); have n3_ := n2_; clear HB; have HB := n0_; have BK115 := n1_; have GW115 := n2_; have GE115 := n3_; clear n0_ n1_ n2_ n3_; clear hb hbox hg; have hcz11_0 : w10.cell? ⟨gb115, 0, none⟩ = some (.int .i64 a0_0) := (blk_cell BK115.out 0).trans rfl; have hcz11_1 : w10.cell? ⟨gb115, 1, none⟩ = some (.int .i64 a0_1) := (blk_cell BK115.out 1).trans rfl; have hfz11_0 := blk_frozen BK115.out 0; have hfz11_1 := blk_frozen BK115.out 1)); try go_wp2_with (first | ((with_reducible refine gate_dst (N := 1) rfl ?_); refine qx_ 1 #[.int .i64 a0_0, .int .i64 a0_1] 23 ?hr ?_; (case hr => first | (go_simp; done) | (go_simp; rfl)); intro gb115 hg w10 hbox hb; have n0_ := Aside0.mk (below_step (q0_ HB.out) hb); have n1_ := Aside0.mk (hbox); have n2_ := Aside0.mk (qs_ hg (q0_ HB.out) : w.heap.size ≤ gb115); have n3_ := n2_; clear HB; have HB := n0_; have BK115 := n1_; have GW115 := n2_; have GE115 := n3_; clear n0_ n1_ n2_ n3_; clear hb hbox hg; have hcz11_0 : w10.cell? ⟨gb115, 0, none⟩ = some (.int .i64 a0_0) := (blk_cell BK115.out 0).trans rfl; have hcz11_1 : w10.cell? ⟨gb115, 1, none⟩ = some (.int .i64 a0_1) := (blk_cell BK115.out 1).trans rfl; have hfz11_0 := blk_frozen BK115.out 0; have hfz11_1 := blk_frozen BK115.out 1)))
     go_ret
     exact ⟨by first | rfl | (simp [errW_none, errW_some] <;> rfl) | (simp [*, errW_none, errW_some] <;> rfl), (q1_ HB.out GE115.out)⟩
   ·rw [if_neg c4] at H
    have c4b0 : decide ((-1099511627776) ≤ a0_0) = false := decide_eq_false c4
    clear c4
    obtain rfl := Option.some.inj H
    go_enter Tryd.func26, Tryd.ntmps26
    go_wp2_with (first | ((with_reducible refine gate_dst (N := 1) rfl ?_); refine qx_ 1 #[.int .i64 a0_0, .int .i64 a0_1] 23 ?hr ?_; (case hr => first | (go_simp; done) | (go_simp; rfl)); intro gb115 hg w12 hbox hb; have n0_ := Aside0.mk (below_step (q0_ HB.out) hb); have n1_ := Aside0.mk (hbox); have n2_ := Aside0.mk (qs_ hg (q0_ HB.out) : w.heap.size ≤ gb115); have n3_ := n2_; clear HB; have HB := n0_; have BK115 := n1_; have GW115 := n2_; have GE115 := n3_; clear n0_ n1_ n2_ n3_; clear hb hbox hg; have hcz13_0 : w12.cell? ⟨gb115, 0, none⟩ = some (.int .i64 a0_0) := (blk_cell BK115.out 0).trans rfl; have hcz13_1 : w12.cell? ⟨gb115, 1, none⟩ = some (.int .i64 a0_1) := (blk_cell BK115.out 1).trans rfl; have hfz13_0 := blk_frozen BK115.out 0; have hfz13_1 := blk_frozen BK115.out 1))
    repeat (go_quiet (first | ((with_reducible refine gate_dst (N := 1) rfl ?_); refine qx_ 1 #[.int .i64 a0_0, .int .i64 a0_1] 23 ?hr ?_; (case hr => first | (go_simp; done) | (go_simp; rfl)); intro gb115 hg w12 hbox hb; have n0_ := Aside0.mk (below_step (q0_ HB.out) hb); have n1_ := Aside0.mk (hbox); have n2_ := Aside0.mk (qs_ hg (q0_ HB.out) : w.heap.size ≤ gb115); have n3_ := n2_; clear HB; have HB := n0_; have BK115 := n1_; have GW115 := n2_; have GE115 := n3_; clear n0_ n1_ n2_ n3_; clear hb hbox hg; have hcz13_0 : w12.cell? ⟨gb115, 0, none⟩ = some (.int .i64 a0_0) := (blk_cell BK115.out 0).trans rfl; have hcz13_1 : w12.cell? ⟨gb115, 1, none⟩ = some (.int .i64 a0_1) := (blk_cell BK115.out 1).trans rfl; have hfz13_0 := blk_frozen BK115.out 0; have hfz13_1 := blk_frozen BK115.out 1)); try go_wp2_with (first | ((with_reducible refine gate_dst (N := 1) rfl ?_); refine qx_ 1 #[.int .i64 a0_0, .int .i64 a0_1] 23 ?hr ?_; (case hr => first | (go_simp; done) | (go_simp; rfl)); intro gb115 hg w12 hbox hb; have n0_ := Aside0.mk (below_step (q0_ HB.out) hb); have n1_ := Aside0.mk (hbox); have n2_ := Aside0.mk (qs_ hg (q0_ HB.out) : w.heap.size ≤ gb115); have n3_ := n2_; clear HB; have HB := n0_; have BK115 := n1_; have GW115 := n2_; have GE115 := n3_; clear n0_ n1_ n2_ n3_; clear hb hbox hg; have hcz13_0 : w12.cell? ⟨gb115, 0, none⟩ = some (.int .i64 a0_0) := (blk_cell BK115.out 0).trans rfl; have hcz13_1 : w12.cell? ⟨gb115, 1, none⟩ = some (.int .i64 a0_1) := (blk_cell BK115.out 1).trans rfl; have hfz13_0 := blk_frozen BK115.out 0; have hfz13_1 := blk_frozen BK115.out 1)))
    go_ret
    exact ⟨by first | rfl | (simp [errW_none, errW_some] <;> rfl) | (simp [*, errW_none, errW_some] <;> rfl), (q1_ HB.out GE115.out)⟩
  ·rw [if_neg c3] at H
   have c3b0 : decide (a0_1 ≤ 1048576) = false := decide_eq_false c3
   clear c3
   obtain rfl := Option.some.inj H
   go_enter Tryd.func26, Tryd.ntmps26
   go_wp2_with (first | ((with_reducible refine gate_dst (N := 1) rfl ?_); refine qx_ 1 #[.int .i64 a0_0, .int .i64 a0_1] 23 ?hr ?_; (case hr => first | (go_simp; done) | (go_simp; rfl)); intro gb115 hg w14 hbox hb; have n0_ := Aside0.mk (below_step (q0_ HB.out) hb); have n1_ := Aside0.mk (hbox); have n2_ := Aside0.mk (qs_ hg (q0_ HB.out) : w.heap.size ≤ gb115); have n3_ := n2_; clear HB; have HB := n0_; have BK115 := n1_; have GW115 := n2_; have GE115 := n3_; clear n0_ n1_ n2_ n3_; clear hb hbox hg; have hcz15_0 : w14.cell? ⟨gb115, 0, none⟩ = some (.int .i64 a0_0) := (blk_cell BK115.out 0).trans rfl; have hcz15_1 : w14.cell? ⟨gb115, 1, none⟩ = some (.int .i64 a0_1) := (blk_cell BK115.out 1).trans rfl; have hfz15_0 := blk_frozen BK115.out 0; have hfz15_1 := blk_frozen BK115.out 1))
   repeat (go_quiet (first | ((with_reducible refine gate_dst (N := 1) rfl ?_); refine qx_ 1 #[.int .i64 a0_0, .int .i64 a0_1] 23 ?hr ?_; (case hr => first | (go_simp; done) | (go_simp; rfl)); intro gb115 hg w14 hbox hb; have n0_ := Aside0.mk (below_step (q0_ HB.out) hb); have n1_ := Aside0.mk (hbox); have n2_ := Aside0.mk (qs_ hg (q0_ HB.out) : w.heap.size ≤ gb115); have n3_ := n2_; clear HB; have HB := n0_; have BK115 := n1_; have GW115 := n2_; have GE115 := n3_; clear n0_ n1_ n2_ n3_; clear hb hbox hg; have hcz15_0 : w14.cell? ⟨gb115, 0, none⟩ = some (.int .i64 a0_0) := (blk_cell BK115.out 0).trans rfl; have hcz15_1 : w14.cell? ⟨gb115, 1, none⟩ = some (.int .i64 a0_1) := (blk_cell BK115.out 1).trans rfl; have hfz15_0 := blk_frozen BK115.out 0; have hfz15_1 := blk_frozen BK115.out 1)); try go_wp2_with (first | ((with_reducible refine gate_dst (N := 1) rfl ?_); refine qx_ 1 #[.int .i64 a0_0, .int .i64 a0_1] 23 ?hr ?_; (case hr => first | (go_simp; done) | (go_simp; rfl)); intro gb115 hg w14 hbox hb; have n0_ := Aside0.mk (below_step (q0_ HB.out) hb); have n1_ := Aside0.mk (hbox); have n2_ := Aside0.mk (qs_ hg (q0_ HB.out) : w.heap.size ≤ gb115); have n3_ := n2_; clear HB; have HB := n0_; have BK115 := n1_; have GW115 := n2_; have GE115 := n3_; clear n0_ n1_ n2_ n3_; clear hb hbox hg; have hcz15_0 : w14.cell? ⟨gb115, 0, none⟩ = some (.int .i64 a0_0) := (blk_cell BK115.out 0).trans rfl; have hcz15_1 : w14.cell? ⟨gb115, 1, none⟩ = some (.int .i64 a0_1) := (blk_cell BK115.out 1).trans rfl; have hfz15_0 := blk_frozen BK115.out 0; have hfz15_1 := blk_frozen BK115.out 1)))
   go_ret
   exact ⟨by first | rfl | (simp [errW_none, errW_some] <;> rfl) | (simp [*, errW_none, errW_some] <;> rfl), (q1_ HB.out GE115.out)⟩
 ·rw [if_neg c2] at H
  have c2b0 : decide (1 ≤ a0_1) = false := decide_eq_false c2
  clear c2
  obtain rfl := Option.some.inj H
  go_enter Tryd.func26, Tryd.ntmps26
  go_wp2_with (first | ((with_reducible refine gate_dst (N := 1) rfl ?_); refine qx_ 1 #[.int .i64 a0_0, .int .i64 a0_1] 23 ?hr ?_; (case hr => first | (go_simp; done) | (go_simp; rfl)); intro gb115 hg w16 hbox hb; have n0_ := Aside0.mk (below_step (q0_ HB.out) hb); have n1_ := Aside0.mk (hbox); have n2_ := Aside0.mk (qs_ hg (q0_ HB.out) : w.heap.size ≤ gb115); have n3_ := n2_; clear HB; have HB := n0_; have BK115 := n1_; have GW115 := n2_; have GE115 := n3_; clear n0_ n1_ n2_ n3_; clear hb hbox hg; have hcz17_0 : w16.cell? ⟨gb115, 0, none⟩ = some (.int .i64 a0_0) := (blk_cell BK115.out 0).trans rfl; have hcz17_1 : w16.cell? ⟨gb115, 1, none⟩ = some (.int .i64 a0_1) := (blk_cell BK115.out 1).trans rfl; have hfz17_0 := blk_frozen BK115.out 0; have hfz17_1 := blk_frozen BK115.out 1))
  repeat (go_quiet (first | ((with_reducible refine gate_dst (N := 1) rfl ?_); refine qx_ 1 #[.int .i64 a0_0, .int .i64 a0_1] 23 ?hr ?_; (case hr => first | (go_simp; done) | (go_simp; rfl)); intro gb115 hg w16 hbox hb; have n0_ := Aside0.mk (below_step (q0_ HB.out) hb); have n1_ := Aside0.mk (hbox); have n2_ := Aside0.mk (qs_ hg (q0_ HB.out) : w.heap.size ≤ gb115); have n3_ := n2_; clear HB; have HB := n0_; have BK115 := n1_; have GW115 := n2_; have GE115 := n3_; clear n0_ n1_ n2_ n3_; clear hb hbox hg; have hcz17_0 : w16.cell? ⟨gb115, 0, none⟩ = some (.int .i64 a0_0) := (blk_cell BK115.out 0).trans rfl; have hcz17_1 : w16.cell? ⟨gb115, 1, none⟩ = some (.int .i64 a0_1) := (blk_cell BK115.out 1).trans rfl; have hfz17_0 := blk_frozen BK115.out 0; have hfz17_1 := blk_frozen BK115.out 1)); try go_wp2_with (first | ((with_reducible refine gate_dst (N := 1) rfl ?_); refine qx_ 1 #[.int .i64 a0_0, .int .i64 a0_1] 23 ?hr ?_; (case hr => first | (go_simp; done) | (go_simp; rfl)); intro gb115 hg w16 hbox hb; have n0_ := Aside0.mk (below_step (q0_ HB.out) hb); have n1_ := Aside0.mk (hbox); have n2_ := Aside0.mk (qs_ hg (q0_ HB.out) : w.heap.size ≤ gb115); have n3_ := n2_; clear HB; have HB := n0_; have BK115 := n1_; have GW115 := n2_; have GE115 := n3_; clear n0_ n1_ n2_ n3_; clear hb hbox hg; have hcz17_0 : w16.cell? ⟨gb115, 0, none⟩ = some (.int .i64 a0_0) := (blk_cell BK115.out 0).trans rfl; have hcz17_1 : w16.cell? ⟨gb115, 1, none⟩ = some (.int .i64 a0_1) := (blk_cell BK115.out 1).trans rfl; have hfz17_0 := blk_frozen BK115.out 0; have hfz17_1 := blk_frozen BK115.out 1)))
  go_ret
  exact ⟨by first | rfl | (simp [errW_none, errW_some] <;> rfl) | (simp [*, errW_none, errW_some] <;> rfl), (q1_ HB.out GE115.out)⟩
end Go.Proofs.YtdjnneflpkllmaaDoor.Q

namespace Go.Proofs.Num
open Go.RowKit Go.Proofs.YtdjnneflpkllmaaDoorW.PrintWords Go.Proofs.YtdjnneflpkllmaaDoor.Q
set_option linter.unusedVariables false
set_option linter.unusedSimpArgs false
def valid (n d : Int) : Prop := 1 ≤ d ∧ d ≤ 1048576 ∧ -1099511627776 ≤ n ∧ n ≤ 1099511627776 ∧ Nat.gcd n.natAbs d.natAbs = 1
instance (n d : Int) : Decidable (valid n d) := by unfold valid; infer_instance
end Go.Proofs.Num

namespace Go.Proofs.YtdjnneflpkllmaaDoor.Q
open Go.RowKit Go.Proofs.YtdjnneflpkllmaaDoorW.PrintWords Go.Proofs.YtdjnneflpkllmaaDoorW.PrintLast Go.Proofs.YtdjnneflpkllmaaDoorW.PrintMore
attribute [local go_sem] max2_int min2_int max_two min_two max_three min_three max_four min_four
set_option linter.unusedVariables false
set_option linter.unusedSimpArgs false
end Go.Proofs.YtdjnneflpkllmaaDoor.Q

namespace Go.Proofs.Num
open Go.RowKit Go.Proofs.YtdjnneflpkllmaaDoorW.PrintWords Go.Proofs.YtdjnneflpkllmaaDoorW.PrintMore Go.Proofs.YtdjnneflpkllmaaDoor.Q
set_option linter.unusedVariables false
set_option linter.unusedSimpArgs false
end Go.Proofs.Num

namespace Go.Proofs.YtdjnneflpkllmaaDoor.Q
open Go.RowKit Go.Proofs.YtdjnneflpkllmaaDoorW.PrintWords Go.Proofs.YtdjnneflpkllmaaDoorW.PrintLast Go.Proofs.YtdjnneflpkllmaaDoorW.PrintMore
attribute [local go_sem] max2_int min2_int max_two min_two max_three min_three max_four min_four
set_option linter.unusedVariables false
set_option linter.unusedSimpArgs false
end Go.Proofs.YtdjnneflpkllmaaDoor.Q

namespace Go.Proofs.Num
open Go.RowKit Go.Proofs.YtdjnneflpkllmaaDoorW.PrintWords Go.Proofs.YtdjnneflpkllmaaDoorW.PrintMore Go.Proofs.YtdjnneflpkllmaaDoor.Q
set_option linter.unusedVariables false
set_option linter.unusedSimpArgs false
end Go.Proofs.Num

namespace Go.Proofs.Num
set_option linter.unusedVariables false
end Go.Proofs.Num

namespace Go.Proofs.YtdjnneflpkllmaaDoor.Q
open Go.RowKit Go.Proofs.YtdjnneflpkllmaaDoorW.PrintWords Go.Proofs.YtdjnneflpkllmaaDoorW.PrintLast Go.Proofs.YtdjnneflpkllmaaDoorW.PrintMore
attribute [local go_sem] max2_int min2_int max_two min_two max_three min_three max_four min_four
set_option linter.unusedVariables false
set_option linter.unusedSimpArgs false
def num_down.f (a0 : Int) (a1 : Int) : Option (Int × Int) := if a1 = 0 then (none) else (if (Int.tmod a0 a1) < 0 then (some (wrap64 ((wrap64 (Int.tdiv a0 a1)) - 1), wrap64 ((Int.tmod a0 a1) + a1))) else (some (wrap64 (Int.tdiv a0 a1), Int.tmod a0 a1)))
set_option maxHeartbeats 8000000 in
set_option maxRecDepth 100000 in
theorem num_down.calls (a0 : Int) (a1 : Int) (r1 : Int) (r2 : Int) (w : World) (h : num_down.f a0 a1 = some (r1, r2)) :
  Calls Tryd.prog 70 #[.int .i64 a0, .int .i64 a1] w fun e w' => e = .returned (.tuple #[.int .i64 r1, .int .i64 r2]) ∧ Drawn0 w w' := by
 have H : (if a1 = 0 then (none) else (if (Int.tmod a0 a1) < 0 then (some (wrap64 ((wrap64 (Int.tdiv a0 a1)) - 1), wrap64 ((Int.tmod a0 a1) + a1))) else (some (wrap64 (Int.tdiv a0 a1), Int.tmod a0 a1)))) = some (r1, r2) := h
 clear h
 by_cases c3 : a1 = 0
 ·rw [if_pos c3] at H
  exact absurd H (by simp)
 ·rw [if_neg c3] at H
  have c3b0 : (a1 == 0) = false := beq_eq_false_iff_ne.mpr c3
  have c3b1 : (a1 != 0) = true := bne_iff_ne.mpr c3
  by_cases c4 : (Int.tmod a0 a1) < 0
  ·rw [if_pos c4] at H
   have c4b0 : decide ((Int.tmod a0 a1) < 0) = true := decide_eq_true c4
   clear c4
   simp only [Option.some.injEq, Prod.mk.injEq] at H
   obtain ⟨rfl, rfl⟩ := H
   go_enter Tryd.func70, Tryd.ntmps70
   go_wp2
   repeat (go_quiet (fail); try go_wp2)
   go_ret2
   exact ⟨by first | rfl | (simp; done) | (simp [*]; done), by repeat (first | exact Drawn0.refl _ | apply Drawn0.step)⟩
  ·rw [if_neg c4] at H
   have c4b0 : decide ((Int.tmod a0 a1) < 0) = false := decide_eq_false c4
   clear c4
   simp only [Option.some.injEq, Prod.mk.injEq] at H
   obtain ⟨rfl, rfl⟩ := H
   go_enter Tryd.func70, Tryd.ntmps70
   go_wp2
   repeat (go_quiet (fail); try go_wp2)
   go_ret2
   exact ⟨by first | rfl | (simp; done) | (simp [*]; done), by repeat (first | exact Drawn0.refl _ | apply Drawn0.step)⟩
end Go.Proofs.YtdjnneflpkllmaaDoor.Q
