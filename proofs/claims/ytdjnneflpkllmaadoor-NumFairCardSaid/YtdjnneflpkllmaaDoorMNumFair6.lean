/- Part 6 of the proof of NumFair. -/
import Derived.Test.YtdjnneflpkllmaaDoorMNumFair5

namespace Go.Proofs.Num
open Go.RowKit Go.Proofs.YtdjnneflpkllmaaDoorW.PrintLast Go.Proofs.YtdjnneflpkllmaaDoorW.PrintWords Go.Proofs.YtdjnneflpkllmaaDoor.Q
set_option linter.unusedVariables false
set_option linter.unusedSimpArgs false
theorem best_alive (w : World) : Calls Tryd.prog 19 #[.int .i64 355, .int .i64 113, .int .i64 10] w fun e w' => e = .returned (.tuple #[.agg #[.int .i64 22, .int .i64 7], .int .i64 0]) ∧ Below w.heap.size w w' :=
  num_Best.calls 30 355 113 10 22 7 0 w (by kernel_rfl)
theorem valid_alive (w : World) : Calls Tryd.prog 26 #[.agg #[.int .i64 22, .int .i64 7]] w fun e w' => e = .returned (.bool true) ∧ Below w.heap.size w w' :=
  num_Valid.calls 30 22 7 true w (by kernel_rfl)
set_option maxRecDepth 100000 in
set_option maxHeartbeats 3200000 in
theorem alive_any (w : World) : Calls Tryd.prog 21 #[] w fun e w' => e = .returned (.bool true) ∧ Below w.heap.size w w' := by
  have hb0 : Below w.heap.size w (w.alloc (.cells #[.int .i64 3, .int .i64 3, .int .i64 1] 3)) := (Below.refl _ _).alloc (Nat.le_refl _) _
  have hh0 : (w.alloc (.cells #[.int .i64 3, .int .i64 3, .int .i64 1] 3)).heap[w.heap.size]? = some (.cells #[.int .i64 3, .int .i64 3, .int .i64 1] 3 (0, 0)) := by show (w.heap.push _)[w.heap.size]? = _; simp
  have AP := apportion_alive w.heap.size (w.alloc (.cells #[.int .i64 3, .int .i64 3, .int .i64 1] 3)) (by simp) ((blk_cell hh0 0).trans rfl) ((blk_cell hh0 1).trans rfl) ((blk_cell hh0 2).trans rfl)
  have HA := Lib.hid AP
  have HB0 := Lib.hid hb0
  clear AP hb0 hh0
  go_enter Tryd.func21, Tryd.ntmps21
  go_upto_region 3 with (first
    | (go_at_call 47; refine HA.out.mono ?_; rintro e w1 ⟨p, rfl, hp, y0, y1, y2, hb1⟩; have HY0 := Lib.hid y0; have HY1 := Lib.hid y1; have HY2 := Lib.hid y2; clear y0 y1 y2)
    | (go_at_call 19; refine (best_alive _).mono ?_; rintro e w2 ⟨rfl, hb2⟩))
  have hz2 : p < w2.heap.size := Nat.lt_of_lt_of_le hp hb2.size
  have y0 := (hb2.cell (p := ⟨p, 0, none⟩) hp).trans HY0.out
  have y1 := (hb2.cell (p := ⟨p, 1, none⟩) hp).trans HY1.out
  have y2 := (hb2.cell (p := ⟨p, 2, none⟩) hp).trans HY2.out
  have hbw : Below w.heap.size w w2 := (HB0.out.trans (hb1.mono (by simp))).trans (hb2.mono (HB0.out.trans (hb1.mono (by simp))).size)
  have hF : (w2.alloc (.cells #[.int .i64 22, .int .i64 7] 23)).heap[w2.heap.size]? = some (.cells #[.int .i64 22, .int .i64 7] 23 (0, 0)) := by show (w2.heap.push _)[w2.heap.size]? = _; simp
  have hbF : Below w2.heap.size w2 (w2.alloc (.cells #[.int .i64 22, .int .i64 7] 23)) := (Below.refl _ _).alloc (Nat.le_refl _) _
  have hsF : (w2.alloc (.cells #[.int .i64 22, .int .i64 7] 23)).heap.size = w2.heap.size + 1 := by simp
  clear hb1 hb2 hp HY0 HY1 HY2 HB0 HA
  generalize w2.alloc (.cells #[.int .i64 22, .int .i64 7] 23) = W at hF hbF hsF ⊢
  have SAME : ∀ w3, Below W.heap.size W w3 → Calls Tryd.prog 41 #[.slice (some ⟨p, 0, none⟩) 3 3, .slice (some ⟨w3.heap.size, 0, none⟩) 3 3] (w3.alloc (.cells #[.int .i64 4, .int .i64 4, .int .i64 2] 3)) fun e w' => e = .returned (.bool true) ∧ ∃ n, w' = (w3.alloc (.cells #[.int .i64 4, .int .i64 4, .int .i64 2] 3)).drewN n := by
    intro w3 h3
    have hh : (w3.alloc (.cells #[.int .i64 4, .int .i64 4, .int .i64 2] 3)).heap[w3.heap.size]? = some (.cells #[.int .i64 4, .int .i64 4, .int .i64 2] 3 (0, 0)) := by show (w3.heap.push _)[w3.heap.size]? = _; simp
    have hb : Below w2.heap.size w2 (w3.alloc (.cells #[.int .i64 4, .int .i64 4, .int .i64 2] 3)) := hbF.trans ((h3.alloc h3.size _).mono (by omega))
    exact same_alive _ _ _ ((hb.cell (p := ⟨p, 0, none⟩) hz2).trans y0) ((hb.cell (p := ⟨p, 1, none⟩) hz2).trans y1) ((hb.cell (p := ⟨p, 2, none⟩) hz2).trans y2) ((blk_cell hh 0).trans rfl) ((blk_cell hh 1).trans rfl) ((blk_cell hh 2).trans rfl)
  have FR : ∀ w3, Below W.heap.size W w3 → w3.cell? ⟨w2.heap.size, 0, none⟩ = some (.int .i64 22) ∧ w3.cell? ⟨w2.heap.size, 1, none⟩ = some (.int .i64 7) ∧ w2.heap.size < w3.heap.size := by
    intro w3 h3
    have hh := (h3.block w2.heap.size (by omega)).trans hF
    exact ⟨(blk_cell hh 0).trans rfl, (blk_cell hh 1).trans rfl, by have := h3.size; omega⟩
  have HS := Lib.hid SAME
  have HFR := Lib.hid FR
  have HW := Lib.hid (hbw.trans (hbF.mono hbw.size))
  have HWs : w.heap.size ≤ W.heap.size := HW.out.size
  clear SAME FR hF hbF hsF y0 y1 y2 hz2 hbw
  go_wp2_with (first
    | (go_at_call 72; refine (decimal_alive _).mono ?_; rintro e w3 ⟨rfl, hb3⟩; obtain ⟨f0, f1, f2⟩ := HFR.out w3 hb3; have hb3' := Lib.hid hb3; clear hb3)
    | (go_at_call 41; refine (HS.out w3 hb3'.out).mono ?_; rintro e w4 ⟨rfl, n, rfl⟩)
    | (go_at_call 26; refine (valid_alive _).mono ?_; rintro e w5 ⟨rfl, hb5⟩))
  go_ret
  have h1 := hb3'.out.size
  have hX : w.heap.size ≤ ((w3.alloc (.cells #[.int .i64 4, .int .i64 4, .int .i64 2] 3)).drewN n).heap.size := by
    show w.heap.size ≤ (w3.alloc _).heap.size
    simp
    omega
  exact ⟨rfl, HW.out.trans ((below_draws ((hb3'.out.alloc hb3'.out.size _).mono HWs) n).trans (hb5.mono hX))⟩
end Go.Proofs.Num

namespace Go.Proofs.YtdjnneflpkllmaaDoor.Q
open Go.RowKit Go.Proofs.YtdjnneflpkllmaaDoorW.PrintWords Go.Proofs.YtdjnneflpkllmaaDoorW.PrintLast Go.Proofs.YtdjnneflpkllmaaDoorW.PrintMore
attribute [local go_sem] max2_int min2_int max_two min_two max_three min_three max_four min_four   -- for this text's walks alone
set_option linter.unusedVariables false
set_option linter.unusedSimpArgs false
def merinolaw01_alive.f : Option Bool := some true
theorem merinolaw01_alive.calls (r : Bool) (w : World) (h : merinolaw01_alive.f = some r) : Calls Tryd.prog 21 #[] w fun e w' => e = .returned (.bool r) ∧ Below w.heap.size w w' := by
  obtain rfl : true = r := Option.some.inj h
  exact Go.Proofs.Num.alive_any w
end Go.Proofs.YtdjnneflpkllmaaDoor.Q

namespace Go.Proofs.YtdjnneflpkllmaaDoor.Q
open Go.RowKit Go.Proofs.YtdjnneflpkllmaaDoorW.PrintWords Go.Proofs.YtdjnneflpkllmaaDoorW.PrintLast Go.Proofs.YtdjnneflpkllmaaDoorW.PrintMore
attribute [local go_sem] max2_int min2_int max_two min_two max_three min_three max_four min_four   -- for this text's walks alone
set_option linter.unusedVariables false
set_option linter.unusedSimpArgs false
def merinolaw01_few.f (l0 : List Int) : Option (Bool) := some (decide ((l0.length : Int) ≤ 300))
set_option maxHeartbeats 8000000 in
set_option maxRecDepth 100000 in
theorem merinolaw01_few.calls (A0 : Option Addr) (c0 : Nat) (l0 : List Int) (r : Bool) (w : World) (hr0 : Kd.C (Kd.int .i64) w A0 l0.length l0) (hc0 : l0.length ≤ c0) (h : merinolaw01_few.f l0 = some r) :
    Calls Tryd.prog 35 #[.slice A0 l0.length c0] w fun e w' => e = .returned (.bool r) ∧ Drawn0 w w' := by
  have HR0 := Aside0.mk hr0
  have HC0 := Aside0.mk hc0
  clear hr0 hc0
  have H : (some (decide ((l0.length : Int) ≤ 300))) = some r := h
  clear h
  obtain rfl := Option.some.inj H
  go_enter Tryd.func35, Tryd.ntmps35
  go_wp2
  go_ret
  exact ⟨by first | rfl | (simp; done) | (simp [*]; done), by repeat (first | exact Drawn0.refl _ | apply Drawn0.step)⟩
end Go.Proofs.YtdjnneflpkllmaaDoor.Q

namespace Go.Proofs.YtdjnneflpkllmaaDoor.Q
open Go.RowKit Go.Proofs.YtdjnneflpkllmaaDoorW.PrintWords Go.Proofs.YtdjnneflpkllmaaDoorW.PrintLast Go.Proofs.YtdjnneflpkllmaaDoorW.PrintMore
attribute [local go_sem] max2_int min2_int max_two min_two max_three min_three max_four min_four   -- for this text's walks alone
set_option linter.unusedVariables false
set_option linter.unusedSimpArgs false
theorem cut_cap {P : Program} (t e : TypeId) (kh : IntKind) {i : TypeInfo} (ht : P.underlying t = some (.slice e)) (hi : P.info? e = some i) (A : Option Addr) (n c : Nat) (j : Int) (h0 : 0 ≤ j) (hm : j ≤ c) :
    ∀ W : World, (Instr.slice t (.slice A n c) none (some (.int kh j)) none).run P W = .ok (.slice A j.toNat c) W := by
  intro W
  have hel : P.elem t = e := by simp [Program.elem, ht]
  have hu : P.underlying t = some (.slice (P.elem t)) := by rw [hel]; exact ht
  have ha : (A.map fun x => x.add 0) = A := by cases A <;> simp [Addr.add]
  rw [run_slice_h W t A n c hu kh j h0 (by omega), hel]
  simp [sizeOf, typeInfo, hi, sliced, Result.andThen, ha]
set_option maxHeartbeats 8000000 in
set_option maxRecDepth 100000 in
theorem merinolaw01_kept.full (k : Nat) (A0 : Option Addr) (c0 : Nat) (l0 F : List Int) (A1 : Option Addr) (c1 : Nat) (l1 : List Int) (w : World) (hr0 : Kd.C (Kd.int .i64) w A0 l0.length l0) (hF : Kd.C (Kd.int .i64) w A0 F.length F) (hcF : F.length ≤ c0) (hlF : F.length = l1.length + 2) (hl0 : l0.length = l1.length) (hr1 : Kd.C (Kd.int .i64) w A1 l1.length l1) (hc1 : l1.length ≤ c1) (hsm : l1.length ≤ 1000000)
    (hs : merinolaw01_same.f k l0 l1 = some true) (m0 : rd F (l1.length : Int) = 77) (m1 : rd F ((l1.length : Int) + 1) = 77) :
    Calls Tryd.prog 42 #[.slice A0 l0.length c0, .slice A1 l1.length c1] w fun e w' => e = .returned (.bool true) ∧ Drawn0 w w' := by
  have HR0 := Aside0.mk hr0
  have hc0 : l0.length ≤ c0 := by omega
  have HC0 := Aside0.mk hc0
  have HR1 := Aside0.mk hr1
  have HC1 := Aside0.mk hc1
  have HR671 := Aside0.mk hF
  have HC671 := Aside0.mk hcF
  have A6 := Aside0.mk hs
  obtain ⟨ji3, hji3⟩ : ∃ j_ : Int, (wrap64 ((l1.length : Int) + 2)) = j_ := ⟨_, rfl⟩
  have hji3w : (IntKind.i64.wrap ((l1.length : Int) + 2)) = ji3 := (i64_w _).trans hji3
  have e3 : ji3 = (l1.length : Int) + 2 := by rw [← hji3]; unfold wrap64; omega
  obtain ⟨ji11, hji11⟩ : ∃ j_ : Int, (wrap64 ((l1.length : Int) + 1)) = j_ := ⟨_, rfl⟩
  have hji11w : (IntKind.i64.wrap ((l1.length : Int) + 1)) = ji11 := (i64_w _).trans hji11
  have e11 : ji11 = (l1.length : Int) + 1 := by rw [← hji11]; unfold wrap64; omega
  obtain ⟨i014, hi014, _, hsz14, _⟩ := info_parts info3
  have hcut14 := cut_cap (P := Tryd.prog) 29 3 .i64 Tryd.underlying29 hi014 A0 l0.length c0 ji3 (by omega) (by omega)
  rw [show ji3.toNat = F.length by omega] at hcut14
  have c4b1 : decide (0 ≤ (ji3)) = true := decide_eq_true (by omega)
  have c8b0 : decide (0 ≤ (l1.length : Int)) = true := decide_eq_true (by omega)
  have c9b0 : decide ((l1.length : Int) < (F.length : Int)) = true := decide_eq_true (by omega)
  have c9b1 : decide (l1.length < F.length) = true := decide_eq_true (by omega)
  have c10b0 : (rd F (l1.length : Int) == 77) = true := beq_iff_eq.mpr m0
  have c12b0 : decide (0 ≤ (ji11)) = true := decide_eq_true (by omega)
  have c13b0 : decide ((ji11) < (F.length : Int)) = true := decide_eq_true (by omega)
  have c14b0 : (rd F (ji11) == 77) = true := by rw [e11]; exact beq_iff_eq.mpr m1
  clear hr0 hF hcF hlF hl0 hr1 hc1 hsm hs m0 m1 hc0 e3 e11 hji3 hji11 hi014 hsz14
  go_enter Tryd.func42, Tryd.ntmps42
  go_wp2_with (first | ((with_reducible refine gate_callee (f := 41) rfl ?_); refine goesL_ (some 13) rfl rfl Tryd.func41 (by kernel_rfl) rfl #[.slice A0 l0.length c0, .slice A1 l1.length c1] rfl (by (try simp only [List.map_toArray, List.map_cons, List.map_nil]); first | done | rfl | (simp only [List.length_drop, List.length_take]; rfl)) ?_; (with_reducible refine (merinolaw01_same.calls k _ _ l0 _ _ l1 true _ ?side1 ?side2 ?side3 ?side4 A6.out).mono ?_); (case side1 => repeat (first | exact HR0.out | (with_reducible refine Kd.C_alloc ?_ _) | (with_reducible refine Kd.C_drewN ?_ _) | (with_reducible refine Kd.C_drew ?_))); (case side2 => exact HC0.out); (case side3 => repeat (first | exact HR1.out | (with_reducible refine Kd.C_alloc ?_ _) | (with_reducible refine Kd.C_drewN ?_ _) | (with_reducible refine Kd.C_drew ?_))); (case side4 => exact HC1.out); rintro e w' ⟨rfl, ⟨nd, rfl⟩⟩; refine ⟨_, rfl, ?_⟩; have p673 : 0 ≤ ((l1.length : Int) : Int) := of_decide_eq_true (by first | (with_reducible assumption) | assumption); have q673 : (l1.length : Int) < (F.length : Int) := of_decide_eq_true (by first | (with_reducible assumption) | assumption); obtain ⟨ad673, e673, hx673_0⟩ := Kd.at_int HR671.out (l1.length : Int) p673 q673; cases e673; (try simp only [Go.IntWalk.toNatUp] at hx673_0); replace p673 := eq_true p673; replace q673 := eq_true q673; have p674 : 0 ≤ ((ji11) : Int) := of_decide_eq_true (by first | (with_reducible assumption) | assumption); have q674 : (ji11) < (F.length : Int) := of_decide_eq_true (by first | (with_reducible assumption) | assumption); obtain ⟨ad674, e674, hx674_0⟩ := Kd.at_int HR671.out (ji11) p674 q674; obtain rfl : ad673 = ad674 := (by injection e674); replace p674 := eq_true p674; replace q674 := eq_true q674))
  go_ret
  exact ⟨by first | rfl | (simp; done) | (simp [*]; done), by repeat (first | exact Drawn0.refl _ | apply Drawn0.step)⟩
end Go.Proofs.YtdjnneflpkllmaaDoor.Q

namespace Go.Proofs.YtdjnneflpkllmaaDoor.Q
open Go.RowKit Go.Proofs.YtdjnneflpkllmaaDoorW.PrintWords Go.Proofs.YtdjnneflpkllmaaDoorW.PrintLast Go.Proofs.YtdjnneflpkllmaaDoorW.PrintMore
attribute [local go_sem] max2_int min2_int max_two min_two max_three min_three max_four min_four   -- for this text's walks alone
set_option linter.unusedVariables false
set_option linter.unusedSimpArgs false
mutual
def merinoref01_Valid.j0 : Nat → Bool → Int → Int → Option (Bool)
  | 0, _, _, _ => none
  | k + 1, x22, x467000, x467001 => if x22 = true then (some false) else (if x467000 < 0 then (merinoref01_Valid.j1 k (wrap64 (-x467000)) x467001) else (merinoref01_Valid.j1 k x467000 x467001))
def merinoref01_Valid.j1 : Nat → Int → Int → Option (Bool)
  | 0, _, _ => none
  | k + 1, x3, x4 => merinoref01_Valid.l0 k x3 x4
def merinoref01_Valid.l0 : Nat → Int → Int → Option (Bool)
  | 0, _, _ => none
  | k + 1, x3, x4 => if x4 > 0 then (if x4 = 0 then (none) else (merinoref01_Valid.l0 k x4 (Int.tmod x3 x4))) else (some (x3 == 1))
end
def merinoref01_Valid.f (k : Nat) (a0_0 : Int) (a0_1 : Int) : Option (Bool) := if a0_1 < 1 then (merinoref01_Valid.j0 k true a0_0 a0_1) else (if a0_1 > 1048576 then (merinoref01_Valid.j0 k true a0_0 a0_1) else (if a0_0 < (-1099511627776) then (merinoref01_Valid.j0 k true a0_0 a0_1) else (merinoref01_Valid.j0 k (decide (a0_0 > 1099511627776)) a0_0 a0_1)))
theorem merinoref01_Valid.mono_l : ∀ k, (∀ y0 y1 y2, LeO (merinoref01_Valid.j0 k y0 y1 y2) (merinoref01_Valid.j0 (k + 1) y0 y1 y2)) ∧ (∀ y0 y1, LeO (merinoref01_Valid.j1 k y0 y1) (merinoref01_Valid.j1 (k + 1) y0 y1)) ∧ (∀ y0 y1, LeO (merinoref01_Valid.l0 k y0 y1) (merinoref01_Valid.l0 (k + 1) y0 y1))
  | 0 => ⟨fun _ _ _ r h => by simp [merinoref01_Valid.j0] at h, fun _ _ r h => by simp [merinoref01_Valid.j1] at h, fun _ _ r h => by simp [merinoref01_Valid.l0] at h⟩
  | k + 1 => by
    obtain ⟨ih0, ih1, ih2⟩ := merinoref01_Valid.mono_l k
    refine ⟨?_, ?_, ?_⟩
    · intro y0 y1 y2
      unfold merinoref01_Valid.j0
      repeat' first
      | (with_reducible exact ih0 _ _ _)
      | (with_reducible exact ih1 _ _)
      | (with_reducible exact ih2 _ _)
      | (with_reducible exact LeO.refl _)
      | (with_reducible exact LeO.none _)
      | (with_reducible refine LeO.ite ?_ ?_)
      | (with_reducible refine LeO.bind ?_ (fun _ => ?_))
      | exact ih0 _ _ _
      | exact ih1 _ _
      | exact ih2 _ _
      | exact LeO.none _
      | refine LeO.ite ?_ ?_
      | refine LeO.bind ?_ (fun _ => ?_)
    · intro y0 y1
      unfold merinoref01_Valid.j1
      repeat' first
      | (with_reducible exact ih0 _ _ _)
      | (with_reducible exact ih1 _ _)
      | (with_reducible exact ih2 _ _)
      | (with_reducible exact LeO.refl _)
      | (with_reducible exact LeO.none _)
      | (with_reducible refine LeO.ite ?_ ?_)
      | (with_reducible refine LeO.bind ?_ (fun _ => ?_))
      | exact ih0 _ _ _
      | exact ih1 _ _
      | exact ih2 _ _
      | exact LeO.none _
      | refine LeO.ite ?_ ?_
      | refine LeO.bind ?_ (fun _ => ?_)
    · intro y0 y1
      unfold merinoref01_Valid.l0
      repeat' first
      | (with_reducible exact ih0 _ _ _)
      | (with_reducible exact ih1 _ _)
      | (with_reducible exact ih2 _ _)
      | (with_reducible exact LeO.refl _)
      | (with_reducible exact LeO.none _)
      | (with_reducible refine LeO.ite ?_ ?_)
      | (with_reducible refine LeO.bind ?_ (fun _ => ?_))
      | exact ih0 _ _ _
      | exact ih1 _ _
      | exact ih2 _ _
      | exact LeO.none _
      | refine LeO.ite ?_ ?_
      | refine LeO.bind ?_ (fun _ => ?_)
theorem merinoref01_Valid.mono : ∀ a0 a1 k, LeO (merinoref01_Valid.f k a0 a1) (merinoref01_Valid.f (k + 1) a0 a1) := by
  intro a0 a1 k
  obtain ⟨ih0, ih1, ih2⟩ := merinoref01_Valid.mono_l k
  unfold merinoref01_Valid.f
  repeat' first
      | (with_reducible exact ih0 _ _ _)
      | (with_reducible exact ih1 _ _)
      | (with_reducible exact ih2 _ _)
      | (with_reducible exact LeO.refl _)
      | (with_reducible exact LeO.none _)
      | (with_reducible refine LeO.ite ?_ ?_)
      | (with_reducible refine LeO.bind ?_ (fun _ => ?_))
      | exact ih0 _ _ _
      | exact ih1 _ _
      | exact ih2 _ _
      | exact LeO.none _
      | refine LeO.ite ?_ ?_
      | refine LeO.bind ?_ (fun _ => ?_)
end Go.Proofs.YtdjnneflpkllmaaDoor.Q

namespace Go.Proofs.YtdjnneflpkllmaaDoor.Q
open Go.RowKit Go.Proofs.YtdjnneflpkllmaaDoorW.PrintWords Go.Proofs.YtdjnneflpkllmaaDoorW.PrintLast Go.Proofs.YtdjnneflpkllmaaDoorW.PrintMore
attribute [local go_sem] max2_int min2_int max_two min_two max_three min_three max_four min_four   -- for this text's walks alone
set_option linter.unusedVariables false
set_option linter.unusedSimpArgs false
def num_Path.l0 : Nat → List Int → Int → Int → Option (List Int × Int)
  | 0, _, _, _ => none
  | k + 1, x4, x5, x6 => if x6 = 0 then (some (x4, 0)) else ((num_down.f x5 x6).bind fun bt620 => (if x4.length < 17592186044416 then (num_Path.l0 k (x4 ++ [bt620.1]) x6 bt620.2) else (none)))
def num_Path.f (k : Nat) (a0_0 : Int) (a0_1 : Int) : Option (List Int × Int) := (num_Valid.f k a0_0 a0_1).bind fun t619 => (if t619 = true then (num_Path.l0 k ([] : List Int) a0_0 a0_1) else (some (([] : List Int), 2)))
theorem num_Path.mono_l : ∀ k, (∀ y0 y1 y2, LeO (num_Path.l0 k y0 y1 y2) (num_Path.l0 (k + 1) y0 y1 y2))
  | 0 => fun _ _ _ r h => by simp [num_Path.l0] at h
  | k + 1 => by
    have ih0 := num_Path.mono_l k
    · intro y0 y1 y2
      unfold num_Path.l0
      repeat' first
      | (with_reducible exact ih0 _ _ _)
      | (with_reducible exact num_Valid.mono _ _ _)
      | (with_reducible exact LeO.refl _)
      | (with_reducible exact LeO.none _)
      | (with_reducible refine LeO.ite ?_ ?_)
      | (with_reducible refine LeO.bind ?_ (fun _ => ?_))
      | exact ih0 _ _ _
      | exact num_Valid.mono _ _ _
      | exact LeO.none _
      | refine LeO.ite ?_ ?_
      | refine LeO.bind ?_ (fun _ => ?_)
theorem num_Path.mono : ∀ a0 a1 k, LeO (num_Path.f k a0 a1) (num_Path.f (k + 1) a0 a1) := by
  intro a0 a1 k
  have ih0 := num_Path.mono_l k
  unfold num_Path.f
  repeat' first
      | (with_reducible exact ih0 _ _ _)
      | (with_reducible exact num_Valid.mono _ _ _)
      | (with_reducible exact LeO.refl _)
      | (with_reducible exact LeO.none _)
      | (with_reducible refine LeO.ite ?_ ?_)
      | (with_reducible refine LeO.bind ?_ (fun _ => ?_))
      | exact ih0 _ _ _
      | exact num_Valid.mono _ _ _
      | exact LeO.none _
      | refine LeO.ite ?_ ?_
      | refine LeO.bind ?_ (fun _ => ?_)
def merinoref01_Path.l0 : Nat → List Int → Int → Int → Option (List Int × Int)
  | 0, _, _, _ => none
  | k + 1, x4, x5, x6 => if x6 > 0 then (if x6 = 0 then (none) else (if (Int.tmod x5 x6) < 0 then (if x4.length < 17592186044416 then (merinoref01_Path.l0 k (x4 ++ [wrap64 ((wrap64 (Int.tdiv x5 x6)) - 1)]) x6 (wrap64 ((Int.tmod x5 x6) + x6))) else (none)) else (if x4.length < 17592186044416 then (merinoref01_Path.l0 k (x4 ++ [wrap64 (Int.tdiv x5 x6)]) x6 (Int.tmod x5 x6)) else (none)))) else (some (x4, 0))
def merinoref01_Path.f (k : Nat) (a0_0 : Int) (a0_1 : Int) : Option (List Int × Int) := (merinoref01_Valid.f k a0_0 a0_1).bind fun t626 => (if t626 = true then (merinoref01_Path.l0 k ([] : List Int) a0_0 a0_1) else (some (([] : List Int), 2)))
theorem merinoref01_Path.mono_l : ∀ k, (∀ y0 y1 y2, LeO (merinoref01_Path.l0 k y0 y1 y2) (merinoref01_Path.l0 (k + 1) y0 y1 y2))
  | 0 => fun _ _ _ r h => by simp [merinoref01_Path.l0] at h
  | k + 1 => by
    have ih0 := merinoref01_Path.mono_l k
    · intro y0 y1 y2
      unfold merinoref01_Path.l0
      repeat' first
      | (with_reducible exact ih0 _ _ _)
      | (with_reducible exact merinoref01_Valid.mono _ _ _)
      | (with_reducible exact LeO.refl _)
      | (with_reducible exact LeO.none _)
      | (with_reducible refine LeO.ite ?_ ?_)
      | (with_reducible refine LeO.bind ?_ (fun _ => ?_))
      | exact ih0 _ _ _
      | exact merinoref01_Valid.mono _ _ _
      | exact LeO.none _
      | refine LeO.ite ?_ ?_
      | refine LeO.bind ?_ (fun _ => ?_)
theorem merinoref01_Path.mono : ∀ a0 a1 k, LeO (merinoref01_Path.f k a0 a1) (merinoref01_Path.f (k + 1) a0 a1) := by
  intro a0 a1 k
  have ih0 := merinoref01_Path.mono_l k
  unfold merinoref01_Path.f
  repeat' first
      | (with_reducible exact ih0 _ _ _)
      | (with_reducible exact merinoref01_Valid.mono _ _ _)
      | (with_reducible exact LeO.refl _)
      | (with_reducible exact LeO.none _)
      | (with_reducible refine LeO.ite ?_ ?_)
      | (with_reducible refine LeO.bind ?_ (fun _ => ?_))
      | exact ih0 _ _ _
      | exact merinoref01_Valid.mono _ _ _
      | exact LeO.none _
      | refine LeO.ite ?_ ?_
      | refine LeO.bind ?_ (fun _ => ?_)
mutual
def num_FromPath.l0 : Nat → List Int → Int → List Int → Int → Int → Option (Int × Int × Int)
  | 0, _, _, _, _, _ => none
  | k + 1, x0, x4, x22, x23, x24 => if x24 < x23 then (if 0 ≤ x24 then (if x24 < (x22.length : Int) then (if x24 > 0 then (if (rd x22 x24) < 1 then (some (0, 0, 2)) else (num_FromPath.l0 k x0 x4 x22 x23 (wrap64 (x24 + 1)))) else (num_FromPath.l0 k x0 x4 x22 x23 (wrap64 (x24 + 1)))) else (none)) else (none)) else (if x4 > 0 then (if 0 ≤ x4 then (if x4 < (x0.length : Int) then (num_FromPath.j1 k x0 x4 ((rd x0 x4) == 1)) else (none)) else (none)) else (num_FromPath.j1 k x0 x4 false))
def num_FromPath.j1 : Nat → List Int → Int → Bool → Option (Int × Int × Int)
  | 0, _, _, _ => none
  | k + 1, x0, x4, x45 => if x45 = true then (some (0, 0, 2)) else (num_FromPath.l1 k x0 1 0 x4)
def num_FromPath.l1 : Nat → List Int → Int → Int → Int → Option (Int × Int × Int)
  | 0, _, _, _, _ => none
  | k + 1, x0, x7, x8, x9 => if x9 > 0 then (if 0 ≤ x9 then (if x9 < (x0.length : Int) then (if (rd x0 x9) > 1048576 then (some (0, 0, 4)) else (if (wrap64 ((wrap64 ((rd x0 x9) * x7)) + x8)) > 1048576 then (some (0, 0, 4)) else (num_FromPath.l1 k x0 (wrap64 ((wrap64 ((rd x0 x9) * x7)) + x8)) x7 (wrap64 (x9 - 1))))) else (none)) else (none)) else (if 0 < (x0.length : Int) then (if (rd x0 0) < (-1099511627777) then (num_FromPath.j3 k x7 x8 (rd x0 0) true) else (num_FromPath.j3 k x7 x8 (rd x0 0) (decide ((rd x0 0) > 1099511627776)))) else (none))
def num_FromPath.j3 : Nat → Int → Int → Int → Bool → Option (Int × Int × Int)
  | 0, _, _, _, _ => none
  | k + 1, x7, x8, x10, x78 => if x78 = true then (some (0, 0, 4)) else ((num_Valid.f k (wrap64 ((wrap64 (x10 * x7)) + x8)) x7).bind fun t640 => (if t640 = true then (some (wrap64 ((wrap64 (x10 * x7)) + x8), x7, 0)) else (some (0, 0, 4))))
end
def num_FromPath.f (k : Nat) (l0 : List Int) : Option (Int × Int × Int) := if (l0.length : Int) > 64 then (some (0, 0, 3)) else (if (wrap64 ((l0.length : Int) - 1)) < 0 then (some (0, 0, 2)) else (num_FromPath.l0 k l0 (wrap64 ((l0.length : Int) - 1)) l0 (l0.length : Int) 0))
theorem num_FromPath.mono_l : ∀ k, (∀ y0 y1 y2 y3 y4, LeO (num_FromPath.l0 k y0 y1 y2 y3 y4) (num_FromPath.l0 (k + 1) y0 y1 y2 y3 y4)) ∧ (∀ y0 y1 y2, LeO (num_FromPath.j1 k y0 y1 y2) (num_FromPath.j1 (k + 1) y0 y1 y2)) ∧ (∀ y0 y1 y2 y3, LeO (num_FromPath.l1 k y0 y1 y2 y3) (num_FromPath.l1 (k + 1) y0 y1 y2 y3)) ∧ (∀ y0 y1 y2 y3, LeO (num_FromPath.j3 k y0 y1 y2 y3) (num_FromPath.j3 (k + 1) y0 y1 y2 y3))
  | 0 => ⟨fun _ _ _ _ _ r h => by simp [num_FromPath.l0] at h, fun _ _ _ r h => by simp [num_FromPath.j1] at h, fun _ _ _ _ r h => by simp [num_FromPath.l1] at h, fun _ _ _ _ r h => by simp [num_FromPath.j3] at h⟩
  | k + 1 => by
    obtain ⟨ih0, ih1, ih2, ih3⟩ := num_FromPath.mono_l k
    refine ⟨?_, ?_, ?_, ?_⟩
    · intro y0 y1 y2 y3 y4
      unfold num_FromPath.l0
      repeat' first
      | (with_reducible exact ih0 _ _ _ _ _)
      | (with_reducible exact ih1 _ _ _)
      | (with_reducible exact ih2 _ _ _ _)
      | (with_reducible exact ih3 _ _ _ _)
      | (with_reducible exact num_Valid.mono _ _ _)
      | (with_reducible exact LeO.refl _)
      | (with_reducible exact LeO.none _)
      | (with_reducible refine LeO.ite ?_ ?_)
      | (with_reducible refine LeO.bind ?_ (fun _ => ?_))
      | exact ih0 _ _ _ _ _
      | exact ih1 _ _ _
      | exact ih2 _ _ _ _
      | exact ih3 _ _ _ _
      | exact num_Valid.mono _ _ _
      | exact LeO.none _
      | refine LeO.ite ?_ ?_
      | refine LeO.bind ?_ (fun _ => ?_)
    · intro y0 y1 y2
      unfold num_FromPath.j1
      repeat' first
      | (with_reducible exact ih0 _ _ _ _ _)
      | (with_reducible exact ih1 _ _ _)
      | (with_reducible exact ih2 _ _ _ _)
      | (with_reducible exact ih3 _ _ _ _)
      | (with_reducible exact num_Valid.mono _ _ _)
      | (with_reducible exact LeO.refl _)
      | (with_reducible exact LeO.none _)
      | (with_reducible refine LeO.ite ?_ ?_)
      | (with_reducible refine LeO.bind ?_ (fun _ => ?_))
      | exact ih0 _ _ _ _ _
      | exact ih1 _ _ _
      | exact ih2 _ _ _ _
      | exact ih3 _ _ _ _
      | exact num_Valid.mono _ _ _
      | exact LeO.none _
      | refine LeO.ite ?_ ?_
      | refine LeO.bind ?_ (fun _ => ?_)
    · intro y0 y1 y2 y3
      unfold num_FromPath.l1
      repeat' first
      | (with_reducible exact ih0 _ _ _ _ _)
      | (with_reducible exact ih1 _ _ _)
      | (with_reducible exact ih2 _ _ _ _)
      | (with_reducible exact ih3 _ _ _ _)
      | (with_reducible exact num_Valid.mono _ _ _)
      | (with_reducible exact LeO.refl _)
      | (with_reducible exact LeO.none _)
      | (with_reducible refine LeO.ite ?_ ?_)
      | (with_reducible refine LeO.bind ?_ (fun _ => ?_))
      | exact ih0 _ _ _ _ _
      | exact ih1 _ _ _
      | exact ih2 _ _ _ _
      | exact ih3 _ _ _ _
      | exact num_Valid.mono _ _ _
      | exact LeO.none _
      | refine LeO.ite ?_ ?_
      | refine LeO.bind ?_ (fun _ => ?_)
    · intro y0 y1 y2 y3
      unfold num_FromPath.j3
      repeat' first
      | (with_reducible exact ih0 _ _ _ _ _)
      | (with_reducible exact ih1 _ _ _)
      | (with_reducible exact ih2 _ _ _ _)
      | (with_reducible exact ih3 _ _ _ _)
      | (with_reducible exact num_Valid.mono _ _ _)
      | (with_reducible exact LeO.refl _)
      | (with_reducible exact LeO.none _)
      | (with_reducible refine LeO.ite ?_ ?_)
      | (with_reducible refine LeO.bind ?_ (fun _ => ?_))
      | exact ih0 _ _ _ _ _
      | exact ih1 _ _ _
      | exact ih2 _ _ _ _
      | exact ih3 _ _ _ _
      | exact num_Valid.mono _ _ _
      | exact LeO.none _
      | refine LeO.ite ?_ ?_
      | refine LeO.bind ?_ (fun _ => ?_)
theorem num_FromPath.mono : ∀ a0 k, LeO (num_FromPath.f k a0) (num_FromPath.f (k + 1) a0) := by
  intro a0 k
  obtain ⟨ih0, ih1, ih2, ih3⟩ := num_FromPath.mono_l k
  unfold num_FromPath.f
  repeat' first
      | (with_reducible exact ih0 _ _ _ _ _)
      | (with_reducible exact ih1 _ _ _)
      | (with_reducible exact ih2 _ _ _ _)
      | (with_reducible exact ih3 _ _ _ _)
      | (with_reducible exact num_Valid.mono _ _ _)
      | (with_reducible exact LeO.refl _)
      | (with_reducible exact LeO.none _)
      | (with_reducible refine LeO.ite ?_ ?_)
      | (with_reducible refine LeO.bind ?_ (fun _ => ?_))
      | exact ih0 _ _ _ _ _
      | exact ih1 _ _ _
      | exact ih2 _ _ _ _
      | exact ih3 _ _ _ _
      | exact num_Valid.mono _ _ _
      | exact LeO.none _
      | refine LeO.ite ?_ ?_
      | refine LeO.bind ?_ (fun _ => ?_)
end Go.Proofs.YtdjnneflpkllmaaDoor.Q

namespace Go.Proofs.YtdjnneflpkllmaaDoor.Q
open Go.RowKit Go.Proofs.YtdjnneflpkllmaaDoorW.PrintWords Go.Proofs.YtdjnneflpkllmaaDoorW.PrintLast Go.Proofs.YtdjnneflpkllmaaDoorW.PrintMore
attribute [local go_sem] max2_int min2_int max_two min_two max_three min_three max_four min_four   -- for this text's walks alone
set_option linter.unusedVariables false
set_option linter.unusedSimpArgs false
def merinoref01_subD.l0 : Nat → List Int → List Int → List Int → Int → Int → Option (List Int)
  | 0, _, _, _, _, _ => none
  | k + 1, x0, x1, x5, x6, x7 => if x7 < (x0.length : Int) then (if 0 ≤ x7 then (if x7 < (x1.length : Int) then (if (wrap64 ((wrap64 ((rd x0 x7) - x6)) - (rd x1 x7))) < 0 then (if x5.length < 17592186044416 then (merinoref01_subD.l0 k x0 x1 (x5 ++ [wrap64 ((wrap64 ((wrap64 ((rd x0 x7) - x6)) - (rd x1 x7))) + 10000)]) 1 (wrap64 (x7 + 1))) else (none)) else (if x5.length < 17592186044416 then (merinoref01_subD.l0 k x0 x1 (x5 ++ [wrap64 ((wrap64 ((rd x0 x7) - x6)) - (rd x1 x7))]) 0 (wrap64 (x7 + 1))) else (none))) else (if (wrap64 ((rd x0 x7) - x6)) < 0 then (if x5.length < 17592186044416 then (merinoref01_subD.l0 k x0 x1 (x5 ++ [wrap64 ((wrap64 ((rd x0 x7) - x6)) + 10000)]) 1 (wrap64 (x7 + 1))) else (none)) else (if x5.length < 17592186044416 then (merinoref01_subD.l0 k x0 x1 (x5 ++ [wrap64 ((rd x0 x7) - x6)]) 0 (wrap64 (x7 + 1))) else (none)))) else (none)) else ((merinoref01_trim.f k x5).bind fun t238 => (some t238))
def merinoref01_subD.f (k : Nat) (l0 : List Int) (l1 : List Int) : Option (List Int) := merinoref01_subD.l0 k l0 l1 ([] : List Int) 0 0
theorem merinoref01_subD.mono_l : ∀ k, (∀ y0 y1 y2 y3 y4, LeO (merinoref01_subD.l0 k y0 y1 y2 y3 y4) (merinoref01_subD.l0 (k + 1) y0 y1 y2 y3 y4))
  | 0 => fun _ _ _ _ _ r h => by simp [merinoref01_subD.l0] at h
  | k + 1 => by
    have ih0 := merinoref01_subD.mono_l k
    · intro y0 y1 y2 y3 y4
      unfold merinoref01_subD.l0
      repeat' first
      | (with_reducible exact ih0 _ _ _ _ _)
      | (with_reducible exact merinoref01_trim.mono _ _)
      | (with_reducible exact LeO.refl _)
      | (with_reducible exact LeO.none _)
      | (with_reducible refine LeO.ite ?_ ?_)
      | (with_reducible refine LeO.bind ?_ (fun _ => ?_))
      | exact ih0 _ _ _ _ _
      | exact merinoref01_trim.mono _ _
      | exact LeO.none _
      | refine LeO.ite ?_ ?_
      | refine LeO.bind ?_ (fun _ => ?_)
theorem merinoref01_subD.mono : ∀ a0 a1 k, LeO (merinoref01_subD.f k a0 a1) (merinoref01_subD.f (k + 1) a0 a1) := by
  intro a0 a1 k
  have ih0 := merinoref01_subD.mono_l k
  unfold merinoref01_subD.f
  repeat' first
      | (with_reducible exact ih0 _ _ _ _ _)
      | (with_reducible exact merinoref01_trim.mono _ _)
      | (with_reducible exact LeO.refl _)
      | (with_reducible exact LeO.none _)
      | (with_reducible refine LeO.ite ?_ ?_)
      | (with_reducible refine LeO.bind ?_ (fun _ => ?_))
      | exact ih0 _ _ _ _ _
      | exact merinoref01_trim.mono _ _
      | exact LeO.none _
      | refine LeO.ite ?_ ?_
      | refine LeO.bind ?_ (fun _ => ?_)
set_option maxRecDepth 100000 in
theorem field31_1_ (b : Bool) (A : Option Addr) (n c : Nat) (W : World) : (Instr.field 31 (.agg #[.bool b, .slice A n c]) 1).run Tryd.prog W = .ok (.slice A n c) W := by rfl
attribute [local go_sem] field31_1_
def merinoref01_Within.l0 : Nat → Int → Int → Bool → List Int → Option (Int × Bool)
  | 0, _, _, _, _ => none
  | k + 1, x6, x7, x373000, x373001 => if x7 ≥ 0 then (if 0 ≤ x7 then (if x7 < (x373001.length : Int) then (merinoref01_Within.l0 k (wrap64 ((wrap64 (x6 * 10000)) + (rd x373001 x7))) (wrap64 (x7 - 1)) x373000 x373001) else (none)) else (none)) else (if x373000 = true then (some (wrap64 (-x6), true)) else (some (x6, true)))
def merinoref01_Within.f (k : Nat) (a0_0 : Bool) (l0_1 : List Int) (a1 : Int) : Option (Int × Bool) := (merinoref01_Of.f k a1).bind fun bt373 => ((merinoref01_cmpD.f k l0_1 bt373.2).bind fun t377 => (if t377 > 0 then (some (0, false)) else (merinoref01_Within.l0 k 0 (wrap64 ((l0_1.length : Int) - 1)) a0_0 l0_1)))
theorem merinoref01_Within.mono_l : ∀ k, (∀ y0 y1 y2 y3, LeO (merinoref01_Within.l0 k y0 y1 y2 y3) (merinoref01_Within.l0 (k + 1) y0 y1 y2 y3))
  | 0 => fun _ _ _ _ r h => by simp [merinoref01_Within.l0] at h
  | k + 1 => by
    have ih0 := merinoref01_Within.mono_l k
    · intro y0 y1 y2 y3
      unfold merinoref01_Within.l0
      repeat' first
      | (with_reducible exact ih0 _ _ _ _)
      | (with_reducible exact merinoref01_Of.mono _ _)
      | (with_reducible exact merinoref01_cmpD.mono _ _ _)
      | (with_reducible exact LeO.refl _)
      | (with_reducible exact LeO.none _)
      | (with_reducible refine LeO.ite ?_ ?_)
      | (with_reducible refine LeO.bind ?_ (fun _ => ?_))
      | exact ih0 _ _ _ _
      | exact merinoref01_Of.mono _ _
      | exact merinoref01_cmpD.mono _ _ _
      | exact LeO.none _
      | refine LeO.ite ?_ ?_
      | refine LeO.bind ?_ (fun _ => ?_)
theorem merinoref01_Within.mono : ∀ a0 a1 a2 k, LeO (merinoref01_Within.f k a0 a1 a2) (merinoref01_Within.f (k + 1) a0 a1 a2) := by
  intro a0 a1 a2 k
  have ih0 := merinoref01_Within.mono_l k
  unfold merinoref01_Within.f
  repeat' first
      | (with_reducible exact ih0 _ _ _ _)
      | (with_reducible exact merinoref01_Of.mono _ _)
      | (with_reducible exact merinoref01_cmpD.mono _ _ _)
      | (with_reducible exact LeO.refl _)
      | (with_reducible exact LeO.none _)
      | (with_reducible refine LeO.ite ?_ ?_)
      | (with_reducible refine LeO.bind ?_ (fun _ => ?_))
      | exact ih0 _ _ _ _
      | exact merinoref01_Of.mono _ _
      | exact merinoref01_cmpD.mono _ _ _
      | exact LeO.none _
      | refine LeO.ite ?_ ?_
      | refine LeO.bind ?_ (fun _ => ?_)
mutual
def merinoref01_divD.l0 : Nat → List Int → List Int → List Int → List Int → Int → Option (List Int × List Int)
  | 0, _, _, _, _, _ => none
  | k + 1, x0, x1, x6, x7, x8 => if x8 ≥ 0 then (if 0 ≤ x8 then (if x8 < (x0.length : Int) then ((some (([rd x0 x8] : List Int) : List Int)).bind fun y386 => (if y386.length + x7.length < 17592186044416 then ((merinoref01_trim.f k (y386 ++ x7)).bind fun t392 => (merinoref01_divD.l1 k x0 x1 x6 t392 x8 0 9999)) else (none))) else (none)) else (none)) else ((merinoref01_trim.f k x6).bind fun t382 => (some (t382, x7)))
def merinoref01_divD.l1 : Nat → List Int → List Int → List Int → List Int → Int → Int → Int → Option (List Int × List Int)
  | 0, _, _, _, _, _, _, _ => none
  | k + 1, x0, x1, x6, x7, x8, x10, x11 => if x10 < x11 then ((merinoref01_trim.f k (([wrap64 (Int.tdiv (wrap64 ((wrap64 (x10 + x11)) + 1)) 2)] : List Int))).bind fun t411 => ((merinoref01_mulD.f k x1 t411).bind fun t414 => ((merinoref01_cmpD.f k t414 x7).bind fun t417 => (if t417 ≤ 0 then (merinoref01_divD.l1 k x0 x1 x6 x7 x8 (wrap64 (Int.tdiv (wrap64 ((wrap64 (x10 + x11)) + 1)) 2)) x11) else (merinoref01_divD.l1 k x0 x1 x6 x7 x8 x10 (wrap64 ((wrap64 (Int.tdiv (wrap64 ((wrap64 (x10 + x11)) + 1)) 2)) - 1))))))) else (if 0 ≤ x8 then (if x8 < (x6.length : Int) then ((merinoref01_trim.f k (([x10] : List Int))).bind fun t399 => ((merinoref01_mulD.f k x1 t399).bind fun t402 => ((merinoref01_subD.f k x7 t402).bind fun t405 => (merinoref01_divD.l0 k x0 x1 (x6.set (x8 : Int).toNat x10) t405 (wrap64 (x8 - 1)))))) else (none)) else (none))
end
def merinoref01_divD.f (k : Nat) (l0 : List Int) (l1 : List Int) : Option (List Int × List Int) := if (l1.length : Int) = 0 then (some (([] : List Int), ([] : List Int))) else (if 0 ≤ (l0.length : Int) then (if ((l0.length : Int) : Int).toNat ≤ 35184372088832 then (merinoref01_divD.l0 k l0 l1 (List.replicate ((l0.length : Int) : Int).toNat 0) ([] : List Int) (wrap64 ((l0.length : Int) - 1))) else (none)) else (none))
theorem merinoref01_divD.mono_l : ∀ k, (∀ y0 y1 y2 y3 y4, LeO (merinoref01_divD.l0 k y0 y1 y2 y3 y4) (merinoref01_divD.l0 (k + 1) y0 y1 y2 y3 y4)) ∧ (∀ y0 y1 y2 y3 y4 y5 y6, LeO (merinoref01_divD.l1 k y0 y1 y2 y3 y4 y5 y6) (merinoref01_divD.l1 (k + 1) y0 y1 y2 y3 y4 y5 y6))
  | 0 => ⟨fun _ _ _ _ _ r h => by simp [merinoref01_divD.l0] at h, fun _ _ _ _ _ _ _ r h => by simp [merinoref01_divD.l1] at h⟩
  | k + 1 => by
    obtain ⟨ih0, ih1⟩ := merinoref01_divD.mono_l k
    refine ⟨?_, ?_⟩
    · intro y0 y1 y2 y3 y4
      unfold merinoref01_divD.l0
      repeat' first
      | (with_reducible exact ih0 _ _ _ _ _)
      | (with_reducible exact ih1 _ _ _ _ _ _ _)
      | (with_reducible exact merinoref01_cmpD.mono _ _ _)
      | (with_reducible exact merinoref01_mulD.mono _ _ _)
      | (with_reducible exact merinoref01_subD.mono _ _ _)
      | (with_reducible exact merinoref01_trim.mono _ _)
      | (with_reducible exact LeO.refl _)
      | (with_reducible exact LeO.none _)
      | (with_reducible refine LeO.ite ?_ ?_)
      | (with_reducible refine LeO.bind ?_ (fun _ => ?_))
      | exact ih0 _ _ _ _ _
      | exact ih1 _ _ _ _ _ _ _
      | exact merinoref01_cmpD.mono _ _ _
      | exact merinoref01_mulD.mono _ _ _
      | exact merinoref01_subD.mono _ _ _
      | exact merinoref01_trim.mono _ _
      | exact LeO.none _
      | refine LeO.ite ?_ ?_
      | refine LeO.bind ?_ (fun _ => ?_)
    · intro y0 y1 y2 y3 y4 y5 y6
      unfold merinoref01_divD.l1
      repeat' first
      | (with_reducible exact ih0 _ _ _ _ _)
      | (with_reducible exact ih1 _ _ _ _ _ _ _)
      | (with_reducible exact merinoref01_cmpD.mono _ _ _)
      | (with_reducible exact merinoref01_mulD.mono _ _ _)
      | (with_reducible exact merinoref01_subD.mono _ _ _)
      | (with_reducible exact merinoref01_trim.mono _ _)
      | (with_reducible exact LeO.refl _)
      | (with_reducible exact LeO.none _)
      | (with_reducible refine LeO.ite ?_ ?_)
      | (with_reducible refine LeO.bind ?_ (fun _ => ?_))
      | exact ih0 _ _ _ _ _
      | exact ih1 _ _ _ _ _ _ _
      | exact merinoref01_cmpD.mono _ _ _
      | exact merinoref01_mulD.mono _ _ _
      | exact merinoref01_subD.mono _ _ _
      | exact merinoref01_trim.mono _ _
      | exact LeO.none _
      | refine LeO.ite ?_ ?_
      | refine LeO.bind ?_ (fun _ => ?_)
theorem merinoref01_divD.mono : ∀ a0 a1 k, LeO (merinoref01_divD.f k a0 a1) (merinoref01_divD.f (k + 1) a0 a1) := by
  intro a0 a1 k
  obtain ⟨ih0, ih1⟩ := merinoref01_divD.mono_l k
  unfold merinoref01_divD.f
  repeat' first
      | (with_reducible exact ih0 _ _ _ _ _)
      | (with_reducible exact ih1 _ _ _ _ _ _ _)
      | (with_reducible exact merinoref01_cmpD.mono _ _ _)
      | (with_reducible exact merinoref01_mulD.mono _ _ _)
      | (with_reducible exact merinoref01_subD.mono _ _ _)
      | (with_reducible exact merinoref01_trim.mono _ _)
      | (with_reducible exact LeO.refl _)
      | (with_reducible exact LeO.none _)
      | (with_reducible refine LeO.ite ?_ ?_)
      | (with_reducible refine LeO.bind ?_ (fun _ => ?_))
      | exact ih0 _ _ _ _ _
      | exact ih1 _ _ _ _ _ _ _
      | exact merinoref01_cmpD.mono _ _ _
      | exact merinoref01_mulD.mono _ _ _
      | exact merinoref01_subD.mono _ _ _
      | exact merinoref01_trim.mono _ _
      | exact LeO.none _
      | refine LeO.ite ?_ ?_
      | refine LeO.bind ?_ (fun _ => ?_)
end Go.Proofs.YtdjnneflpkllmaaDoor.Q

namespace Go.Proofs.YtdjnneflpkllmaaDoor.Q
open Go.RowKit Go.Proofs.YtdjnneflpkllmaaDoorW.PrintWords Go.Proofs.YtdjnneflpkllmaaDoorW.PrintLast Go.Proofs.YtdjnneflpkllmaaDoorW.PrintMore
attribute [local go_sem] max2_int min2_int max_two min_two max_three min_three max_four min_four   -- for this text's walks alone
set_option linter.unusedVariables false
set_option linter.unusedSimpArgs false
mutual
def merinoref01_addD.l0 : Nat → List Int → List Int → List Int → Int → Int → Option (List Int)
  | 0, _, _, _, _, _ => none
  | k + 1, x0, x1, x5, x6, x7 => if x7 < (x0.length : Int) then (merinoref01_addD.j1 k x0 x1 x5 x6 x7 true) else (if x7 < (x1.length : Int) then (merinoref01_addD.j1 k x0 x1 x5 x6 x7 true) else (merinoref01_addD.j1 k x0 x1 x5 x6 x7 (decide (x6 > 0))))
def merinoref01_addD.j1 : Nat → List Int → List Int → List Int → Int → Int → Bool → Option (List Int)
  | 0, _, _, _, _, _, _ => none
  | k + 1, x0, x1, x5, x6, x7, x22 => if x22 = true then (if x7 < (x0.length : Int) then (if 0 ≤ x7 then (if x7 < (x1.length : Int) then (if x5.length < 17592186044416 then (merinoref01_addD.l0 k x0 x1 (x5 ++ [Int.tmod (wrap64 ((wrap64 (x6 + (rd x0 x7))) + (rd x1 x7))) 10000]) (wrap64 (Int.tdiv (wrap64 ((wrap64 (x6 + (rd x0 x7))) + (rd x1 x7))) 10000)) (wrap64 (x7 + 1))) else (none)) else (if x5.length < 17592186044416 then (merinoref01_addD.l0 k x0 x1 (x5 ++ [Int.tmod (wrap64 (x6 + (rd x0 x7))) 10000]) (wrap64 (Int.tdiv (wrap64 (x6 + (rd x0 x7))) 10000)) (wrap64 (x7 + 1))) else (none))) else (none)) else (if x7 < (x1.length : Int) then (if 0 ≤ x7 then (if x5.length < 17592186044416 then (merinoref01_addD.l0 k x0 x1 (x5 ++ [Int.tmod (wrap64 (x6 + (rd x1 x7))) 10000]) (wrap64 (Int.tdiv (wrap64 (x6 + (rd x1 x7))) 10000)) (wrap64 (x7 + 1))) else (none)) else (none)) else (if x5.length < 17592186044416 then (merinoref01_addD.l0 k x0 x1 (x5 ++ [Int.tmod x6 10000]) (wrap64 (Int.tdiv x6 10000)) (wrap64 (x7 + 1))) else (none)))) else (some x5)
end
def merinoref01_addD.f (k : Nat) (l0 : List Int) (l1 : List Int) : Option (List Int) := merinoref01_addD.l0 k l0 l1 ([] : List Int) 0 0
theorem merinoref01_addD.mono_l : ∀ k, (∀ y0 y1 y2 y3 y4, LeO (merinoref01_addD.l0 k y0 y1 y2 y3 y4) (merinoref01_addD.l0 (k + 1) y0 y1 y2 y3 y4)) ∧ (∀ y0 y1 y2 y3 y4 y5, LeO (merinoref01_addD.j1 k y0 y1 y2 y3 y4 y5) (merinoref01_addD.j1 (k + 1) y0 y1 y2 y3 y4 y5))
  | 0 => ⟨fun _ _ _ _ _ r h => by simp [merinoref01_addD.l0] at h, fun _ _ _ _ _ _ r h => by simp [merinoref01_addD.j1] at h⟩
  | k + 1 => by
    obtain ⟨ih0, ih1⟩ := merinoref01_addD.mono_l k
    refine ⟨?_, ?_⟩
    · intro y0 y1 y2 y3 y4
      unfold merinoref01_addD.l0
      repeat' first
      | (with_reducible exact ih0 _ _ _ _ _)
      | (with_reducible exact ih1 _ _ _ _ _ _)
      | (with_reducible exact LeO.refl _)
      | (with_reducible exact LeO.none _)
      | (with_reducible refine LeO.ite ?_ ?_)
      | (with_reducible refine LeO.bind ?_ (fun _ => ?_))
      | exact ih0 _ _ _ _ _
      | exact ih1 _ _ _ _ _ _
      | exact LeO.none _
      | refine LeO.ite ?_ ?_
      | refine LeO.bind ?_ (fun _ => ?_)
    · intro y0 y1 y2 y3 y4 y5
      unfold merinoref01_addD.j1
      repeat' first
      | (with_reducible exact ih0 _ _ _ _ _)
      | (with_reducible exact ih1 _ _ _ _ _ _)
      | (with_reducible exact LeO.refl _)
      | (with_reducible exact LeO.none _)
      | (with_reducible refine LeO.ite ?_ ?_)
      | (with_reducible refine LeO.bind ?_ (fun _ => ?_))
      | exact ih0 _ _ _ _ _
      | exact ih1 _ _ _ _ _ _
      | exact LeO.none _
      | refine LeO.ite ?_ ?_
      | refine LeO.bind ?_ (fun _ => ?_)
theorem merinoref01_addD.mono : ∀ a0 a1 k, LeO (merinoref01_addD.f k a0 a1) (merinoref01_addD.f (k + 1) a0 a1) := by
  intro a0 a1 k
  obtain ⟨ih0, ih1⟩ := merinoref01_addD.mono_l k
  unfold merinoref01_addD.f
  repeat' first
      | (with_reducible exact ih0 _ _ _ _ _)
      | (with_reducible exact ih1 _ _ _ _ _ _)
      | (with_reducible exact LeO.refl _)
      | (with_reducible exact LeO.none _)
      | (with_reducible refine LeO.ite ?_ ?_)
      | (with_reducible refine LeO.bind ?_ (fun _ => ?_))
      | exact ih0 _ _ _ _ _
      | exact ih1 _ _ _ _ _ _
      | exact LeO.none _
      | refine LeO.ite ?_ ?_
      | refine LeO.bind ?_ (fun _ => ?_)
def merinoref01_Plus.f (k : Nat) (a0_0 : Bool) (l0_1 : List Int) (a1_0 : Bool) (l1_1 : List Int) : Option (Bool × List Int) := if (a0_0 == a1_0) = true then ((merinoref01_addD.f k l0_1 l1_1).bind fun t258 => ((merinoref01_whole.f k a0_0 t258).bind fun bt261 => (some (bt261.1, bt261.2)))) else ((merinoref01_cmpD.f k l0_1 l1_1).bind fun t265 => (if t265 ≥ 0 then ((merinoref01_subD.f k l0_1 l1_1).bind fun t266 => ((merinoref01_whole.f k a0_0 t266).bind fun bt269 => (some (bt269.1, bt269.2)))) else ((merinoref01_subD.f k l1_1 l0_1).bind fun t273 => ((merinoref01_whole.f k a1_0 t273).bind fun bt276 => (some (bt276.1, bt276.2))))))
theorem merinoref01_Plus.mono : ∀ a0 a1 a2 a3 k, LeO (merinoref01_Plus.f k a0 a1 a2 a3) (merinoref01_Plus.f (k + 1) a0 a1 a2 a3) := by
  intro a0 a1 a2 a3 k
  unfold merinoref01_Plus.f
  repeat' first
      | (with_reducible exact merinoref01_addD.mono _ _ _)
      | (with_reducible exact merinoref01_cmpD.mono _ _ _)
      | (with_reducible exact merinoref01_subD.mono _ _ _)
      | (with_reducible exact merinoref01_whole.mono _ _ _)
      | (with_reducible exact LeO.refl _)
      | (with_reducible exact LeO.none _)
      | (with_reducible refine LeO.ite ?_ ?_)
      | (with_reducible refine LeO.bind ?_ (fun _ => ?_))
      | exact merinoref01_addD.mono _ _ _
      | exact merinoref01_cmpD.mono _ _ _
      | exact merinoref01_subD.mono _ _ _
      | exact merinoref01_whole.mono _ _ _
      | exact LeO.none _
      | refine LeO.ite ?_ ?_
      | refine LeO.bind ?_ (fun _ => ?_)
end Go.Proofs.YtdjnneflpkllmaaDoor.Q

namespace Go.Proofs.YtdjnneflpkllmaaDoor.Q
open Go.RowKit Go.Proofs.YtdjnneflpkllmaaDoorW.PrintWords Go.Proofs.YtdjnneflpkllmaaDoorW.PrintLast Go.Proofs.YtdjnneflpkllmaaDoorW.PrintMore
attribute [local go_sem] max2_int min2_int max_two min_two max_three min_three max_four min_four   -- for this text's walks alone
set_option linter.unusedVariables false
set_option linter.unusedSimpArgs false
def merinoref01_gcdD.l0 : Nat → List Int → List Int → Option (List Int)
  | 0, _, _ => none
  | k + 1, x0, x1 => if (x1.length : Int) > 0 then ((merinoref01_divD.f k x0 x1).bind fun bt418 => (merinoref01_gcdD.l0 k x1 bt418.2)) else (some x0)
def merinoref01_gcdD.f (k : Nat) (l0 : List Int) (l1 : List Int) : Option (List Int) := merinoref01_gcdD.l0 k l0 l1
theorem merinoref01_gcdD.mono_l : ∀ k, (∀ y0 y1, LeO (merinoref01_gcdD.l0 k y0 y1) (merinoref01_gcdD.l0 (k + 1) y0 y1))
  | 0 => fun _ _ r h => by simp [merinoref01_gcdD.l0] at h
  | k + 1 => by
    have ih0 := merinoref01_gcdD.mono_l k
    · intro y0 y1
      unfold merinoref01_gcdD.l0
      repeat' first
      | (with_reducible exact ih0 _ _)
      | (with_reducible exact merinoref01_divD.mono _ _ _)
      | (with_reducible exact LeO.refl _)
      | (with_reducible exact LeO.none _)
      | (with_reducible refine LeO.ite ?_ ?_)
      | (with_reducible refine LeO.bind ?_ (fun _ => ?_))
      | exact ih0 _ _
      | exact merinoref01_divD.mono _ _ _
      | exact LeO.none _
      | refine LeO.ite ?_ ?_
      | refine LeO.bind ?_ (fun _ => ?_)
theorem merinoref01_gcdD.mono : ∀ a0 a1 k, LeO (merinoref01_gcdD.f k a0 a1) (merinoref01_gcdD.f (k + 1) a0 a1) := by
  intro a0 a1 k
  have ih0 := merinoref01_gcdD.mono_l k
  unfold merinoref01_gcdD.f
  repeat' first
      | (with_reducible exact ih0 _ _)
      | (with_reducible exact merinoref01_divD.mono _ _ _)
      | (with_reducible exact LeO.refl _)
      | (with_reducible exact LeO.none _)
      | (with_reducible refine LeO.ite ?_ ?_)
      | (with_reducible refine LeO.bind ?_ (fun _ => ?_))
      | exact ih0 _ _
      | exact merinoref01_divD.mono _ _ _
      | exact LeO.none _
      | refine LeO.ite ?_ ?_
      | refine LeO.bind ?_ (fun _ => ?_)
end Go.Proofs.YtdjnneflpkllmaaDoor.Q

namespace Go.Proofs.YtdjnneflpkllmaaDoor.Q
open Go.RowKit Go.Proofs.YtdjnneflpkllmaaDoorW.PrintWords Go.Proofs.YtdjnneflpkllmaaDoorW.PrintLast Go.Proofs.YtdjnneflpkllmaaDoorW.PrintMore
attribute [local go_sem] max2_int min2_int max_two min_two max_three min_three max_four min_four   -- for this text's walks alone
set_option linter.unusedVariables false
set_option linter.unusedSimpArgs false
def merinoref01_Lowest.core (k : Nat) (a0_0 : Bool) (l0_1 : List Int) (a1_0 : Bool) (l1_1 : List Int) : Option (Int × Int × Int) := (merinoref01_gcdD.f k l0_1 l1_1).bind fun t427 => ((merinoref01_divD.f k l0_1 t427).bind fun bt430 => ((merinoref01_divD.f k l1_1 t427).bind fun bt436 => ((merinoref01_whole.f k a0_0 bt430.1).bind fun bt442 => ((merinoref01_Within.f k bt442.1 bt442.2 1099511627776).bind fun bt446 => ((merinoref01_whole.f k false bt436.1).bind fun bt448 => ((merinoref01_Within.f k bt448.1 bt448.2 1048576).bind fun bt452 => (if bt446.2 = true then (if bt452.2 = true then (some (bt446.1, bt452.1, 0)) else (some (0, 0, 4))) else (some (0, 0, 4)))))))))
theorem merinoref01_Lowest.core_mono : ∀ a0 a1 a2 a3 k, LeO (merinoref01_Lowest.core k a0 a1 a2 a3) (merinoref01_Lowest.core (k + 1) a0 a1 a2 a3) := by
  intro a0 a1 a2 a3 k
  unfold merinoref01_Lowest.core
  repeat' first
      | (with_reducible exact merinoref01_Within.mono _ _ _ _)
      | (with_reducible exact merinoref01_divD.mono _ _ _)
      | (with_reducible exact merinoref01_gcdD.mono _ _ _)
      | (with_reducible exact merinoref01_whole.mono _ _ _)
      | (with_reducible exact LeO.refl _)
      | (with_reducible exact LeO.none _)
      | (with_reducible refine LeO.ite ?_ ?_)
      | (with_reducible refine LeO.bind ?_ (fun _ => ?_))
      | exact merinoref01_Within.mono _ _ _ _
      | exact merinoref01_divD.mono _ _ _
      | exact merinoref01_gcdD.mono _ _ _
      | exact merinoref01_whole.mono _ _ _
      | exact LeO.none _
      | refine LeO.ite ?_ ?_
      | refine LeO.bind ?_ (fun _ => ?_)
end Go.Proofs.YtdjnneflpkllmaaDoor.Q

namespace Go.Proofs.YtdjnneflpkllmaaDoor.Q
open Go.RowKit Go.Proofs.YtdjnneflpkllmaaDoorW.PrintWords Go.Proofs.YtdjnneflpkllmaaDoorW.PrintLast Go.Proofs.YtdjnneflpkllmaaDoorW.PrintMore
attribute [local go_sem] max2_int min2_int max_two min_two max_three min_three max_four min_four   -- for this text's walks alone
set_option linter.unusedVariables false
set_option linter.unusedSimpArgs false
def merinoref01_Lowest.f (k : Nat) (a0_0 : Bool) (l0_1 : List Int) (a1_0 : Bool) (l1_1 : List Int) : Option (Int × Int × Int) := if a1_0 = true then none else merinoref01_Lowest.core k a0_0 l0_1 false l1_1
theorem merinoref01_Lowest.mono : ∀ a0 a1 a2 a3 k, LeO (merinoref01_Lowest.f k a0 a1 a2 a3) (merinoref01_Lowest.f (k + 1) a0 a1 a2 a3) := by
  intro a0 a1 a2 a3 k
  unfold merinoref01_Lowest.f
  exact LeO.ite (LeO.none _) (merinoref01_Lowest.core_mono _ _ _ _ k)
end Go.Proofs.YtdjnneflpkllmaaDoor.Q

namespace Go.Proofs.YtdjnneflpkllmaaDoor.Q
open Go.RowKit Go.Proofs.YtdjnneflpkllmaaDoorW.PrintWords Go.Proofs.YtdjnneflpkllmaaDoorW.PrintLast Go.Proofs.YtdjnneflpkllmaaDoorW.PrintMore
attribute [local go_sem] max2_int min2_int max_two min_two max_three min_three max_four min_four   -- for this text's walks alone
set_option linter.unusedVariables false
set_option linter.unusedSimpArgs false
mutual
def merinoref01_FromPath.j0 : Nat → List Int → Bool → Option (Int × Int × Int)
  | 0, _, _ => none
  | k + 1, x0, x28 => if x28 = true then (some (0, 0, 2)) else (merinoref01_FromPath.l0 k x0 1)
def merinoref01_FromPath.l0 : Nat → List Int → Int → Option (Int × Int × Int)
  | 0, _, _ => none
  | k + 1, x0, x4 => if x4 < (x0.length : Int) then (if 0 ≤ x4 then (if (rd x0 x4) < 1 then (some (0, 0, 2)) else (merinoref01_FromPath.l0 k x0 (wrap64 (x4 + 1)))) else (none)) else (if 0 ≤ (wrap64 ((x0.length : Int) - 1)) then (if (wrap64 ((x0.length : Int) - 1)) < (x0.length : Int) then ((merinoref01_Of.f k (rd x0 (wrap64 ((x0.length : Int) - 1)))).bind fun bt645 => ((merinoref01_Of.f k 1).bind fun bt649 => (merinoref01_FromPath.l1 k x0 (wrap64 ((x0.length : Int) - 2)) bt645.1 bt645.2 bt649.1 bt649.2))) else (none)) else (none))
def merinoref01_FromPath.l1 : Nat → List Int → Int → Bool → List Int → Bool → List Int → Option (Int × Int × Int)
  | 0, _, _, _, _, _, _ => none
  | k + 1, x0, x7, x654000, x654001, x655000, x655001 => if x7 ≥ 0 then (if 0 ≤ x7 then (if x7 < (x0.length : Int) then ((merinoref01_Of.f k (rd x0 x7)).bind fun bt656 => ((merinoref01_Times.f k bt656.1 bt656.2 x654000 x654001).bind fun bt660 => ((merinoref01_Plus.f k bt660.1 bt660.2 x655000 x655001).bind fun bt664 => (merinoref01_FromPath.l1 k x0 (wrap64 (x7 - 1)) bt664.1 bt664.2 x654000 x654001)))) else (none)) else (none)) else ((merinoref01_Lowest.f k x654000 x654001 x655000 x655001).bind fun bt668 => (some (bt668.1, bt668.2.1, bt668.2.2)))
end
def merinoref01_FromPath.f (k : Nat) (l0 : List Int) : Option (Int × Int × Int) := if (l0.length : Int) > 64 then (some (0, 0, 3)) else (if (l0.length : Int) = 0 then (merinoref01_FromPath.j0 k l0 true) else (if (l0.length : Int) > 1 then (if 0 ≤ (wrap64 ((l0.length : Int) - 1)) then (if (wrap64 ((l0.length : Int) - 1)) < (l0.length : Int) then (merinoref01_FromPath.j0 k l0 ((rd l0 (wrap64 ((l0.length : Int) - 1))) == 1)) else (none)) else (none)) else (merinoref01_FromPath.j0 k l0 false)))
theorem merinoref01_FromPath.mono_l : ∀ k, (∀ y0 y1, LeO (merinoref01_FromPath.j0 k y0 y1) (merinoref01_FromPath.j0 (k + 1) y0 y1)) ∧ (∀ y0 y1, LeO (merinoref01_FromPath.l0 k y0 y1) (merinoref01_FromPath.l0 (k + 1) y0 y1)) ∧ (∀ y0 y1 y2 y3 y4 y5, LeO (merinoref01_FromPath.l1 k y0 y1 y2 y3 y4 y5) (merinoref01_FromPath.l1 (k + 1) y0 y1 y2 y3 y4 y5))
  | 0 => ⟨fun _ _ r h => by simp [merinoref01_FromPath.j0] at h, fun _ _ r h => by simp [merinoref01_FromPath.l0] at h, fun _ _ _ _ _ _ r h => by simp [merinoref01_FromPath.l1] at h⟩
  | k + 1 => by
    obtain ⟨ih0, ih1, ih2⟩ := merinoref01_FromPath.mono_l k
    refine ⟨?_, ?_, ?_⟩
    · intro y0 y1
      unfold merinoref01_FromPath.j0
      repeat' first
      | (with_reducible exact ih0 _ _)
      | (with_reducible exact ih1 _ _)
      | (with_reducible exact ih2 _ _ _ _ _ _)
      | (with_reducible exact merinoref01_Lowest.mono _ _ _ _ _)
      | (with_reducible exact merinoref01_Of.mono _ _)
      | (with_reducible exact merinoref01_Plus.mono _ _ _ _ _)
      | (with_reducible exact merinoref01_Times.mono _ _ _ _ _)
      | (with_reducible exact LeO.refl _)
      | (with_reducible exact LeO.none _)
      | (with_reducible refine LeO.ite ?_ ?_)
      | (with_reducible refine LeO.bind ?_ (fun _ => ?_))
      | exact ih0 _ _
      | exact ih1 _ _
      | exact ih2 _ _ _ _ _ _
      | exact merinoref01_Lowest.mono _ _ _ _ _
      | exact merinoref01_Of.mono _ _
      | exact merinoref01_Plus.mono _ _ _ _ _
      | exact merinoref01_Times.mono _ _ _ _ _
      | exact LeO.none _
      | refine LeO.ite ?_ ?_
      | refine LeO.bind ?_ (fun _ => ?_)
    · intro y0 y1
      unfold merinoref01_FromPath.l0
      repeat' first
      | (with_reducible exact ih0 _ _)
      | (with_reducible exact ih1 _ _)
      | (with_reducible exact ih2 _ _ _ _ _ _)
      | (with_reducible exact merinoref01_Lowest.mono _ _ _ _ _)
      | (with_reducible exact merinoref01_Of.mono _ _)
      | (with_reducible exact merinoref01_Plus.mono _ _ _ _ _)
      | (with_reducible exact merinoref01_Times.mono _ _ _ _ _)
      | (with_reducible exact LeO.refl _)
      | (with_reducible exact LeO.none _)
      | (with_reducible refine LeO.ite ?_ ?_)
      | (with_reducible refine LeO.bind ?_ (fun _ => ?_))
      | exact ih0 _ _
      | exact ih1 _ _
      | exact ih2 _ _ _ _ _ _
      | exact merinoref01_Lowest.mono _ _ _ _ _
      | exact merinoref01_Of.mono _ _
      | exact merinoref01_Plus.mono _ _ _ _ _
      | exact merinoref01_Times.mono _ _ _ _ _
      | exact LeO.none _
      | refine LeO.ite ?_ ?_
      | refine LeO.bind ?_ (fun _ => ?_)
    · intro y0 y1 y2 y3 y4 y5
      unfold merinoref01_FromPath.l1
      repeat' first
      | (with_reducible exact ih0 _ _)
      | (with_reducible exact ih1 _ _)
      | (with_reducible exact ih2 _ _ _ _ _ _)
      | (with_reducible exact merinoref01_Lowest.mono _ _ _ _ _)
      | (with_reducible exact merinoref01_Of.mono _ _)
      | (with_reducible exact merinoref01_Plus.mono _ _ _ _ _)
      | (with_reducible exact merinoref01_Times.mono _ _ _ _ _)
      | (with_reducible exact LeO.refl _)
      | (with_reducible exact LeO.none _)
      | (with_reducible refine LeO.ite ?_ ?_)
      | (with_reducible refine LeO.bind ?_ (fun _ => ?_))
      | exact ih0 _ _
      | exact ih1 _ _
      | exact ih2 _ _ _ _ _ _
      | exact merinoref01_Lowest.mono _ _ _ _ _
      | exact merinoref01_Of.mono _ _
      | exact merinoref01_Plus.mono _ _ _ _ _
      | exact merinoref01_Times.mono _ _ _ _ _
      | exact LeO.none _
      | refine LeO.ite ?_ ?_
      | refine LeO.bind ?_ (fun _ => ?_)
theorem merinoref01_FromPath.mono : ∀ a0 k, LeO (merinoref01_FromPath.f k a0) (merinoref01_FromPath.f (k + 1) a0) := by
  intro a0 k
  obtain ⟨ih0, ih1, ih2⟩ := merinoref01_FromPath.mono_l k
  unfold merinoref01_FromPath.f
  repeat' first
      | (with_reducible exact ih0 _ _)
      | (with_reducible exact ih1 _ _)
      | (with_reducible exact ih2 _ _ _ _ _ _)
      | (with_reducible exact merinoref01_Lowest.mono _ _ _ _ _)
      | (with_reducible exact merinoref01_Of.mono _ _)
      | (with_reducible exact merinoref01_Plus.mono _ _ _ _ _)
      | (with_reducible exact merinoref01_Times.mono _ _ _ _ _)
      | (with_reducible exact LeO.refl _)
      | (with_reducible exact LeO.none _)
      | (with_reducible refine LeO.ite ?_ ?_)
      | (with_reducible refine LeO.bind ?_ (fun _ => ?_))
      | exact ih0 _ _
      | exact ih1 _ _
      | exact ih2 _ _ _ _ _ _
      | exact merinoref01_Lowest.mono _ _ _ _ _
      | exact merinoref01_Of.mono _ _
      | exact merinoref01_Plus.mono _ _ _ _ _
      | exact merinoref01_Times.mono _ _ _ _ _
      | exact LeO.none _
      | refine LeO.ite ?_ ?_
      | refine LeO.bind ?_ (fun _ => ?_)
end Go.Proofs.YtdjnneflpkllmaaDoor.Q

namespace Go.Proofs.YtdjnneflpkllmaaDoor.Q
open Go.RowKit Go.Proofs.YtdjnneflpkllmaaDoorW.PrintWords Go.Proofs.YtdjnneflpkllmaaDoorW.PrintLast Go.Proofs.YtdjnneflpkllmaaDoorW.PrintMore
attribute [local go_sem] max2_int min2_int max_two min_two max_three min_three max_four min_four   -- for this text's walks alone
set_option linter.unusedVariables false
set_option linter.unusedSimpArgs false
theorem full_cap {c : Nat} {F l : List Int} (hc : F.length ≤ c) (e : F = l ++ [77, 77]) : l.length ≤ c := by
  have : F.length = l.length + 2 := by rw [e]; simp
  omega
theorem full_take {w : World} {A : Option Addr} {c : Nat} {F l : List Int} (h : Kd.C (Kd.int .i64) w A F.length F) (hc : F.length ≤ c) (e : F = l ++ [77, 77]) : Kd.C (Kd.int .i64) w A l.length l := by
  have hl : F.length = l.length + 2 := by rw [e]; simp
  obtain ⟨i0, hi0, _, hsz, _⟩ := info_parts info3
  obtain ⟨_, hA, _⟩ := print_take_of (P := Tryd.prog) (Value.int .i64) 0 29 3 .i64 Tryd.underlying29 hi0 hsz A c F (l.length : Int) (by omega) (by omega) hc
  have := Kd.C_of_reads (h1 := fun _ => rfl) (hA _ (Kd.reads_of_C h))
  have et : F.take ((l.length : Int)).toNat = l := by rw [e, Int.toNat_natCast, List.take_left']; rfl
  rw [et] at this
  exact this
theorem kept_whole (k : Nat) (A0 : Option Addr) (c0 : Nat) (F : List Int) (A1 : Option Addr) (c1 : Nat) (l1 : List Int) (w : World) (hF : Kd.C (Kd.int .i64) w A0 F.length F) (hcF : F.length ≤ c0) (hr1 : Kd.C (Kd.int .i64) w A1 l1.length l1) (hc1 : l1.length ≤ c1)
    (h : F = l1 ++ [77, 77] ∧ l1.length ≤ 1000000 ∧ merinolaw01_same.f k l1 l1 = some true) :
    Calls Tryd.prog 42 #[.slice A0 l1.length c0, .slice A1 l1.length c1] w fun e w' => e = .returned (.bool true) ∧ Drawn0 w w' := by
  obtain ⟨e, hsm, hs⟩ := h
  have hl : F.length = l1.length + 2 := by rw [e]; simp
  refine merinolaw01_kept.full k A0 c0 l1 F A1 c1 l1 w (full_take hF hcF e) hF hcF hl rfl hr1 hc1 hsm hs ?_ ?_
  · rw [e]; simp [rd]
  · rw [e, show (l1.length : Int) + 1 = ((l1.length + 1 : Nat) : Int) by omega]; simp [rd]
end Go.Proofs.YtdjnneflpkllmaaDoor.Q

namespace Go.Proofs.YtdjnneflpkllmaaDoor.Q
open Go.RowKit Go.Proofs.YtdjnneflpkllmaaDoorW.PrintWords Go.Proofs.YtdjnneflpkllmaaDoorW.PrintLast Go.Proofs.YtdjnneflpkllmaaDoorW.PrintMore
attribute [local go_sem] max2_int min2_int max_two min_two max_three min_three max_four min_four   -- for this text's walks alone
set_option linter.unusedVariables false
set_option linter.unusedSimpArgs false
set_option maxHeartbeats 8000000 in
set_option maxRecDepth 100000 in
theorem merinolaw01_NumFair.both (k : Nat) (A0 : Option Addr) (c0 : Nat) (l0 : List Int) (A1 : Option Addr) (c1 : Nat) (l1 : List Int) (t809 : List Int) (t812 : List Int) (t815 : _) (t816 : _) (w : World) (hr0 : Kd.C (Kd.int .i64) w A0 l0.length l0) (hc0 : l0.length ≤ c0) (hr1 : Kd.C (Kd.int .i64) w A1 l1.length l1) (hc1 : l1.length ≤ c1) (A4_ : merinolaw01_few.f l0 = some true) (A6_ : merinolaw01_few.f l1 = some true) (A10_ : merinolaw01_fullc.f k l0 = some t809) (A11_ : merinolaw01_fullc.f k l1 = some t812) (A12_ : num_Fair.f k l0 l1 = some (t815, t816)) (A13_ : merinoref01_Fair.f k l0 l1 = some (t815, t816)) (hft809 : t809 = l0 ++ [77, 77]) (hst809 : l0.length ≤ 1000000) (hmt809 : merinolaw01_same.f k l0 l0 = some true) (hft812 : t812 = l1 ++ [77, 77]) (hst812 : l1.length ≤ 1000000) (hmt812 : merinolaw01_same.f k l1 l1 = some true) :
    Calls Tryd.prog 10 #[.slice A0 l0.length c0, .slice A1 l1.length c1] w fun e w' => e = .returned (.bool true) ∧ Below w.heap.size w w' := by
  have HR0 := Aside0.mk hr0
  clear hr0
  have HC0 := Aside0.mk hc0
  clear hc0
  have HR1 := Aside0.mk hr1
  clear hr1
  have HC1 := Aside0.mk hc1
  clear hc1
  have HB := Aside0.mk (Below.refl w.heap.size w)
  have HFt809 := Aside0.mk hft809
  have HFt812 := Aside0.mk hft812
  have A4 := Aside0.mk A4_
  have A6 := Aside0.mk A6_
  have A10 := Aside0.mk A10_
  have A11 := Aside0.mk A11_
  have A12 := Aside0.mk A12_
  have A13 := Aside0.mk A13_
  have A16 : Aside0 (t809 = l0 ++ [77, 77] ∧ l0.length ≤ 1000000 ∧ merinolaw01_same.f k l0 l0 = some true) := ⟨hft809, hst809, hmt809⟩
  have A18 : Aside0 (t812 = l1 ++ [77, 77] ∧ l1.length ≤ 1000000 ∧ merinolaw01_same.f k l1 l1 = some true) := ⟨hft812, hst812, hmt812⟩
  have A20 : Aside0 (merinolaw01_alive.f = some true) := ⟨rfl⟩
  have y0 : (t815 == t815) = true := by simp
  have z0 : (t815 != t815) = false := by simp
  have y1 : (t816 == t816) = true := by simp
  have z1 : (t816 != t816) = false := by simp
  clear A4_ A6_ A10_ A11_ A12_ A13_ hft809 hst809 hmt809 hft812 hst812 hmt812
  go_enter Tryd.func10, Tryd.ntmps10
  go_wp2_with (first | ((with_reducible refine gate_callee (f := 35) rfl ?_); refine goesL_ (some 12) rfl rfl Tryd.func35 (by kernel_rfl) rfl #[.slice A0 l0.length c0] rfl (by (try simp only [List.map_toArray, List.map_cons, List.map_nil]); first | done | rfl | (simp only [List.length_drop, List.length_take]; rfl)) ?_; (with_reducible refine (merinolaw01_few.calls _ _ l0 true _ ?side1 ?side2 A4.out).mono ?_); (case side1 => repeat (first | exact (Kd.C_below HR0.out HB.out) | (with_reducible refine Kd.C_alloc ?_ _) | (with_reducible refine Kd.C_drewN ?_ _) | (with_reducible refine Kd.C_drew ?_))); (case side2 => exact HC0.out); rintro e w' ⟨rfl, ⟨nd, rfl⟩⟩; refine ⟨_, rfl, ?_⟩) | (go_at_call 35; (with_reducible refine (merinolaw01_few.calls _ _ l1 true _ ?side1 ?side2 A6.out).mono ?_); (case side1 => repeat (first | exact (Kd.C_below HR1.out (by repeat (first | (with_reducible first | exact HB.out | apply below_alloc | apply pw_below_drewN | apply below_drew1) | exact HB.out))) | (with_reducible refine Kd.C_alloc ?_ _) | (with_reducible refine Kd.C_drewN ?_ _) | (with_reducible refine Kd.C_drew ?_))); (case side2 => exact HC1.out); rintro e w' ⟨rfl, ⟨nd, rfl⟩⟩) | ((with_reducible refine gate_callee (f := 36) rfl ?_); refine goesL_ (some 21) rfl rfl Tryd.func36 (by kernel_rfl) rfl #[.slice A0 l0.length c0] rfl (by (try simp only [List.map_toArray, List.map_cons, List.map_nil]); first | done | rfl | (simp only [List.length_drop, List.length_take]; rfl)) ?_; (with_reducible refine (merinolaw01_fullc.calls k _ _ l0 t809 _ ?side1 ?side2 A10.out).mono ?_); (case side1 => repeat (first | exact (Kd.C_below HR0.out HB.out) | (with_reducible refine Kd.C_alloc ?_ _) | (with_reducible refine Kd.C_drewN ?_ _) | (with_reducible refine Kd.C_drew ?_))); (case side2 => exact HC0.out); rintro e w21 ⟨Ao23, co23, rfl, ho0, hb⟩; refine ⟨_, rfl, ?_⟩; have n0_ := Aside0.mk (Kd.R_lower ho0 (below_size (by repeat (first | (with_reducible first | exact HB.out | apply below_alloc | apply pw_below_drewN | apply below_drew1) | exact HB.out)))); have n1_ := Aside0.mk (below_step (by repeat (first | (with_reducible first | exact HB.out | apply below_alloc | apply pw_below_drewN | apply below_drew1) | exact HB.out)) hb); clear HB; have HO811 := n0_; have HB := n1_; clear n0_ n1_; (try clear hb); (try clear hb2); (try clear hk); (try clear hi); (try clear ho0)) | ((with_reducible refine gate_callee (f := 36) rfl ?_); refine goesL_ (some 23) rfl rfl Tryd.func36 (by kernel_rfl) rfl #[.slice A1 l1.length c1] rfl (by (try simp only [List.map_toArray, List.map_cons, List.map_nil]); first | done | rfl | (simp only [List.length_drop, List.length_take]; rfl)) ?_; (with_reducible refine (merinolaw01_fullc.calls k _ _ l1 t812 _ ?side1 ?side2 A11.out).mono ?_); (case side1 => repeat (first | exact (Kd.C_below HR1.out HB.out) | (with_reducible refine Kd.C_alloc ?_ _) | (with_reducible refine Kd.C_drewN ?_ _) | (with_reducible refine Kd.C_drew ?_))); (case side2 => exact HC1.out); rintro e w22 ⟨Ao24, co24, rfl, ho0, hb⟩; refine ⟨_, rfl, ?_⟩; have n0_ := Aside0.mk (Kd.R_elder' (by (with_reducible repeat (first | apply Kd.R_alloc | apply Kd.R_drewN | apply Kd.R_drew)); exact HO811.out) (Kd.R_base ho0) hb); have n1_ := Aside0.mk (Kd.R_lower (Kd.R_new' ho0 (Kd.R_lt (by (with_reducible repeat (first | apply Kd.R_alloc | apply Kd.R_drewN | apply Kd.R_drew)); exact HO811.out))) (below_size (by repeat (first | (with_reducible first | exact HB.out | apply below_alloc | apply pw_below_drewN | apply below_drew1) | exact HB.out)))); have n2_ := Aside0.mk (below_step (by repeat (first | (with_reducible first | exact HB.out | apply below_alloc | apply pw_below_drewN | apply below_drew1) | exact HB.out)) hb); clear HO811; clear HB; have HO811 := n0_; have HO814 := n1_; have HB := n2_; clear n0_ n1_ n2_; (try clear hb); (try clear hb2); (try clear hk); (try clear hi); (try clear ho0)) | ((with_reducible refine gate_callee (f := 45) rfl ?_); refine goesL_ (some 27) rfl rfl Tryd.func45 (by kernel_rfl) rfl #[.slice Ao23 l0.length co23, .slice Ao24 l1.length co24] rfl (by (try simp only [List.map_toArray, List.map_cons, List.map_nil]); first | done | rfl | (simp only [List.length_drop, List.length_take]; rfl)) ?_; (with_reducible refine (num_Fair.calls k _ _ l0 _ _ l1 t815 t816 _ ?side1 ?side2 ?side3 ?side4 A12.out).mono ?_); (case side1 => repeat (first | exact full_take (Kd.R_reads' HO811.out).2.2 (Kd.R_reads' HO811.out).2.1 HFt809.out | (with_reducible refine Kd.C_alloc ?_ _) | (with_reducible refine Kd.C_drewN ?_ _) | (with_reducible refine Kd.C_drew ?_))); (case side2 => exact full_cap (Kd.R_reads' HO811.out).2.1 HFt809.out); (case side3 => repeat (first | exact full_take (Kd.R_reads' HO814.out).2.2 (Kd.R_reads' HO814.out).2.1 HFt812.out | (with_reducible refine Kd.C_alloc ?_ _) | (with_reducible refine Kd.C_drewN ?_ _) | (with_reducible refine Kd.C_drew ?_))); (case side4 => exact full_cap (Kd.R_reads' HO814.out).2.1 HFt812.out); rintro e w25 ⟨rfl, hb⟩; refine ⟨_, rfl, ?_⟩; have n0_ := Aside0.mk (Kd.R_below (by (with_reducible repeat (first | apply Kd.R_alloc | apply Kd.R_drewN | apply Kd.R_drew)); exact HO811.out) hb); have n1_ := Aside0.mk (Kd.R_below (by (with_reducible repeat (first | apply Kd.R_alloc | apply Kd.R_drewN | apply Kd.R_drew)); exact HO814.out) hb); have n2_ := Aside0.mk (below_step (by repeat (first | (with_reducible first | exact HB.out | apply below_alloc | apply pw_below_drewN | apply below_drew1) | exact HB.out)) hb); clear HO811; clear HO814; clear HB; have HO811 := n0_; have HO814 := n1_; have HB := n2_; clear n0_ n1_ n2_; (try clear hb); (try clear hb2); (try clear hk); (try clear hi)) | ((with_reducible refine gate_callee (f := 46) rfl ?_); refine goesL_ (some 33) rfl rfl Tryd.func46 (by kernel_rfl) rfl #[.slice A0 l0.length c0, .slice A1 l1.length c1] rfl (by (try simp only [List.map_toArray, List.map_cons, List.map_nil]); first | done | rfl | (simp only [List.length_drop, List.length_take]; rfl)) ?_; (with_reducible refine (merinoref01_Fair.calls k _ _ l0 _ _ l1 t815 t816 _ ?side1 ?side2 ?side3 ?side4 A13.out).mono ?_); (case side1 => repeat (first | exact (Kd.C_below HR0.out HB.out) | (with_reducible refine Kd.C_alloc ?_ _) | (with_reducible refine Kd.C_drewN ?_ _) | (with_reducible refine Kd.C_drew ?_))); (case side2 => exact HC0.out); (case side3 => repeat (first | exact (Kd.C_below HR1.out HB.out) | (with_reducible refine Kd.C_alloc ?_ _) | (with_reducible refine Kd.C_drewN ?_ _) | (with_reducible refine Kd.C_drew ?_))); (case side4 => exact HC1.out); rintro e w26 ⟨rfl, hb⟩; refine ⟨_, rfl, ?_⟩; have n0_ := Aside0.mk (Kd.R_below (by (with_reducible repeat (first | apply Kd.R_alloc | apply Kd.R_drewN | apply Kd.R_drew)); exact HO811.out) hb); have n1_ := Aside0.mk (Kd.R_below (by (with_reducible repeat (first | apply Kd.R_alloc | apply Kd.R_drewN | apply Kd.R_drew)); exact HO814.out) hb); have n2_ := Aside0.mk (below_step (by repeat (first | (with_reducible first | exact HB.out | apply below_alloc | apply pw_below_drewN | apply below_drew1) | exact HB.out)) hb); clear HO811; clear HO814; clear HB; have HO811 := n0_; have HO814 := n1_; have HB := n2_; clear n0_ n1_ n2_; (try clear hb); (try clear hb2); (try clear hk); (try clear hi)) | (go_at_call 42; (with_reducible refine (kept_whole k _ _ t809 _ _ l0 _ ?side1 ?side2 ?side3 ?side4 A16.out).mono ?_); (case side1 => repeat (first | exact (Kd.R_reads' HO811.out).2.2 | (with_reducible refine Kd.C_alloc ?_ _) | (with_reducible refine Kd.C_drewN ?_ _) | (with_reducible refine Kd.C_drew ?_))); (case side2 => exact (Kd.R_reads' HO811.out).2.1); (case side3 => repeat (first | exact (Kd.C_below HR0.out HB.out) | (with_reducible refine Kd.C_alloc ?_ _) | (with_reducible refine Kd.C_drewN ?_ _) | (with_reducible refine Kd.C_drew ?_))); (case side4 => exact HC0.out); rintro e w' ⟨rfl, ⟨nd, rfl⟩⟩) | (go_at_call 42; (with_reducible refine (kept_whole k _ _ t812 _ _ l1 _ ?side1 ?side2 ?side3 ?side4 A18.out).mono ?_); (case side1 => repeat (first | exact (Kd.R_reads' HO814.out).2.2 | (with_reducible refine Kd.C_alloc ?_ _) | (with_reducible refine Kd.C_drewN ?_ _) | (with_reducible refine Kd.C_drew ?_))); (case side2 => exact (Kd.R_reads' HO814.out).2.1); (case side3 => repeat (first | exact (Kd.C_below HR1.out (by repeat (first | (with_reducible first | exact HB.out | apply below_alloc | apply pw_below_drewN | apply below_drew1) | exact HB.out))) | (with_reducible refine Kd.C_alloc ?_ _) | (with_reducible refine Kd.C_drewN ?_ _) | (with_reducible refine Kd.C_drew ?_))); (case side4 => exact HC1.out); rintro e w' ⟨rfl, ⟨nd, rfl⟩⟩) | (go_at_call 21; (with_reducible refine (merinolaw01_alive.calls  true _ A20.out).mono ?_); rintro e w27 ⟨rfl, hb⟩; have n0_ := Aside0.mk (Kd.R_below (by (with_reducible repeat (first | apply Kd.R_alloc | apply Kd.R_drewN | apply Kd.R_drew)); exact HO811.out) hb); have n1_ := Aside0.mk (Kd.R_below (by (with_reducible repeat (first | apply Kd.R_alloc | apply Kd.R_drewN | apply Kd.R_drew)); exact HO814.out) hb); have n2_ := Aside0.mk (below_step (by repeat (first | (with_reducible first | exact HB.out | apply below_alloc | apply pw_below_drewN | apply below_drew1) | exact HB.out)) hb); clear HO811; clear HO814; clear HB; have HO811 := n0_; have HO814 := n1_; have HB := n2_; clear n0_ n1_ n2_; (try clear hb); (try clear hb2); (try clear hk); (try clear hi)))
  go_ret
  exact ⟨by first | rfl | (simp [errW_none, errW_some] <;> rfl) | (simp [*, errW_none, errW_some] <;> rfl), by repeat (first | (with_reducible first | exact HB.out | apply below_alloc | apply pw_below_drewN | apply below_drew1) | exact HB.out)⟩
set_option maxHeartbeats 8000000 in
set_option maxRecDepth 100000 in
theorem merinolaw01_NumFair.long0 (A0 : Option Addr) (c0 : Nat) (l0 : List Int) (A1 : Option Addr) (c1 : Nat) (l1 : List Int) (w : World) (hr0 : Kd.C (Kd.int .i64) w A0 l0.length l0) (hc0 : l0.length ≤ c0) (hr1 : Kd.C (Kd.int .i64) w A1 l1.length l1) (hc1 : l1.length ≤ c1) (A0_ : merinolaw01_few.f l0 = some false) :
    Calls Tryd.prog 10 #[.slice A0 l0.length c0, .slice A1 l1.length c1] w fun e w' => e = .returned (.bool true) ∧ Below w.heap.size w w' := by
  have HR0 := Aside0.mk hr0
  clear hr0
  have HC0 := Aside0.mk hc0
  clear hc0
  have HR1 := Aside0.mk hr1
  clear hr1
  have HC1 := Aside0.mk hc1
  clear hc1
  have HB := Aside0.mk (Below.refl w.heap.size w)
  have A4 := Aside0.mk A0_
  clear A0_
  have A8 : Aside0 (merinolaw01_alive.f = some true) := ⟨rfl⟩
  go_enter Tryd.func10, Tryd.ntmps10
  go_wp2_with (first | ((with_reducible refine gate_callee (f := 35) rfl ?_); refine goesL_ (some 12) rfl rfl Tryd.func35 (by kernel_rfl) rfl #[.slice A0 l0.length c0] rfl (by (try simp only [List.map_toArray, List.map_cons, List.map_nil]); first | done | rfl | (simp only [List.length_drop, List.length_take]; rfl)) ?_; (with_reducible refine (merinolaw01_few.calls _ _ l0 false _ ?side1 ?side2 A4.out).mono ?_); (case side1 => repeat (first | exact (Kd.C_below HR0.out HB.out) | (with_reducible refine Kd.C_alloc ?_ _) | (with_reducible refine Kd.C_drewN ?_ _) | (with_reducible refine Kd.C_drew ?_))); (case side2 => exact HC0.out); rintro e w' ⟨rfl, ⟨nd, rfl⟩⟩; refine ⟨_, rfl, ?_⟩) | ((with_reducible refine gate_callee (f := 21) rfl ?_); refine goesL_ (some 19) rfl rfl Tryd.func21 (by kernel_rfl) rfl #[] rfl (by (try simp only [List.map_toArray, List.map_cons, List.map_nil]); first | done | rfl | (simp only [List.length_drop, List.length_take]; rfl)) ?_; (with_reducible refine (merinolaw01_alive.calls  true _ A8.out).mono ?_); rintro e w9 ⟨rfl, hb⟩; refine ⟨_, rfl, ?_⟩; have n0_ := Aside0.mk (below_step (by repeat (first | (with_reducible first | exact HB.out | apply below_alloc | apply pw_below_drewN | apply below_drew1) | exact HB.out)) hb); clear HB; have HB := n0_; clear n0_; (try clear hb); (try clear hb2); (try clear hk); (try clear hi)))
  go_ret
  exact ⟨by first | rfl | (simp [errW_none, errW_some] <;> rfl) | (simp [*, errW_none, errW_some] <;> rfl), by repeat (first | (with_reducible first | exact HB.out | apply below_alloc | apply pw_below_drewN | apply below_drew1) | exact HB.out)⟩
set_option maxHeartbeats 8000000 in
set_option maxRecDepth 100000 in
theorem merinolaw01_NumFair.long1 (A0 : Option Addr) (c0 : Nat) (l0 : List Int) (A1 : Option Addr) (c1 : Nat) (l1 : List Int) (w : World) (hr0 : Kd.C (Kd.int .i64) w A0 l0.length l0) (hc0 : l0.length ≤ c0) (hr1 : Kd.C (Kd.int .i64) w A1 l1.length l1) (hc1 : l1.length ≤ c1) (A0_ : merinolaw01_few.f l0 = some true) (A1_ : merinolaw01_few.f l1 = some false) :
    Calls Tryd.prog 10 #[.slice A0 l0.length c0, .slice A1 l1.length c1] w fun e w' => e = .returned (.bool true) ∧ Below w.heap.size w w' := by
  have HR0 := Aside0.mk hr0
  clear hr0
  have HC0 := Aside0.mk hc0
  clear hc0
  have HR1 := Aside0.mk hr1
  clear hr1
  have HC1 := Aside0.mk hc1
  clear hc1
  have HB := Aside0.mk (Below.refl w.heap.size w)
  have A4 := Aside0.mk A0_
  clear A0_
  have A6 := Aside0.mk A1_
  clear A1_
  have A8 : Aside0 (merinolaw01_alive.f = some true) := ⟨rfl⟩
  go_enter Tryd.func10, Tryd.ntmps10
  go_wp2_with (first | ((with_reducible refine gate_callee (f := 35) rfl ?_); refine goesL_ (some 12) rfl rfl Tryd.func35 (by kernel_rfl) rfl #[.slice A0 l0.length c0] rfl (by (try simp only [List.map_toArray, List.map_cons, List.map_nil]); first | done | rfl | (simp only [List.length_drop, List.length_take]; rfl)) ?_; (with_reducible refine (merinolaw01_few.calls _ _ l0 true _ ?side1 ?side2 A4.out).mono ?_); (case side1 => repeat (first | exact (Kd.C_below HR0.out HB.out) | (with_reducible refine Kd.C_alloc ?_ _) | (with_reducible refine Kd.C_drewN ?_ _) | (with_reducible refine Kd.C_drew ?_))); (case side2 => exact HC0.out); rintro e w' ⟨rfl, ⟨nd, rfl⟩⟩; refine ⟨_, rfl, ?_⟩) | (go_at_call 35; (with_reducible refine (merinolaw01_few.calls _ _ l1 false _ ?side1 ?side2 A6.out).mono ?_); (case side1 => repeat (first | exact (Kd.C_below HR1.out (by repeat (first | (with_reducible first | exact HB.out | apply below_alloc | apply pw_below_drewN | apply below_drew1) | exact HB.out))) | (with_reducible refine Kd.C_alloc ?_ _) | (with_reducible refine Kd.C_drewN ?_ _) | (with_reducible refine Kd.C_drew ?_))); (case side2 => exact HC1.out); rintro e w' ⟨rfl, ⟨nd, rfl⟩⟩) | ((with_reducible refine gate_callee (f := 21) rfl ?_); refine goesL_ (some 19) rfl rfl Tryd.func21 (by kernel_rfl) rfl #[] rfl (by (try simp only [List.map_toArray, List.map_cons, List.map_nil]); first | done | rfl | (simp only [List.length_drop, List.length_take]; rfl)) ?_; (with_reducible refine (merinolaw01_alive.calls  true _ A8.out).mono ?_); rintro e w9 ⟨rfl, hb⟩; refine ⟨_, rfl, ?_⟩; have n0_ := Aside0.mk (below_step (by repeat (first | (with_reducible first | exact HB.out | apply below_alloc | apply pw_below_drewN | apply below_drew1) | exact HB.out)) hb); clear HB; have HB := n0_; clear n0_; (try clear hb); (try clear hb2); (try clear hk); (try clear hi)))
  go_ret
  exact ⟨by first | rfl | (simp [errW_none, errW_some] <;> rfl) | (simp [*, errW_none, errW_some] <;> rfl), by repeat (first | (with_reducible first | exact HB.out | apply below_alloc | apply pw_below_drewN | apply below_drew1) | exact HB.out)⟩
end Go.Proofs.YtdjnneflpkllmaaDoor.Q

namespace Go.Proofs.Num
open Go.RowKit Go.Proofs.YtdjnneflpkllmaaDoorW.PrintWords Go.Proofs.YtdjnneflpkllmaaDoorW.PrintMore Go.Proofs.YtdjnneflpkllmaaDoor.Q
set_option linter.unusedVariables false
set_option linter.unusedSimpArgs false
theorem few_yes {l : List Int} (h : l.length ≤ 300) : merinolaw01_few.f l = some true := by unfold merinolaw01_few.f; rw [decide_eq_true (by omega)]
theorem few_no {l : List Int} (h : ¬ l.length ≤ 300) : merinolaw01_few.f l = some false := by unfold merinolaw01_few.f; rw [decide_eq_false (by omega)]
theorem walk_NumFair (A0 : Option Addr) (c0 : Nat) (l0 : List Int) (A1 : Option Addr) (c1 : Nat) (l1 : List Int) (w : World) (hr0 : Kd.C (Kd.int .i64) w A0 l0.length l0) (hc0 : l0.length ≤ c0) (hr1 : Kd.C (Kd.int .i64) w A1 l1.length l1) (hc1 : l1.length ≤ c1) :
    Calls Tryd.prog 10 #[.slice A0 l0.length c0, .slice A1 l1.length c1] w fun e w' => e = .returned (.bool true) ∧ Below w.heap.size w w' := by
  by_cases h0 : l0.length ≤ 300
  · by_cases h1 : l1.length ≤ 300
    · obtain ⟨⟨v1, v2⟩, F1, F2⟩ := fair_same l0 l1
      obtain ⟨k1, g1⟩ := F1
      obtain ⟨k2, g2⟩ := F2
      obtain ⟨k3, g3⟩ := full_ok (l := l0) (by omega)
      obtain ⟨k4, g4⟩ := full_ok (l := l1) (by omega)
      obtain ⟨k5, g5⟩ := same_ok (l := l0) (by omega)
      obtain ⟨k6, g6⟩ := same_ok (l := l1) (by omega)
      obtain ⟨K, hK⟩ : ∃ K, K = k1 + k2 + k3 + k4 + k5 + k6 := ⟨_, rfl⟩
      exact merinolaw01_NumFair.both K A0 c0 l0 A1 c1 l1 _ _ v1 v2 w hr0 hc0 hr1 hc1 (few_yes h0) (few_yes h1) (g3 K (by omega)) (g4 K (by omega)) (g1 K (by omega)) (g2 K (by omega)) rfl (by omega) (g5 K (by omega)) rfl (by omega) (g6 K (by omega))
    · exact merinolaw01_NumFair.long1 A0 c0 l0 A1 c1 l1 w hr0 hc0 hr1 hc1 (few_yes h0) (few_no h1)
  · exact merinolaw01_NumFair.long0 A0 c0 l0 A1 c1 l1 w hr0 hc0 hr1 hc1 (few_no h0)
end Go.Proofs.Num
