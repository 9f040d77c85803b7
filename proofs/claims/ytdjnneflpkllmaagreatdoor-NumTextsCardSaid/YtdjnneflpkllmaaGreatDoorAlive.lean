/- What every right program divides and prints: alive answers true. -/
import Derived.Test.YtdjnneflpkllmaaGreatDoorApp
import Derived.Test.YtdjnneflpkllmaaGreatDoorDcmW
import Derived.Test.YtdjnneflpkllmaaGreatDoorRA
import Derived.Test.YtdjnneflpkllmaaGreatDoorR20
namespace Go.Proofs.Num
open Go.RowKit Go.Proofs.YtdjnneflpkllmaaGreatDoorW.PrintLast Go.Proofs.YtdjnneflpkllmaaGreatDoorW.PrintWords Go.Proofs.YtdjnneflpkllmaaGreatDoor.Q
set_option linter.unusedVariables false
set_option linter.unusedSimpArgs false

theorem best_alive (w : World) : Calls Tryz.prog 20 #[.int .i64 355, .int .i64 113, .int .i64 10] w fun e w' => e = .returned (.tuple #[.agg #[.int .i64 22, .int .i64 7], .int .i64 0]) ∧ Below w.heap.size w w' :=
  num_Best.calls 30 355 113 10 22 7 0 w (by kernel_rfl)
theorem valid_alive (w : World) : Calls Tryz.prog 16 #[.agg #[.int .i64 22, .int .i64 7]] w fun e w' => e = .returned (.bool true) ∧ Below w.heap.size w w' :=
  num_Valid.calls 30 22 7 true w (by kernel_rfl)

theorem decimal_alive (w : World) (hE : Env w) : Calls Tryz.prog 10 #[.int .i64 (-5), .int .i64 2] w fun e w' => e = .returned (.tuple #[.string ⟨#[45, 48, 46, 48, 53]⟩, .int .i64 0]) ∧ Below w.heap.size w w' := by
  have h := decimal_any (n := -5) (by decide) (by decide) 2 w hE
  have e : decV (-5) 2 = ([45, 48, 46, 48, 53], 0) := by
    have d : Lib.decDigits 5 = [53] := by rw [Lib.decDigits_one (by decide)]; rfl
    unfold decV
    rw [if_neg (by decide)]
    unfold decS
    rw [show ((-5 : Int).natAbs) = 5 from rfl, d]
    rfl
  rw [e] at h
  exact h
set_option maxRecDepth 100000 in
set_option maxHeartbeats 3200000 in
theorem alive_any (w : World) (hE : Env w) : Calls Tryz.prog 5 #[] w fun e w' => e = .returned (.bool true) ∧ Below w.heap.size w w' := by
  have hb0 : Below w.heap.size w (w.alloc (.cells #[.int .i64 3, .int .i64 3, .int .i64 1] 3)) := (Below.refl _ _).alloc (Nat.le_refl _) _
  have hh0 : (w.alloc (.cells #[.int .i64 3, .int .i64 3, .int .i64 1] 3)).heap[w.heap.size]? = some (.cells #[.int .i64 3, .int .i64 3, .int .i64 1] 3 (0, 0)) := by show (w.heap.push _)[w.heap.size]? = _; simp
  have AP := apportion_alive w.heap.size (w.alloc (.cells #[.int .i64 3, .int .i64 3, .int .i64 1] 3)) (by simp) ((blk_cell hh0 0).trans rfl) ((blk_cell hh0 1).trans rfl) ((blk_cell hh0 2).trans rfl)
  have HA := Lib.hid AP
  have HB0 := Lib.hid hb0
  clear AP hb0 hh0
  go_enter Tryz.func5, Tryz.ntmps5
  go_upto_region 3 with (first
    | (go_at_call 19; refine HA.out.mono ?_; rintro e w1 ⟨p, rfl, hp, y0, y1, y2, hb1⟩; have HY0 := Lib.hid y0; have HY1 := Lib.hid y1; have HY2 := Lib.hid y2; clear y0 y1 y2)
    | (go_at_call 20; refine (best_alive _).mono ?_; rintro e w2 ⟨rfl, hb2⟩))
  have hz2 : p < w2.heap.size := Nat.lt_of_lt_of_le hp hb2.size
  have y0 := (hb2.cell (p := ⟨p, 0, none⟩) hp).trans HY0.out
  have y1 := (hb2.cell (p := ⟨p, 1, none⟩) hp).trans HY1.out
  have y2 := (hb2.cell (p := ⟨p, 2, none⟩) hp).trans HY2.out
  have hbw : Below w.heap.size w w2 := (HB0.out.trans (hb1.mono (by simp))).trans (hb2.mono (HB0.out.trans (hb1.mono (by simp))).size)
  have hF : (w2.alloc (.cells #[.int .i64 22, .int .i64 7] 23)).heap[w2.heap.size]? = some (.cells #[.int .i64 22, .int .i64 7] 23 (0, 0)) := by show (w2.heap.push _)[w2.heap.size]? = _; simp
  have hbF : Below w2.heap.size w2 (w2.alloc (.cells #[.int .i64 22, .int .i64 7] 23)) := (Below.refl _ _).alloc (Nat.le_refl _) _
  have hsF : (w2.alloc (.cells #[.int .i64 22, .int .i64 7] 23)).heap.size = w2.heap.size + 1 := by simp
  clear hb1 hb2 hp HY0 HY1 HY2 HB0 HA
  generalize w2.alloc (.cells #[.int .i64 22, .int .i64 7] 23) = W at hF hbF hsF ⊢
  have SAME : ∀ w3, Below W.heap.size W w3 → Calls Tryz.prog 18 #[.slice (some ⟨p, 0, none⟩) 3 3, .slice (some ⟨w3.heap.size, 0, none⟩) 3 3] (w3.alloc (.cells #[.int .i64 4, .int .i64 4, .int .i64 2] 3)) fun e w' => e = .returned (.bool true) ∧ ∃ n, w' = (w3.alloc (.cells #[.int .i64 4, .int .i64 4, .int .i64 2] 3)).drewN n := by
    intro w3 h3
    have hh : (w3.alloc (.cells #[.int .i64 4, .int .i64 4, .int .i64 2] 3)).heap[w3.heap.size]? = some (.cells #[.int .i64 4, .int .i64 4, .int .i64 2] 3 (0, 0)) := by show (w3.heap.push _)[w3.heap.size]? = _; simp
    have hb : Below w2.heap.size w2 (w3.alloc (.cells #[.int .i64 4, .int .i64 4, .int .i64 2] 3)) := hbF.trans ((h3.alloc h3.size _).mono (by omega))
    exact same_alive _ _ _ ((hb.cell (p := ⟨p, 0, none⟩) hz2).trans y0) ((hb.cell (p := ⟨p, 1, none⟩) hz2).trans y1) ((hb.cell (p := ⟨p, 2, none⟩) hz2).trans y2) ((blk_cell hh 0).trans rfl) ((blk_cell hh 1).trans rfl) ((blk_cell hh 2).trans rfl)
  have FR : ∀ w3, Below W.heap.size W w3 → w3.cell? ⟨w2.heap.size, 0, none⟩ = some (.int .i64 22) ∧ w3.cell? ⟨w2.heap.size, 1, none⟩ = some (.int .i64 7) ∧ w2.heap.size < w3.heap.size := by
    intro w3 h3
    have hh := (h3.block w2.heap.size (by omega)).trans hF
    exact ⟨(blk_cell hh 0).trans rfl, (blk_cell hh 1).trans rfl, by have := h3.size; omega⟩
  have HS := Lib.hid SAME
  have HFR := Lib.hid FR
  have HW := Lib.hid (hbw.trans (hbF.mono hbw.size))
  have HWs : w.heap.size ≤ W.heap.size := HW.out.size
  have HEW := Lib.hid (hE.below HW.out)
  clear SAME FR hF hbF hsF y0 y1 y2 hz2 hbw
  go_wp2_with (first
    | (go_at_call 10; refine (decimal_alive _ HEW.out).mono ?_; rintro e w3 ⟨rfl, hb3⟩; obtain ⟨f0, f1, f2⟩ := HFR.out w3 hb3; have hb3' := Lib.hid hb3; clear hb3)
    | (go_at_call 18; refine (HS.out w3 hb3'.out).mono ?_; rintro e w4 ⟨rfl, n, rfl⟩)
    | (go_at_call 16; refine (valid_alive _).mono ?_; rintro e w5 ⟨rfl, hb5⟩))
  go_ret
  have h1 := hb3'.out.size
  have hX : w.heap.size ≤ ((w3.alloc (.cells #[.int .i64 4, .int .i64 4, .int .i64 2] 3)).drewN n).heap.size := by
    show w.heap.size ≤ (w3.alloc _).heap.size
    simp
    omega
  exact ⟨rfl, HW.out.trans ((below_draws ((hb3'.out.alloc hb3'.out.size _).mono HWs) n).trans (hb5.mono hX))⟩
end Go.Proofs.Num
