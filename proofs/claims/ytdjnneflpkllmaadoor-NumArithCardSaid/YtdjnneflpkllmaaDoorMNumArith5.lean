/- Part 5 of the proof of NumArith. -/
import Derived.Test.YtdjnneflpkllmaaDoorMNumArith4
import Derived.Shelf.Strings.Repeat

namespace Go.Proofs
open Go.Shelf
def Tryd.lays105_ren : Go.Shelf.Ren := ⟨fun | 105 => 109 | 212 => 120 | 99 => 121 | 165 => 122 | 166 => 123 | 170 => 124 | 169 => 125 | 263 => 134 | 264 => 114 | 206 => 135 | 240 => 136 | 241 => 137 | 276 => 144 | 277 => 145 | n => n, fun | 9 => 9 | 3 => 3 | 4 => 4 | 20 => 20 | 0 => 0 | 46 => 119 | 109 => 120 | 5 => 5 | 72 => 126 | 76 => 130 | 51 => 143 | 146 => 144 | 53 => 81 | 148 => 112 | 70 => 123 | 37 => 124 | 75 => 129 | 127 => 146 | 164 => 151 | 80 => 133 | n => n, fun | n => n⟩
theorem Tryd.lays105 : Go.Proofs.Lays.n105 Tryd.prog Tryd.lays105_ren := {
  mixed := by kernel_rfl
  f99 := Tryd.func121.trans (congrArg some (by kernel_rfl))
  f105 := Tryd.func109.trans (congrArg some (by kernel_rfl))
  f165 := Tryd.func122.trans (congrArg some (by kernel_rfl))
  f166 := Tryd.func123.trans (congrArg some (by kernel_rfl))
  f169 := Tryd.func125.trans (congrArg some (by kernel_rfl))
  f170 := Tryd.func124.trans (congrArg some (by kernel_rfl))
  f206 := Tryd.func135.trans (congrArg some (by kernel_rfl))
  f212 := Tryd.func120.trans (congrArg some (by kernel_rfl))
  f240 := Tryd.func136.trans (congrArg some (by kernel_rfl))
  f241 := Tryd.func137.trans (congrArg some (by kernel_rfl))
  f263 := Tryd.func134.trans (congrArg some (by kernel_rfl))
  f264 := Tryd.func114.trans (congrArg some (by kernel_rfl))
  f276 := Tryd.func144.trans (congrArg some (by kernel_rfl))
  f277 := Tryd.func145.trans (congrArg some (by kernel_rfl))
  t0 := Tryd.underlying0
  a0 := Tryd.isAgg0
  z0 := Tryd.sizeOf0
  v0 := Tryd.zeroValue0
  t3 := Tryd.underlying3
  a3 := Tryd.isAgg3
  z3 := Tryd.sizeOf3
  v3 := Tryd.zeroValue3
  t4 := Tryd.underlying4
  a4 := Tryd.isAgg4
  z4 := Tryd.sizeOf4
  v4 := Tryd.zeroValue4
  t5 := Tryd.underlying5
  a5 := Tryd.isAgg5
  z5 := Tryd.sizeOf5
  v5 := Tryd.zeroValue5
  t9 := Tryd.underlying9
  a9 := Tryd.isAgg9
  z9 := Tryd.sizeOf9
  v9 := Tryd.zeroValue9
  t20 := Tryd.underlying20
  a20 := Tryd.isAgg20
  z20 := Tryd.sizeOf20
  v20 := Tryd.zeroValue20
  t37 := Tryd.underlying124
  a37 := Tryd.isAgg124
  z37 := Tryd.sizeOf124
  v37 := Tryd.zeroValue124
  t46 := Tryd.underlying119
  a46 := Tryd.isAgg119
  z46 := Tryd.sizeOf119
  v46 := Tryd.zeroValue119
  t51 := Tryd.underlying143
  a51 := Tryd.isAgg143
  z51 := Tryd.sizeOf143
  v51 := Tryd.zeroValue143
  t53 := Tryd.underlying81
  a53 := Tryd.isAgg81
  z53 := Tryd.sizeOf81
  v53 := Tryd.zeroValue81
  t70 := Tryd.underlying123
  a70 := Tryd.isAgg123
  z70 := Tryd.sizeOf123
  v70 := Tryd.zeroValue123
  t72 := Tryd.underlying126
  a72 := Tryd.isAgg126
  z72 := Tryd.sizeOf126
  v72 := Tryd.zeroValue126
  t75 := Tryd.underlying129
  a75 := Tryd.isAgg129
  z75 := Tryd.sizeOf129
  v75 := Tryd.zeroValue129
  t76 := Tryd.underlying130
  a76 := Tryd.isAgg130
  z76 := Tryd.sizeOf130
  v76 := Tryd.zeroValue130
  t109 := Tryd.underlying120
  a109 := Tryd.isAgg120
  z109 := Tryd.sizeOf120
  v109 := Tryd.zeroValue120
  t127 := Tryd.underlying146
  a127 := Tryd.isAgg146
  z127 := Tryd.sizeOf146
  v127 := Tryd.zeroValue146
  t146 := Tryd.underlying144
  a146 := Tryd.isAgg144
  z146 := Tryd.sizeOf144
  v146 := Tryd.zeroValue144
  t148 := Tryd.underlying112
  a148 := Tryd.isAgg112
  z148 := Tryd.sizeOf112
  v148 := Tryd.zeroValue112
  t164 := Tryd.underlying151
  a164 := Tryd.isAgg151
  z164 := Tryd.sizeOf151
  v164 := Tryd.zeroValue151 }
theorem Tryd.Builder_Extra_105 : Builder.Extra Tryd.prog Tryd.lays105_ren := {
  sizeBuilder := by kernel_rfl
  liesBuilder := by kernel_rfl
  t5 := Tryd.underlying5
  a5 := Tryd.isAgg5
  z5 := Tryd.sizeOf5
  v5 := Tryd.zeroValue5
  infoByte := by kernel_rfl
  cellsByte := by kernel_rfl
  sizeByte := by kernel_rfl
  neB5 := by decide }
open Go.RowKit Go.Lib in
open Go.RowKit Go.Lib in
open Go.RowKit Go.Lib in
open Go.RowKit Go.Lib in
open Go.RowKit Go.Lib in
open Go.RowKit Go.Lib in
open Go.RowKit Go.Lib in
/-- **strings.Repeat: count ≥ 0, the result within one allocation: count copies of s.** (LAID: no walk: one application.) -/
theorem Tryd.strings_Repeat (s : ByteArray) (c : Nat) (w : World) (hc : c ≤ 9223372036854775807) (hlen : s.size * c ≤ 140737488355328) :
    Calls Tryd.prog 109 #[.string s, .int .i64 c] w fun e w' => e = .returned (.string ⟨(Lib.repeatL s.data.toList c).toArray⟩) ∧ Below w.heap.size w w' := Any.strings_Repeat Tryd.lays105 Tryd.Builder_Extra_105 s c w hc hlen
end Go.Proofs

namespace Go.Proofs.Num
open Go.RowKit
set_option linter.unusedVariables false
set_option linter.unusedSimpArgs false
theorem size_alive (w : World) : Calls Tryd.prog 78 #[.int .i64 (-5)] w fun e w' => e = .returned (.int .u64 5) ∧ w' = w := by
  go_enter Tryd.func78, Tryd.ntmps78
  go_wp2
  go_ret
  exact ⟨by rfl, rfl⟩
set_option maxRecDepth 100000 in
theorem small_alive (w : World) : Calls Tryd.prog 130 #[.int .i64 5] w fun e w' => e = .returned (.string ⟨#[53]⟩) ∧ w' = w := by
  go_enter Tryd.func130, Tryd.ntmps130
  go_wp2
  go_ret
  exact ⟨by rfl, rfl⟩
set_option maxRecDepth 100000 in
theorem format_alive (w : World) : Calls Tryd.prog 108 #[.int .u64 5, .int .i64 10] w fun e w' => e = .returned (.string ⟨#[53]⟩) ∧ w' = w := by
  go_enter Tryd.func108, Tryd.ntmps108
  go_wp2_with (first
    | (go_at_call 130; refine (small_alive _).mono ?_; rintro e w1 ⟨rfl, rfl⟩)
    | go_in)
  go_ret
  exact ⟨by rfl, rfl⟩
theorem repeat_alive (w : World) : Calls Tryd.prog 109 #[.string ⟨#[48]⟩, .int .i64 2] w fun e w' => e = .returned (.string ⟨#[48, 48]⟩) ∧ Below w.heap.size w w' :=
  (Tryd.strings_Repeat ⟨#[48]⟩ 2 w (by decide) (by decide)).mono fun _ _ ⟨h1, h2⟩ => ⟨h1.trans (by rfl), h2⟩
set_option maxRecDepth 100000 in
set_option maxHeartbeats 1600000 in
theorem decimal_alive (w : World) : Calls Tryd.prog 72 #[.int .i64 (-5), .int .i64 2] w fun e w' => e = .returned (.tuple #[.string ⟨#[45, 48, 46, 48, 53]⟩, .int .i64 0]) ∧ Below w.heap.size w w' := by
  have e0 : (⟨#[48, 48]⟩ : ByteArray) ++ ⟨#[53]⟩ = ⟨#[48, 48, 53]⟩ := by decide
  go_enter Tryd.func72, Tryd.ntmps72
  go_upto_region 7 with (first
    | (go_at_call 78; refine (size_alive _).mono ?_; rintro e w1 ⟨rfl, rfl⟩)
    | (go_at_call 108; refine (format_alive _).mono ?_; rintro e w1 ⟨rfl, rfl⟩)
    | (go_at_call 109; refine (repeat_alive _).mono ?_; rintro e w1 ⟨rfl, hb⟩))
  go_quiet (fail)
  go_wp2
  go_ret2
  refine ⟨?_, hb.trans ⟨rfl, rfl, rfl, Nat.le_refl _, fun _ _ => rfl⟩⟩
  have e1 : (⟨#[45]⟩ : ByteArray) ++ ((⟨#[48, 48, 53]⟩ : ByteArray).extract 0 1 ++ ⟨#[46]⟩ ++ (⟨#[48, 48, 53]⟩ : ByteArray).extract 1 3) = ⟨#[45, 48, 46, 48, 53]⟩ := by decide
  exact congrArg (fun x => Ending.returned (.tuple #[.string x, .int .i64 0])) e1
end Go.Proofs.Num



namespace Go.Proofs.Num
open Go.RowKit Go.Proofs.YtdjnneflpkllmaaDoorW.PrintLast Go.Proofs.YtdjnneflpkllmaaDoorW.PrintWords Go.Proofs.YtdjnneflpkllmaaDoor.Q
set_option linter.unusedVariables false
set_option linter.unusedSimpArgs false
theorem best_alive (w : World) : Calls Tryd.prog 19 #[.int .i64 355, .int .i64 113, .int .i64 10] w fun e w' => e = .returned (.tuple #[.agg #[.int .i64 22, .int .i64 7], .int .i64 0]) ∧ Below w.heap.size w w' :=
  num_Best.calls 30 355 113 10 22 7 0 w (by kernel_rfl)
theorem valid_alive (w : World) : Calls Tryd.prog 26 #[.agg #[.int .i64 22, .int .i64 7]] w fun e w' => e = .returned (.bool true) ∧ Below w.heap.size w w' :=
  num_Valid.calls 30 22 7 true w (by kernel_rfl)
set_option maxRecDepth 100000 in
set_option maxHeartbeats 3200000 in
theorem alive_any (w : World) : Calls Tryd.prog 21 #[] w fun e w' => e = .returned (.bool true) ∧ Below w.heap.size w w' := by
  have hb0 : Below w.heap.size w (w.alloc (.cells #[.int .i64 3, .int .i64 3, .int .i64 1] 3)) := (Below.refl _ _).alloc (Nat.le_refl _) _
  have hh0 : (w.alloc (.cells #[.int .i64 3, .int .i64 3, .int .i64 1] 3)).heap[w.heap.size]? = some (.cells #[.int .i64 3, .int .i64 3, .int .i64 1] 3 (0, 0)) := by show (w.heap.push _)[w.heap.size]? = _; simp
  have AP := apportion_alive w.heap.size (w.alloc (.cells #[.int .i64 3, .int .i64 3, .int .i64 1] 3)) (by simp) ((blk_cell hh0 0).trans rfl) ((blk_cell hh0 1).trans rfl) ((blk_cell hh0 2).trans rfl)
  have HA := Lib.hid AP
  have HB0 := Lib.hid hb0
  clear AP hb0 hh0
  go_enter Tryd.func21, Tryd.ntmps21
  go_upto_region 3 with (first
    | (go_at_call 47; refine HA.out.mono ?_; rintro e w1 ⟨p, rfl, hp, y0, y1, y2, hb1⟩; have HY0 := Lib.hid y0; have HY1 := Lib.hid y1; have HY2 := Lib.hid y2; clear y0 y1 y2)
    | (go_at_call 19; refine (best_alive _).mono ?_; rintro e w2 ⟨rfl, hb2⟩))
  have hz2 : p < w2.heap.size := Nat.lt_of_lt_of_le hp hb2.size
  have y0 := (hb2.cell (p := ⟨p, 0, none⟩) hp).trans HY0.out
  have y1 := (hb2.cell (p := ⟨p, 1, none⟩) hp).trans HY1.out
  have y2 := (hb2.cell (p := ⟨p, 2, none⟩) hp).trans HY2.out
  have hbw : Below w.heap.size w w2 := (HB0.out.trans (hb1.mono (by simp))).trans (hb2.mono (HB0.out.trans (hb1.mono (by simp))).size)
  have hF : (w2.alloc (.cells #[.int .i64 22, .int .i64 7] 23)).heap[w2.heap.size]? = some (.cells #[.int .i64 22, .int .i64 7] 23 (0, 0)) := by show (w2.heap.push _)[w2.heap.size]? = _; simp
  have hbF : Below w2.heap.size w2 (w2.alloc (.cells #[.int .i64 22, .int .i64 7] 23)) := (Below.refl _ _).alloc (Nat.le_refl _) _
  have hsF : (w2.alloc (.cells #[.int .i64 22, .int .i64 7] 23)).heap.size = w2.heap.size + 1 := by simp
  clear hb1 hb2 hp HY0 HY1 HY2 HB0 HA
  generalize w2.alloc (.cells #[.int .i64 22, .int .i64 7] 23) = W at hF hbF hsF ⊢
  have SAME : ∀ w3, Below W.heap.size W w3 → Calls Tryd.prog 41 #[.slice (some ⟨p, 0, none⟩) 3 3, .slice (some ⟨w3.heap.size, 0, none⟩) 3 3] (w3.alloc (.cells #[.int .i64 4, .int .i64 4, .int .i64 2] 3)) fun e w' => e = .returned (.bool true) ∧ ∃ n, w' = (w3.alloc (.cells #[.int .i64 4, .int .i64 4, .int .i64 2] 3)).drewN n := by
    intro w3 h3
    have hh : (w3.alloc (.cells #[.int .i64 4, .int .i64 4, .int .i64 2] 3)).heap[w3.heap.size]? = some (.cells #[.int .i64 4, .int .i64 4, .int .i64 2] 3 (0, 0)) := by show (w3.heap.push _)[w3.heap.size]? = _; simp
    have hb : Below w2.heap.size w2 (w3.alloc (.cells #[.int .i64 4, .int .i64 4, .int .i64 2] 3)) := hbF.trans ((h3.alloc h3.size _).mono (by omega))
    exact same_alive _ _ _ ((hb.cell (p := ⟨p, 0, none⟩) hz2).trans y0) ((hb.cell (p := ⟨p, 1, none⟩) hz2).trans y1) ((hb.cell (p := ⟨p, 2, none⟩) hz2).trans y2) ((blk_cell hh 0).trans rfl) ((blk_cell hh 1).trans rfl) ((blk_cell hh 2).trans rfl)
  have FR : ∀ w3, Below W.heap.size W w3 → w3.cell? ⟨w2.heap.size, 0, none⟩ = some (.int .i64 22) ∧ w3.cell? ⟨w2.heap.size, 1, none⟩ = some (.int .i64 7) ∧ w2.heap.size < w3.heap.size := by
    intro w3 h3
    have hh := (h3.block w2.heap.size (by omega)).trans hF
    exact ⟨(blk_cell hh 0).trans rfl, (blk_cell hh 1).trans rfl, by have := h3.size; omega⟩
  have HS := Lib.hid SAME
  have HFR := Lib.hid FR
  have HW := Lib.hid (hbw.trans (hbF.mono hbw.size))
  have HWs : w.heap.size ≤ W.heap.size := HW.out.size
  clear SAME FR hF hbF hsF y0 y1 y2 hz2 hbw
  go_wp2_with (first
    | (go_at_call 72; refine (decimal_alive _).mono ?_; rintro e w3 ⟨rfl, hb3⟩; obtain ⟨f0, f1, f2⟩ := HFR.out w3 hb3; have hb3' := Lib.hid hb3; clear hb3)
    | (go_at_call 41; refine (HS.out w3 hb3'.out).mono ?_; rintro e w4 ⟨rfl, n, rfl⟩)
    | (go_at_call 26; refine (valid_alive _).mono ?_; rintro e w5 ⟨rfl, hb5⟩))
  go_ret
  have h1 := hb3'.out.size
  have hX : w.heap.size ≤ ((w3.alloc (.cells #[.int .i64 4, .int .i64 4, .int .i64 2] 3)).drewN n).heap.size := by
    show w.heap.size ≤ (w3.alloc _).heap.size
    simp
    omega
  exact ⟨rfl, HW.out.trans ((below_draws ((hb3'.out.alloc hb3'.out.size _).mono HWs) n).trans (hb5.mono hX))⟩
end Go.Proofs.Num

namespace Go.Proofs.YtdjnneflpkllmaaDoor.Q
open Go.RowKit Go.Proofs.YtdjnneflpkllmaaDoorW.PrintWords Go.Proofs.YtdjnneflpkllmaaDoorW.PrintLast Go.Proofs.YtdjnneflpkllmaaDoorW.PrintMore
attribute [local go_sem] max2_int min2_int max_two min_two max_three min_three max_four min_four   -- for this text's walks alone
set_option linter.unusedVariables false
set_option linter.unusedSimpArgs false
def merinolaw01_alive.f : Option Bool := some true
theorem merinolaw01_alive.calls (r : Bool) (w : World) (h : merinolaw01_alive.f = some r) : Calls Tryd.prog 21 #[] w fun e w' => e = .returned (.bool r) ∧ Below w.heap.size w w' := by
  obtain rfl : true = r := Option.some.inj h
  exact Go.Proofs.Num.alive_any w
end Go.Proofs.YtdjnneflpkllmaaDoor.Q

namespace Go.Proofs.YtdjnneflpkllmaaDoor.Q
open Go.RowKit Go.Proofs.YtdjnneflpkllmaaDoorW.PrintWords Go.Proofs.YtdjnneflpkllmaaDoorW.PrintLast Go.Proofs.YtdjnneflpkllmaaDoorW.PrintMore
attribute [local go_sem] max2_int min2_int max_two min_two max_three min_three max_four min_four   -- for this text's walks alone
set_option linter.unusedVariables false
set_option linter.unusedSimpArgs false
end Go.Proofs.YtdjnneflpkllmaaDoor.Q

namespace Go.Proofs.Num
open Go.RowKit Go.Proofs.YtdjnneflpkllmaaDoorW.PrintWords Go.Proofs.YtdjnneflpkllmaaDoorW.PrintMore Go.Proofs.YtdjnneflpkllmaaDoor.Q
set_option linter.unusedVariables false
set_option linter.unusedSimpArgs false
theorem rcmp_ok (n d p q : Int) : Ev (fun k => merinoref01_Cmp.f k n d p q) (if valid n d ∧ valid p q then (cmpI (n * q) (p * d), 0) else (0, 2)) := by
  have hj : Ev (fun k => merinoref01_Cmp.j0 k true n d p q) (0, 2) := Ev.step (f := fun _ => some (0, 2)) (fun k => by rw [merinoref01_Cmp.j0, if_pos rfl]) (Ev.now _)
  unfold merinoref01_Cmp.f
  refine Ev.bind (rvalid_ok n d) ?_
  by_cases h1 : valid n d
  · simp only [h1, decide_true, if_true, true_and]
    refine Ev.bind (rvalid_ok p q) ?_
    by_cases h2 : valid p q
    · simp only [h2, decide_true, if_true, Bool.not_true]
      obtain ⟨a1, a2, a3, a4, _⟩ := h1
      obtain ⟨b1, b2, b3, b4, _⟩ := h2
      obtain ⟨rn, En, Rn, ln⟩ := of_ok (x := n) (by omega) (by omega)
      obtain ⟨rd, Ed, Rd, ld⟩ := of_ok (x := d) (by omega) (by omega)
      obtain ⟨rp, Ep, Rp, lp⟩ := of_ok (x := p) (by omega) (by omega)
      obtain ⟨rq, Eq, Rq, lq⟩ := of_ok (x := q) (by omega) (by omega)
      obtain ⟨r1, E1, R1, l1⟩ := times_ok Rn Rq (by omega)
      obtain ⟨r2, E2, R2, l2⟩ := times_ok Rp Rd (by omega)
      refine Ev.step (f := fun k => ((merinoref01_Of.f k n).bind fun bt504 => ((merinoref01_Of.f k q).bind fun bt508 => ((merinoref01_Times.f k bt504.1 bt504.2 bt508.1 bt508.2).bind fun bt512 => ((merinoref01_Of.f k p).bind fun bt516 => ((merinoref01_Of.f k d).bind fun bt520 => ((merinoref01_Times.f k bt516.1 bt516.2 bt520.1 bt520.2).bind fun bt524 => ((merinoref01_Compare.f k bt512.1 bt512.2 bt524.1 bt524.2).bind fun t528 => (some (t528, 0)))))))))) (fun k => by rw [merinoref01_Cmp.j0, if_neg (by decide)]) ?_
      exact Ev.bind En (Ev.bind Eq (Ev.bind E1 (Ev.bind Ep (Ev.bind Ed (Ev.bind E2 (Ev.bind (compare_ok R1 R2 (show r1.length ≤ 1000 by omega)) (Ev.now _)))))))
    · simp only [h2, decide_false, Bool.false_eq_true, if_false, Bool.not_false]
      exact hj
  · simp only [h1, decide_false, Bool.false_eq_true, if_false, false_and]
    exact hj
end Go.Proofs.Num

namespace Go.Proofs.YtdjnneflpkllmaaDoor.Q
open Go.RowKit Go.Proofs.YtdjnneflpkllmaaDoorW.PrintWords Go.Proofs.YtdjnneflpkllmaaDoorW.PrintLast Go.Proofs.YtdjnneflpkllmaaDoorW.PrintMore
attribute [local go_sem] max2_int min2_int max_two min_two max_three min_three max_four min_four   -- for this text's walks alone
set_option linter.unusedVariables false
set_option linter.unusedSimpArgs false
mutual
def merinoref01_Best.j0 : Nat → Int → Int → Int → Bool → Option (Int × Int × Int)
  | 0, _, _, _, _ => none
  | k + 1, x0, x1, x2, x35 => if x35 = true then (some (0, 0, 2)) else (merinoref01_Best.l0 k x0 x1 x2 0 1 0 0)
def merinoref01_Best.l0 : Nat → Int → Int → Int → Int → Int → Int → Int → Option (Int × Int × Int)
  | 0, _, _, _, _, _, _, _ => none
  | k + 1, x0, x1, x2, x9, x10, x115000, x115001 => if x10 ≤ x2 then (if x1 = 0 then (none) else (if (Int.tmod (wrap64 (x0 * x10)) x1) < 0 then (merinoref01_Best.j2 k x0 x1 x2 x9 x10 (wrap64 ((wrap64 (Int.tdiv (wrap64 (x0 * x10)) x1)) - 1)) x115000 x115001) else (merinoref01_Best.j2 k x0 x1 x2 x9 x10 (wrap64 (Int.tdiv (wrap64 (x0 * x10)) x1)) x115000 x115001))) else (some (x115000, x115001, 0))
def merinoref01_Best.j2 : Nat → Int → Int → Int → Int → Int → Int → Int → Int → Option (Int × Int × Int)
  | 0, _, _, _, _, _, _, _, _ => none
  | k + 1, x0, x1, x2, x9, x10, x11, x115000, x115001 => merinoref01_Best.l1 k x0 x1 x2 x9 x10 x11 0 x115000 x115001
def merinoref01_Best.l1 : Nat → Int → Int → Int → Int → Int → Int → Int → Int → Int → Option (Int × Int × Int)
  | 0, _, _, _, _, _, _, _, _, _ => none
  | k + 1, x0, x1, x2, x9, x10, x11, x12, x115000, x115001 => if x12 < 2 then (if (wrap64 ((wrap64 (x0 * x10)) - (wrap64 ((wrap64 (x11 + x12)) * x1)))) < 0 then (if x115001 = 0 then (merinoref01_Best.l1 k x0 x1 x2 (wrap64 (-(wrap64 ((wrap64 (x0 * x10)) - (wrap64 ((wrap64 (x11 + x12)) * x1)))))) x10 x11 (wrap64 (x12 + 1)) (wrap64 (x11 + x12)) x10) else (if (wrap64 ((wrap64 (-(wrap64 ((wrap64 (x0 * x10)) - (wrap64 ((wrap64 (x11 + x12)) * x1)))))) * x115001)) < (wrap64 (x9 * x10)) then (merinoref01_Best.l1 k x0 x1 x2 (wrap64 (-(wrap64 ((wrap64 (x0 * x10)) - (wrap64 ((wrap64 (x11 + x12)) * x1)))))) x10 x11 (wrap64 (x12 + 1)) (wrap64 (x11 + x12)) x10) else (merinoref01_Best.l1 k x0 x1 x2 x9 x10 x11 (wrap64 (x12 + 1)) x115000 x115001))) else (if x115001 = 0 then (merinoref01_Best.l1 k x0 x1 x2 (wrap64 ((wrap64 (x0 * x10)) - (wrap64 ((wrap64 (x11 + x12)) * x1)))) x10 x11 (wrap64 (x12 + 1)) (wrap64 (x11 + x12)) x10) else (if (wrap64 ((wrap64 ((wrap64 (x0 * x10)) - (wrap64 ((wrap64 (x11 + x12)) * x1)))) * x115001)) < (wrap64 (x9 * x10)) then (merinoref01_Best.l1 k x0 x1 x2 (wrap64 ((wrap64 (x0 * x10)) - (wrap64 ((wrap64 (x11 + x12)) * x1)))) x10 x11 (wrap64 (x12 + 1)) (wrap64 (x11 + x12)) x10) else (merinoref01_Best.l1 k x0 x1 x2 x9 x10 x11 (wrap64 (x12 + 1)) x115000 x115001)))) else (merinoref01_Best.l0 k x0 x1 x2 x9 (wrap64 (x10 + 1)) x115000 x115001)
end
def merinoref01_Best.f (k : Nat) (a0 : Int) (a1 : Int) (a2 : Int) : Option (Int × Int × Int) := if a0 < (-1099511627776) then (merinoref01_Best.j0 k a0 a1 a2 true) else (if a0 > 1099511627776 then (merinoref01_Best.j0 k a0 a1 a2 true) else (if a1 < 1 then (merinoref01_Best.j0 k a0 a1 a2 true) else (if a1 > 1099511627776 then (merinoref01_Best.j0 k a0 a1 a2 true) else (if a2 < 1 then (merinoref01_Best.j0 k a0 a1 a2 true) else (merinoref01_Best.j0 k a0 a1 a2 (decide (a2 > 1048576)))))))
theorem merinoref01_Best.mono_l : ∀ k, (∀ y0 y1 y2 y3, LeO (merinoref01_Best.j0 k y0 y1 y2 y3) (merinoref01_Best.j0 (k + 1) y0 y1 y2 y3)) ∧ (∀ y0 y1 y2 y3 y4 y5 y6, LeO (merinoref01_Best.l0 k y0 y1 y2 y3 y4 y5 y6) (merinoref01_Best.l0 (k + 1) y0 y1 y2 y3 y4 y5 y6)) ∧ (∀ y0 y1 y2 y3 y4 y5 y6 y7, LeO (merinoref01_Best.j2 k y0 y1 y2 y3 y4 y5 y6 y7) (merinoref01_Best.j2 (k + 1) y0 y1 y2 y3 y4 y5 y6 y7)) ∧ (∀ y0 y1 y2 y3 y4 y5 y6 y7 y8, LeO (merinoref01_Best.l1 k y0 y1 y2 y3 y4 y5 y6 y7 y8) (merinoref01_Best.l1 (k + 1) y0 y1 y2 y3 y4 y5 y6 y7 y8))
  | 0 => ⟨fun _ _ _ _ r h => by simp [merinoref01_Best.j0] at h, fun _ _ _ _ _ _ _ r h => by simp [merinoref01_Best.l0] at h, fun _ _ _ _ _ _ _ _ r h => by simp [merinoref01_Best.j2] at h, fun _ _ _ _ _ _ _ _ _ r h => by simp [merinoref01_Best.l1] at h⟩
  | k + 1 => by
    obtain ⟨ih0, ih1, ih2, ih3⟩ := merinoref01_Best.mono_l k
    refine ⟨?_, ?_, ?_, ?_⟩
    · intro y0 y1 y2 y3
      unfold merinoref01_Best.j0
      repeat' first
      | (with_reducible exact ih0 _ _ _ _)
      | (with_reducible exact ih1 _ _ _ _ _ _ _)
      | (with_reducible exact ih2 _ _ _ _ _ _ _ _)
      | (with_reducible exact ih3 _ _ _ _ _ _ _ _ _)
      | (with_reducible exact LeO.refl _)
      | (with_reducible exact LeO.none _)
      | (with_reducible refine LeO.ite ?_ ?_)
      | (with_reducible refine LeO.bind ?_ (fun _ => ?_))
      | exact ih0 _ _ _ _
      | exact ih1 _ _ _ _ _ _ _
      | exact ih2 _ _ _ _ _ _ _ _
      | exact ih3 _ _ _ _ _ _ _ _ _
      | exact LeO.none _
      | refine LeO.ite ?_ ?_
      | refine LeO.bind ?_ (fun _ => ?_)
    · intro y0 y1 y2 y3 y4 y5 y6
      unfold merinoref01_Best.l0
      repeat' first
      | (with_reducible exact ih0 _ _ _ _)
      | (with_reducible exact ih1 _ _ _ _ _ _ _)
      | (with_reducible exact ih2 _ _ _ _ _ _ _ _)
      | (with_reducible exact ih3 _ _ _ _ _ _ _ _ _)
      | (with_reducible exact LeO.refl _)
      | (with_reducible exact LeO.none _)
      | (with_reducible refine LeO.ite ?_ ?_)
      | (with_reducible refine LeO.bind ?_ (fun _ => ?_))
      | exact ih0 _ _ _ _
      | exact ih1 _ _ _ _ _ _ _
      | exact ih2 _ _ _ _ _ _ _ _
      | exact ih3 _ _ _ _ _ _ _ _ _
      | exact LeO.none _
      | refine LeO.ite ?_ ?_
      | refine LeO.bind ?_ (fun _ => ?_)
    · intro y0 y1 y2 y3 y4 y5 y6 y7
      unfold merinoref01_Best.j2
      repeat' first
      | (with_reducible exact ih0 _ _ _ _)
      | (with_reducible exact ih1 _ _ _ _ _ _ _)
      | (with_reducible exact ih2 _ _ _ _ _ _ _ _)
      | (with_reducible exact ih3 _ _ _ _ _ _ _ _ _)
      | (with_reducible exact LeO.refl _)
      | (with_reducible exact LeO.none _)
      | (with_reducible refine LeO.ite ?_ ?_)
      | (with_reducible refine LeO.bind ?_ (fun _ => ?_))
      | exact ih0 _ _ _ _
      | exact ih1 _ _ _ _ _ _ _
      | exact ih2 _ _ _ _ _ _ _ _
      | exact ih3 _ _ _ _ _ _ _ _ _
      | exact LeO.none _
      | refine LeO.ite ?_ ?_
      | refine LeO.bind ?_ (fun _ => ?_)
    · intro y0 y1 y2 y3 y4 y5 y6 y7 y8
      unfold merinoref01_Best.l1
      repeat' first
      | (with_reducible exact ih0 _ _ _ _)
      | (with_reducible exact ih1 _ _ _ _ _ _ _)
      | (with_reducible exact ih2 _ _ _ _ _ _ _ _)
      | (with_reducible exact ih3 _ _ _ _ _ _ _ _ _)
      | (with_reducible exact LeO.refl _)
      | (with_reducible exact LeO.none _)
      | (with_reducible refine LeO.ite ?_ ?_)
      | (with_reducible refine LeO.bind ?_ (fun _ => ?_))
      | exact ih0 _ _ _ _
      | exact ih1 _ _ _ _ _ _ _
      | exact ih2 _ _ _ _ _ _ _ _
      | exact ih3 _ _ _ _ _ _ _ _ _
      | exact LeO.none _
      | refine LeO.ite ?_ ?_
      | refine LeO.bind ?_ (fun _ => ?_)
theorem merinoref01_Best.mono : ∀ a0 a1 a2 k, LeO (merinoref01_Best.f k a0 a1 a2) (merinoref01_Best.f (k + 1) a0 a1 a2) := by
  intro a0 a1 a2 k
  obtain ⟨ih0, ih1, ih2, ih3⟩ := merinoref01_Best.mono_l k
  unfold merinoref01_Best.f
  repeat' first
      | (with_reducible exact ih0 _ _ _ _)
      | (with_reducible exact ih1 _ _ _ _ _ _ _)
      | (with_reducible exact ih2 _ _ _ _ _ _ _ _)
      | (with_reducible exact ih3 _ _ _ _ _ _ _ _ _)
      | (with_reducible exact LeO.refl _)
      | (with_reducible exact LeO.none _)
      | (with_reducible refine LeO.ite ?_ ?_)
      | (with_reducible refine LeO.bind ?_ (fun _ => ?_))
      | exact ih0 _ _ _ _
      | exact ih1 _ _ _ _ _ _ _
      | exact ih2 _ _ _ _ _ _ _ _
      | exact ih3 _ _ _ _ _ _ _ _ _
      | exact LeO.none _
      | refine LeO.ite ?_ ?_
      | refine LeO.bind ?_ (fun _ => ?_)
end Go.Proofs.YtdjnneflpkllmaaDoor.Q

namespace Go.Proofs.YtdjnneflpkllmaaDoor.Q
open Go.RowKit Go.Proofs.YtdjnneflpkllmaaDoorW.PrintWords Go.Proofs.YtdjnneflpkllmaaDoorW.PrintLast Go.Proofs.YtdjnneflpkllmaaDoorW.PrintMore
attribute [local go_sem] max2_int min2_int max_two min_two max_three min_three max_four min_four   -- for this text's walks alone
set_option linter.unusedVariables false
set_option linter.unusedSimpArgs false
end Go.Proofs.YtdjnneflpkllmaaDoor.Q

namespace Go.Proofs.Num
open Go.RowKit Go.Proofs.YtdjnneflpkllmaaDoorW.PrintWords Go.Proofs.YtdjnneflpkllmaaDoorW.PrintMore Go.Proofs.YtdjnneflpkllmaaDoor.Q
set_option linter.unusedVariables false
set_option linter.unusedSimpArgs false
/-- The arguments that Best takes. -/
def bestOk (n d M : Int) : Prop := -1099511627776 ≤ n ∧ n ≤ 1099511627776 ∧ 1 ≤ d ∧ d ≤ 1099511627776 ∧ 1 ≤ M ∧ M ≤ 1048576
instance (n d M : Int) : Decidable (bestOk n d M) := by unfold bestOk; infer_instance
end Go.Proofs.Num

namespace Go.Proofs.YtdjnneflpkllmaaDoor.Q
open Go.RowKit Go.Proofs.YtdjnneflpkllmaaDoorW.PrintWords Go.Proofs.YtdjnneflpkllmaaDoorW.PrintLast Go.Proofs.YtdjnneflpkllmaaDoorW.PrintMore
attribute [local go_sem] max2_int min2_int max_two min_two max_three min_three max_four min_four   -- for this text's walks alone
set_option linter.unusedVariables false
set_option linter.unusedSimpArgs false
def merinoref01_Minus.f (k : Nat) (a0_0 : Bool) (l0_1 : List Int) (a1_0 : Bool) (l1_1 : List Int) : Option (Bool × List Int) := (merinoref01_Neg.f k a1_0 l1_1).bind fun bt283 => ((merinoref01_Plus.f k a0_0 l0_1 bt283.1 bt283.2).bind fun bt287 => (some (bt287.1, bt287.2)))
theorem merinoref01_Minus.mono : ∀ a0 a1 a2 a3 k, LeO (merinoref01_Minus.f k a0 a1 a2 a3) (merinoref01_Minus.f (k + 1) a0 a1 a2 a3) := by
  intro a0 a1 a2 a3 k
  unfold merinoref01_Minus.f
  repeat' first
      | (with_reducible exact merinoref01_Neg.mono _ _ _)
      | (with_reducible exact merinoref01_Plus.mono _ _ _ _ _)
      | (with_reducible exact LeO.refl _)
      | (with_reducible exact LeO.none _)
      | (with_reducible refine LeO.ite ?_ ?_)
      | (with_reducible refine LeO.bind ?_ (fun _ => ?_))
      | exact merinoref01_Neg.mono _ _ _
      | exact merinoref01_Plus.mono _ _ _ _ _
      | exact LeO.none _
      | refine LeO.ite ?_ ?_
      | refine LeO.bind ?_ (fun _ => ?_)
set_option maxHeartbeats 8000000 in
set_option maxRecDepth 100000 in
theorem merinoref01_Minus.calls (k : Nat) (a0_0 : Bool) (A0_1 : Option Addr) (c0_1 : Nat) (l0_1 : List Int) (a1_0 : Bool) (A1_1 : Option Addr) (c1_1 : Nat) (l1_1 : List Int) (r1 : Bool) (r2 : List Int) (w : World) (hr0_1 : Kd.C (Kd.int .i64) w A0_1 l0_1.length l0_1) (hc0_1 : l0_1.length ≤ c0_1) (hr1_1 : Kd.C (Kd.int .i64) w A1_1 l1_1.length l1_1) (hc1_1 : l1_1.length ≤ c1_1) (h : merinoref01_Minus.f k a0_0 l0_1 a1_0 l1_1 = some (r1, r2)) :
    Calls Tryd.prog 68 #[.agg #[.bool a0_0, .slice A0_1 l0_1.length c0_1], .agg #[.bool a1_0, .slice A1_1 l1_1.length c1_1]] w fun e w' => ∃ v1_ : Value, e = .returned (.agg #[.bool r1, v1_]) ∧ Kd.R (Kd.int .i64) 3 w' w.heap.size (fun _ => True) v1_ r2 ∧ Below w.heap.size w w' := by
  have hu31 := Tryd.underlying31
  have HR0_1 := Aside0.mk hr0_1
  have HC0_1 := Aside0.mk hc0_1
  clear hr0_1 hc0_1
  have HR1_1 := Aside0.mk hr1_1
  have HC1_1 := Aside0.mk hc1_1
  clear hr1_1 hc1_1
  have HB := Aside0.mk (Below.refl w.heap.size w)
  have H : ((merinoref01_Neg.f k a1_0 l1_1).bind fun bt283 => ((merinoref01_Plus.f k a0_0 l0_1 bt283.1 bt283.2).bind fun bt287 => (some (bt287.1, bt287.2)))) = some (r1, r2) := h
  clear h
  replace H := Option.bind_eq_some_iff.mp H
  obtain ⟨⟨t283, t284⟩, A30, H⟩ := H
  replace H : ((merinoref01_Plus.f k a0_0 l0_1 t283 t284).bind fun bt287 => (some (bt287.1, bt287.2))) = some (r1, r2) := H
  have A3 := Aside0.mk A30
  clear A30
  replace H := Option.bind_eq_some_iff.mp H
  obtain ⟨⟨t287, t288⟩, A40, H⟩ := H
  replace H : (some (t287, t288)) = some (r1, r2) := H
  have A4 := Aside0.mk A40
  clear A40
  simp only [Option.some.injEq, Prod.mk.injEq] at H
  obtain ⟨rfl, rfl⟩ := H
  go_enter Tryd.func68, Tryd.ntmps68
  try go_wp2_with (first | ((with_reducible refine gate_dst (N := 2) rfl ?_); refine qx_ 2 #[.bool a0_0, .slice A0_1 l0_1.length c0_1] 31 ?hr ?_; (case hr => first | (go_simp; done) | (go_simp; rfl)); intro gb280 hg w5 hbox hb; have n0_ := Aside0.mk (below_step (q0_ HB.out) hb); have n1_ := Aside0.mk (hbox); have n2_ := Aside0.mk (qs_ hg (q0_ HB.out) : w.heap.size ≤ gb280); have n3_ := n2_; clear HB; have HB := n0_; have BK280 := n1_; have GW280 := n2_; have GE280 := n3_; clear n0_ n1_ n2_ n3_; clear hb hbox hg) | ((with_reducible refine gate_dst (N := 3) rfl ?_); refine qx_ 3 #[.bool a1_0, .slice A1_1 l1_1.length c1_1] 31 ?hr ?_; (case hr => first | (go_simp; done) | (go_simp; rfl)); intro gb281 hg w6 hbox hb; have n0_ := Aside0.mk (qk_ BK280.out hb); have n1_ := Aside0.mk (below_step (q1_ HB.out GE280.out) hb); have n2_ := Aside0.mk (hbox); have n3_ := Aside0.mk (qs_ hg (q1_ HB.out GE280.out) : w.heap.size ≤ gb281); have n4_ := n3_; have n5_ := Aside0.mk (qn_ hg BK280.out); have n6_ := Aside0.mk (Ne.symm (qn_ hg BK280.out)); clear BK280; clear HB; have BK280 := n0_; have HB := n1_; have BK281 := n2_; have GW281 := n3_; have GE281 := n4_; have NB280_281 := n5_; have NB281_280 := n6_; clear n0_ n1_ n2_ n3_ n4_ n5_ n6_; clear hb hbox hg) | ((with_reducible refine gate_dst (N := 4) rfl ?_); refine qx_ 4 #[.bool false, .slice none 0 0] 31 ?hr ?_; (case hr => first | (go_simp; done) | (go_simp; rfl)); intro gb282 hg w7 hbox hb; have n0_ := Aside0.mk (qk_ BK280.out hb); have n1_ := Aside0.mk (qk_ BK281.out hb); have n2_ := Aside0.mk (below_step (q2_ HB.out GE280.out GE281.out) hb); have n3_ := Aside0.mk (hbox); have n4_ := Aside0.mk (qs_ hg (q2_ HB.out GE280.out GE281.out) : w.heap.size ≤ gb282); have n5_ := n4_; have n6_ := Aside0.mk (qn_ hg BK280.out); have n7_ := Aside0.mk (Ne.symm (qn_ hg BK280.out)); have n8_ := Aside0.mk (qn_ hg BK281.out); have n9_ := Aside0.mk (Ne.symm (qn_ hg BK281.out)); clear BK280; clear BK281; clear HB; have BK280 := n0_; have BK281 := n1_; have HB := n2_; have BK282 := n3_; have GW282 := n4_; have GE282 := n5_; have NB280_282 := n6_; have NB282_280 := n7_; have NB281_282 := n8_; have NB282_281 := n9_; clear n0_ n1_ n2_ n3_ n4_ n5_ n6_ n7_ n8_ n9_; clear hb hbox hg))
  have n0_ := Aside0.mk (blk_drew BK280.out)
  have n1_ := Aside0.mk (blk_drew BK281.out)
  have n2_ := Aside0.mk (blk_drew BK282.out)
  have n3_ := Aside0.mk (below_drew1 HB.out)
  clear BK280
  clear BK281
  clear BK282
  clear HB
  have BK280 := n0_
  have BK281 := n1_
  have BK282 := n2_
  have HB := n3_
  clear n0_ n1_ n2_ n3_
  refine start_ (n := 5) (S := fun w' => w'.cell? ⟨gb280, 0, none⟩ = some (.bool a0_0) ∧ w'.cell? ⟨gb280, 1, none⟩ = some (.slice A0_1 l0_1.length c0_1) ∧ w'.cell? ⟨gb281, 0, none⟩ = some (.bool a1_0) ∧ w'.cell? ⟨gb281, 1, none⟩ = some (.slice A1_1 l1_1.length c1_1)) (ds := []) #[false, false, false, false, false] (by kernel_rfl) rfl rfl ⟨(blk_cell BK280.out 0).trans rfl, (blk_cell BK280.out 1).trans rfl, (blk_cell BK281.out 0).trans rfl, (blk_cell BK281.out 1).trans rfl⟩ (fun hHeld => ?_)
  generalize w7.drew = w8 at BK280 BK281 BK282 HB hHeld ⊢
  refine take_ (i := 0) (N := some 5) (v := ?_) (a' := ?_) #[true, false, false, false, false] rfl rfl (by kernel_rfl) (fun _ _ _ h => h) (Or.inl ⟨by rfl, ?_⟩) hHeld ?_ ?_
  rotate_left
  · rintro w' ⟨s0, s1, s2, s3⟩
    go_simp
    with_reducible rfl
  rotate_left
  · simp only [Act.put, List.setIfInBounds_toArray, List.set_cons_zero, List.set_cons_succ, i64_w, i32_w]
    rfl
  refine take_ (i := 1) (N := some 6) (v := ?_) (a' := ?_) #[true, true, false, false, false] rfl rfl (by kernel_rfl) (fun _ _ _ h => h) (Or.inl ⟨by rfl, ?_⟩) hHeld ?_ ?_
  rotate_left
  · rintro w' ⟨s0, s1, s2, s3⟩
    go_simp
    with_reducible rfl
  rotate_left
  · simp only [Act.put, List.setIfInBounds_toArray, List.set_cons_zero, List.set_cons_succ, i64_w, i32_w]
    rfl
  refine one_ (i := 2) (N := some 7) #[true, true, true, false, false] rfl rfl (by kernel_rfl) (by decide) (fun K hK => ?_)
  refine goes_ Tryd.func75 (by kernel_rfl) rfl #[.agg #[.bool a1_0, .slice A1_1 l1_1.length c1_1]] (by rfl) rfl rfl qe_ ?_
  with_reducible refine (merinoref01_Neg.calls k a1_0 _ _ l1_1 t283 t284 _ ?side1 ?side2 A3.out).mono ?_
  (case side1 => exact qc_ (Kd.C_below HR1_1.out HB.out))
  (case side2 => exact HC1_1.out)
  rintro e w9 ⟨v285, rfl, ho0, hb⟩
  refine ⟨_, rfl, ?_⟩
  have n0_ := Aside0.mk (Kd.R_lower ho0 (below_size (q3_ HB.out GE280.out GE281.out GE282.out)))
  have n1_ := Aside0.mk (qk_ BK280.out hb)
  have n2_ := Aside0.mk (qk_ BK281.out hb)
  have n3_ := Aside0.mk (qk_ BK282.out hb)
  have n4_ := Aside0.mk (below_step (q3_ HB.out GE280.out GE281.out GE282.out) hb)
  clear BK280
  clear BK281
  clear BK282
  clear HB
  have HO286 := n0_
  have BK280 := n1_
  have BK281 := n2_
  have BK282 := n3_
  have HB := n4_
  clear n0_ n1_ n2_ n3_ n4_
  (try clear hb)
  (try clear hb2)
  (try clear hk)
  (try clear hi)
  (try clear ho0)
  obtain ⟨Ao10, co10, eo10⟩ := Kd.R_slice HO286.out
  (first | subst eo10 | (injection eo10 with f1_ f2_ f3_; have f4_ := f1_.symm; have f5_ := f3_.symm; clear f1_ f2_ f3_; subst f4_; subst f5_))
  refine hK.out _ _ ⟨(blk_cell BK280.out 0).trans rfl, (blk_cell BK280.out 1).trans rfl, (blk_cell BK281.out 0).trans rfl, (blk_cell BK281.out 1).trans rfl⟩ (fun hHeld => ?_)
  clear hK K
  refine norm_ (a' := ?_) ?_ ?_
  rotate_left
  · show Act.put _ (some 7) _ = _
    simp only [Act.put, List.setIfInBounds_toArray, List.set_cons_zero, List.set_cons_succ, i64_w, i32_w]
    rfl
  refine one_ (i := 3) (N := some 8) #[true, true, true, true, false] rfl rfl (by kernel_rfl) (by decide) (fun K hK => ?_)
  refine goes_ Tryd.func84 (by kernel_rfl) rfl #[.agg #[.bool a0_0, .slice A0_1 l0_1.length c0_1], .agg #[.bool t283, .slice Ao10 t284.length co10]] (by rfl) rfl rfl qe_ ?_
  with_reducible refine (merinoref01_Plus.calls k a0_0 _ _ l0_1 t283 _ _ t284 t287 t288 _ ?side1 ?side2 ?side3 ?side4 A4.out).mono ?_
  (case side1 => exact qc_ (Kd.C_below HR0_1.out HB.out))
  (case side2 => exact HC0_1.out)
  (case side3 => exact qc_ (Kd.R_reads' HO286.out).2.2)
  (case side4 => exact (Kd.R_reads' HO286.out).2.1)
  rintro e w11 ⟨v289, rfl, ho0, hb⟩
  refine ⟨_, rfl, ?_⟩
  have n0_ := Aside0.mk (Kd.R_elder' (qr_ HO286.out) (Kd.R_base ho0) hb)
  have n1_ := Aside0.mk (Kd.R_lower (Kd.R_new' ho0 (Kd.R_lt (qr_ HO286.out))) (below_size (q3_ HB.out GE280.out GE281.out GE282.out)))
  have n2_ := Aside0.mk (qk_ BK280.out hb)
  have n3_ := Aside0.mk (qk_ BK281.out hb)
  have n4_ := Aside0.mk (qk_ BK282.out hb)
  have n5_ := Aside0.mk (below_step (q3_ HB.out GE280.out GE281.out GE282.out) hb)
  clear HO286
  clear BK280
  clear BK281
  clear BK282
  clear HB
  have HO286 := n0_
  have HO290 := n1_
  have BK280 := n2_
  have BK281 := n3_
  have BK282 := n4_
  have HB := n5_
  clear n0_ n1_ n2_ n3_ n4_ n5_
  (try clear hb)
  (try clear hb2)
  (try clear hk)
  (try clear hi)
  (try clear ho0)
  obtain ⟨Ao13, co13, eo13⟩ := Kd.R_slice HO290.out
  (first | subst eo13 | (injection eo13 with f1_ f2_ f3_; have f4_ := f1_.symm; have f5_ := f3_.symm; clear f1_ f2_ f3_; subst f4_; subst f5_))
  refine hK.out _ _ ⟨(blk_cell BK280.out 0).trans rfl, (blk_cell BK280.out 1).trans rfl, (blk_cell BK281.out 0).trans rfl, (blk_cell BK281.out 1).trans rfl⟩ (fun hHeld => ?_)
  clear hK K
  refine norm_ (a' := ?_) ?_ ?_
  rotate_left
  · show Act.put _ (some 8) _ = _
    simp only [Act.put, List.setIfInBounds_toArray, List.set_cons_zero, List.set_cons_succ, i64_w, i32_w]
    rfl
  refine one_ (i := 4) (N := none) #[true, true, true, true, true] rfl rfl (by kernel_rfl) (by decide) (fun K hK => ?_)
  have hs12 : w11.cell? ⟨gb282, 0, none⟩ = some (.bool false) := (blk_cell BK282.out 0).trans rfl
  have hfs12 := blk_frozen BK282.out 0
  have hns12_0 := NB280_282.out
  have hns12_1 := NB281_282.out
  have hms12_0 := NB282_280.out
  have hms12_1 := NB282_281.out
  have hs14 : w11.cell? ⟨gb282, 1, none⟩ = some (.slice none 0 0) := (blk_cell BK282.out 1).trans rfl
  have hfs14 := blk_frozen BK282.out 1
  have hns14_0 := NB280_282.out
  have hns14_1 := NB281_282.out
  have hms14_0 := NB282_280.out
  have hms14_1 := NB282_281.out
  refine skip_ (w1 := ?_) (by rfl) rfl ?_ ?_
  rotate_left
  · go_simp
    rfl
  refine hK.out _ _ ⟨((cell_far (p := ⟨gb282, _, none⟩) NB280_282.out _).trans (((cell_far (p := ⟨gb282, _, none⟩) NB280_282.out _).trans (hHeld.1)))), ((cell_far (p := ⟨gb282, _, none⟩) NB280_282.out _).trans (((cell_far (p := ⟨gb282, _, none⟩) NB280_282.out _).trans (hHeld.2.1)))), ((cell_far (p := ⟨gb282, _, none⟩) NB281_282.out _).trans (((cell_far (p := ⟨gb282, _, none⟩) NB281_282.out _).trans (hHeld.2.2.1)))), ((cell_far (p := ⟨gb282, _, none⟩) NB281_282.out _).trans (((cell_far (p := ⟨gb282, _, none⟩) NB281_282.out _).trans (hHeld.2.2.2))))⟩ (fun hHeld => ?_)
  clear hK K
  refine done_ (by kernel_rfl) ?_
  try go_wp2
  refine bodyPost_ret (results_cell_row rfl _ _ gb282 31 #[.bool t287, .slice Ao13 t288.length co13] (0, 0) _ rfl (by (with_reducible repeat (first | refine blk_drewN ?_ _ | refine blk_drew ?_ | refine blk_alloc ?_ _)); refine blk_put (cs := #[.bool t287, .slice none 0 0]) ?_ 1 _ rfl; (with_reducible repeat (first | refine blk_drewN ?_ _ | refine blk_drew ?_ | refine blk_alloc ?_ _)); refine blk_put (cs := #[.bool false, .slice none 0 0]) ?_ 0 _ rfl; (with_reducible repeat (first | refine blk_drewN ?_ _ | refine blk_drew ?_ | refine blk_alloc ?_ _)); exact BK282.out) Tryd.underlying31 rfl (by kernel_rfl)) rfl ?_
  exact ⟨_, by first | rfl | (simp [errW_none, errW_some] <;> rfl) | (simp [*, errW_none, errW_some] <;> rfl), by (with_reducible repeat (first | apply Kd.R_alloc | apply Kd.R_drewN | apply Kd.R_drew)); exact Kd.R_mono (Kd.R_far (p := ⟨gb282, 1, none⟩) (Kd.R_far (p := ⟨gb282, 0, none⟩) (Kd.R_types HO290.out BK282.out (by decide)) (fun _ hk => hk.2) (.bool t287)) (fun _ hk => hk.2) (.slice Ao13 t288.length co13)) (fun _ hk => trivial), (q3_ HB.out GE280.out GE281.out GE282.out)⟩
end Go.Proofs.YtdjnneflpkllmaaDoor.Q

namespace Go.Proofs.YtdjnneflpkllmaaDoor.Q
open Go.RowKit Go.Proofs.YtdjnneflpkllmaaDoorW.PrintWords Go.Proofs.YtdjnneflpkllmaaDoorW.PrintLast Go.Proofs.YtdjnneflpkllmaaDoorW.PrintMore
attribute [local go_sem] max2_int min2_int max_two min_two max_three min_three max_four min_four   -- for this text's walks alone
set_option linter.unusedVariables false
set_option linter.unusedSimpArgs false
theorem eqA23 (d : Nat) (w : World) (x0 y0 : Int) (x1 y1 : Int) :
    (Op.equalIn (d + 2) 23 (.agg #[.int .i64 x0, .int .i64 x1]) (.agg #[.int .i64 y0, .int .i64 y1])).run Tryd.prog w = .ok (x0 == y0 && (x1 == y1)) w := by
  refine eqA_of Tryd.underlying23 (by kernel_rfl) ?_
  refine eqf_cons (by rfl) (by go_simp; rfl) (by go_simp; rfl) (by go_simp) ?_
  exact eqf_last (by rfl) (by go_simp; rfl) (by go_simp; rfl) (by go_simp)
end Go.Proofs.YtdjnneflpkllmaaDoor.Q

namespace Go.Proofs.YtdjnneflpkllmaaDoor.Q
open Go.RowKit Go.Proofs.YtdjnneflpkllmaaDoorW.PrintWords Go.Proofs.YtdjnneflpkllmaaDoorW.PrintLast Go.Proofs.YtdjnneflpkllmaaDoorW.PrintMore
attribute [local go_sem] max2_int min2_int max_two min_two max_three min_three max_four min_four   -- for this text's walks alone
set_option linter.unusedVariables false
set_option linter.unusedSimpArgs false
attribute [local go_sem high] eqA23
def merinolaw01_off.f (k : Nat) (a0 : Int) (a1 : Int) (a2 : Int) (a3 : Int) : Option (Bool × List Int) := (merinoref01_Of.f k a0).bind fun bt292 => ((merinoref01_Of.f k a3).bind fun bt296 => ((merinoref01_Times.f k bt292.1 bt292.2 bt296.1 bt296.2).bind fun bt300 => ((merinoref01_Of.f k a2).bind fun bt304 => ((merinoref01_Of.f k a1).bind fun bt308 => ((merinoref01_Times.f k bt304.1 bt304.2 bt308.1 bt308.2).bind fun bt312 => ((merinoref01_Minus.f k bt300.1 bt300.2 bt312.1 bt312.2).bind fun bt316 => (if bt316.1 = true then ((merinoref01_Neg.f k bt316.1 bt316.2).bind fun bt321 => (some (bt321.1, bt321.2))) else (some (bt316.1, bt316.2)))))))))
theorem merinolaw01_off.mono : ∀ a0 a1 a2 a3 k, LeO (merinolaw01_off.f k a0 a1 a2 a3) (merinolaw01_off.f (k + 1) a0 a1 a2 a3) := by
  intro a0 a1 a2 a3 k
  unfold merinolaw01_off.f
  repeat' first
      | (with_reducible exact merinoref01_Minus.mono _ _ _ _ _)
      | (with_reducible exact merinoref01_Neg.mono _ _ _)
      | (with_reducible exact merinoref01_Of.mono _ _)
      | (with_reducible exact merinoref01_Times.mono _ _ _ _ _)
      | (with_reducible exact LeO.refl _)
      | (with_reducible exact LeO.none _)
      | (with_reducible refine LeO.ite ?_ ?_)
      | (with_reducible refine LeO.bind ?_ (fun _ => ?_))
      | exact merinoref01_Minus.mono _ _ _ _ _
      | exact merinoref01_Neg.mono _ _ _
      | exact merinoref01_Of.mono _ _
      | exact merinoref01_Times.mono _ _ _ _ _
      | exact LeO.none _
      | refine LeO.ite ?_ ?_
      | refine LeO.bind ?_ (fun _ => ?_)
end Go.Proofs.YtdjnneflpkllmaaDoor.Q

namespace Go.Proofs.YtdjnneflpkllmaaDoor.Q
open Go.RowKit Go.Proofs.YtdjnneflpkllmaaDoorW.PrintWords Go.Proofs.YtdjnneflpkllmaaDoorW.PrintLast Go.Proofs.YtdjnneflpkllmaaDoorW.PrintMore
attribute [local go_sem] max2_int min2_int max_two min_two max_three min_three max_four min_four   -- for this text's walks alone
set_option linter.unusedVariables false
set_option linter.unusedSimpArgs false
attribute [local go_sem high] eqA23
def merinolaw01_NumNearest.j0 : Nat → Int → Int → Int → Int → Int → Int → Bool → Int → Int → Option (Bool)
  | 0, _, _, _, _, _, _, _, _, _ => none
  | k + 1, x0, x1, x2, x3, x4, x12, x33, x332000, x332001 => if x33 = true then (if ((x332000 == 0 && (x332001 == 0)) == (x12 != 0)) = true then ((merinolaw01_alive.f).bind fun t332 => (some t332)) else (none)) else ((merinolaw01_off.f k x0 x1 x332000 x332001).bind fun bt333 => ((merinoref01_Of.f k x4).bind fun bt337 => ((merinoref01_Times.f k bt333.1 bt333.2 bt337.1 bt337.2).bind fun bt341 => ((merinolaw01_off.f k x0 x1 x3 x4).bind fun bt346 => ((merinoref01_Of.f k x332001).bind fun bt350 => ((merinoref01_Times.f k bt346.1 bt346.2 bt350.1 bt350.2).bind fun bt354 => ((merinoref01_Compare.f k bt341.1 bt341.2 bt354.1 bt354.2).bind fun t359 => ((num_Valid.f k x332000 x332001).bind fun t360 => (if t360 = true then (if x332001 ≤ x2 then (if t359 < 0 then ((merinolaw01_alive.f).bind fun t361 => (some t361)) else (if t359 = 0 then (if x332001 < x4 then ((merinolaw01_alive.f).bind fun t362 => (some t362)) else (if x332001 = x4 then (if x332000 ≤ x3 then ((merinolaw01_alive.f).bind fun t363 => (some t363)) else (none)) else (none))) else (none))) else (none)) else (none))))))))))
def merinolaw01_NumNearest.f (k : Nat) (a0 : Int) (a1 : Int) (a2 : Int) (a3 : Int) (a4 : Int) : Option (Bool) := (num_Best.f k a0 a1 a2).bind fun bt328 => (if bt328.2.2 = 0 then (if a4 < 1 then (merinolaw01_NumNearest.j0 k a0 a1 a2 a3 a4 bt328.2.2 true bt328.1 bt328.2.1) else (merinolaw01_NumNearest.j0 k a0 a1 a2 a3 a4 bt328.2.2 (decide (a4 > a2)) bt328.1 bt328.2.1)) else (merinolaw01_NumNearest.j0 k a0 a1 a2 a3 a4 bt328.2.2 true bt328.1 bt328.2.1))
theorem merinolaw01_NumNearest.mono_l : ∀ k, (∀ y0 y1 y2 y3 y4 y5 y6 y7 y8, LeO (merinolaw01_NumNearest.j0 k y0 y1 y2 y3 y4 y5 y6 y7 y8) (merinolaw01_NumNearest.j0 (k + 1) y0 y1 y2 y3 y4 y5 y6 y7 y8))
  | 0 => fun _ _ _ _ _ _ _ _ _ r h => by simp [merinolaw01_NumNearest.j0] at h
  | k + 1 => by
    have ih0 := merinolaw01_NumNearest.mono_l k
    · intro y0 y1 y2 y3 y4 y5 y6 y7 y8
      unfold merinolaw01_NumNearest.j0
      repeat' first
      | (with_reducible exact ih0 _ _ _ _ _ _ _ _ _)
      | (with_reducible exact merinolaw01_off.mono _ _ _ _ _)
      | (with_reducible exact merinoref01_Compare.mono _ _ _ _ _)
      | (with_reducible exact merinoref01_Of.mono _ _)
      | (with_reducible exact merinoref01_Times.mono _ _ _ _ _)
      | (with_reducible exact num_Best.mono _ _ _ _)
      | (with_reducible exact num_Valid.mono _ _ _)
      | (with_reducible exact LeO.refl _)
      | (with_reducible exact LeO.none _)
      | (with_reducible refine LeO.ite ?_ ?_)
      | (with_reducible refine LeO.bind ?_ (fun _ => ?_))
      | exact ih0 _ _ _ _ _ _ _ _ _
      | exact merinolaw01_off.mono _ _ _ _ _
      | exact merinoref01_Compare.mono _ _ _ _ _
      | exact merinoref01_Of.mono _ _
      | exact merinoref01_Times.mono _ _ _ _ _
      | exact num_Best.mono _ _ _ _
      | exact num_Valid.mono _ _ _
      | exact LeO.none _
      | refine LeO.ite ?_ ?_
      | refine LeO.bind ?_ (fun _ => ?_)
theorem merinolaw01_NumNearest.mono : ∀ a0 a1 a2 a3 a4 k, LeO (merinolaw01_NumNearest.f k a0 a1 a2 a3 a4) (merinolaw01_NumNearest.f (k + 1) a0 a1 a2 a3 a4) := by
  intro a0 a1 a2 a3 a4 k
  have ih0 := merinolaw01_NumNearest.mono_l k
  unfold merinolaw01_NumNearest.f
  repeat' first
      | (with_reducible exact ih0 _ _ _ _ _ _ _ _ _)
      | (with_reducible exact merinolaw01_off.mono _ _ _ _ _)
      | (with_reducible exact merinoref01_Compare.mono _ _ _ _ _)
      | (with_reducible exact merinoref01_Of.mono _ _)
      | (with_reducible exact merinoref01_Times.mono _ _ _ _ _)
      | (with_reducible exact num_Best.mono _ _ _ _)
      | (with_reducible exact num_Valid.mono _ _ _)
      | (with_reducible exact LeO.refl _)
      | (with_reducible exact LeO.none _)
      | (with_reducible refine LeO.ite ?_ ?_)
      | (with_reducible refine LeO.bind ?_ (fun _ => ?_))
      | exact ih0 _ _ _ _ _ _ _ _ _
      | exact merinolaw01_off.mono _ _ _ _ _
      | exact merinoref01_Compare.mono _ _ _ _ _
      | exact merinoref01_Of.mono _ _
      | exact merinoref01_Times.mono _ _ _ _ _
      | exact num_Best.mono _ _ _ _
      | exact num_Valid.mono _ _ _
      | exact LeO.none _
      | refine LeO.ite ?_ ?_
      | refine LeO.bind ?_ (fun _ => ?_)
end Go.Proofs.YtdjnneflpkllmaaDoor.Q

namespace Go.Proofs.Num
open Go.RowKit Go.Proofs.YtdjnneflpkllmaaDoorW.PrintWords Go.Proofs.YtdjnneflpkllmaaDoorW.PrintMore Go.Proofs.YtdjnneflpkllmaaDoor.Q
set_option linter.unusedVariables false
set_option linter.unusedSimpArgs false
theorem minus_ok {a b : Bool} {l m : List Int} {x y : Int} (R : Rep a l x) (S : Rep b m y) (hs : l.length ≤ 900) (hs2 : m.length ≤ 900) : ∃ r, Ev (fun k => merinoref01_Minus.f k a l b m) (decide (x - y < 0), r) ∧ Rep (decide (x - y < 0)) r (x - y) ∧ r.length ≤ max l.length m.length + 1 := by
  unfold merinoref01_Minus.f
  obtain ⟨r1, E1, R1, l1⟩ := neg_big_ok S (by omega)
  obtain ⟨r2, E2, R2, l2⟩ := plus_ok R R1 hs (by omega)
  rw [show x + -y = x - y by omega] at E2 R2
  exact ⟨r2, Ev.bind E1 (Ev.bind E2 (Ev.now _)), R2, by omega⟩
end Go.Proofs.Num

namespace Go.Proofs.YtdjnneflpkllmaaDoor.Q
open Go.RowKit Go.Proofs.YtdjnneflpkllmaaDoorW.PrintWords Go.Proofs.YtdjnneflpkllmaaDoorW.PrintLast Go.Proofs.YtdjnneflpkllmaaDoorW.PrintMore
attribute [local go_sem] max2_int min2_int max_two min_two max_three min_three max_four min_four   -- for this text's walks alone
set_option linter.unusedVariables false
set_option linter.unusedSimpArgs false
section
variable {P : Program} {md : Region.Mode} {ops : Array Oper} {Q : Exit → Act → World → Prop} {S : World → Prop} {ds : List Nat}
end
section
variable {P : Program} {md : Region.Mode} {ops : Array Oper} {Q : Exit → Act → World → Prop} {S : World → Prop} {ds : List Nat}
/-- The operations done, as the bits of a number. -/
def bb20 (k : Nat) : Array Bool := #[k.testBit 0, k.testBit 1, k.testBit 2, k.testBit 3, k.testBit 4, k.testBit 5, k.testBit 6, k.testBit 7, k.testBit 8, k.testBit 9, k.testBit 10, k.testBit 11, k.testBit 12, k.testBit 13, k.testBit 14, k.testBit 15, k.testBit 16, k.testBit 17, k.testBit 18, k.testBit 19]
end
/-- What the orders of the region leave: four answers, four boxes. -/
abbrev ArS : Type := (Value × Value × Value × Value) × Nat × Nat × Nat × Nat
/-- How many calls are done, which boxes are made. -/
abbrev ArI : Type := Nat × Bool × Bool × Bool × Bool
def arMu (i : ArI) : Nat := 12 - i.1 - i.2.1.toNat - i.2.2.1.toNat - i.2.2.2.1.toNat - i.2.2.2.2.toNat
def arL (i : ArI) : Array Bool := bb20 (1755 + (if 0 < i.1 then 4 else 0) + (if 1 < i.1 then 32 else 0) + (if 2 < i.1 then 256 else 0) + (if 3 < i.1 then 2048 else 0) + (if i.2.1 = true then 4096 else 0) + (if i.2.2.1 = true then 8192 else 0) + (if i.2.2.2.1 = true then 16384 else 0) + (if i.2.2.2.2 = true then 32768 else 0))
def arR (i : ArI) : List Nat := (if i.1 = 0 then [2] else []) ++ (if i.1 = 1 then [5] else []) ++ (if i.1 = 2 then [8] else []) ++ (if i.1 = 3 then [11] else []) ++ (if i.2.1 = true then [] else [12]) ++ (if i.2.2.1 = true then [] else [13]) ++ (if i.2.2.2.1 = true then [] else [14]) ++ (if i.2.2.2.2 = true then [] else [15])
def arNs (v0 v1 v2 v3 : Bool) (i : ArI) (s : ArS) : List (Tmp × Value) := (if 0 < i.1 then [(23, .agg #[.bool v0, s.1.1])] else []) ++ (if 1 < i.1 then [(26, .agg #[.bool v1, s.1.2.1])] else []) ++ (if 2 < i.1 then [(29, .agg #[.bool v2, s.1.2.2.1])] else []) ++ (if 3 < i.1 then [(32, .agg #[.bool v3, s.1.2.2.2])] else []) ++ (if i.2.1 = true then [(8, .pointer (some ⟨s.2.1, 0, none⟩))] else []) ++ (if i.2.2.1 = true then [(9, .pointer (some ⟨s.2.2.1, 0, none⟩))] else []) ++ (if i.2.2.2.1 = true then [(10, .pointer (some ⟨s.2.2.2.1, 0, none⟩))] else []) ++ (if i.2.2.2.2 = true then [(11, .pointer (some ⟨s.2.2.2.2, 0, none⟩))] else [])
section
variable {P : Program} {md : Region.Mode} {ops : Array Oper} {Q : Exit → Act → World → Prop} {S : World → Prop} {ds : List Nat}
theorem arm_ {fuel : Nat} {l : Array Bool} {a a' : Act} {w : World} (h : wpAnyLast P md ops Q S ds fuel l a' w) (ha : a = a' := by simp only [arNs, if_true, if_false, Nat.reduceLT, ↓reduceIte, Bool.false_eq_true, List.cons_append, List.nil_append, List.append_nil, putAll, Act.put, List.setIfInBounds_toArray, List.set_cons_zero, List.set_cons_succ, i64_w, i32_w]; rfl) : wpAnyLast P md ops Q S ds fuel l a w := by
  subst ha
  exact h
theorem are_ {α : Type} {x y : α} (h : x = y := by (try simp only [List.map_toArray, List.map_cons, List.map_nil]); first | done | rfl) : x = y := h
theorem arn_ {fuel fuel' : Nat} {l l' : Array Bool} {a a' : Act} {w : World} (h : wpAnyLast P md ops Q S ds fuel' l' a' w) (hl : (l == l') = true := by kernel_rfl) (hf : fuel = fuel' := by rfl) (ha : a = a' := by simp only [arNs, if_true, if_false, Nat.reduceLT, ↓reduceIte, Bool.false_eq_true, List.cons_append, List.nil_append, List.append_nil, putAll, Act.put, List.setIfInBounds_toArray, List.set_cons_zero, List.set_cons_succ, i64_w, i32_w]) : wpAnyLast P md ops Q S ds fuel l a w := by
  rw [beq_iff_eq] at hl
  subst hl hf ha
  exact h
theorem arrdy_ (i : ArI) {n : Nat} {a : Act} {w : World} (h : AllReadyL P md ops Q S ds n (arL i) a w (arR i)) (hr : (Region.ready md ops (arL i) == arR i) = true := by kernel_rfl) (hne : (arR i).isEmpty = false := by kernel_rfl) (hn : arMu i = n + 1 := by rfl) : wpAnyLast P md ops Q S ds (arMu i) (arL i) a w := by
  rw [hn]
  exact wpAnyLast_ready (beq_iff_eq.mp hr) (fun e => by rw [e] at hne; cases hne) h
theorem arcons_ {fuel : Nat} {listed : Array Bool} {a : Act} {w : World} (i : Nat) (N : Option Tmp) {o : Oper} {rs : List Nat} (ho : ops[i]? = some o) (hN : o.dst = N) (hd : i ∉ ds)
    (h : ∀ K : Act → World → Prop, Shut (∀ a' w', S w' → (S w' → wpAnyLast P md ops Q S ds fuel (listed.setIfInBounds i true) a' w') → K a' w') → if Region.wanted o (yielded ops a.tmps) = true then Oper.wp P o a w K Q else K (a.put N undef) w)
    (hs : AllReadyL P md ops Q S ds fuel listed a w rs) : AllReadyL P md ops Q S ds fuel listed a w (i :: rs) := by
  subst hN
  exact AllReadyL.cons ho hd h hs
/-- A region's orders, all at once: i where one stands, F what is known there. -/
theorem float_ {ι σ : Type} (μ : ι → Nat) (lf : ι → Array Bool) (nsf : ι → σ → List (Tmp × Value)) (F : ι → σ → World → Prop) (i0 iE : ι) (s0 : σ) {fuel : Nat} {l : Array Bool} {a : Act} {w : World} (e0 : nsf i0 s0 = []) (hf : fuel = μ i0) (hl : (l == lf i0) = true) (h0 : F i0 s0 w)
    (hstep : ∀ i, i ≠ iE → (∀ i', μ i' < μ i → ∀ s y, F i' s y → wpAnyLast P md ops Q S ds (μ i') (lf i') (putAll a (nsf i' s)) y) → ∀ s y, F i s y → wpAnyLast P md ops Q S ds (μ i) (lf i) (putAll a (nsf i s)) y)
    (hE : ∀ s y, F iE s y → wpAnyLast P md ops Q S ds (μ iE) (lf iE) (putAll a (nsf iE s)) y) : wpAnyLast P md ops Q S ds fuel l a w := by
  have all : ∀ n i, μ i ≤ n → ∀ s y, F i s y → wpAnyLast P md ops Q S ds (μ i) (lf i) (putAll a (nsf i s)) y := by
    intro n
    induction n with
    | zero =>
      intro i hi s y hF
      by_cases c : i = iE
      · subst c; exact hE s y hF
      · exact hstep i c (fun i' h => absurd h (by omega)) s y hF
    | succ n ih =>
      intro i hi s y hF
      by_cases c : i = iE
      · subst c; exact hE s y hF
      · exact hstep i c (fun i' h => ih i' (by omega)) s y hF
  rw [beq_iff_eq] at hl
  subst hf hl
  have h := all _ i0 (Nat.le_refl _) s0 w h0
  rw [e0] at h
  exact h
end
/-- What is known when c of the calls are done and the boxes of the true flags are made. -/
def ArF (w wc : World) (l0 l1 l2 l3 : List Int) (c : Nat) (t0 t1 t2 t3 : Bool) (s : ArS) (y : World) : Prop :=
  Below wc.heap.size wc y ∧ (0 < c → Kd.R (Kd.int .i64) 3 y w.heap.size (fun _ => True) s.1.1 l0) ∧ (1 < c → Kd.R (Kd.int .i64) 3 y w.heap.size (fun _ => True) s.1.2.1 l1) ∧ (2 < c → Kd.R (Kd.int .i64) 3 y w.heap.size (fun _ => True) s.1.2.2.1 l2) ∧ (3 < c → Kd.R (Kd.int .i64) 3 y w.heap.size (fun _ => True) s.1.2.2.2 l3) ∧
  (t0 = true → y.heap[s.2.1]? = some (.cells #[.bool false, .slice none 0 0] 31 (0, 0)) ∧ wc.heap.size ≤ s.2.1) ∧ (t1 = true → y.heap[s.2.2.1]? = some (.cells #[.bool false, .slice none 0 0] 31 (0, 0)) ∧ wc.heap.size ≤ s.2.2.1) ∧ (t2 = true → y.heap[s.2.2.2.1]? = some (.cells #[.bool false, .slice none 0 0] 31 (0, 0)) ∧ wc.heap.size ≤ s.2.2.2.1) ∧ (t3 = true → y.heap[s.2.2.2.2]? = some (.cells #[.bool false, .slice none 0 0] 31 (0, 0)) ∧ wc.heap.size ≤ s.2.2.2.2) ∧
  (t0 = true → t1 = true → s.2.1 ≠ s.2.2.1) ∧ (t0 = true → t2 = true → s.2.1 ≠ s.2.2.2.1) ∧ (t0 = true → t3 = true → s.2.1 ≠ s.2.2.2.2) ∧ (t1 = true → t2 = true → s.2.2.1 ≠ s.2.2.2.1) ∧ (t1 = true → t3 = true → s.2.2.1 ≠ s.2.2.2.2) ∧ (t2 = true → t3 = true → s.2.2.2.1 ≠ s.2.2.2.2)
def ArG (w wc : World) (l0 l1 l2 l3 : List Int) (i : ArI) (s : ArS) (y : World) : Prop := i.1 ≤ 4 ∧ ArF w wc l0 l1 l2 l3 i.1 i.2.1 i.2.2.1 i.2.2.2.1 i.2.2.2.2 s y
section
variable {w wc y z : World} {l0 l1 l2 l3 : List Int} {c : Nat} {t0 t1 t2 t3 : Bool} {q0 q1 q2 q3 : Value} {b0 b1 b2 b3 : Nat}
theorem ar_start {s : ArS} : ArF w wc l0 l1 l2 l3 0 false false false false s wc.drew := ⟨Below.drew (Below.refl _ _), fun h => absurd h (by decide), fun h => absurd h (by decide), fun h => absurd h (by decide), fun h => absurd h (by decide), fun h => absurd h (by decide), fun h => absurd h (by decide), fun h => absurd h (by decide), fun h => absurd h (by decide), fun h => absurd h (by decide), fun h => absurd h (by decide), fun h => absurd h (by decide), fun h => absurd h (by decide), fun h => absurd h (by decide), fun h => absurd h (by decide)⟩
theorem ar_low {s : ArS} (h : ArF w wc l0 l1 l2 l3 c t0 t1 t2 t3 s y) : Below wc.heap.size wc (y.alloc (.cells #[.bool false, .slice none 0 0] 31 (0, 0))) := h.1.trans ((below_alloc (Below.refl y.heap.size y) (.cells #[.bool false, .slice none 0 0] 31 (0, 0))).mono h.1.size)
theorem arc0 {p : Value} (hs : w.heap.size ≤ wc.heap.size) (h : ArF w wc l0 l1 l2 l3 0 t0 t1 t2 t3 ((q0, q1, q2, q3), b0, b1, b2, b3) y) (hz : Below y.heap.size y z) (hp : Kd.R (Kd.int .i64) 3 z y.heap.size (fun _ => True) p l0) : ArF w wc l0 l1 l2 l3 1 t0 t1 t2 t3 ((p, q1, q2, q3), b0, b1, b2, b3) z := by
  obtain ⟨hy, r0, r1, r2, r3, m0, m1, m2, m3, hn⟩ := h
  exact ⟨hy.trans (hz.mono hy.size), fun _ => Kd.R_lower hp (Nat.le_trans hs hy.size), fun h => absurd h (by decide), fun h => absurd h (by decide), fun h => absurd h (by decide), fun h => ⟨blk_below (m0 h).1 hz, (m0 h).2⟩, fun h => ⟨blk_below (m1 h).1 hz, (m1 h).2⟩, fun h => ⟨blk_below (m2 h).1 hz, (m2 h).2⟩, fun h => ⟨blk_below (m3 h).1 hz, (m3 h).2⟩, hn⟩
theorem arc1 {p : Value} (hs : w.heap.size ≤ wc.heap.size) (h : ArF w wc l0 l1 l2 l3 1 t0 t1 t2 t3 ((q0, q1, q2, q3), b0, b1, b2, b3) y) (hz : Below y.heap.size y z) (hp : Kd.R (Kd.int .i64) 3 z y.heap.size (fun _ => True) p l1) : ArF w wc l0 l1 l2 l3 2 t0 t1 t2 t3 ((q0, p, q2, q3), b0, b1, b2, b3) z := by
  obtain ⟨hy, r0, r1, r2, r3, m0, m1, m2, m3, hn⟩ := h
  exact ⟨hy.trans (hz.mono hy.size), fun _ => Kd.R_below (r0 (by decide)) hz, fun _ => Kd.R_lower hp (Nat.le_trans hs hy.size), fun h => absurd h (by decide), fun h => absurd h (by decide), fun h => ⟨blk_below (m0 h).1 hz, (m0 h).2⟩, fun h => ⟨blk_below (m1 h).1 hz, (m1 h).2⟩, fun h => ⟨blk_below (m2 h).1 hz, (m2 h).2⟩, fun h => ⟨blk_below (m3 h).1 hz, (m3 h).2⟩, hn⟩
theorem arc2 {p : Value} (hs : w.heap.size ≤ wc.heap.size) (h : ArF w wc l0 l1 l2 l3 2 t0 t1 t2 t3 ((q0, q1, q2, q3), b0, b1, b2, b3) y) (hz : Below y.heap.size y z) (hp : Kd.R (Kd.int .i64) 3 z y.heap.size (fun _ => True) p l2) : ArF w wc l0 l1 l2 l3 3 t0 t1 t2 t3 ((q0, q1, p, q3), b0, b1, b2, b3) z := by
  obtain ⟨hy, r0, r1, r2, r3, m0, m1, m2, m3, hn⟩ := h
  exact ⟨hy.trans (hz.mono hy.size), fun _ => Kd.R_below (r0 (by decide)) hz, fun _ => Kd.R_below (r1 (by decide)) hz, fun _ => Kd.R_lower hp (Nat.le_trans hs hy.size), fun h => absurd h (by decide), fun h => ⟨blk_below (m0 h).1 hz, (m0 h).2⟩, fun h => ⟨blk_below (m1 h).1 hz, (m1 h).2⟩, fun h => ⟨blk_below (m2 h).1 hz, (m2 h).2⟩, fun h => ⟨blk_below (m3 h).1 hz, (m3 h).2⟩, hn⟩
theorem arc3 {p : Value} (hs : w.heap.size ≤ wc.heap.size) (h : ArF w wc l0 l1 l2 l3 3 t0 t1 t2 t3 ((q0, q1, q2, q3), b0, b1, b2, b3) y) (hz : Below y.heap.size y z) (hp : Kd.R (Kd.int .i64) 3 z y.heap.size (fun _ => True) p l3) : ArF w wc l0 l1 l2 l3 4 t0 t1 t2 t3 ((q0, q1, q2, p), b0, b1, b2, b3) z := by
  obtain ⟨hy, r0, r1, r2, r3, m0, m1, m2, m3, hn⟩ := h
  exact ⟨hy.trans (hz.mono hy.size), fun _ => Kd.R_below (r0 (by decide)) hz, fun _ => Kd.R_below (r1 (by decide)) hz, fun _ => Kd.R_below (r2 (by decide)) hz, fun _ => Kd.R_lower hp (Nat.le_trans hs hy.size), fun h => ⟨blk_below (m0 h).1 hz, (m0 h).2⟩, fun h => ⟨blk_below (m1 h).1 hz, (m1 h).2⟩, fun h => ⟨blk_below (m2 h).1 hz, (m2 h).2⟩, fun h => ⟨blk_below (m3 h).1 hz, (m3 h).2⟩, hn⟩
theorem arb0 (h : ArF w wc l0 l1 l2 l3 c false t1 t2 t3 ((q0, q1, q2, q3), b0, b1, b2, b3) y) : ArF w wc l0 l1 l2 l3 c true t1 t2 t3 ((q0, q1, q2, q3), y.heap.size, b1, b2, b3) (y.alloc (.cells #[.bool false, .slice none 0 0] 31 (0, 0))) := by
  have hz := below_alloc (Below.refl y.heap.size y) (.cells #[.bool false, .slice none 0 0] 31 (0, 0))
  obtain ⟨hy, r0, r1, r2, r3, m0, m1, m2, m3, n01, n02, n03, n12, n13, n23⟩ := h
  exact ⟨hy.trans (hz.mono hy.size), fun h => Kd.R_below (r0 h) hz, fun h => Kd.R_below (r1 h) hz, fun h => Kd.R_below (r2 h) hz, fun h => Kd.R_below (r3 h) hz, fun _ => ⟨blk_new y _, hy.size⟩, fun h => ⟨blk_below (m1 h).1 hz, (m1 h).2⟩, fun h => ⟨blk_below (m2 h).1 hz, (m2 h).2⟩, fun h => ⟨blk_below (m3 h).1 hz, (m3 h).2⟩, fun _ h => Nat.ne_of_gt (blk_lt (m1 h).1), fun _ h => Nat.ne_of_gt (blk_lt (m2 h).1), fun _ h => Nat.ne_of_gt (blk_lt (m3 h).1), n12, n13, n23⟩
theorem arb1 (h : ArF w wc l0 l1 l2 l3 c t0 false t2 t3 ((q0, q1, q2, q3), b0, b1, b2, b3) y) : ArF w wc l0 l1 l2 l3 c t0 true t2 t3 ((q0, q1, q2, q3), b0, y.heap.size, b2, b3) (y.alloc (.cells #[.bool false, .slice none 0 0] 31 (0, 0))) := by
  have hz := below_alloc (Below.refl y.heap.size y) (.cells #[.bool false, .slice none 0 0] 31 (0, 0))
  obtain ⟨hy, r0, r1, r2, r3, m0, m1, m2, m3, n01, n02, n03, n12, n13, n23⟩ := h
  exact ⟨hy.trans (hz.mono hy.size), fun h => Kd.R_below (r0 h) hz, fun h => Kd.R_below (r1 h) hz, fun h => Kd.R_below (r2 h) hz, fun h => Kd.R_below (r3 h) hz, fun h => ⟨blk_below (m0 h).1 hz, (m0 h).2⟩, fun _ => ⟨blk_new y _, hy.size⟩, fun h => ⟨blk_below (m2 h).1 hz, (m2 h).2⟩, fun h => ⟨blk_below (m3 h).1 hz, (m3 h).2⟩, fun h _ => Nat.ne_of_lt (blk_lt (m0 h).1), n02, n03, fun _ h => Nat.ne_of_gt (blk_lt (m2 h).1), fun _ h => Nat.ne_of_gt (blk_lt (m3 h).1), n23⟩
theorem arb2 (h : ArF w wc l0 l1 l2 l3 c t0 t1 false t3 ((q0, q1, q2, q3), b0, b1, b2, b3) y) : ArF w wc l0 l1 l2 l3 c t0 t1 true t3 ((q0, q1, q2, q3), b0, b1, y.heap.size, b3) (y.alloc (.cells #[.bool false, .slice none 0 0] 31 (0, 0))) := by
  have hz := below_alloc (Below.refl y.heap.size y) (.cells #[.bool false, .slice none 0 0] 31 (0, 0))
  obtain ⟨hy, r0, r1, r2, r3, m0, m1, m2, m3, n01, n02, n03, n12, n13, n23⟩ := h
  exact ⟨hy.trans (hz.mono hy.size), fun h => Kd.R_below (r0 h) hz, fun h => Kd.R_below (r1 h) hz, fun h => Kd.R_below (r2 h) hz, fun h => Kd.R_below (r3 h) hz, fun h => ⟨blk_below (m0 h).1 hz, (m0 h).2⟩, fun h => ⟨blk_below (m1 h).1 hz, (m1 h).2⟩, fun _ => ⟨blk_new y _, hy.size⟩, fun h => ⟨blk_below (m3 h).1 hz, (m3 h).2⟩, n01, fun h _ => Nat.ne_of_lt (blk_lt (m0 h).1), n03, fun h _ => Nat.ne_of_lt (blk_lt (m1 h).1), n13, fun _ h => Nat.ne_of_gt (blk_lt (m3 h).1)⟩
theorem arb3 (h : ArF w wc l0 l1 l2 l3 c t0 t1 t2 false ((q0, q1, q2, q3), b0, b1, b2, b3) y) : ArF w wc l0 l1 l2 l3 c t0 t1 t2 true ((q0, q1, q2, q3), b0, b1, b2, y.heap.size) (y.alloc (.cells #[.bool false, .slice none 0 0] 31 (0, 0))) := by
  have hz := below_alloc (Below.refl y.heap.size y) (.cells #[.bool false, .slice none 0 0] 31 (0, 0))
  obtain ⟨hy, r0, r1, r2, r3, m0, m1, m2, m3, n01, n02, n03, n12, n13, n23⟩ := h
  exact ⟨hy.trans (hz.mono hy.size), fun h => Kd.R_below (r0 h) hz, fun h => Kd.R_below (r1 h) hz, fun h => Kd.R_below (r2 h) hz, fun h => Kd.R_below (r3 h) hz, fun h => ⟨blk_below (m0 h).1 hz, (m0 h).2⟩, fun h => ⟨blk_below (m1 h).1 hz, (m1 h).2⟩, fun h => ⟨blk_below (m2 h).1 hz, (m2 h).2⟩, fun _ => ⟨blk_new y _, hy.size⟩, n01, n02, fun h _ => Nat.ne_of_lt (blk_lt (m0 h).1), n12, fun h _ => Nat.ne_of_lt (blk_lt (m1 h).1), fun h _ => Nat.ne_of_lt (blk_lt (m2 h).1)⟩
theorem ar_end (h : ArF w wc l0 l1 l2 l3 4 true true true true ((q0, q1, q2, q3), b0, b1, b2, b3) y) : Below wc.heap.size wc y ∧ Kd.R (Kd.int .i64) 3 y w.heap.size (fun _ => True) q0 l0 ∧ Kd.R (Kd.int .i64) 3 y w.heap.size (fun _ => True) q1 l1 ∧ Kd.R (Kd.int .i64) 3 y w.heap.size (fun _ => True) q2 l2 ∧ Kd.R (Kd.int .i64) 3 y w.heap.size (fun _ => True) q3 l3 ∧ y.heap[b0]? = some (.cells #[.bool false, .slice none 0 0] 31 (0, 0)) ∧ wc.heap.size ≤ b0 ∧ y.heap[b1]? = some (.cells #[.bool false, .slice none 0 0] 31 (0, 0)) ∧ wc.heap.size ≤ b1 ∧ y.heap[b2]? = some (.cells #[.bool false, .slice none 0 0] 31 (0, 0)) ∧ wc.heap.size ≤ b2 ∧ y.heap[b3]? = some (.cells #[.bool false, .slice none 0 0] 31 (0, 0)) ∧ wc.heap.size ≤ b3 ∧ b0 ≠ b1 ∧ b0 ≠ b2 ∧ b0 ≠ b3 ∧ b1 ≠ b2 ∧ b1 ≠ b3 ∧ b2 ≠ b3 := by
  obtain ⟨hy, r0, r1, r2, r3, m0, m1, m2, m3, n01, n02, n03, n12, n13, n23⟩ := h
  exact ⟨hy, r0 (by decide), r1 (by decide), r2 (by decide), r3 (by decide), (m0 rfl).1, (m0 rfl).2, (m1 rfl).1, (m1 rfl).2, (m2 rfl).1, (m2 rfl).2, (m3 rfl).1, (m3 rfl).2, n01 rfl rfl, n02 rfl rfl, n03 rfl rfl, n12 rfl rfl, n13 rfl rfl, n23 rfl rfl⟩
end
def merinoref01_Arith.j0 : Nat → Int → Bool → Int → Int → Int → Int → Option (Int × Int × Int)
  | 0, _, _, _, _, _, _ => none
  | k + 1, x0, x19, x1341000, x1341001, x1342000, x1342001 => if x19 = true then (some (0, 0, 2)) else ((merinoref01_Of.f k x1341000).bind fun bt1349 => ((merinoref01_Of.f k x1341001).bind fun bt1353 => ((merinoref01_Of.f k x1342000).bind fun bt1357 => ((merinoref01_Of.f k x1342001).bind fun bt1361 => (if x0 = 0 then ((merinoref01_Times.f k bt1349.1 bt1349.2 bt1361.1 bt1361.2).bind fun bt1365 => ((merinoref01_Times.f k bt1357.1 bt1357.2 bt1353.1 bt1353.2).bind fun bt1369 => ((merinoref01_Plus.f k bt1365.1 bt1365.2 bt1369.1 bt1369.2).bind fun bt1373 => ((merinoref01_Times.f k bt1353.1 bt1353.2 bt1361.1 bt1361.2).bind fun bt1377 => ((merinoref01_Lowest.f k bt1373.1 bt1373.2 bt1377.1 bt1377.2).bind fun bt1381 => (some (bt1381.1, bt1381.2.1, bt1381.2.2))))))) else (if x0 = 1 then ((merinoref01_Times.f k bt1349.1 bt1349.2 bt1361.1 bt1361.2).bind fun bt1384 => ((merinoref01_Times.f k bt1357.1 bt1357.2 bt1353.1 bt1353.2).bind fun bt1388 => ((merinoref01_Minus.f k bt1384.1 bt1384.2 bt1388.1 bt1388.2).bind fun bt1392 => ((merinoref01_Times.f k bt1353.1 bt1353.2 bt1361.1 bt1361.2).bind fun bt1396 => ((merinoref01_Lowest.f k bt1392.1 bt1392.2 bt1396.1 bt1396.2).bind fun bt1400 => (some (bt1400.1, bt1400.2.1, bt1400.2.2))))))) else (if x0 = 2 then ((merinoref01_Times.f k bt1349.1 bt1349.2 bt1357.1 bt1357.2).bind fun bt1403 => ((merinoref01_Times.f k bt1353.1 bt1353.2 bt1361.1 bt1361.2).bind fun bt1407 => ((merinoref01_Lowest.f k bt1403.1 bt1403.2 bt1407.1 bt1407.2).bind fun bt1411 => (some (bt1411.1, bt1411.2.1, bt1411.2.2))))) else (if x1342000 = 0 then (some (0, 0, 5)) else ((merinoref01_Times.f k bt1349.1 bt1349.2 bt1361.1 bt1361.2).bind fun bt1414 => ((merinoref01_Times.f k bt1353.1 bt1353.2 bt1357.1 bt1357.2).bind fun bt1418 => ((merinoref01_Lowest.f k bt1414.1 bt1414.2 bt1418.1 bt1418.2).bind fun bt1422 => (some (bt1422.1, bt1422.2.1, bt1422.2.2)))))))))))))
def merinoref01_Arith.f (k : Nat) (a0 : Int) (a1_0 : Int) (a1_1 : Int) (a2_0 : Int) (a2_1 : Int) : Option (Int × Int × Int) := (merinoref01_Valid.f k a1_0 a1_1).bind fun t1343 => (if t1343 = true then ((merinoref01_Valid.f k a2_0 a2_1).bind fun t1344 => (merinoref01_Arith.j0 k a0 (!t1344) a1_0 a1_1 a2_0 a2_1)) else (merinoref01_Arith.j0 k a0 true a1_0 a1_1 a2_0 a2_1))
theorem merinoref01_Arith.mono_l : ∀ k, (∀ y0 y1 y2 y3 y4 y5, LeO (merinoref01_Arith.j0 k y0 y1 y2 y3 y4 y5) (merinoref01_Arith.j0 (k + 1) y0 y1 y2 y3 y4 y5))
  | 0 => fun _ _ _ _ _ _ r h => by simp [merinoref01_Arith.j0] at h
  | k + 1 => by
    have ih0 := merinoref01_Arith.mono_l k
    · intro y0 y1 y2 y3 y4 y5
      unfold merinoref01_Arith.j0
      repeat' first
      | (with_reducible exact ih0 _ _ _ _ _ _)
      | (with_reducible exact merinoref01_Lowest.mono _ _ _ _ _)
      | (with_reducible exact merinoref01_Minus.mono _ _ _ _ _)
      | (with_reducible exact merinoref01_Of.mono _ _)
      | (with_reducible exact merinoref01_Plus.mono _ _ _ _ _)
      | (with_reducible exact merinoref01_Times.mono _ _ _ _ _)
      | (with_reducible exact merinoref01_Valid.mono _ _ _)
      | (with_reducible exact LeO.refl _)
      | (with_reducible exact LeO.none _)
      | (with_reducible refine LeO.ite ?_ ?_)
      | (with_reducible refine LeO.bind ?_ (fun _ => ?_))
      | exact ih0 _ _ _ _ _ _
      | exact merinoref01_Lowest.mono _ _ _ _ _
      | exact merinoref01_Minus.mono _ _ _ _ _
      | exact merinoref01_Of.mono _ _
      | exact merinoref01_Plus.mono _ _ _ _ _
      | exact merinoref01_Times.mono _ _ _ _ _
      | exact merinoref01_Valid.mono _ _ _
      | exact LeO.none _
      | refine LeO.ite ?_ ?_
      | refine LeO.bind ?_ (fun _ => ?_)
theorem merinoref01_Arith.mono : ∀ a0 a1 a2 a3 a4 k, LeO (merinoref01_Arith.f k a0 a1 a2 a3 a4) (merinoref01_Arith.f (k + 1) a0 a1 a2 a3 a4) := by
  intro a0 a1 a2 a3 a4 k
  have ih0 := merinoref01_Arith.mono_l k
  unfold merinoref01_Arith.f
  repeat' first
      | (with_reducible exact ih0 _ _ _ _ _ _)
      | (with_reducible exact merinoref01_Lowest.mono _ _ _ _ _)
      | (with_reducible exact merinoref01_Minus.mono _ _ _ _ _)
      | (with_reducible exact merinoref01_Of.mono _ _)
      | (with_reducible exact merinoref01_Plus.mono _ _ _ _ _)
      | (with_reducible exact merinoref01_Times.mono _ _ _ _ _)
      | (with_reducible exact merinoref01_Valid.mono _ _ _)
      | (with_reducible exact LeO.refl _)
      | (with_reducible exact LeO.none _)
      | (with_reducible refine LeO.ite ?_ ?_)
      | (with_reducible refine LeO.bind ?_ (fun _ => ?_))
      | exact ih0 _ _ _ _ _ _
      | exact merinoref01_Lowest.mono _ _ _ _ _
      | exact merinoref01_Minus.mono _ _ _ _ _
      | exact merinoref01_Of.mono _ _
      | exact merinoref01_Plus.mono _ _ _ _ _
      | exact merinoref01_Times.mono _ _ _ _ _
      | exact merinoref01_Valid.mono _ _ _
      | exact LeO.none _
      | refine LeO.ite ?_ ?_
      | refine LeO.bind ?_ (fun _ => ?_)
def merinoref01_Arith.T6 : Bool × List (List Nat × List Nat) := (true, [([], []), ([], []), ([0, 1], [0, 1]), ([], []), ([], []), ([3, 4, 2], [3, 4]), ([2, 5, 5], [2, 5]), ([], []), ([], []), ([7, 8, 6], [7, 8]), ([6, 9, 9], [6, 9]), ([10], [10]), ([10], [10]), ([11, 10, 0, 1, 2, 3, 4, 5, 6, 7, 8, 9, 10, 11, 12], [11]), ([12, 13, 0, 1, 2, 3, 4, 5, 6, 7, 8, 9, 10, 11, 12, 13], [12])])
def merinoref01_Arith.B6 : List Nat := [0, 0, 3, 0, 0, 31, 63, 0, 0, 511, 1023, 2047, 2047, 8191, 16383]
theorem merinoref01_Arith.tab6 : rtab .any (opsOf Tryd.f64 6) = merinoref01_Arith.T6 := by kernel_rfl
theorem merinoref01_Arith.bits6 : waitsOk merinoref01_Arith.T6.2 merinoref01_Arith.B6 = true := by kernel_rfl
def merinoref01_Arith.T8 : Bool × List (List Nat × List Nat) := (true, [([], []), ([], []), ([0, 1], [0, 1]), ([], []), ([], []), ([3, 4, 2], [3, 4]), ([2, 5, 5], [2, 5]), ([], []), ([], []), ([7, 8, 6], [7, 8]), ([6, 9, 9], [6, 9]), ([10], [10]), ([10], [10]), ([11, 10, 0, 1, 2, 3, 4, 5, 6, 7, 8, 9, 10, 11, 12], [11]), ([12, 13, 0, 1, 2, 3, 4, 5, 6, 7, 8, 9, 10, 11, 12, 13], [12])])
def merinoref01_Arith.B8 : List Nat := [0, 0, 3, 0, 0, 31, 63, 0, 0, 511, 1023, 2047, 2047, 8191, 16383]
theorem merinoref01_Arith.tab8 : rtab .any (opsOf Tryd.f64 8) = merinoref01_Arith.T8 := by kernel_rfl
theorem merinoref01_Arith.bits8 : waitsOk merinoref01_Arith.T8.2 merinoref01_Arith.B8 = true := by kernel_rfl
def merinoref01_Arith.T10 : Bool × List (List Nat × List Nat) := (true, [([], []), ([], []), ([0, 1], [0, 1]), ([], []), ([], []), ([3, 4, 2], [3, 4]), ([2, 5, 5], [2, 5]), ([6], [6]), ([6], [6]), ([7, 6, 0, 1, 2, 3, 4, 5, 6, 7, 8], [7]), ([8, 9, 0, 1, 2, 3, 4, 5, 6, 7, 8, 9], [8])])
def merinoref01_Arith.B10 : List Nat := [0, 0, 3, 0, 0, 31, 63, 127, 127, 511, 1023]
theorem merinoref01_Arith.tab10 : rtab .any (opsOf Tryd.f64 10) = merinoref01_Arith.T10 := by kernel_rfl
theorem merinoref01_Arith.bits10 : waitsOk merinoref01_Arith.T10.2 merinoref01_Arith.B10 = true := by kernel_rfl
def merinoref01_Arith.T13 : Bool × List (List Nat × List Nat) := (true, [([], []), ([], []), ([0, 1], [0, 1]), ([], []), ([], []), ([3, 4, 2], [3, 4]), ([2, 5, 5], [2, 5]), ([6], [6]), ([6], [6]), ([7, 6, 0, 1, 2, 3, 4, 5, 6, 7, 8], [7]), ([8, 9, 0, 1, 2, 3, 4, 5, 6, 7, 8, 9], [8])])
def merinoref01_Arith.B13 : List Nat := [0, 0, 3, 0, 0, 31, 63, 127, 127, 511, 1023]
theorem merinoref01_Arith.tab13 : rtab .any (opsOf Tryd.f64 13) = merinoref01_Arith.T13 := by kernel_rfl
theorem merinoref01_Arith.bits13 : waitsOk merinoref01_Arith.T13.2 merinoref01_Arith.B13 = true := by kernel_rfl
end Go.Proofs.YtdjnneflpkllmaaDoor.Q

namespace Go.Proofs.YtdjnneflpkllmaaDoor.Q
open Go.RowKit Go.Proofs.YtdjnneflpkllmaaDoorW.PrintWords Go.Proofs.YtdjnneflpkllmaaDoorW.PrintLast Go.Proofs.YtdjnneflpkllmaaDoorW.PrintMore
attribute [local go_sem] max2_int min2_int max_two min_two max_three min_three max_four min_four   -- for this text's walks alone
set_option linter.unusedVariables false
set_option linter.unusedSimpArgs false
def num_times.j0 : Nat → Bool → Int → Int → Int → Int → Bool → Int → Int → Option (Int × Int × Int)
  | 0, _, _, _, _, _, _, _, _ => none
  | k + 1, x1, x14, x15, x16, x17, x55, x1096000, x1096001 => if x55 = true then (some (0, 1, 0)) else (if x14 = 0 then (if x16 = 0 then ((num_made.f k ((decide (x1096000 < 0)) != x1) x15 x17).bind fun bt1104 => (some (bt1104.1, bt1104.2.1, bt1104.2.2))) else (some (0, 0, 4))) else (some (0, 0, 4)))
def num_times.f (k : Nat) (a0_0 : Int) (a0_1 : Int) (a1 : Bool) (a2 : Int) (a3 : Int) : Option (Int × Int × Int) := (num_size.f a0_0).bind fun t1097 => ((num_gcd.f k t1097 a3).bind fun t1098 => ((num_gcd.f k a2 (IntKind.u64.wrap (a0_1))).bind fun t1099 => (if t1098 = 0 then (none) else (if t1099 = 0 then (none) else ((bits_Mul64.f (IntKind.u64.wrap (Int.tdiv t1097 t1098)) (IntKind.u64.wrap (Int.tdiv a2 t1099))).bind fun bt1100 => ((bits_Mul64.f (IntKind.u64.wrap (Int.tdiv (IntKind.u64.wrap (a0_1)) t1099)) (IntKind.u64.wrap (Int.tdiv a3 t1098))).bind fun bt1102 => (if bt1100.2 = 0 then (num_times.j0 k a1 bt1100.1 bt1100.2 bt1102.1 bt1102.2 (bt1100.1 == 0) a0_0 a0_1) else (num_times.j0 k a1 bt1100.1 bt1100.2 bt1102.1 bt1102.2 false a0_0 a0_1))))))))
theorem num_times.mono_l : ∀ k, (∀ y0 y1 y2 y3 y4 y5 y6 y7, LeO (num_times.j0 k y0 y1 y2 y3 y4 y5 y6 y7) (num_times.j0 (k + 1) y0 y1 y2 y3 y4 y5 y6 y7))
  | 0 => fun _ _ _ _ _ _ _ _ r h => by simp [num_times.j0] at h
  | k + 1 => by
    have ih0 := num_times.mono_l k
    · intro y0 y1 y2 y3 y4 y5 y6 y7
      unfold num_times.j0
      repeat' first
      | (with_reducible exact ih0 _ _ _ _ _ _ _ _)
      | (with_reducible exact num_gcd.mono _ _ _)
      | (with_reducible exact num_made.mono _ _ _ _)
      | (with_reducible exact LeO.refl _)
      | (with_reducible exact LeO.none _)
      | (with_reducible refine LeO.ite ?_ ?_)
      | (with_reducible refine LeO.bind ?_ (fun _ => ?_))
      | exact ih0 _ _ _ _ _ _ _ _
      | exact num_gcd.mono _ _ _
      | exact num_made.mono _ _ _ _
      | exact LeO.none _
      | refine LeO.ite ?_ ?_
      | refine LeO.bind ?_ (fun _ => ?_)
theorem num_times.mono : ∀ a0 a1 a2 a3 a4 k, LeO (num_times.f k a0 a1 a2 a3 a4) (num_times.f (k + 1) a0 a1 a2 a3 a4) := by
  intro a0 a1 a2 a3 a4 k
  have ih0 := num_times.mono_l k
  unfold num_times.f
  repeat' first
      | (with_reducible exact ih0 _ _ _ _ _ _ _ _)
      | (with_reducible exact num_gcd.mono _ _ _)
      | (with_reducible exact num_made.mono _ _ _ _)
      | (with_reducible exact LeO.refl _)
      | (with_reducible exact LeO.none _)
      | (with_reducible refine LeO.ite ?_ ?_)
      | (with_reducible refine LeO.bind ?_ (fun _ => ?_))
      | exact ih0 _ _ _ _ _ _ _ _
      | exact num_gcd.mono _ _ _
      | exact num_made.mono _ _ _ _
      | exact LeO.none _
      | refine LeO.ite ?_ ?_
      | refine LeO.bind ?_ (fun _ => ?_)
set_option maxHeartbeats 8000000 in
set_option maxRecDepth 100000 in
theorem num_times.calls (k : Nat) (a0_0 : Int) (a0_1 : Int) (a1 : Bool) (a2 : Int) (a3 : Int) (r1 : Int) (r2 : Int) (r3 : Int) (w : World) (h : num_times.f k a0_0 a0_1 a1 a2 a3 = some (r1, r2, r3)) :
    Calls Tryd.prog 100 #[.agg #[.int .i64 a0_0, .int .i64 a0_1], .bool a1, .int .u64 a2, .int .u64 a3] w fun e w' => e = .returned (.tuple #[.agg #[.int .i64 r1, .int .i64 r2], .int .i64 r3]) ∧ Below w.heap.size w w' := by
  have hu23 := Tryd.underlying23
  have HB := Aside0.mk (Below.refl w.heap.size w)
  have H : ((num_size.f a0_0).bind fun t1097 => ((num_gcd.f k t1097 a3).bind fun t1098 => ((num_gcd.f k a2 (IntKind.u64.wrap (a0_1))).bind fun t1099 => (if t1098 = 0 then (none) else (if t1099 = 0 then (none) else ((bits_Mul64.f (IntKind.u64.wrap (Int.tdiv t1097 t1098)) (IntKind.u64.wrap (Int.tdiv a2 t1099))).bind fun bt1100 => ((bits_Mul64.f (IntKind.u64.wrap (Int.tdiv (IntKind.u64.wrap (a0_1)) t1099)) (IntKind.u64.wrap (Int.tdiv a3 t1098))).bind fun bt1102 => (if bt1100.2 = 0 then (num_times.j0 k a1 bt1100.1 bt1100.2 bt1102.1 bt1102.2 (bt1100.1 == 0) a0_0 a0_1) else (num_times.j0 k a1 bt1100.1 bt1100.2 bt1102.1 bt1102.2 false a0_0 a0_1))))))))) = some (r1, r2, r3) := h
  clear h
  replace H := Option.bind_eq_some_iff.mp H
  obtain ⟨t1097, A50, H⟩ := H
  replace H : ((num_gcd.f k t1097 a3).bind fun t1098 => ((num_gcd.f k a2 (IntKind.u64.wrap (a0_1))).bind fun t1099 => (if t1098 = 0 then (none) else (if t1099 = 0 then (none) else ((bits_Mul64.f (IntKind.u64.wrap (Int.tdiv t1097 t1098)) (IntKind.u64.wrap (Int.tdiv a2 t1099))).bind fun bt1100 => ((bits_Mul64.f (IntKind.u64.wrap (Int.tdiv (IntKind.u64.wrap (a0_1)) t1099)) (IntKind.u64.wrap (Int.tdiv a3 t1098))).bind fun bt1102 => (if bt1100.2 = 0 then (num_times.j0 k a1 bt1100.1 bt1100.2 bt1102.1 bt1102.2 (bt1100.1 == 0) a0_0 a0_1) else (num_times.j0 k a1 bt1100.1 bt1100.2 bt1102.1 bt1102.2 false a0_0 a0_1)))))))) = some (r1, r2, r3) := H
  have A5 := Aside0.mk A50
  clear A50
  replace H := Option.bind_eq_some_iff.mp H
  obtain ⟨t1098, A60, H⟩ := H
  replace H : ((num_gcd.f k a2 (IntKind.u64.wrap (a0_1))).bind fun t1099 => (if t1098 = 0 then (none) else (if t1099 = 0 then (none) else ((bits_Mul64.f (IntKind.u64.wrap (Int.tdiv t1097 t1098)) (IntKind.u64.wrap (Int.tdiv a2 t1099))).bind fun bt1100 => ((bits_Mul64.f (IntKind.u64.wrap (Int.tdiv (IntKind.u64.wrap (a0_1)) t1099)) (IntKind.u64.wrap (Int.tdiv a3 t1098))).bind fun bt1102 => (if bt1100.2 = 0 then (num_times.j0 k a1 bt1100.1 bt1100.2 bt1102.1 bt1102.2 (bt1100.1 == 0) a0_0 a0_1) else (num_times.j0 k a1 bt1100.1 bt1100.2 bt1102.1 bt1102.2 false a0_0 a0_1))))))) = some (r1, r2, r3) := H
  have A6 := Aside0.mk A60
  clear A60
  replace H := Option.bind_eq_some_iff.mp H
  obtain ⟨t1099, A70, H⟩ := H
  replace H : (if t1098 = 0 then (none) else (if t1099 = 0 then (none) else ((bits_Mul64.f (IntKind.u64.wrap (Int.tdiv t1097 t1098)) (IntKind.u64.wrap (Int.tdiv a2 t1099))).bind fun bt1100 => ((bits_Mul64.f (IntKind.u64.wrap (Int.tdiv (IntKind.u64.wrap (a0_1)) t1099)) (IntKind.u64.wrap (Int.tdiv a3 t1098))).bind fun bt1102 => (if bt1100.2 = 0 then (num_times.j0 k a1 bt1100.1 bt1100.2 bt1102.1 bt1102.2 (bt1100.1 == 0) a0_0 a0_1) else (num_times.j0 k a1 bt1100.1 bt1100.2 bt1102.1 bt1102.2 false a0_0 a0_1)))))) = some (r1, r2, r3) := H
  have A7 := Aside0.mk A70
  clear A70
  by_cases c8 : t1098 = 0
  · rw [if_pos c8] at H
    exact absurd H (by simp)
  · rw [if_neg c8] at H
    have c8b0 : (t1098 == 0) = false := beq_eq_false_iff_ne.mpr c8
    have c8b1 : (t1098 != 0) = true := bne_iff_ne.mpr c8
    by_cases c9 : t1099 = 0
    · rw [if_pos c9] at H
      exact absurd H (by simp)
    · rw [if_neg c9] at H
      have c9b0 : (t1099 == 0) = false := beq_eq_false_iff_ne.mpr c9
      have c9b1 : (t1099 != 0) = true := bne_iff_ne.mpr c9
      replace H := Option.bind_eq_some_iff.mp H
      obtain ⟨⟨t1100, t1101⟩, A100, H⟩ := H
      replace H : ((bits_Mul64.f (IntKind.u64.wrap (Int.tdiv (IntKind.u64.wrap (a0_1)) t1099)) (IntKind.u64.wrap (Int.tdiv a3 t1098))).bind fun bt1102 => (if t1101 = 0 then (num_times.j0 k a1 t1100 t1101 bt1102.1 bt1102.2 (t1100 == 0) a0_0 a0_1) else (num_times.j0 k a1 t1100 t1101 bt1102.1 bt1102.2 false a0_0 a0_1))) = some (r1, r2, r3) := H
      have A10 := Aside0.mk A100
      clear A100
      replace H := Option.bind_eq_some_iff.mp H
      obtain ⟨⟨t1102, t1103⟩, A110, H⟩ := H
      replace H : (if t1101 = 0 then (num_times.j0 k a1 t1100 t1101 t1102 t1103 (t1100 == 0) a0_0 a0_1) else (num_times.j0 k a1 t1100 t1101 t1102 t1103 false a0_0 a0_1)) = some (r1, r2, r3) := H
      have A11 := Aside0.mk A110
      clear A110
      have HC12 := Aside0.mk H
      clear H
      go_enter Tryd.func100, Tryd.ntmps100
      go_upto_region 5 with (first | ((with_reducible refine gate_dst (N := 4) rfl ?_); refine qx_ 4 #[.int .i64 a0_0, .int .i64 a0_1] 23 ?hr ?_; (case hr => first | (go_simp; done) | (go_simp; rfl)); intro gb1095 hg w13 hbox hb; have n0_ := Aside0.mk (below_step (q0_ HB.out) hb); have n1_ := Aside0.mk (hbox); have n2_ := Aside0.mk (qs_ hg (q0_ HB.out) : w.heap.size ≤ gb1095); have n3_ := n2_; clear HB; have HB := n0_; have BK1095 := n1_; have GW1095 := n2_; have GE1095 := n3_; clear n0_ n1_ n2_ n3_; clear hb hbox hg) | ((with_reducible refine gate_dst (N := 8) rfl ?_); refine qx_ 8 #[.int .i64 0, .int .i64 0] 23 ?hr ?_; (case hr => first | (go_simp; done) | (go_simp; rfl)); intro gb1096 hg w14 hbox hb; have n0_ := Aside0.mk (qk_ BK1095.out hb); have n1_ := Aside0.mk (below_step (q1_ HB.out GE1095.out) hb); have n2_ := Aside0.mk (hbox); have n3_ := Aside0.mk (qs_ hg (q1_ HB.out GE1095.out) : w.heap.size ≤ gb1096); have n4_ := n3_; have n5_ := Aside0.mk (qn_ hg BK1095.out); have n6_ := Aside0.mk (Ne.symm (qn_ hg BK1095.out)); clear BK1095; clear HB; have BK1095 := n0_; have HB := n1_; have BK1096 := n2_; have GW1096 := n3_; have GE1096 := n4_; have NB1095_1096 := n5_; have NB1096_1095 := n6_; clear n0_ n1_ n2_ n3_ n4_ n5_ n6_; clear hb hbox hg; have hnb15 := NB1095_1096.out; have hnc15 := NB1096_1095.out; have hcz16_0 : w14.cell? ⟨gb1095, 0, none⟩ = some (.int .i64 a0_0) := (blk_cell BK1095.out 0).trans rfl; have hcz16_1 : w14.cell? ⟨gb1095, 1, none⟩ = some (.int .i64 a0_1) := (blk_cell BK1095.out 1).trans rfl; have hfz16_0 := blk_frozen BK1095.out 0; have hfz16_1 := blk_frozen BK1095.out 1) | (go_at_call 78; (with_reducible refine (num_size.calls a0_0 t1097 _ A5.out).mono ?_); rintro e w' ⟨rfl, ⟨nd, rfl⟩⟩; (try first | exact ⟨rfl, _, World.drewN_drewN _ _ _⟩ | exact ⟨rfl, _, Eq.trans (World.drewN_drewN _ _ _) (congrArg (World.drewN _) (Nat.add_assoc _ _ _))⟩)) | (go_at_call 77; (with_reducible refine (num_gcd.calls k t1097 a3 t1098 _ A6.out).mono ?_); rintro e w' ⟨rfl, ⟨nd, rfl⟩⟩; (try first | exact ⟨rfl, _, World.drewN_drewN _ _ _⟩ | exact ⟨rfl, _, Eq.trans (World.drewN_drewN _ _ _) (congrArg (World.drewN _) (Nat.add_assoc _ _ _))⟩)) | (go_at_call 77; (with_reducible refine (num_gcd.calls k a2 (IntKind.u64.wrap (a0_1)) t1099 _ A7.out).mono ?_); rintro e w' ⟨rfl, ⟨nd, rfl⟩⟩; (try first | exact ⟨rfl, _, World.drewN_drewN _ _ _⟩ | exact ⟨rfl, _, Eq.trans (World.drewN_drewN _ _ _) (congrArg (World.drewN _) (Nat.add_assoc _ _ _))⟩)) | (go_at_call 114; (with_reducible refine (bits_Mul64.calls (IntKind.u64.wrap (Int.tdiv t1097 t1098)) (IntKind.u64.wrap (Int.tdiv a2 t1099)) t1100 t1101 _ A10.out).mono ?_); rintro e w' ⟨rfl, ⟨nd, rfl⟩⟩; (try first | exact ⟨rfl, _, World.drewN_drewN _ _ _⟩ | exact ⟨rfl, _, Eq.trans (World.drewN_drewN _ _ _) (congrArg (World.drewN _) (Nat.add_assoc _ _ _))⟩)) | (go_at_call 114; (with_reducible refine (bits_Mul64.calls (IntKind.u64.wrap (Int.tdiv (IntKind.u64.wrap (a0_1)) t1099)) (IntKind.u64.wrap (Int.tdiv a3 t1098)) t1102 t1103 _ A11.out).mono ?_); rintro e w' ⟨rfl, ⟨nd, rfl⟩⟩; (try first | exact ⟨rfl, _, World.drewN_drewN _ _ _⟩ | exact ⟨rfl, _, Eq.trans (World.drewN_drewN _ _ _) (congrArg (World.drewN _) (Nat.add_assoc _ _ _))⟩)))
      repeat (go_quiet (first | ((with_reducible refine gate_dst (N := 4) rfl ?_); refine qx_ 4 #[.int .i64 a0_0, .int .i64 a0_1] 23 ?hr ?_; (case hr => first | (go_simp; done) | (go_simp; rfl)); intro gb1095 hg w13 hbox hb; have n0_ := Aside0.mk (below_step (q0_ HB.out) hb); have n1_ := Aside0.mk (hbox); have n2_ := Aside0.mk (qs_ hg (q0_ HB.out) : w.heap.size ≤ gb1095); have n3_ := n2_; clear HB; have HB := n0_; have BK1095 := n1_; have GW1095 := n2_; have GE1095 := n3_; clear n0_ n1_ n2_ n3_; clear hb hbox hg) | ((with_reducible refine gate_dst (N := 8) rfl ?_); refine qx_ 8 #[.int .i64 0, .int .i64 0] 23 ?hr ?_; (case hr => first | (go_simp; done) | (go_simp; rfl)); intro gb1096 hg w14 hbox hb; have n0_ := Aside0.mk (qk_ BK1095.out hb); have n1_ := Aside0.mk (below_step (q1_ HB.out GE1095.out) hb); have n2_ := Aside0.mk (hbox); have n3_ := Aside0.mk (qs_ hg (q1_ HB.out GE1095.out) : w.heap.size ≤ gb1096); have n4_ := n3_; have n5_ := Aside0.mk (qn_ hg BK1095.out); have n6_ := Aside0.mk (Ne.symm (qn_ hg BK1095.out)); clear BK1095; clear HB; have BK1095 := n0_; have HB := n1_; have BK1096 := n2_; have GW1096 := n3_; have GE1096 := n4_; have NB1095_1096 := n5_; have NB1096_1095 := n6_; clear n0_ n1_ n2_ n3_ n4_ n5_ n6_; clear hb hbox hg; have hnb15 := NB1095_1096.out; have hnc15 := NB1096_1095.out; have hcz16_0 : w14.cell? ⟨gb1095, 0, none⟩ = some (.int .i64 a0_0) := (blk_cell BK1095.out 0).trans rfl; have hcz16_1 : w14.cell? ⟨gb1095, 1, none⟩ = some (.int .i64 a0_1) := (blk_cell BK1095.out 1).trans rfl; have hfz16_0 := blk_frozen BK1095.out 0; have hfz16_1 := blk_frozen BK1095.out 1) | (go_at_call 78; (with_reducible refine (num_size.calls a0_0 t1097 _ A5.out).mono ?_); rintro e w' ⟨rfl, ⟨nd, rfl⟩⟩; (try first | exact ⟨rfl, _, World.drewN_drewN _ _ _⟩ | exact ⟨rfl, _, Eq.trans (World.drewN_drewN _ _ _) (congrArg (World.drewN _) (Nat.add_assoc _ _ _))⟩)) | (go_at_call 77; (with_reducible refine (num_gcd.calls k t1097 a3 t1098 _ A6.out).mono ?_); rintro e w' ⟨rfl, ⟨nd, rfl⟩⟩; (try first | exact ⟨rfl, _, World.drewN_drewN _ _ _⟩ | exact ⟨rfl, _, Eq.trans (World.drewN_drewN _ _ _) (congrArg (World.drewN _) (Nat.add_assoc _ _ _))⟩)) | (go_at_call 77; (with_reducible refine (num_gcd.calls k a2 (IntKind.u64.wrap (a0_1)) t1099 _ A7.out).mono ?_); rintro e w' ⟨rfl, ⟨nd, rfl⟩⟩; (try first | exact ⟨rfl, _, World.drewN_drewN _ _ _⟩ | exact ⟨rfl, _, Eq.trans (World.drewN_drewN _ _ _) (congrArg (World.drewN _) (Nat.add_assoc _ _ _))⟩)) | (go_at_call 114; (with_reducible refine (bits_Mul64.calls (IntKind.u64.wrap (Int.tdiv t1097 t1098)) (IntKind.u64.wrap (Int.tdiv a2 t1099)) t1100 t1101 _ A10.out).mono ?_); rintro e w' ⟨rfl, ⟨nd, rfl⟩⟩; (try first | exact ⟨rfl, _, World.drewN_drewN _ _ _⟩ | exact ⟨rfl, _, Eq.trans (World.drewN_drewN _ _ _) (congrArg (World.drewN _) (Nat.add_assoc _ _ _))⟩)) | (go_at_call 114; (with_reducible refine (bits_Mul64.calls (IntKind.u64.wrap (Int.tdiv (IntKind.u64.wrap (a0_1)) t1099)) (IntKind.u64.wrap (Int.tdiv a3 t1098)) t1102 t1103 _ A11.out).mono ?_); rintro e w' ⟨rfl, ⟨nd, rfl⟩⟩; (try first | exact ⟨rfl, _, World.drewN_drewN _ _ _⟩ | exact ⟨rfl, _, Eq.trans (World.drewN_drewN _ _ _) (congrArg (World.drewN _) (Nat.add_assoc _ _ _))⟩))); go_upto_region 5 with (first | ((with_reducible refine gate_dst (N := 4) rfl ?_); refine qx_ 4 #[.int .i64 a0_0, .int .i64 a0_1] 23 ?hr ?_; (case hr => first | (go_simp; done) | (go_simp; rfl)); intro gb1095 hg w13 hbox hb; have n0_ := Aside0.mk (below_step (q0_ HB.out) hb); have n1_ := Aside0.mk (hbox); have n2_ := Aside0.mk (qs_ hg (q0_ HB.out) : w.heap.size ≤ gb1095); have n3_ := n2_; clear HB; have HB := n0_; have BK1095 := n1_; have GW1095 := n2_; have GE1095 := n3_; clear n0_ n1_ n2_ n3_; clear hb hbox hg) | ((with_reducible refine gate_dst (N := 8) rfl ?_); refine qx_ 8 #[.int .i64 0, .int .i64 0] 23 ?hr ?_; (case hr => first | (go_simp; done) | (go_simp; rfl)); intro gb1096 hg w14 hbox hb; have n0_ := Aside0.mk (qk_ BK1095.out hb); have n1_ := Aside0.mk (below_step (q1_ HB.out GE1095.out) hb); have n2_ := Aside0.mk (hbox); have n3_ := Aside0.mk (qs_ hg (q1_ HB.out GE1095.out) : w.heap.size ≤ gb1096); have n4_ := n3_; have n5_ := Aside0.mk (qn_ hg BK1095.out); have n6_ := Aside0.mk (Ne.symm (qn_ hg BK1095.out)); clear BK1095; clear HB; have BK1095 := n0_; have HB := n1_; have BK1096 := n2_; have GW1096 := n3_; have GE1096 := n4_; have NB1095_1096 := n5_; have NB1096_1095 := n6_; clear n0_ n1_ n2_ n3_ n4_ n5_ n6_; clear hb hbox hg; have hnb15 := NB1095_1096.out; have hnc15 := NB1096_1095.out; have hcz16_0 : w14.cell? ⟨gb1095, 0, none⟩ = some (.int .i64 a0_0) := (blk_cell BK1095.out 0).trans rfl; have hcz16_1 : w14.cell? ⟨gb1095, 1, none⟩ = some (.int .i64 a0_1) := (blk_cell BK1095.out 1).trans rfl; have hfz16_0 := blk_frozen BK1095.out 0; have hfz16_1 := blk_frozen BK1095.out 1) | (go_at_call 78; (with_reducible refine (num_size.calls a0_0 t1097 _ A5.out).mono ?_); rintro e w' ⟨rfl, ⟨nd, rfl⟩⟩; (try first | exact ⟨rfl, _, World.drewN_drewN _ _ _⟩ | exact ⟨rfl, _, Eq.trans (World.drewN_drewN _ _ _) (congrArg (World.drewN _) (Nat.add_assoc _ _ _))⟩)) | (go_at_call 77; (with_reducible refine (num_gcd.calls k t1097 a3 t1098 _ A6.out).mono ?_); rintro e w' ⟨rfl, ⟨nd, rfl⟩⟩; (try first | exact ⟨rfl, _, World.drewN_drewN _ _ _⟩ | exact ⟨rfl, _, Eq.trans (World.drewN_drewN _ _ _) (congrArg (World.drewN _) (Nat.add_assoc _ _ _))⟩)) | (go_at_call 77; (with_reducible refine (num_gcd.calls k a2 (IntKind.u64.wrap (a0_1)) t1099 _ A7.out).mono ?_); rintro e w' ⟨rfl, ⟨nd, rfl⟩⟩; (try first | exact ⟨rfl, _, World.drewN_drewN _ _ _⟩ | exact ⟨rfl, _, Eq.trans (World.drewN_drewN _ _ _) (congrArg (World.drewN _) (Nat.add_assoc _ _ _))⟩)) | (go_at_call 114; (with_reducible refine (bits_Mul64.calls (IntKind.u64.wrap (Int.tdiv t1097 t1098)) (IntKind.u64.wrap (Int.tdiv a2 t1099)) t1100 t1101 _ A10.out).mono ?_); rintro e w' ⟨rfl, ⟨nd, rfl⟩⟩; (try first | exact ⟨rfl, _, World.drewN_drewN _ _ _⟩ | exact ⟨rfl, _, Eq.trans (World.drewN_drewN _ _ _) (congrArg (World.drewN _) (Nat.add_assoc _ _ _))⟩)) | (go_at_call 114; (with_reducible refine (bits_Mul64.calls (IntKind.u64.wrap (Int.tdiv (IntKind.u64.wrap (a0_1)) t1099)) (IntKind.u64.wrap (Int.tdiv a3 t1098)) t1102 t1103 _ A11.out).mono ?_); rintro e w' ⟨rfl, ⟨nd, rfl⟩⟩; (try first | exact ⟨rfl, _, World.drewN_drewN _ _ _⟩ | exact ⟨rfl, _, Eq.trans (World.drewN_drewN _ _ _) (congrArg (World.drewN _) (Nat.add_assoc _ _ _))⟩))))
      (try simp only [Act.put, List.setIfInBounds_toArray, List.set_cons_zero, List.set_cons_succ])
      go_cut [55] (fun v55 wc => ∃ (kq : Nat) (x55_11 : Bool), v55 = .bool x55_11 ∧ Aside0 (num_times.j0 kq a1 t1100 t1101 t1102 t1103 x55_11 a0_0 a0_1 = some (r1, r2, r3)) ∧ Aside0 (kq ≤ k) ∧ Aside0 (wc.heap[gb1095]? = some (.cells #[.int .i64 a0_0, .int .i64 a0_1] 23 (0, 0))) ∧ Aside0 (wc.heap[gb1096]? = some (.cells #[.int .i64 0, .int .i64 0] 23 (0, 0))) ∧ Aside0 (Below w.heap.size w wc))
      case first =>
        have H := HC12.out
        clear HC12
        by_cases c17 : t1101 = 0
        · rw [if_pos c17] at H
          have c17b0 : (t1101 == 0) = true := beq_iff_eq.mpr c17
          have c17b1 : (t1101 != 0) = false := bne_eq_false_iff_eq.mpr c17
          clear c17
          (first | rw [c17b0] | (simp only [i64_w, i32_w]; rw [c17b0]) | skip)
          have H' := Aside0.mk H
          clear H
          go_wp2
          repeat (go_quiet (fail); try go_wp2)
          go_meet
          case rel => exact ⟨_, ((t1100 == 0)), (by first | rfl | (simp; done) | (simp [*]; done)), H', ⟨by first | omega | exact Nat.le_refl _⟩, ⟨by (with_reducible repeat (first | refine blk_drewN ?_ _ | refine blk_drew ?_ | refine blk_alloc ?_ _)); exact BK1095.out⟩, ⟨by (with_reducible repeat (first | refine blk_drewN ?_ _ | refine blk_drew ?_ | refine blk_alloc ?_ _)); exact BK1096.out⟩, ⟨(q2_ HB.out GE1095.out GE1096.out)⟩⟩
        · rw [if_neg c17] at H
          have c17b0 : (t1101 == 0) = false := beq_eq_false_iff_ne.mpr c17
          have c17b1 : (t1101 != 0) = true := bne_iff_ne.mpr c17
          (first | rw [c17b0] | (simp only [i64_w, i32_w]; rw [c17b0]) | skip)
          have H' := Aside0.mk H
          clear H
          go_wp2
          repeat (go_quiet (fail); try go_wp2)
          go_meet
          case rel => exact ⟨_, (false), (by first | rfl | (simp; done) | (simp [*]; done)), H', ⟨by first | omega | exact Nat.le_refl _⟩, ⟨by (with_reducible repeat (first | refine blk_drewN ?_ _ | refine blk_drew ?_ | refine blk_alloc ?_ _)); exact BK1095.out⟩, ⟨by (with_reducible repeat (first | refine blk_drewN ?_ _ | refine blk_drew ?_ | refine blk_alloc ?_ _)); exact BK1096.out⟩, ⟨(q2_ HB.out GE1095.out GE1096.out)⟩⟩
      case rest =>
        clear HC12
        try clear c1
        try clear p2
        try clear c8
        try clear c8b0
        try clear c8b1
        try clear c9
        try clear c9b0
        try clear c9b1
        try clear c10
        try clear c15
        try clear c17
        try clear c17b0
        try clear c17b1
        try clear hcz16_0
        try clear hcz16_1
        try clear hfz16_0
        try clear hfz16_1
        obtain ⟨kq, x55_11, rfl, HA, HJ11, BK1095, BK1096, HB⟩ := hcut
        cases kq with
        | zero => exact absurd HA.out (by simp [num_times.j0])
        | succ kj11 =>
          have H := HA.out
          clear HA
          simp only [num_times.j0] at H
          by_cases c18 : x55_11 = true
          · subst c18
            have H1 : (some (0, 1, 0)) = some (r1, r2, r3) := by rw [if_pos rfl] at H; exact H
            clear H
            have H := H1
            clear H1
            simp only [Option.some.injEq, Prod.mk.injEq] at H
            obtain ⟨rfl, rfl, rfl⟩ := H
            have hnb19 := NB1096_1095.out
            have hnc19 := NB1095_1096.out
            have hcz20_0 : wc.cell? ⟨gb1096, 0, none⟩ = some (.int .i64 0) := (blk_cell BK1096.out 0).trans rfl
            have hcz20_1 : wc.cell? ⟨gb1096, 1, none⟩ = some (.int .i64 0) := (blk_cell BK1096.out 1).trans rfl
            have hfz20_0 := blk_frozen BK1096.out 0
            have hfz20_1 := blk_frozen BK1096.out 1
            go_wp2
            repeat (go_quiet (fail); try go_wp2)
            refine bodyPost_ret (results_ct rfl _ _ gb1096 23 #[.int .i64 0, .int .i64 1] (0, 0) _ rfl (by (with_reducible repeat (first | refine blk_drewN ?_ _ | refine blk_drew ?_ | refine blk_alloc ?_ _)); refine blk_put (cs := #[.int .i64 0, .int .i64 0]) ?_ 1 _ rfl; (with_reducible repeat (first | refine blk_drewN ?_ _ | refine blk_drew ?_ | refine blk_alloc ?_ _)); refine blk_put (cs := #[.int .i64 0, .int .i64 0]) ?_ 0 _ rfl; (with_reducible repeat (first | refine blk_drewN ?_ _ | refine blk_drew ?_ | refine blk_alloc ?_ _)); exact BK1096.out) Tryd.underlying23 rfl (by kernel_rfl)) rfl ?_
            exact ⟨by first | rfl | (simp [errW_none, errW_some] <;> rfl) | (simp [*, errW_none, errW_some] <;> rfl), (q2_ HB.out GE1095.out GE1096.out)⟩
          · replace c18 := Bool.eq_false_iff.mpr c18
            subst c18
            have H1 : (if t1100 = 0 then (if t1102 = 0 then ((num_made.f kj11 (!(decide (a0_0 < 0) == a1)) t1101 t1103).bind fun bt1104 => (some (bt1104.1, bt1104.2.1, bt1104.2.2))) else (some (0, 0, 4))) else (some (0, 0, 4))) = some (r1, r2, r3) := by rw [if_neg (show ¬ (false = true) by decide)] at H; exact H
            clear H
            have H := H1
            clear H1
            by_cases c21 : t1100 = 0
            · rw [if_pos c21] at H
              have c21b0 : (t1100 == 0) = true := beq_iff_eq.mpr c21
              have c21b1 : (t1100 != 0) = false := bne_eq_false_iff_eq.mpr c21
              clear c21
              by_cases c22 : t1102 = 0
              · rw [if_pos c22] at H
                have c22b0 : (t1102 == 0) = true := beq_iff_eq.mpr c22
                have c22b1 : (t1102 != 0) = false := bne_eq_false_iff_eq.mpr c22
                clear c22
                replace H := Option.bind_eq_some_iff.mp H
                obtain ⟨⟨t1104, t1105, t1106⟩, A230, H⟩ := H
                replace H : (some (t1104, t1105, t1106)) = some (r1, r2, r3) := H
                have A23 := Aside0.mk (show num_made.f kj11 (!(decide (a0_0 < 0) == a1)) t1101 t1103 = some (t1104, t1105, t1106) from A230)
                clear A230
                simp only [Option.some.injEq, Prod.mk.injEq] at H
                obtain ⟨rfl, rfl, rfl⟩ := H
                have hnb24 := NB1095_1096.out
                have hnc24 := NB1096_1095.out
                have hcz25_0 : wc.cell? ⟨gb1095, 0, none⟩ = some (.int .i64 a0_0) := (blk_cell BK1095.out 0).trans rfl
                have hcz25_1 : wc.cell? ⟨gb1095, 1, none⟩ = some (.int .i64 a0_1) := (blk_cell BK1095.out 1).trans rfl
                have hfz25_0 := blk_frozen BK1095.out 0
                have hfz25_1 := blk_frozen BK1095.out 1
                go_wp2_with (first | (go_at_call 79; (with_reducible refine (num_made.calls kj11 (!(decide (a0_0 < 0) == a1)) t1101 t1103 t1104 t1105 t1106 _ A23.out).mono ?_); rintro e w26 ⟨rfl, hb⟩; have n0_ := Aside0.mk (qk_ BK1095.out hb); have n1_ := Aside0.mk (qk_ BK1096.out hb); have n2_ := Aside0.mk (below_step (q2_ HB.out GE1095.out GE1096.out) hb); clear BK1095; clear BK1096; clear HB; have BK1095 := n0_; have BK1096 := n1_; have HB := n2_; clear n0_ n1_ n2_; (try clear hb); (try clear hb2); (try clear hk); (try clear hi); have hcz27_0 : w26.cell? ⟨gb1096, 0, none⟩ = some (.int .i64 0) := (blk_cell BK1096.out 0).trans rfl; have hcz27_1 : w26.cell? ⟨gb1096, 1, none⟩ = some (.int .i64 0) := (blk_cell BK1096.out 1).trans rfl; have hfz27_0 := blk_frozen BK1096.out 0; have hfz27_1 := blk_frozen BK1096.out 1))
                repeat (go_quiet (first | (go_at_call 79; (with_reducible refine (num_made.calls kj11 (!(decide (a0_0 < 0) == a1)) t1101 t1103 t1104 t1105 t1106 _ A23.out).mono ?_); rintro e w26 ⟨rfl, hb⟩; have n0_ := Aside0.mk (qk_ BK1095.out hb); have n1_ := Aside0.mk (qk_ BK1096.out hb); have n2_ := Aside0.mk (below_step (q2_ HB.out GE1095.out GE1096.out) hb); clear BK1095; clear BK1096; clear HB; have BK1095 := n0_; have BK1096 := n1_; have HB := n2_; clear n0_ n1_ n2_; (try clear hb); (try clear hb2); (try clear hk); (try clear hi); have hcz27_0 : w26.cell? ⟨gb1096, 0, none⟩ = some (.int .i64 0) := (blk_cell BK1096.out 0).trans rfl; have hcz27_1 : w26.cell? ⟨gb1096, 1, none⟩ = some (.int .i64 0) := (blk_cell BK1096.out 1).trans rfl; have hfz27_0 := blk_frozen BK1096.out 0; have hfz27_1 := blk_frozen BK1096.out 1)); try go_wp2_with (first | (go_at_call 79; (with_reducible refine (num_made.calls kj11 (!(decide (a0_0 < 0) == a1)) t1101 t1103 t1104 t1105 t1106 _ A23.out).mono ?_); rintro e w26 ⟨rfl, hb⟩; have n0_ := Aside0.mk (qk_ BK1095.out hb); have n1_ := Aside0.mk (qk_ BK1096.out hb); have n2_ := Aside0.mk (below_step (q2_ HB.out GE1095.out GE1096.out) hb); clear BK1095; clear BK1096; clear HB; have BK1095 := n0_; have BK1096 := n1_; have HB := n2_; clear n0_ n1_ n2_; (try clear hb); (try clear hb2); (try clear hk); (try clear hi); have hcz27_0 : w26.cell? ⟨gb1096, 0, none⟩ = some (.int .i64 0) := (blk_cell BK1096.out 0).trans rfl; have hcz27_1 : w26.cell? ⟨gb1096, 1, none⟩ = some (.int .i64 0) := (blk_cell BK1096.out 1).trans rfl; have hfz27_0 := blk_frozen BK1096.out 0; have hfz27_1 := blk_frozen BK1096.out 1)))
                refine bodyPost_ret (results_ct rfl _ _ gb1096 23 #[.int .i64 t1104, .int .i64 t1105] (0, 0) _ rfl (by (with_reducible repeat (first | refine blk_drewN ?_ _ | refine blk_drew ?_ | refine blk_alloc ?_ _)); refine blk_put (cs := #[.int .i64 t1104, .int .i64 0]) ?_ 1 _ rfl; (with_reducible repeat (first | refine blk_drewN ?_ _ | refine blk_drew ?_ | refine blk_alloc ?_ _)); refine blk_put (cs := #[.int .i64 0, .int .i64 0]) ?_ 0 _ rfl; (with_reducible repeat (first | refine blk_drewN ?_ _ | refine blk_drew ?_ | refine blk_alloc ?_ _)); exact BK1096.out) Tryd.underlying23 rfl (by kernel_rfl)) rfl ?_
                exact ⟨by first | rfl | (simp [errW_none, errW_some] <;> rfl) | (simp [*, errW_none, errW_some] <;> rfl), (q2_ HB.out GE1095.out GE1096.out)⟩
              · rw [if_neg c22] at H
                have c22b0 : (t1102 == 0) = false := beq_eq_false_iff_ne.mpr c22
                have c22b1 : (t1102 != 0) = true := bne_iff_ne.mpr c22
                simp only [Option.some.injEq, Prod.mk.injEq] at H
                obtain ⟨rfl, rfl, rfl⟩ := H
                have hnb28 := NB1096_1095.out
                have hnc28 := NB1095_1096.out
                have hcz29_0 : wc.cell? ⟨gb1096, 0, none⟩ = some (.int .i64 0) := (blk_cell BK1096.out 0).trans rfl
                have hcz29_1 : wc.cell? ⟨gb1096, 1, none⟩ = some (.int .i64 0) := (blk_cell BK1096.out 1).trans rfl
                have hfz29_0 := blk_frozen BK1096.out 0
                have hfz29_1 := blk_frozen BK1096.out 1
                go_wp2
                repeat (go_quiet (fail); try go_wp2)
                refine bodyPost_ret (results_ct rfl _ _ gb1096 23 #[.int .i64 0, .int .i64 0] (0, 0) _ rfl (by (with_reducible repeat (first | refine blk_drewN ?_ _ | refine blk_drew ?_ | refine blk_alloc ?_ _)); refine blk_put (cs := #[.int .i64 0, .int .i64 0]) ?_ 1 _ rfl; (with_reducible repeat (first | refine blk_drewN ?_ _ | refine blk_drew ?_ | refine blk_alloc ?_ _)); refine blk_put (cs := #[.int .i64 0, .int .i64 0]) ?_ 0 _ rfl; (with_reducible repeat (first | refine blk_drewN ?_ _ | refine blk_drew ?_ | refine blk_alloc ?_ _)); exact BK1096.out) Tryd.underlying23 rfl (by kernel_rfl)) rfl ?_
                exact ⟨by first | rfl | (simp [errW_none, errW_some] <;> rfl) | (simp [*, errW_none, errW_some] <;> rfl), (q2_ HB.out GE1095.out GE1096.out)⟩
            · rw [if_neg c21] at H
              have c21b0 : (t1100 == 0) = false := beq_eq_false_iff_ne.mpr c21
              have c21b1 : (t1100 != 0) = true := bne_iff_ne.mpr c21
              simp only [Option.some.injEq, Prod.mk.injEq] at H
              obtain ⟨rfl, rfl, rfl⟩ := H
              have hnb30 := NB1096_1095.out
              have hnc30 := NB1095_1096.out
              have hcz31_0 : wc.cell? ⟨gb1096, 0, none⟩ = some (.int .i64 0) := (blk_cell BK1096.out 0).trans rfl
              have hcz31_1 : wc.cell? ⟨gb1096, 1, none⟩ = some (.int .i64 0) := (blk_cell BK1096.out 1).trans rfl
              have hfz31_0 := blk_frozen BK1096.out 0
              have hfz31_1 := blk_frozen BK1096.out 1
              go_wp2
              repeat (go_quiet (fail); try go_wp2)
              refine bodyPost_ret (results_ct rfl _ _ gb1096 23 #[.int .i64 0, .int .i64 0] (0, 0) _ rfl (by (with_reducible repeat (first | refine blk_drewN ?_ _ | refine blk_drew ?_ | refine blk_alloc ?_ _)); refine blk_put (cs := #[.int .i64 0, .int .i64 0]) ?_ 1 _ rfl; (with_reducible repeat (first | refine blk_drewN ?_ _ | refine blk_drew ?_ | refine blk_alloc ?_ _)); refine blk_put (cs := #[.int .i64 0, .int .i64 0]) ?_ 0 _ rfl; (with_reducible repeat (first | refine blk_drewN ?_ _ | refine blk_drew ?_ | refine blk_alloc ?_ _)); exact BK1096.out) Tryd.underlying23 rfl (by kernel_rfl)) rfl ?_
              exact ⟨by first | rfl | (simp [errW_none, errW_some] <;> rfl) | (simp [*, errW_none, errW_some] <;> rfl), (q2_ HB.out GE1095.out GE1096.out)⟩
end Go.Proofs.YtdjnneflpkllmaaDoor.Q

namespace Go.Proofs.YtdjnneflpkllmaaDoor.Q
open Go.RowKit Go.Proofs.YtdjnneflpkllmaaDoorW.PrintWords Go.Proofs.YtdjnneflpkllmaaDoorW.PrintLast Go.Proofs.YtdjnneflpkllmaaDoorW.PrintMore
attribute [local go_sem] max2_int min2_int max_two min_two max_three min_three max_four min_four   -- for this text's walks alone
set_option linter.unusedVariables false
set_option linter.unusedSimpArgs false
def num_Add.j0 : Nat → Bool → Int → Int → Int → Int → Option (Int × Int × Int)
  | 0, _, _, _, _, _ => none
  | k + 1, x14, x1077000, x1077001, x1078000, x1078001 => if x14 = true then (some (0, 0, 2)) else ((num_size.f (wrap64 ((wrap64 (x1077000 * x1078001)) + (wrap64 (x1078000 * x1077001))))).bind fun t1081 => ((num_made.f k (decide ((wrap64 ((wrap64 (x1077000 * x1078001)) + (wrap64 (x1078000 * x1077001)))) < 0)) t1081 (IntKind.u64.wrap ((IntKind.u64.wrap (x1077001)) * (IntKind.u64.wrap (x1078001))))).bind fun bt1082 => (some (bt1082.1, bt1082.2.1, bt1082.2.2))))
def num_Add.f (k : Nat) (a0_0 : Int) (a0_1 : Int) (a1_0 : Int) (a1_1 : Int) : Option (Int × Int × Int) := (num_Valid.f k a0_0 a0_1).bind fun t1079 => (if t1079 = true then ((num_Valid.f k a1_0 a1_1).bind fun t1080 => (num_Add.j0 k (!t1080) a0_0 a0_1 a1_0 a1_1)) else (num_Add.j0 k true a0_0 a0_1 a1_0 a1_1))
theorem num_Add.mono_l : ∀ k, (∀ y0 y1 y2 y3 y4, LeO (num_Add.j0 k y0 y1 y2 y3 y4) (num_Add.j0 (k + 1) y0 y1 y2 y3 y4))
  | 0 => fun _ _ _ _ _ r h => by simp [num_Add.j0] at h
  | k + 1 => by
    have ih0 := num_Add.mono_l k
    · intro y0 y1 y2 y3 y4
      unfold num_Add.j0
      repeat' first
      | (with_reducible exact ih0 _ _ _ _ _)
      | (with_reducible exact num_Valid.mono _ _ _)
      | (with_reducible exact num_made.mono _ _ _ _)
      | (with_reducible exact LeO.refl _)
      | (with_reducible exact LeO.none _)
      | (with_reducible refine LeO.ite ?_ ?_)
      | (with_reducible refine LeO.bind ?_ (fun _ => ?_))
      | exact ih0 _ _ _ _ _
      | exact num_Valid.mono _ _ _
      | exact num_made.mono _ _ _ _
      | exact LeO.none _
      | refine LeO.ite ?_ ?_
      | refine LeO.bind ?_ (fun _ => ?_)
theorem num_Add.mono : ∀ a0 a1 a2 a3 k, LeO (num_Add.f k a0 a1 a2 a3) (num_Add.f (k + 1) a0 a1 a2 a3) := by
  intro a0 a1 a2 a3 k
  have ih0 := num_Add.mono_l k
  unfold num_Add.f
  repeat' first
      | (with_reducible exact ih0 _ _ _ _ _)
      | (with_reducible exact num_Valid.mono _ _ _)
      | (with_reducible exact num_made.mono _ _ _ _)
      | (with_reducible exact LeO.refl _)
      | (with_reducible exact LeO.none _)
      | (with_reducible refine LeO.ite ?_ ?_)
      | (with_reducible refine LeO.bind ?_ (fun _ => ?_))
      | exact ih0 _ _ _ _ _
      | exact num_Valid.mono _ _ _
      | exact num_made.mono _ _ _ _
      | exact LeO.none _
      | refine LeO.ite ?_ ?_
      | refine LeO.bind ?_ (fun _ => ?_)
def num_Add.T4 : Bool × List (List Nat × List Nat) := (true, [([], []), ([0], [0]), ([], []), ([2], [2]), ([], []), ([4], [4]), ([5], [5]), ([], []), ([7], [7]), ([8], [8]), ([6, 9], [6, 9]), ([1, 3, 10, 3], [1, 3, 10]), ([11], [11]), ([11], [11]), ([12, 11, 0, 1, 2, 3, 4, 5, 6, 7, 8, 9, 10, 11, 12, 13], [12]), ([13, 14, 0, 1, 2, 3, 4, 5, 6, 7, 8, 9, 10, 11, 12, 13, 14], [13])])
def num_Add.B4 : List Nat := [0, 1, 0, 4, 0, 16, 48, 0, 128, 384, 1008, 2047, 4095, 4095, 16383, 32767]
theorem num_Add.tab4 : rtab .any (opsOf Tryd.f52 4) = num_Add.T4 := by kernel_rfl
theorem num_Add.bits4 : waitsOk num_Add.T4.2 num_Add.B4 = true := by kernel_rfl
set_option maxHeartbeats 8000000 in
set_option maxRecDepth 100000 in
theorem num_Add.calls (k : Nat) (a0_0 : Int) (a0_1 : Int) (a1_0 : Int) (a1_1 : Int) (r1 : Int) (r2 : Int) (r3 : Int) (w : World) (h : num_Add.f k a0_0 a0_1 a1_0 a1_1 = some (r1, r2, r3)) :
    Calls Tryd.prog 52 #[.agg #[.int .i64 a0_0, .int .i64 a0_1], .agg #[.int .i64 a1_0, .int .i64 a1_1]] w fun e w' => e = .returned (.tuple #[.agg #[.int .i64 r1, .int .i64 r2], .int .i64 r3]) ∧ Below w.heap.size w w' := by
  have hu23 := Tryd.underlying23
  have HB := Aside0.mk (Below.refl w.heap.size w)
  have H : ((num_Valid.f k a0_0 a0_1).bind fun t1079 => (if t1079 = true then ((num_Valid.f k a1_0 a1_1).bind fun t1080 => (num_Add.j0 k (!t1080) a0_0 a0_1 a1_0 a1_1)) else (num_Add.j0 k true a0_0 a0_1 a1_0 a1_1))) = some (r1, r2, r3) := h
  clear h
  have HC3 := Aside0.mk H
  clear H
  go_enter Tryd.func52, Tryd.ntmps52
  go_upto_region 1 with (first | ((with_reducible refine gate_dst (N := 2) rfl ?_); refine qx_ 2 #[.int .i64 a0_0, .int .i64 a0_1] 23 ?hr ?_; (case hr => first | (go_simp; done) | (go_simp; rfl)); intro gb1076 hg w4 hbox hb; have n0_ := Aside0.mk (below_step (q0_ HB.out) hb); have n1_ := Aside0.mk (hbox); have n2_ := Aside0.mk (qs_ hg (q0_ HB.out) : w.heap.size ≤ gb1076); have n3_ := n2_; clear HB; have HB := n0_; have BK1076 := n1_; have GW1076 := n2_; have GE1076 := n3_; clear n0_ n1_ n2_ n3_; clear hb hbox hg) | ((with_reducible refine gate_dst (N := 3) rfl ?_); refine qx_ 3 #[.int .i64 a1_0, .int .i64 a1_1] 23 ?hr ?_; (case hr => first | (go_simp; done) | (go_simp; rfl)); intro gb1077 hg w5 hbox hb; have n0_ := Aside0.mk (qk_ BK1076.out hb); have n1_ := Aside0.mk (below_step (q1_ HB.out GE1076.out) hb); have n2_ := Aside0.mk (hbox); have n3_ := Aside0.mk (qs_ hg (q1_ HB.out GE1076.out) : w.heap.size ≤ gb1077); have n4_ := n3_; have n5_ := Aside0.mk (qn_ hg BK1076.out); have n6_ := Aside0.mk (Ne.symm (qn_ hg BK1076.out)); clear BK1076; clear HB; have BK1076 := n0_; have HB := n1_; have BK1077 := n2_; have GW1077 := n3_; have GE1077 := n4_; have NB1076_1077 := n5_; have NB1077_1076 := n6_; clear n0_ n1_ n2_ n3_ n4_ n5_ n6_; clear hb hbox hg) | ((with_reducible refine gate_dst (N := 4) rfl ?_); refine qx_ 4 #[.int .i64 0, .int .i64 0] 23 ?hr ?_; (case hr => first | (go_simp; done) | (go_simp; rfl)); intro gb1078 hg w6 hbox hb; have n0_ := Aside0.mk (qk_ BK1076.out hb); have n1_ := Aside0.mk (qk_ BK1077.out hb); have n2_ := Aside0.mk (below_step (q2_ HB.out GE1076.out GE1077.out) hb); have n3_ := Aside0.mk (hbox); have n4_ := Aside0.mk (qs_ hg (q2_ HB.out GE1076.out GE1077.out) : w.heap.size ≤ gb1078); have n5_ := n4_; have n6_ := Aside0.mk (qn_ hg BK1076.out); have n7_ := Aside0.mk (Ne.symm (qn_ hg BK1076.out)); have n8_ := Aside0.mk (qn_ hg BK1077.out); have n9_ := Aside0.mk (Ne.symm (qn_ hg BK1077.out)); clear BK1076; clear BK1077; clear HB; have BK1076 := n0_; have BK1077 := n1_; have HB := n2_; have BK1078 := n3_; have GW1078 := n4_; have GE1078 := n5_; have NB1076_1078 := n6_; have NB1078_1076 := n7_; have NB1077_1078 := n8_; have NB1078_1077 := n9_; clear n0_ n1_ n2_ n3_ n4_ n5_ n6_ n7_ n8_ n9_; clear hb hbox hg))
  (try simp only [Act.put, List.setIfInBounds_toArray, List.set_cons_zero, List.set_cons_succ])
  go_cut [14] (fun v14 wc => ∃ (kq : Nat) (x14_2 : Bool), v14 = .bool x14_2 ∧ Aside0 (num_Add.j0 kq x14_2 a0_0 a0_1 a1_0 a1_1 = some (r1, r2, r3)) ∧ Aside0 (kq ≤ k) ∧ Aside0 (wc.heap[gb1076]? = some (.cells #[.int .i64 a0_0, .int .i64 a0_1] 23 (0, 0))) ∧ Aside0 (wc.heap[gb1077]? = some (.cells #[.int .i64 a1_0, .int .i64 a1_1] 23 (0, 0))) ∧ Aside0 (wc.heap[gb1078]? = some (.cells #[.int .i64 0, .int .i64 0] 23 (0, 0))) ∧ Aside0 (Below w.heap.size w wc))
  case first =>
    have H := HC3.out
    clear HC3
    replace H := Option.bind_eq_some_iff.mp H
    obtain ⟨t1079, A70, H⟩ := H
    replace H : (if t1079 = true then ((num_Valid.f k a1_0 a1_1).bind fun t1080 => (num_Add.j0 k (!t1080) a0_0 a0_1 a1_0 a1_1)) else (num_Add.j0 k true a0_0 a0_1 a1_0 a1_1)) = some (r1, r2, r3) := H
    have A7 := Aside0.mk A70
    clear A70
    by_cases c8 : t1079 = true
    · subst c8
      have H1 : ((num_Valid.f k a1_0 a1_1).bind fun t1080 => (num_Add.j0 k (!t1080) a0_0 a0_1 a1_0 a1_1)) = some (r1, r2, r3) := by rw [if_pos rfl] at H; exact H
      clear H
      have H := H1
      clear H1
      replace H := Option.bind_eq_some_iff.mp H
      obtain ⟨t1080, A90, H⟩ := H
      replace H : (num_Add.j0 k (!t1080) a0_0 a0_1 a1_0 a1_1) = some (r1, r2, r3) := H
      have A9 := Aside0.mk A90
      clear A90
      have H' := Aside0.mk H
      clear H
      have hnb10 := NB1076_1077.out
      have hnc10 := NB1077_1076.out
      have hnb11 := NB1076_1078.out
      have hnc11 := NB1078_1076.out
      have hcz12_0 : w6.cell? ⟨gb1076, 0, none⟩ = some (.int .i64 a0_0) := (blk_cell BK1076.out 0).trans rfl
      have hcz12_1 : w6.cell? ⟨gb1076, 1, none⟩ = some (.int .i64 a0_1) := (blk_cell BK1076.out 1).trans rfl
      have hfz12_0 := blk_frozen BK1076.out 0
      have hfz12_1 := blk_frozen BK1076.out 1
      go_wp2_with (first | ((with_reducible refine gate_callee (f := 26) rfl ?_); refine goesL_ (some 8) rfl rfl Tryd.func26 (by kernel_rfl) rfl #[.agg #[.int .i64 a0_0, .int .i64 a0_1]] rfl qe_ ?_; (with_reducible refine (num_Valid.calls k a0_0 a0_1 true _ A7.out).mono ?_); rintro e w13 ⟨rfl, hb⟩; refine ⟨_, rfl, ?_⟩; have n0_ := Aside0.mk (qk_ BK1076.out hb); have n1_ := Aside0.mk (qk_ BK1077.out hb); have n2_ := Aside0.mk (qk_ BK1078.out hb); have n3_ := Aside0.mk (below_step (q3_ HB.out GE1076.out GE1077.out GE1078.out) hb); clear BK1076; clear BK1077; clear BK1078; clear HB; have BK1076 := n0_; have BK1077 := n1_; have BK1078 := n2_; have HB := n3_; clear n0_ n1_ n2_ n3_; (try clear hb); (try clear hb2); (try clear hk); (try clear hi); have hnb14 := NB1077_1078.out; have hnc14 := NB1078_1077.out; have hcz15_0 : w13.cell? ⟨gb1077, 0, none⟩ = some (.int .i64 a1_0) := (blk_cell BK1077.out 0).trans rfl; have hcz15_1 : w13.cell? ⟨gb1077, 1, none⟩ = some (.int .i64 a1_1) := (blk_cell BK1077.out 1).trans rfl; have hfz15_0 := blk_frozen BK1077.out 0; have hfz15_1 := blk_frozen BK1077.out 1) | (go_at_call 26; (with_reducible refine (num_Valid.calls k a1_0 a1_1 t1080 _ A9.out).mono ?_); rintro e w16 ⟨rfl, hb⟩; have n0_ := Aside0.mk (qk_ BK1076.out hb); have n1_ := Aside0.mk (qk_ BK1077.out hb); have n2_ := Aside0.mk (qk_ BK1078.out hb); have n3_ := Aside0.mk (below_step (q3_ HB.out GE1076.out GE1077.out GE1078.out) hb); clear BK1076; clear BK1077; clear BK1078; clear HB; have BK1076 := n0_; have BK1077 := n1_; have BK1078 := n2_; have HB := n3_; clear n0_ n1_ n2_ n3_; (try clear hb); (try clear hb2); (try clear hk); (try clear hi)))
      go_meet
      case rel => exact ⟨_, (!t1080), (by first | rfl | (simp; done) | (simp [*]; done)), H', ⟨by first | omega | exact Nat.le_refl _⟩, ⟨by (with_reducible repeat (first | refine blk_drewN ?_ _ | refine blk_drew ?_ | refine blk_alloc ?_ _)); exact BK1076.out⟩, ⟨by (with_reducible repeat (first | refine blk_drewN ?_ _ | refine blk_drew ?_ | refine blk_alloc ?_ _)); exact BK1077.out⟩, ⟨by (with_reducible repeat (first | refine blk_drewN ?_ _ | refine blk_drew ?_ | refine blk_alloc ?_ _)); exact BK1078.out⟩, ⟨(q3_ HB.out GE1076.out GE1077.out GE1078.out)⟩⟩
    · replace c8 := Bool.eq_false_iff.mpr c8
      subst c8
      have H1 : (num_Add.j0 k true a0_0 a0_1 a1_0 a1_1) = some (r1, r2, r3) := by rw [if_neg (show ¬ (false = true) by decide)] at H; exact H
      clear H
      have H := H1
      clear H1
      have H' := Aside0.mk H
      clear H
      have hnb17 := NB1076_1077.out
      have hnc17 := NB1077_1076.out
      have hnb18 := NB1076_1078.out
      have hnc18 := NB1078_1076.out
      have hcz19_0 : w6.cell? ⟨gb1076, 0, none⟩ = some (.int .i64 a0_0) := (blk_cell BK1076.out 0).trans rfl
      have hcz19_1 : w6.cell? ⟨gb1076, 1, none⟩ = some (.int .i64 a0_1) := (blk_cell BK1076.out 1).trans rfl
      have hfz19_0 := blk_frozen BK1076.out 0
      have hfz19_1 := blk_frozen BK1076.out 1
      go_wp2_with (first | ((with_reducible refine gate_callee (f := 26) rfl ?_); refine goesL_ (some 8) rfl rfl Tryd.func26 (by kernel_rfl) rfl #[.agg #[.int .i64 a0_0, .int .i64 a0_1]] rfl qe_ ?_; (with_reducible refine (num_Valid.calls k a0_0 a0_1 false _ A7.out).mono ?_); rintro e w20 ⟨rfl, hb⟩; refine ⟨_, rfl, ?_⟩; have n0_ := Aside0.mk (qk_ BK1076.out hb); have n1_ := Aside0.mk (qk_ BK1077.out hb); have n2_ := Aside0.mk (qk_ BK1078.out hb); have n3_ := Aside0.mk (below_step (q3_ HB.out GE1076.out GE1077.out GE1078.out) hb); clear BK1076; clear BK1077; clear BK1078; clear HB; have BK1076 := n0_; have BK1077 := n1_; have BK1078 := n2_; have HB := n3_; clear n0_ n1_ n2_ n3_; (try clear hb); (try clear hb2); (try clear hk); (try clear hi)))
      go_meet
      case rel => exact ⟨_, (true), (by first | rfl | (simp; done) | (simp [*]; done)), H', ⟨by first | omega | exact Nat.le_refl _⟩, ⟨by (with_reducible repeat (first | refine blk_drewN ?_ _ | refine blk_drew ?_ | refine blk_alloc ?_ _)); exact BK1076.out⟩, ⟨by (with_reducible repeat (first | refine blk_drewN ?_ _ | refine blk_drew ?_ | refine blk_alloc ?_ _)); exact BK1077.out⟩, ⟨by (with_reducible repeat (first | refine blk_drewN ?_ _ | refine blk_drew ?_ | refine blk_alloc ?_ _)); exact BK1078.out⟩, ⟨(q3_ HB.out GE1076.out GE1077.out GE1078.out)⟩⟩
  case rest =>
    clear HC3
    try clear c1
    try clear c2
    try clear p2
    try clear c5
    try clear c8
    try clear c10
    try clear c11
    try clear c14
    try clear c17
    try clear c18
    try clear hcz12_0
    try clear hcz12_1
    try clear hcz15_0
    try clear hcz15_1
    try clear hcz19_0
    try clear hcz19_1
    try clear hfz12_0
    try clear hfz12_1
    try clear hfz15_0
    try clear hfz15_1
    try clear hfz19_0
    try clear hfz19_1
    obtain ⟨kq, x14_2, rfl, HA, HJ2, BK1076, BK1077, BK1078, HB⟩ := hcut
    cases kq with
    | zero => exact absurd HA.out (by simp [num_Add.j0])
    | succ kj2 =>
      have H := HA.out
      clear HA
      simp only [num_Add.j0] at H
      by_cases c21 : x14_2 = true
      · subst c21
        have H1 : (some (0, 0, 2)) = some (r1, r2, r3) := by rw [if_pos rfl] at H; exact H
        clear H
        have H := H1
        clear H1
        simp only [Option.some.injEq, Prod.mk.injEq] at H
        obtain ⟨rfl, rfl, rfl⟩ := H
        have hnb22 := NB1078_1076.out
        have hnc22 := NB1076_1078.out
        have hnb23 := NB1078_1077.out
        have hnc23 := NB1077_1078.out
        have hcz24_0 : wc.cell? ⟨gb1078, 0, none⟩ = some (.int .i64 0) := (blk_cell BK1078.out 0).trans rfl
        have hcz24_1 : wc.cell? ⟨gb1078, 1, none⟩ = some (.int .i64 0) := (blk_cell BK1078.out 1).trans rfl
        have hfz24_0 := blk_frozen BK1078.out 0
        have hfz24_1 := blk_frozen BK1078.out 1
        go_wp2
        refine bodyPost_ret (results_ct rfl _ _ gb1078 23 #[.int .i64 0, .int .i64 0] (0, 0) _ rfl (by (with_reducible repeat (first | refine blk_drewN ?_ _ | refine blk_drew ?_ | refine blk_alloc ?_ _)); refine blk_put (cs := #[.int .i64 0, .int .i64 0]) ?_ 1 _ rfl; (with_reducible repeat (first | refine blk_drewN ?_ _ | refine blk_drew ?_ | refine blk_alloc ?_ _)); refine blk_put (cs := #[.int .i64 0, .int .i64 0]) ?_ 0 _ rfl; (with_reducible repeat (first | refine blk_drewN ?_ _ | refine blk_drew ?_ | refine blk_alloc ?_ _)); exact BK1078.out) Tryd.underlying23 rfl (by kernel_rfl)) rfl ?_
        exact ⟨by first | rfl | (simp [errW_none, errW_some] <;> rfl) | (simp [*, errW_none, errW_some] <;> rfl), (q3_ HB.out GE1076.out GE1077.out GE1078.out)⟩
      · replace c21 := Bool.eq_false_iff.mpr c21
        subst c21
        have H1 : ((num_size.f (wrap64 ((wrap64 (a0_0 * a1_1)) + (wrap64 (a1_0 * a0_1))))).bind fun t1081 => ((num_made.f kj2 (decide ((wrap64 ((wrap64 (a0_0 * a1_1)) + (wrap64 (a1_0 * a0_1)))) < 0)) t1081 (IntKind.u64.wrap ((IntKind.u64.wrap (a0_1)) * (IntKind.u64.wrap (a1_1))))).bind fun bt1082 => (some (bt1082.1, bt1082.2.1, bt1082.2.2)))) = some (r1, r2, r3) := by rw [if_neg (show ¬ (false = true) by decide)] at H; exact H
        clear H
        have H := H1
        clear H1
        replace H := Option.bind_eq_some_iff.mp H
        obtain ⟨t1081, A250, H⟩ := H
        replace H : ((num_made.f kj2 (decide ((wrap64 ((wrap64 (a0_0 * a1_1)) + (wrap64 (a1_0 * a0_1)))) < 0)) t1081 (IntKind.u64.wrap ((IntKind.u64.wrap (a0_1)) * (IntKind.u64.wrap (a1_1))))).bind fun bt1082 => (some (bt1082.1, bt1082.2.1, bt1082.2.2))) = some (r1, r2, r3) := H
        have A25 := Aside0.mk A250
        clear A250
        replace H := Option.bind_eq_some_iff.mp H
        obtain ⟨⟨t1082, t1083, t1084⟩, A260, H⟩ := H
        replace H : (some (t1082, t1083, t1084)) = some (r1, r2, r3) := H
        have A26 := Aside0.mk A260
        clear A260
        simp only [Option.some.injEq, Prod.mk.injEq] at H
        obtain ⟨rfl, rfl, rfl⟩ := H
        have hnb27 := NB1076_1077.out
        have hnc27 := NB1077_1076.out
        have hnb28 := NB1076_1078.out
        have hnc28 := NB1078_1076.out
        have hcz29_0 : wc.cell? ⟨gb1076, 0, none⟩ = some (.int .i64 a0_0) := (blk_cell BK1076.out 0).trans rfl
        have hcz29_1 : wc.cell? ⟨gb1076, 1, none⟩ = some (.int .i64 a0_1) := (blk_cell BK1076.out 1).trans rfl
        have hfz29_0 := blk_frozen BK1076.out 0
        have hfz29_1 := blk_frozen BK1076.out 1
        have hnb30 := NB1077_1078.out
        have hnc30 := NB1078_1077.out
        have hcz31_0 : wc.cell? ⟨gb1077, 0, none⟩ = some (.int .i64 a1_0) := (blk_cell BK1077.out 0).trans rfl
        have hcz31_1 : wc.cell? ⟨gb1077, 1, none⟩ = some (.int .i64 a1_1) := (blk_cell BK1077.out 1).trans rfl
        have hfz31_0 := blk_frozen BK1077.out 0
        have hfz31_1 := blk_frozen BK1077.out 1
        try go_wp2
        have n0_ := Aside0.mk (blk_drew BK1076.out)
        have n1_ := Aside0.mk (blk_drew BK1077.out)
        have n2_ := Aside0.mk (blk_drew BK1078.out)
        have n3_ := Aside0.mk (below_drew1 HB.out)
        clear BK1076
        clear BK1077
        clear BK1078
        clear HB
        have BK1076 := n0_
        have BK1077 := n1_
        have BK1078 := n2_
        have HB := n3_
        clear n0_ n1_ n2_ n3_
        refine start_ (n := 16) (S := fun w' => w'.cell? ⟨gb1076, 0, none⟩ = some (.int .i64 a0_0) ∧ w'.cell? ⟨gb1076, 1, none⟩ = some (.int .i64 a0_1) ∧ w'.cell? ⟨gb1077, 0, none⟩ = some (.int .i64 a1_0) ∧ w'.cell? ⟨gb1077, 1, none⟩ = some (.int .i64 a1_1)) (ds := []) #[false, false, false, false, false, false, false, false, false, false, false, false, false, false, false, false] (by kernel_rfl) rfl rfl ⟨(blk_cell BK1076.out 0).trans rfl, (blk_cell BK1076.out 1).trans rfl, (blk_cell BK1077.out 0).trans rfl, (blk_cell BK1077.out 1).trans rfl⟩ (fun hHeld => ?_); refine with_tabW num_Add.tab4 num_Add.bits4 (fun HT_ HW_ => ?_)
        generalize wc.drew = w32 at BK1076 BK1077 BK1078 HB hHeld ⊢
        refine pure_ (i := 0) (N := some 27) (v := ?_) (a' := ?_) #[true, false, false, false, false, false, false, false, false, false, false, false, false, false, false, false] rfl rfl (any_of HT_.out (by kernel_rfl)) (fun _ _ _ h => h) (Or.inl ⟨by rfl, ?_⟩) ?_ ?_
        rotate_left
        · intro w'
          go_simp
          with_reducible rfl
        rotate_left
        · simp only [Act.put, List.setIfInBounds_toArray, List.set_cons_zero, List.set_cons_succ, i64_w, i32_w]
          rfl
        refine pure_ (i := 1) (N := some 28) (v := ?_) (a' := ?_) #[true, true, false, false, false, false, false, false, false, false, false, false, false, false, false, false] rfl rfl (any_of HT_.out (by kernel_rfl)) (fun _ _ _ h => h) (Or.inl ⟨by rfl, ?_⟩) ?_ ?_
        rotate_left
        · intro w'
          go_simp
          with_reducible rfl
        rotate_left
        · simp only [Act.put, List.setIfInBounds_toArray, List.set_cons_zero, List.set_cons_succ, i64_w, i32_w]
          rfl
        refine pure_ (i := 2) (N := some 29) (v := ?_) (a' := ?_) #[true, true, true, false, false, false, false, false, false, false, false, false, false, false, false, false] rfl rfl (any_of HT_.out (by kernel_rfl)) (fun _ _ _ h => h) (Or.inl ⟨by rfl, ?_⟩) ?_ ?_
        rotate_left
        · intro w'
          go_simp
          with_reducible rfl
        rotate_left
        · simp only [Act.put, List.setIfInBounds_toArray, List.set_cons_zero, List.set_cons_succ, i64_w, i32_w]
          rfl
        refine pure_ (i := 4) (N := some 31) (v := ?_) (a' := ?_) #[true, true, true, false, true, false, false, false, false, false, false, false, false, false, false, false] rfl rfl (any_of HT_.out (by kernel_rfl)) (fun _ _ _ h => h) (Or.inl ⟨by rfl, ?_⟩) ?_ ?_
        rotate_left
        · intro w'
          go_simp
          with_reducible rfl
        rotate_left
        · simp only [Act.put, List.setIfInBounds_toArray, List.set_cons_zero, List.set_cons_succ, i64_w, i32_w]
          rfl
        refine pure_ (i := 7) (N := some 34) (v := ?_) (a' := ?_) #[true, true, true, false, true, false, false, true, false, false, false, false, false, false, false, false] rfl rfl (any_of HT_.out (by kernel_rfl)) (fun _ _ _ h => h) (Or.inl ⟨by rfl, ?_⟩) ?_ ?_
        rotate_left
        · intro w'
          go_simp
          with_reducible rfl
        rotate_left
        · simp only [Act.put, List.setIfInBounds_toArray, List.set_cons_zero, List.set_cons_succ, i64_w, i32_w]
          rfl
        refine take_ (i := 5) (N := some 32) (v := ?_) (a' := ?_) #[true, true, true, false, true, true, false, true, false, false, false, false, false, false, false, false] rfl rfl (take_ofW HT_.out HW_.out (by kernel_rfl)) (fun _ _ _ h => h) (Or.inl ⟨by rfl, ?_⟩) hHeld ?_ ?_
        rotate_left
        · rintro w' ⟨s0, s1, s2, s3⟩
          go_simp
          with_reducible rfl
        rotate_left
        · simp only [Act.put, List.setIfInBounds_toArray, List.set_cons_zero, List.set_cons_succ, i64_w, i32_w]
          rfl
        refine pure_ (i := 6) (N := some 33) (v := ?_) (a' := ?_) #[true, true, true, false, true, true, true, true, false, false, false, false, false, false, false, false] rfl rfl (any_of HT_.out (by kernel_rfl)) (fun _ _ _ h => h) (Or.inl ⟨by rfl, ?_⟩) ?_ ?_
        rotate_left
        · intro w'
          go_simp
          with_reducible rfl
        rotate_left
        · simp only [Act.put, List.setIfInBounds_toArray, List.set_cons_zero, List.set_cons_succ, i64_w, i32_w]
          rfl
        refine take_ (i := 8) (N := some 35) (v := ?_) (a' := ?_) #[true, true, true, false, true, true, true, true, true, false, false, false, false, false, false, false] rfl rfl (take_ofW HT_.out HW_.out (by kernel_rfl)) (fun _ _ _ h => h) (Or.inl ⟨by rfl, ?_⟩) hHeld ?_ ?_
        rotate_left
        · rintro w' ⟨s0, s1, s2, s3⟩
          go_simp
          with_reducible rfl
        rotate_left
        · simp only [Act.put, List.setIfInBounds_toArray, List.set_cons_zero, List.set_cons_succ, i64_w, i32_w]
          rfl
        refine pure_ (i := 9) (N := some 36) (v := ?_) (a' := ?_) #[true, true, true, false, true, true, true, true, true, true, false, false, false, false, false, false] rfl rfl (any_of HT_.out (by kernel_rfl)) (fun _ _ _ h => h) (Or.inl ⟨by rfl, ?_⟩) ?_ ?_
        rotate_left
        · intro w'
          go_simp
          with_reducible rfl
        rotate_left
        · simp only [Act.put, List.setIfInBounds_toArray, List.set_cons_zero, List.set_cons_succ, i64_w, i32_w]
          rfl
        refine pure_ (i := 10) (N := some 37) (v := ?_) (a' := ?_) #[true, true, true, false, true, true, true, true, true, true, true, false, false, false, false, false] rfl rfl (any_of HT_.out (by kernel_rfl)) (fun _ _ _ h => h) (Or.inl ⟨by rfl, ?_⟩) ?_ ?_
        rotate_left
        · intro w'
          go_simp
          with_reducible rfl
        rotate_left
        · simp only [Act.put, List.setIfInBounds_toArray, List.set_cons_zero, List.set_cons_succ, i64_w, i32_w]
          rfl
        refine one_ (i := 3) (N := some 30) #[true, true, true, true, true, true, true, true, true, true, true, false, false, false, false, false] rfl rfl (one_of HT_.out (by kernel_rfl)) (by decide) (fun K hK => ?_)
        refine goes_ Tryd.func78 (by kernel_rfl) rfl #[.int .i64 (wrap64 ((wrap64 (a0_0 * a1_1)) + (wrap64 (a1_0 * a0_1))))] (by rfl) rfl rfl qe_ ?_
        with_reducible refine (num_size.calls (wrap64 ((wrap64 (a0_0 * a1_1)) + (wrap64 (a1_0 * a0_1)))) t1081 _ A25.out).mono ?_
        rintro e w' ⟨rfl, ⟨nd, rfl⟩⟩
        refine ⟨_, rfl, ?_⟩
        refine hK.out _ _ ⟨(blk_cell BK1076.out 0).trans rfl, (blk_cell BK1076.out 1).trans rfl, (blk_cell BK1077.out 0).trans rfl, (blk_cell BK1077.out 1).trans rfl⟩ (fun hHeld => ?_)
        clear hK K
        refine norm_ (a' := ?_) ?_ ?_
        rotate_left
        · show Act.put _ (some 30) _ = _
          simp only [Act.put, List.setIfInBounds_toArray, List.set_cons_zero, List.set_cons_succ, i64_w, i32_w]
          rfl
        refine one_ (i := 11) (N := some 38) #[true, true, true, true, true, true, true, true, true, true, true, true, false, false, false, false] rfl rfl (one_of HT_.out (by kernel_rfl)) (by decide) (fun K hK => ?_)
        refine goes_ Tryd.func79 (by kernel_rfl) rfl #[.bool (decide ((wrap64 ((wrap64 (a0_0 * a1_1)) + (wrap64 (a1_0 * a0_1)))) < 0)), .int .u64 t1081, .int .u64 (IntKind.u64.wrap ((IntKind.u64.wrap (a0_1)) * (IntKind.u64.wrap (a1_1))))] (by rfl) rfl rfl qe_ ?_
        with_reducible refine (num_made.calls kj2 (decide ((wrap64 ((wrap64 (a0_0 * a1_1)) + (wrap64 (a1_0 * a0_1)))) < 0)) t1081 (IntKind.u64.wrap ((IntKind.u64.wrap (a0_1)) * (IntKind.u64.wrap (a1_1)))) t1082 t1083 t1084 _ A26.out).mono ?_
        rintro e w33 ⟨rfl, hb⟩
        refine ⟨_, rfl, ?_⟩
        have n0_ := Aside0.mk (qk_ BK1076.out hb)
        have n1_ := Aside0.mk (qk_ BK1077.out hb)
        have n2_ := Aside0.mk (qk_ BK1078.out hb)
        have n3_ := Aside0.mk (below_step (q3_ HB.out GE1076.out GE1077.out GE1078.out) hb)
        clear BK1076
        clear BK1077
        clear BK1078
        clear HB
        have BK1076 := n0_
        have BK1077 := n1_
        have BK1078 := n2_
        have HB := n3_
        clear n0_ n1_ n2_ n3_
        (try clear hb)
        (try clear hb2)
        (try clear hk)
        (try clear hi)
        refine hK.out _ _ ⟨(blk_cell BK1076.out 0).trans rfl, (blk_cell BK1076.out 1).trans rfl, (blk_cell BK1077.out 0).trans rfl, (blk_cell BK1077.out 1).trans rfl⟩ (fun hHeld => ?_)
        clear hK K
        refine norm_ (a' := ?_) ?_ ?_
        rotate_left
        · show Act.put _ (some 38) _ = _
          simp only [Act.put, List.setIfInBounds_toArray, List.set_cons_zero, List.set_cons_succ, i64_w, i32_w]
          rfl
        refine pure_ (i := 12) (N := some 39) (v := ?_) (a' := ?_) #[true, true, true, true, true, true, true, true, true, true, true, true, true, false, false, false] rfl rfl (any_of HT_.out (by kernel_rfl)) (fun _ _ _ h => h) (Or.inl ⟨by rfl, ?_⟩) ?_ ?_
        rotate_left
        · intro w'
          go_simp
          with_reducible rfl
        rotate_left
        · simp only [Act.put, List.setIfInBounds_toArray, List.set_cons_zero, List.set_cons_succ, i64_w, i32_w]
          rfl
        refine pure_ (i := 13) (N := some 40) (v := ?_) (a' := ?_) #[true, true, true, true, true, true, true, true, true, true, true, true, true, true, false, false] rfl rfl (any_of HT_.out (by kernel_rfl)) (fun _ _ _ h => h) (Or.inl ⟨by rfl, ?_⟩) ?_ ?_
        rotate_left
        · intro w'
          go_simp
          with_reducible rfl
        rotate_left
        · simp only [Act.put, List.setIfInBounds_toArray, List.set_cons_zero, List.set_cons_succ, i64_w, i32_w]
          rfl
        refine one_ (i := 14) (N := none) #[true, true, true, true, true, true, true, true, true, true, true, true, true, true, true, false] rfl rfl (one_of HT_.out (by kernel_rfl)) (by decide) (fun K hK => ?_)
        have hs34 : w33.cell? ⟨gb1078, 0, none⟩ = some (.int .i64 0) := (blk_cell BK1078.out 0).trans rfl
        have hfs34 := blk_frozen BK1078.out 0
        have hns34_0 := NB1076_1078.out
        have hns34_1 := NB1077_1078.out
        have hms34_0 := NB1078_1076.out
        have hms34_1 := NB1078_1077.out
        have hs35 : w33.cell? ⟨gb1078, 1, none⟩ = some (.int .i64 0) := (blk_cell BK1078.out 1).trans rfl
        have hfs35 := blk_frozen BK1078.out 1
        have hns35_0 := NB1076_1078.out
        have hns35_1 := NB1077_1078.out
        have hms35_0 := NB1078_1076.out
        have hms35_1 := NB1078_1077.out
        refine skip_ (w1 := ?_) (by rfl) rfl ?_ ?_
        rotate_left
        · go_simp
          rfl
        refine hK.out _ _ ⟨((cell_far (p := ⟨gb1078, _, none⟩) NB1076_1078.out _).trans (((cell_far (p := ⟨gb1078, _, none⟩) NB1076_1078.out _).trans (hHeld.1)))), ((cell_far (p := ⟨gb1078, _, none⟩) NB1076_1078.out _).trans (((cell_far (p := ⟨gb1078, _, none⟩) NB1076_1078.out _).trans (hHeld.2.1)))), ((cell_far (p := ⟨gb1078, _, none⟩) NB1077_1078.out _).trans (((cell_far (p := ⟨gb1078, _, none⟩) NB1077_1078.out _).trans (hHeld.2.2.1)))), ((cell_far (p := ⟨gb1078, _, none⟩) NB1077_1078.out _).trans (((cell_far (p := ⟨gb1078, _, none⟩) NB1077_1078.out _).trans (hHeld.2.2.2))))⟩ (fun hHeld => ?_)
        clear hK K
        refine pure_ (i := 15) (N := some 5) (v := ?_) (a' := ?_) #[true, true, true, true, true, true, true, true, true, true, true, true, true, true, true, true] rfl rfl (any_of HT_.out (by kernel_rfl)) (fun _ _ _ h => h) (Or.inl ⟨by rfl, ?_⟩) ?_ ?_
        rotate_left
        · intro w'
          go_simp
          with_reducible rfl
        rotate_left
        · simp only [Act.put, List.setIfInBounds_toArray, List.set_cons_zero, List.set_cons_succ, i64_w, i32_w]
          rfl
        refine done_ (done_of HT_.out (by kernel_rfl)) ?_
        try go_wp2
        refine bodyPost_ret (results_ct rfl _ _ gb1078 23 #[.int .i64 t1082, .int .i64 t1083] (0, 0) _ rfl (by (with_reducible repeat (first | refine blk_drewN ?_ _ | refine blk_drew ?_ | refine blk_alloc ?_ _)); refine blk_put (cs := #[.int .i64 t1082, .int .i64 0]) ?_ 1 _ rfl; (with_reducible repeat (first | refine blk_drewN ?_ _ | refine blk_drew ?_ | refine blk_alloc ?_ _)); refine blk_put (cs := #[.int .i64 0, .int .i64 0]) ?_ 0 _ rfl; (with_reducible repeat (first | refine blk_drewN ?_ _ | refine blk_drew ?_ | refine blk_alloc ?_ _)); exact BK1078.out) Tryd.underlying23 rfl (by kernel_rfl)) rfl ?_
        exact ⟨by first | rfl | (simp [errW_none, errW_some] <;> rfl) | (simp [*, errW_none, errW_some] <;> rfl), (q3_ HB.out GE1076.out GE1077.out GE1078.out)⟩
def num_Sub.f (k : Nat) (a0_0 : Int) (a0_1 : Int) (a1_0 : Int) (a1_1 : Int) : Option (Int × Int × Int) := (num_Neg.f k a1_0 a1_1).bind fun bt1088 => (if bt1088.2.2 = 0 then ((num_Add.f k a0_0 a0_1 bt1088.1 bt1088.2.1).bind fun bt1092 => (some (bt1092.1, bt1092.2.1, bt1092.2.2))) else (some (0, 0, bt1088.2.2)))
theorem num_Sub.mono : ∀ a0 a1 a2 a3 k, LeO (num_Sub.f k a0 a1 a2 a3) (num_Sub.f (k + 1) a0 a1 a2 a3) := by
  intro a0 a1 a2 a3 k
  unfold num_Sub.f
  repeat' first
      | (with_reducible exact num_Add.mono _ _ _ _ _)
      | (with_reducible exact num_Neg.mono _ _ _)
      | (with_reducible exact LeO.refl _)
      | (with_reducible exact LeO.none _)
      | (with_reducible refine LeO.ite ?_ ?_)
      | (with_reducible refine LeO.bind ?_ (fun _ => ?_))
      | exact num_Add.mono _ _ _ _ _
      | exact num_Neg.mono _ _ _
      | exact LeO.none _
      | refine LeO.ite ?_ ?_
      | refine LeO.bind ?_ (fun _ => ?_)
set_option maxHeartbeats 8000000 in
set_option maxRecDepth 100000 in
theorem num_Sub.calls (k : Nat) (a0_0 : Int) (a0_1 : Int) (a1_0 : Int) (a1_1 : Int) (r1 : Int) (r2 : Int) (r3 : Int) (w : World) (h : num_Sub.f k a0_0 a0_1 a1_0 a1_1 = some (r1, r2, r3)) :
    Calls Tryd.prog 53 #[.agg #[.int .i64 a0_0, .int .i64 a0_1], .agg #[.int .i64 a1_0, .int .i64 a1_1]] w fun e w' => e = .returned (.tuple #[.agg #[.int .i64 r1, .int .i64 r2], .int .i64 r3]) ∧ Below w.heap.size w w' := by
  have hu23 := Tryd.underlying23
  have HB := Aside0.mk (Below.refl w.heap.size w)
  have H : ((num_Neg.f k a1_0 a1_1).bind fun bt1088 => (if bt1088.2.2 = 0 then ((num_Add.f k a0_0 a0_1 bt1088.1 bt1088.2.1).bind fun bt1092 => (some (bt1092.1, bt1092.2.1, bt1092.2.2))) else (some (0, 0, bt1088.2.2)))) = some (r1, r2, r3) := h
  clear h
  replace H := Option.bind_eq_some_iff.mp H
  obtain ⟨⟨t1088, t1089, t1090⟩, A30, H⟩ := H
  replace H : (if t1090 = 0 then ((num_Add.f k a0_0 a0_1 t1088 t1089).bind fun bt1092 => (some (bt1092.1, bt1092.2.1, bt1092.2.2))) else (some (0, 0, t1090))) = some (r1, r2, r3) := H
  have A3 := Aside0.mk A30
  clear A30
  by_cases c4 : t1090 = 0
  · rw [if_pos c4] at H
    have c4b0 : (t1090 == 0) = true := beq_iff_eq.mpr c4
    have c4b1 : (t1090 != 0) = false := bne_eq_false_iff_eq.mpr c4
    clear c4
    replace H := Option.bind_eq_some_iff.mp H
    obtain ⟨⟨t1092, t1093, t1094⟩, A50, H⟩ := H
    replace H : (some (t1092, t1093, t1094)) = some (r1, r2, r3) := H
    have A5 := Aside0.mk A50
    clear A50
    simp only [Option.some.injEq, Prod.mk.injEq] at H
    obtain ⟨rfl, rfl, rfl⟩ := H
    go_enter Tryd.func53, Tryd.ntmps53
    go_wp2_with (first | ((with_reducible refine gate_dst (N := 2) rfl ?_); refine qx_ 2 #[.int .i64 a0_0, .int .i64 a0_1] 23 ?hr ?_; (case hr => first | (go_simp; done) | (go_simp; rfl)); intro gb1085 hg w6 hbox hb; have n0_ := Aside0.mk (below_step (q0_ HB.out) hb); have n1_ := Aside0.mk (hbox); have n2_ := Aside0.mk (qs_ hg (q0_ HB.out) : w.heap.size ≤ gb1085); have n3_ := n2_; clear HB; have HB := n0_; have BK1085 := n1_; have GW1085 := n2_; have GE1085 := n3_; clear n0_ n1_ n2_ n3_; clear hb hbox hg) | ((with_reducible refine gate_dst (N := 3) rfl ?_); refine qx_ 3 #[.int .i64 a1_0, .int .i64 a1_1] 23 ?hr ?_; (case hr => first | (go_simp; done) | (go_simp; rfl)); intro gb1086 hg w7 hbox hb; have n0_ := Aside0.mk (qk_ BK1085.out hb); have n1_ := Aside0.mk (below_step (q1_ HB.out GE1085.out) hb); have n2_ := Aside0.mk (hbox); have n3_ := Aside0.mk (qs_ hg (q1_ HB.out GE1085.out) : w.heap.size ≤ gb1086); have n4_ := n3_; have n5_ := Aside0.mk (qn_ hg BK1085.out); have n6_ := Aside0.mk (Ne.symm (qn_ hg BK1085.out)); clear BK1085; clear HB; have BK1085 := n0_; have HB := n1_; have BK1086 := n2_; have GW1086 := n3_; have GE1086 := n4_; have NB1085_1086 := n5_; have NB1086_1085 := n6_; clear n0_ n1_ n2_ n3_ n4_ n5_ n6_; clear hb hbox hg) | ((with_reducible refine gate_dst (N := 4) rfl ?_); refine qx_ 4 #[.int .i64 0, .int .i64 0] 23 ?hr ?_; (case hr => first | (go_simp; done) | (go_simp; rfl)); intro gb1087 hg w8 hbox hb; have n0_ := Aside0.mk (qk_ BK1085.out hb); have n1_ := Aside0.mk (qk_ BK1086.out hb); have n2_ := Aside0.mk (below_step (q2_ HB.out GE1085.out GE1086.out) hb); have n3_ := Aside0.mk (hbox); have n4_ := Aside0.mk (qs_ hg (q2_ HB.out GE1085.out GE1086.out) : w.heap.size ≤ gb1087); have n5_ := n4_; have n6_ := Aside0.mk (qn_ hg BK1085.out); have n7_ := Aside0.mk (Ne.symm (qn_ hg BK1085.out)); have n8_ := Aside0.mk (qn_ hg BK1086.out); have n9_ := Aside0.mk (Ne.symm (qn_ hg BK1086.out)); clear BK1085; clear BK1086; clear HB; have BK1085 := n0_; have BK1086 := n1_; have HB := n2_; have BK1087 := n3_; have GW1087 := n4_; have GE1087 := n5_; have NB1085_1087 := n6_; have NB1087_1085 := n7_; have NB1086_1087 := n8_; have NB1087_1086 := n9_; clear n0_ n1_ n2_ n3_ n4_ n5_ n6_ n7_ n8_ n9_; clear hb hbox hg; have hnb9 := NB1086_1085.out; have hnc9 := NB1085_1086.out; have hnb10 := NB1086_1087.out; have hnc10 := NB1087_1086.out; have hcz11_0 : w8.cell? ⟨gb1086, 0, none⟩ = some (.int .i64 a1_0) := (blk_cell BK1086.out 0).trans rfl; have hcz11_1 : w8.cell? ⟨gb1086, 1, none⟩ = some (.int .i64 a1_1) := (blk_cell BK1086.out 1).trans rfl; have hfz11_0 := blk_frozen BK1086.out 0; have hfz11_1 := blk_frozen BK1086.out 1) | ((with_reducible refine gate_callee (f := 44) rfl ?_); refine goesL_ (some 10) rfl rfl Tryd.func44 (by kernel_rfl) rfl #[.agg #[.int .i64 a1_0, .int .i64 a1_1]] rfl qe_ ?_; (with_reducible refine (num_Neg.calls k a1_0 a1_1 t1088 t1089 t1090 _ A3.out).mono ?_); rintro e w12 ⟨rfl, hb⟩; refine ⟨_, rfl, ?_⟩; have n0_ := Aside0.mk (qk_ BK1085.out hb); have n1_ := Aside0.mk (qk_ BK1086.out hb); have n2_ := Aside0.mk (qk_ BK1087.out hb); have n3_ := Aside0.mk (below_step (q3_ HB.out GE1085.out GE1086.out GE1087.out) hb); clear BK1085; clear BK1086; clear BK1087; clear HB; have BK1085 := n0_; have BK1086 := n1_; have BK1087 := n2_; have HB := n3_; clear n0_ n1_ n2_ n3_; (try clear hb); (try clear hb2); (try clear hk); (try clear hi)) | ((with_reducible refine gate_dst (N := 6) rfl ?_); refine qx_ 6 #[.int .i64 0, .int .i64 0] 23 ?hr ?_; (case hr => first | (go_simp; done) | (go_simp; rfl)); intro gb1091 hg w13 hbox hb; have n0_ := Aside0.mk (qk_ BK1085.out hb); have n1_ := Aside0.mk (qk_ BK1086.out hb); have n2_ := Aside0.mk (qk_ BK1087.out hb); have n3_ := Aside0.mk (below_step (q3_ HB.out GE1085.out GE1086.out GE1087.out) hb); have n4_ := Aside0.mk (hbox); have n5_ := Aside0.mk (qs_ hg (q3_ HB.out GE1085.out GE1086.out GE1087.out) : w.heap.size ≤ gb1091); have n6_ := n5_; have n7_ := Aside0.mk (qn_ hg BK1085.out); have n8_ := Aside0.mk (Ne.symm (qn_ hg BK1085.out)); have n9_ := Aside0.mk (qn_ hg BK1086.out); have n10_ := Aside0.mk (Ne.symm (qn_ hg BK1086.out)); have n11_ := Aside0.mk (qn_ hg BK1087.out); have n12_ := Aside0.mk (Ne.symm (qn_ hg BK1087.out)); clear BK1085; clear BK1086; clear BK1087; clear HB; have BK1085 := n0_; have BK1086 := n1_; have BK1087 := n2_; have HB := n3_; have BK1091 := n4_; have GW1091 := n5_; have GE1091 := n6_; have NB1085_1091 := n7_; have NB1091_1085 := n8_; have NB1086_1091 := n9_; have NB1091_1086 := n10_; have NB1087_1091 := n11_; have NB1091_1087 := n12_; clear n0_ n1_ n2_ n3_ n4_ n5_ n6_ n7_ n8_ n9_ n10_ n11_ n12_; clear hb hbox hg; have hnb14 := NB1091_1085.out; have hnc14 := NB1085_1091.out; have hnb15 := NB1091_1086.out; have hnc15 := NB1086_1091.out; have hnb16 := NB1091_1087.out; have hnc16 := NB1087_1091.out; have hcz17_0 : w13.cell? ⟨gb1091, 0, none⟩ = some (.int .i64 0) := (blk_cell BK1091.out 0).trans rfl; have hcz17_1 : w13.cell? ⟨gb1091, 1, none⟩ = some (.int .i64 0) := (blk_cell BK1091.out 1).trans rfl; have hfz17_0 := blk_frozen BK1091.out 0; have hfz17_1 := blk_frozen BK1091.out 1; have hnb18 := NB1085_1087.out; have hnc18 := NB1087_1085.out; have hcz19_0 : w13.cell? ⟨gb1085, 0, none⟩ = some (.int .i64 a0_0) := (blk_cell BK1085.out 0).trans rfl; have hcz19_1 : w13.cell? ⟨gb1085, 1, none⟩ = some (.int .i64 a0_1) := (blk_cell BK1085.out 1).trans rfl; have hfz19_0 := blk_frozen BK1085.out 0; have hfz19_1 := blk_frozen BK1085.out 1) | ((with_reducible refine gate_callee (f := 52) rfl ?_); refine goesL_ (some 19) rfl rfl Tryd.func52 (by kernel_rfl) rfl #[.agg #[.int .i64 a0_0, .int .i64 a0_1], .agg #[.int .i64 t1088, .int .i64 t1089]] rfl qe_ ?_; (with_reducible refine (num_Add.calls k a0_0 a0_1 t1088 t1089 t1092 t1093 t1094 _ A5.out).mono ?_); rintro e w20 ⟨rfl, hb⟩; refine ⟨_, rfl, ?_⟩; have n0_ := Aside0.mk (blk_below (g := gb1085) (o := .cells #[.int .i64 a0_0, .int .i64 a0_1] 23 (0, 0)) (by (with_reducible repeat (first | refine blk_drewN ?_ _ | refine blk_drew ?_ | refine blk_alloc ?_ _)); refine blk_far ?_ NB1085_1091.out _; (with_reducible repeat (first | refine blk_drewN ?_ _ | refine blk_drew ?_ | refine blk_alloc ?_ _)); refine blk_far ?_ NB1085_1091.out _; (with_reducible repeat (first | refine blk_drewN ?_ _ | refine blk_drew ?_ | refine blk_alloc ?_ _)); exact BK1085.out) hb); have n1_ := Aside0.mk (blk_below (g := gb1086) (o := .cells #[.int .i64 a1_0, .int .i64 a1_1] 23 (0, 0)) (by (with_reducible repeat (first | refine blk_drewN ?_ _ | refine blk_drew ?_ | refine blk_alloc ?_ _)); refine blk_far ?_ NB1086_1091.out _; (with_reducible repeat (first | refine blk_drewN ?_ _ | refine blk_drew ?_ | refine blk_alloc ?_ _)); refine blk_far ?_ NB1086_1091.out _; (with_reducible repeat (first | refine blk_drewN ?_ _ | refine blk_drew ?_ | refine blk_alloc ?_ _)); exact BK1086.out) hb); have n2_ := Aside0.mk (blk_below (g := gb1087) (o := .cells #[.int .i64 0, .int .i64 0] 23 (0, 0)) (by (with_reducible repeat (first | refine blk_drewN ?_ _ | refine blk_drew ?_ | refine blk_alloc ?_ _)); refine blk_far ?_ NB1087_1091.out _; (with_reducible repeat (first | refine blk_drewN ?_ _ | refine blk_drew ?_ | refine blk_alloc ?_ _)); refine blk_far ?_ NB1087_1091.out _; (with_reducible repeat (first | refine blk_drewN ?_ _ | refine blk_drew ?_ | refine blk_alloc ?_ _)); exact BK1087.out) hb); have n3_ := Aside0.mk (blk_below (g := gb1091) (o := .cells #[.int .i64 t1088, .int .i64 t1089] 23 (0, 0)) (by (with_reducible repeat (first | refine blk_drewN ?_ _ | refine blk_drew ?_ | refine blk_alloc ?_ _)); refine blk_put (cs := #[.int .i64 t1088, .int .i64 0]) ?_ 1 _ rfl; (with_reducible repeat (first | refine blk_drewN ?_ _ | refine blk_drew ?_ | refine blk_alloc ?_ _)); refine blk_put (cs := #[.int .i64 0, .int .i64 0]) ?_ 0 _ rfl; (with_reducible repeat (first | refine blk_drewN ?_ _ | refine blk_drew ?_ | refine blk_alloc ?_ _)); exact BK1091.out) hb); have n4_ := Aside0.mk (below_step (q4_ HB.out GE1085.out GE1086.out GE1087.out GE1091.out) hb); clear BK1085; clear BK1086; clear BK1087; clear BK1091; clear HB; have BK1085 := n0_; have BK1086 := n1_; have BK1087 := n2_; have BK1091 := n3_; have HB := n4_; clear n0_ n1_ n2_ n3_ n4_; (try clear hb); (try clear hb2); (try clear hk); (try clear hi); have hcz21_0 : w20.cell? ⟨gb1087, 0, none⟩ = some (.int .i64 0) := (blk_cell BK1087.out 0).trans rfl; have hcz21_1 : w20.cell? ⟨gb1087, 1, none⟩ = some (.int .i64 0) := (blk_cell BK1087.out 1).trans rfl; have hfz21_0 := blk_frozen BK1087.out 0; have hfz21_1 := blk_frozen BK1087.out 1))
    refine bodyPost_ret (results_ct rfl _ _ gb1087 23 #[.int .i64 t1092, .int .i64 t1093] (0, 0) _ rfl (by (with_reducible repeat (first | refine blk_drewN ?_ _ | refine blk_drew ?_ | refine blk_alloc ?_ _)); refine blk_put (cs := #[.int .i64 t1092, .int .i64 0]) ?_ 1 _ rfl; (with_reducible repeat (first | refine blk_drewN ?_ _ | refine blk_drew ?_ | refine blk_alloc ?_ _)); refine blk_put (cs := #[.int .i64 0, .int .i64 0]) ?_ 0 _ rfl; (with_reducible repeat (first | refine blk_drewN ?_ _ | refine blk_drew ?_ | refine blk_alloc ?_ _)); exact BK1087.out) Tryd.underlying23 rfl (by kernel_rfl)) rfl ?_
    exact ⟨by first | rfl | (simp [errW_none, errW_some] <;> rfl) | (simp [*, errW_none, errW_some] <;> rfl), (q4_ HB.out GE1085.out GE1086.out GE1087.out GE1091.out)⟩
  · rw [if_neg c4] at H
    have c4b0 : (t1090 == 0) = false := beq_eq_false_iff_ne.mpr c4
    have c4b1 : (t1090 != 0) = true := bne_iff_ne.mpr c4
    simp only [Option.some.injEq, Prod.mk.injEq] at H
    obtain ⟨rfl, rfl, rfl⟩ := H
    go_enter Tryd.func53, Tryd.ntmps53
    go_wp2_with (first | ((with_reducible refine gate_dst (N := 2) rfl ?_); refine qx_ 2 #[.int .i64 a0_0, .int .i64 a0_1] 23 ?hr ?_; (case hr => first | (go_simp; done) | (go_simp; rfl)); intro gb1085 hg w22 hbox hb; have n0_ := Aside0.mk (below_step (q0_ HB.out) hb); have n1_ := Aside0.mk (hbox); have n2_ := Aside0.mk (qs_ hg (q0_ HB.out) : w.heap.size ≤ gb1085); have n3_ := n2_; clear HB; have HB := n0_; have BK1085 := n1_; have GW1085 := n2_; have GE1085 := n3_; clear n0_ n1_ n2_ n3_; clear hb hbox hg) | ((with_reducible refine gate_dst (N := 3) rfl ?_); refine qx_ 3 #[.int .i64 a1_0, .int .i64 a1_1] 23 ?hr ?_; (case hr => first | (go_simp; done) | (go_simp; rfl)); intro gb1086 hg w23 hbox hb; have n0_ := Aside0.mk (qk_ BK1085.out hb); have n1_ := Aside0.mk (below_step (q1_ HB.out GE1085.out) hb); have n2_ := Aside0.mk (hbox); have n3_ := Aside0.mk (qs_ hg (q1_ HB.out GE1085.out) : w.heap.size ≤ gb1086); have n4_ := n3_; have n5_ := Aside0.mk (qn_ hg BK1085.out); have n6_ := Aside0.mk (Ne.symm (qn_ hg BK1085.out)); clear BK1085; clear HB; have BK1085 := n0_; have HB := n1_; have BK1086 := n2_; have GW1086 := n3_; have GE1086 := n4_; have NB1085_1086 := n5_; have NB1086_1085 := n6_; clear n0_ n1_ n2_ n3_ n4_ n5_ n6_; clear hb hbox hg) | ((with_reducible refine gate_dst (N := 4) rfl ?_); refine qx_ 4 #[.int .i64 0, .int .i64 0] 23 ?hr ?_; (case hr => first | (go_simp; done) | (go_simp; rfl)); intro gb1087 hg w24 hbox hb; have n0_ := Aside0.mk (qk_ BK1085.out hb); have n1_ := Aside0.mk (qk_ BK1086.out hb); have n2_ := Aside0.mk (below_step (q2_ HB.out GE1085.out GE1086.out) hb); have n3_ := Aside0.mk (hbox); have n4_ := Aside0.mk (qs_ hg (q2_ HB.out GE1085.out GE1086.out) : w.heap.size ≤ gb1087); have n5_ := n4_; have n6_ := Aside0.mk (qn_ hg BK1085.out); have n7_ := Aside0.mk (Ne.symm (qn_ hg BK1085.out)); have n8_ := Aside0.mk (qn_ hg BK1086.out); have n9_ := Aside0.mk (Ne.symm (qn_ hg BK1086.out)); clear BK1085; clear BK1086; clear HB; have BK1085 := n0_; have BK1086 := n1_; have HB := n2_; have BK1087 := n3_; have GW1087 := n4_; have GE1087 := n5_; have NB1085_1087 := n6_; have NB1087_1085 := n7_; have NB1086_1087 := n8_; have NB1087_1086 := n9_; clear n0_ n1_ n2_ n3_ n4_ n5_ n6_ n7_ n8_ n9_; clear hb hbox hg; have hnb25 := NB1086_1085.out; have hnc25 := NB1085_1086.out; have hnb26 := NB1086_1087.out; have hnc26 := NB1087_1086.out; have hcz27_0 : w24.cell? ⟨gb1086, 0, none⟩ = some (.int .i64 a1_0) := (blk_cell BK1086.out 0).trans rfl; have hcz27_1 : w24.cell? ⟨gb1086, 1, none⟩ = some (.int .i64 a1_1) := (blk_cell BK1086.out 1).trans rfl; have hfz27_0 := blk_frozen BK1086.out 0; have hfz27_1 := blk_frozen BK1086.out 1) | ((with_reducible refine gate_callee (f := 44) rfl ?_); refine goesL_ (some 10) rfl rfl Tryd.func44 (by kernel_rfl) rfl #[.agg #[.int .i64 a1_0, .int .i64 a1_1]] rfl qe_ ?_; (with_reducible refine (num_Neg.calls k a1_0 a1_1 t1088 t1089 t1090 _ A3.out).mono ?_); rintro e w28 ⟨rfl, hb⟩; refine ⟨_, rfl, ?_⟩; have n0_ := Aside0.mk (qk_ BK1085.out hb); have n1_ := Aside0.mk (qk_ BK1086.out hb); have n2_ := Aside0.mk (qk_ BK1087.out hb); have n3_ := Aside0.mk (below_step (q3_ HB.out GE1085.out GE1086.out GE1087.out) hb); clear BK1085; clear BK1086; clear BK1087; clear HB; have BK1085 := n0_; have BK1086 := n1_; have BK1087 := n2_; have HB := n3_; clear n0_ n1_ n2_ n3_; (try clear hb); (try clear hb2); (try clear hk); (try clear hi)) | ((with_reducible refine gate_dst (N := 6) rfl ?_); refine qx_ 6 #[.int .i64 0, .int .i64 0] 23 ?hr ?_; (case hr => first | (go_simp; done) | (go_simp; rfl)); intro gb1091 hg w29 hbox hb; have n0_ := Aside0.mk (qk_ BK1085.out hb); have n1_ := Aside0.mk (qk_ BK1086.out hb); have n2_ := Aside0.mk (qk_ BK1087.out hb); have n3_ := Aside0.mk (below_step (q3_ HB.out GE1085.out GE1086.out GE1087.out) hb); have n4_ := Aside0.mk (hbox); have n5_ := Aside0.mk (qs_ hg (q3_ HB.out GE1085.out GE1086.out GE1087.out) : w.heap.size ≤ gb1091); have n6_ := n5_; have n7_ := Aside0.mk (qn_ hg BK1085.out); have n8_ := Aside0.mk (Ne.symm (qn_ hg BK1085.out)); have n9_ := Aside0.mk (qn_ hg BK1086.out); have n10_ := Aside0.mk (Ne.symm (qn_ hg BK1086.out)); have n11_ := Aside0.mk (qn_ hg BK1087.out); have n12_ := Aside0.mk (Ne.symm (qn_ hg BK1087.out)); clear BK1085; clear BK1086; clear BK1087; clear HB; have BK1085 := n0_; have BK1086 := n1_; have BK1087 := n2_; have HB := n3_; have BK1091 := n4_; have GW1091 := n5_; have GE1091 := n6_; have NB1085_1091 := n7_; have NB1091_1085 := n8_; have NB1086_1091 := n9_; have NB1091_1086 := n10_; have NB1087_1091 := n11_; have NB1091_1087 := n12_; clear n0_ n1_ n2_ n3_ n4_ n5_ n6_ n7_ n8_ n9_ n10_ n11_ n12_; clear hb hbox hg; have hnb30 := NB1091_1085.out; have hnc30 := NB1085_1091.out; have hnb31 := NB1091_1086.out; have hnc31 := NB1086_1091.out; have hnb32 := NB1091_1087.out; have hnc32 := NB1087_1091.out; have hcz33_0 : w29.cell? ⟨gb1091, 0, none⟩ = some (.int .i64 0) := (blk_cell BK1091.out 0).trans rfl; have hcz33_1 : w29.cell? ⟨gb1091, 1, none⟩ = some (.int .i64 0) := (blk_cell BK1091.out 1).trans rfl; have hfz33_0 := blk_frozen BK1091.out 0; have hfz33_1 := blk_frozen BK1091.out 1; have hnb34 := NB1087_1085.out; have hnc34 := NB1085_1087.out; have hcz35_0 : w29.cell? ⟨gb1087, 0, none⟩ = some (.int .i64 0) := (blk_cell BK1087.out 0).trans rfl; have hcz35_1 : w29.cell? ⟨gb1087, 1, none⟩ = some (.int .i64 0) := (blk_cell BK1087.out 1).trans rfl; have hfz35_0 := blk_frozen BK1087.out 0; have hfz35_1 := blk_frozen BK1087.out 1))
    refine bodyPost_ret (results_ct rfl _ _ gb1087 23 #[.int .i64 0, .int .i64 0] (0, 0) _ rfl (by (with_reducible repeat (first | refine blk_drewN ?_ _ | refine blk_drew ?_ | refine blk_alloc ?_ _)); refine blk_put (cs := #[.int .i64 0, .int .i64 0]) ?_ 1 _ rfl; (with_reducible repeat (first | refine blk_drewN ?_ _ | refine blk_drew ?_ | refine blk_alloc ?_ _)); refine blk_put (cs := #[.int .i64 0, .int .i64 0]) ?_ 0 _ rfl; (with_reducible repeat (first | refine blk_drewN ?_ _ | refine blk_drew ?_ | refine blk_alloc ?_ _)); refine blk_far ?_ NB1087_1091.out _; (with_reducible repeat (first | refine blk_drewN ?_ _ | refine blk_drew ?_ | refine blk_alloc ?_ _)); refine blk_far ?_ NB1087_1091.out _; (with_reducible repeat (first | refine blk_drewN ?_ _ | refine blk_drew ?_ | refine blk_alloc ?_ _)); exact BK1087.out) Tryd.underlying23 rfl (by kernel_rfl)) rfl ?_
    exact ⟨by first | rfl | (simp [errW_none, errW_some] <;> rfl) | (simp [*, errW_none, errW_some] <;> rfl), (q4_ HB.out GE1085.out GE1086.out GE1087.out GE1091.out)⟩
def num_Mul.j0 : Nat → Bool → Int → Int → Int → Int → Option (Int × Int × Int)
  | 0, _, _, _, _, _ => none
  | k + 1, x13, x1108000, x1108001, x1109000, x1109001 => if x13 = true then (some (0, 0, 2)) else ((num_size.f x1109000).bind fun t1112 => ((num_times.f k x1108000 x1108001 (decide (x1109000 < 0)) t1112 (IntKind.u64.wrap (x1109001))).bind fun bt1113 => (some (bt1113.1, bt1113.2.1, bt1113.2.2))))
def num_Mul.f (k : Nat) (a0_0 : Int) (a0_1 : Int) (a1_0 : Int) (a1_1 : Int) : Option (Int × Int × Int) := (num_Valid.f k a0_0 a0_1).bind fun t1110 => (if t1110 = true then ((num_Valid.f k a1_0 a1_1).bind fun t1111 => (num_Mul.j0 k (!t1111) a0_0 a0_1 a1_0 a1_1)) else (num_Mul.j0 k true a0_0 a0_1 a1_0 a1_1))
theorem num_Mul.mono_l : ∀ k, (∀ y0 y1 y2 y3 y4, LeO (num_Mul.j0 k y0 y1 y2 y3 y4) (num_Mul.j0 (k + 1) y0 y1 y2 y3 y4))
  | 0 => fun _ _ _ _ _ r h => by simp [num_Mul.j0] at h
  | k + 1 => by
    have ih0 := num_Mul.mono_l k
    · intro y0 y1 y2 y3 y4
      unfold num_Mul.j0
      repeat' first
      | (with_reducible exact ih0 _ _ _ _ _)
      | (with_reducible exact num_Valid.mono _ _ _)
      | (with_reducible exact num_times.mono _ _ _ _ _ _)
      | (with_reducible exact LeO.refl _)
      | (with_reducible exact LeO.none _)
      | (with_reducible refine LeO.ite ?_ ?_)
      | (with_reducible refine LeO.bind ?_ (fun _ => ?_))
      | exact ih0 _ _ _ _ _
      | exact num_Valid.mono _ _ _
      | exact num_times.mono _ _ _ _ _ _
      | exact LeO.none _
      | refine LeO.ite ?_ ?_
      | refine LeO.bind ?_ (fun _ => ?_)
theorem num_Mul.mono : ∀ a0 a1 a2 a3 k, LeO (num_Mul.f k a0 a1 a2 a3) (num_Mul.f (k + 1) a0 a1 a2 a3) := by
  intro a0 a1 a2 a3 k
  have ih0 := num_Mul.mono_l k
  unfold num_Mul.f
  repeat' first
      | (with_reducible exact ih0 _ _ _ _ _)
      | (with_reducible exact num_Valid.mono _ _ _)
      | (with_reducible exact num_times.mono _ _ _ _ _ _)
      | (with_reducible exact LeO.refl _)
      | (with_reducible exact LeO.none _)
      | (with_reducible refine LeO.ite ?_ ?_)
      | (with_reducible refine LeO.bind ?_ (fun _ => ?_))
      | exact ih0 _ _ _ _ _
      | exact num_Valid.mono _ _ _
      | exact num_times.mono _ _ _ _ _ _
      | exact LeO.none _
      | refine LeO.ite ?_ ?_
      | refine LeO.bind ?_ (fun _ => ?_)
def num_Mul.T3 : Bool × List (List Nat × List Nat) := (true, [([], []), ([], []), ([1], [1]), ([2], [2]), ([], []), ([4], [4]), ([5], [5]), ([], []), ([7], [7]), ([8], [8]), ([0, 3, 6, 9, 6], [0, 3, 6, 9]), ([10], [10]), ([10], [10]), ([11, 10, 0, 1, 2, 3, 4, 5, 6, 7, 8, 9, 10, 11, 12], [11]), ([12, 13, 0, 1, 2, 3, 4, 5, 6, 7, 8, 9, 10, 11, 12, 13], [12])])
def num_Mul.B3 : List Nat := [0, 0, 2, 6, 0, 16, 48, 0, 128, 384, 1023, 2047, 2047, 8191, 16383]
theorem num_Mul.tab3 : rtab .any (opsOf Tryd.f54 3) = num_Mul.T3 := by kernel_rfl
theorem num_Mul.bits3 : waitsOk num_Mul.T3.2 num_Mul.B3 = true := by kernel_rfl
set_option maxHeartbeats 8000000 in
set_option maxRecDepth 100000 in
theorem num_Mul.calls (k : Nat) (a0_0 : Int) (a0_1 : Int) (a1_0 : Int) (a1_1 : Int) (r1 : Int) (r2 : Int) (r3 : Int) (w : World) (h : num_Mul.f k a0_0 a0_1 a1_0 a1_1 = some (r1, r2, r3)) :
    Calls Tryd.prog 54 #[.agg #[.int .i64 a0_0, .int .i64 a0_1], .agg #[.int .i64 a1_0, .int .i64 a1_1]] w fun e w' => e = .returned (.tuple #[.agg #[.int .i64 r1, .int .i64 r2], .int .i64 r3]) ∧ Below w.heap.size w w' := by
  have hu23 := Tryd.underlying23
  have HB := Aside0.mk (Below.refl w.heap.size w)
  have H : ((num_Valid.f k a0_0 a0_1).bind fun t1110 => (if t1110 = true then ((num_Valid.f k a1_0 a1_1).bind fun t1111 => (num_Mul.j0 k (!t1111) a0_0 a0_1 a1_0 a1_1)) else (num_Mul.j0 k true a0_0 a0_1 a1_0 a1_1))) = some (r1, r2, r3) := h
  clear h
  have HC3 := Aside0.mk H
  clear H
  go_enter Tryd.func54, Tryd.ntmps54
  go_upto_region 1 with (first | ((with_reducible refine gate_dst (N := 2) rfl ?_); refine qx_ 2 #[.int .i64 a0_0, .int .i64 a0_1] 23 ?hr ?_; (case hr => first | (go_simp; done) | (go_simp; rfl)); intro gb1107 hg w4 hbox hb; have n0_ := Aside0.mk (below_step (q0_ HB.out) hb); have n1_ := Aside0.mk (hbox); have n2_ := Aside0.mk (qs_ hg (q0_ HB.out) : w.heap.size ≤ gb1107); have n3_ := n2_; clear HB; have HB := n0_; have BK1107 := n1_; have GW1107 := n2_; have GE1107 := n3_; clear n0_ n1_ n2_ n3_; clear hb hbox hg) | ((with_reducible refine gate_dst (N := 3) rfl ?_); refine qx_ 3 #[.int .i64 a1_0, .int .i64 a1_1] 23 ?hr ?_; (case hr => first | (go_simp; done) | (go_simp; rfl)); intro gb1108 hg w5 hbox hb; have n0_ := Aside0.mk (qk_ BK1107.out hb); have n1_ := Aside0.mk (below_step (q1_ HB.out GE1107.out) hb); have n2_ := Aside0.mk (hbox); have n3_ := Aside0.mk (qs_ hg (q1_ HB.out GE1107.out) : w.heap.size ≤ gb1108); have n4_ := n3_; have n5_ := Aside0.mk (qn_ hg BK1107.out); have n6_ := Aside0.mk (Ne.symm (qn_ hg BK1107.out)); clear BK1107; clear HB; have BK1107 := n0_; have HB := n1_; have BK1108 := n2_; have GW1108 := n3_; have GE1108 := n4_; have NB1107_1108 := n5_; have NB1108_1107 := n6_; clear n0_ n1_ n2_ n3_ n4_ n5_ n6_; clear hb hbox hg) | ((with_reducible refine gate_dst (N := 4) rfl ?_); refine qx_ 4 #[.int .i64 0, .int .i64 0] 23 ?hr ?_; (case hr => first | (go_simp; done) | (go_simp; rfl)); intro gb1109 hg w6 hbox hb; have n0_ := Aside0.mk (qk_ BK1107.out hb); have n1_ := Aside0.mk (qk_ BK1108.out hb); have n2_ := Aside0.mk (below_step (q2_ HB.out GE1107.out GE1108.out) hb); have n3_ := Aside0.mk (hbox); have n4_ := Aside0.mk (qs_ hg (q2_ HB.out GE1107.out GE1108.out) : w.heap.size ≤ gb1109); have n5_ := n4_; have n6_ := Aside0.mk (qn_ hg BK1107.out); have n7_ := Aside0.mk (Ne.symm (qn_ hg BK1107.out)); have n8_ := Aside0.mk (qn_ hg BK1108.out); have n9_ := Aside0.mk (Ne.symm (qn_ hg BK1108.out)); clear BK1107; clear BK1108; clear HB; have BK1107 := n0_; have BK1108 := n1_; have HB := n2_; have BK1109 := n3_; have GW1109 := n4_; have GE1109 := n5_; have NB1107_1109 := n6_; have NB1109_1107 := n7_; have NB1108_1109 := n8_; have NB1109_1108 := n9_; clear n0_ n1_ n2_ n3_ n4_ n5_ n6_ n7_ n8_ n9_; clear hb hbox hg))
  (try simp only [Act.put, List.setIfInBounds_toArray, List.set_cons_zero, List.set_cons_succ])
  go_cut [13] (fun v13 wc => ∃ (kq : Nat) (x13_2 : Bool), v13 = .bool x13_2 ∧ Aside0 (num_Mul.j0 kq x13_2 a0_0 a0_1 a1_0 a1_1 = some (r1, r2, r3)) ∧ Aside0 (kq ≤ k) ∧ Aside0 (wc.heap[gb1107]? = some (.cells #[.int .i64 a0_0, .int .i64 a0_1] 23 (0, 0))) ∧ Aside0 (wc.heap[gb1108]? = some (.cells #[.int .i64 a1_0, .int .i64 a1_1] 23 (0, 0))) ∧ Aside0 (wc.heap[gb1109]? = some (.cells #[.int .i64 0, .int .i64 0] 23 (0, 0))) ∧ Aside0 (Below w.heap.size w wc))
  case first =>
    have H := HC3.out
    clear HC3
    replace H := Option.bind_eq_some_iff.mp H
    obtain ⟨t1110, A70, H⟩ := H
    replace H : (if t1110 = true then ((num_Valid.f k a1_0 a1_1).bind fun t1111 => (num_Mul.j0 k (!t1111) a0_0 a0_1 a1_0 a1_1)) else (num_Mul.j0 k true a0_0 a0_1 a1_0 a1_1)) = some (r1, r2, r3) := H
    have A7 := Aside0.mk A70
    clear A70
    by_cases c8 : t1110 = true
    · subst c8
      have H1 : ((num_Valid.f k a1_0 a1_1).bind fun t1111 => (num_Mul.j0 k (!t1111) a0_0 a0_1 a1_0 a1_1)) = some (r1, r2, r3) := by rw [if_pos rfl] at H; exact H
      clear H
      have H := H1
      clear H1
      replace H := Option.bind_eq_some_iff.mp H
      obtain ⟨t1111, A90, H⟩ := H
      replace H : (num_Mul.j0 k (!t1111) a0_0 a0_1 a1_0 a1_1) = some (r1, r2, r3) := H
      have A9 := Aside0.mk A90
      clear A90
      have H' := Aside0.mk H
      clear H
      have hnb10 := NB1107_1108.out
      have hnc10 := NB1108_1107.out
      have hnb11 := NB1107_1109.out
      have hnc11 := NB1109_1107.out
      have hcz12_0 : w6.cell? ⟨gb1107, 0, none⟩ = some (.int .i64 a0_0) := (blk_cell BK1107.out 0).trans rfl
      have hcz12_1 : w6.cell? ⟨gb1107, 1, none⟩ = some (.int .i64 a0_1) := (blk_cell BK1107.out 1).trans rfl
      have hfz12_0 := blk_frozen BK1107.out 0
      have hfz12_1 := blk_frozen BK1107.out 1
      go_wp2_with (first | ((with_reducible refine gate_callee (f := 26) rfl ?_); refine goesL_ (some 7) rfl rfl Tryd.func26 (by kernel_rfl) rfl #[.agg #[.int .i64 a0_0, .int .i64 a0_1]] rfl qe_ ?_; (with_reducible refine (num_Valid.calls k a0_0 a0_1 true _ A7.out).mono ?_); rintro e w13 ⟨rfl, hb⟩; refine ⟨_, rfl, ?_⟩; have n0_ := Aside0.mk (qk_ BK1107.out hb); have n1_ := Aside0.mk (qk_ BK1108.out hb); have n2_ := Aside0.mk (qk_ BK1109.out hb); have n3_ := Aside0.mk (below_step (q3_ HB.out GE1107.out GE1108.out GE1109.out) hb); clear BK1107; clear BK1108; clear BK1109; clear HB; have BK1107 := n0_; have BK1108 := n1_; have BK1109 := n2_; have HB := n3_; clear n0_ n1_ n2_ n3_; (try clear hb); (try clear hb2); (try clear hk); (try clear hi); have hnb14 := NB1108_1109.out; have hnc14 := NB1109_1108.out; have hcz15_0 : w13.cell? ⟨gb1108, 0, none⟩ = some (.int .i64 a1_0) := (blk_cell BK1108.out 0).trans rfl; have hcz15_1 : w13.cell? ⟨gb1108, 1, none⟩ = some (.int .i64 a1_1) := (blk_cell BK1108.out 1).trans rfl; have hfz15_0 := blk_frozen BK1108.out 0; have hfz15_1 := blk_frozen BK1108.out 1) | (go_at_call 26; (with_reducible refine (num_Valid.calls k a1_0 a1_1 t1111 _ A9.out).mono ?_); rintro e w16 ⟨rfl, hb⟩; have n0_ := Aside0.mk (qk_ BK1107.out hb); have n1_ := Aside0.mk (qk_ BK1108.out hb); have n2_ := Aside0.mk (qk_ BK1109.out hb); have n3_ := Aside0.mk (below_step (q3_ HB.out GE1107.out GE1108.out GE1109.out) hb); clear BK1107; clear BK1108; clear BK1109; clear HB; have BK1107 := n0_; have BK1108 := n1_; have BK1109 := n2_; have HB := n3_; clear n0_ n1_ n2_ n3_; (try clear hb); (try clear hb2); (try clear hk); (try clear hi)))
      go_meet
      case rel => exact ⟨_, (!t1111), (by first | rfl | (simp; done) | (simp [*]; done)), H', ⟨by first | omega | exact Nat.le_refl _⟩, ⟨by (with_reducible repeat (first | refine blk_drewN ?_ _ | refine blk_drew ?_ | refine blk_alloc ?_ _)); exact BK1107.out⟩, ⟨by (with_reducible repeat (first | refine blk_drewN ?_ _ | refine blk_drew ?_ | refine blk_alloc ?_ _)); exact BK1108.out⟩, ⟨by (with_reducible repeat (first | refine blk_drewN ?_ _ | refine blk_drew ?_ | refine blk_alloc ?_ _)); exact BK1109.out⟩, ⟨(q3_ HB.out GE1107.out GE1108.out GE1109.out)⟩⟩
    · replace c8 := Bool.eq_false_iff.mpr c8
      subst c8
      have H1 : (num_Mul.j0 k true a0_0 a0_1 a1_0 a1_1) = some (r1, r2, r3) := by rw [if_neg (show ¬ (false = true) by decide)] at H; exact H
      clear H
      have H := H1
      clear H1
      have H' := Aside0.mk H
      clear H
      have hnb17 := NB1107_1108.out
      have hnc17 := NB1108_1107.out
      have hnb18 := NB1107_1109.out
      have hnc18 := NB1109_1107.out
      have hcz19_0 : w6.cell? ⟨gb1107, 0, none⟩ = some (.int .i64 a0_0) := (blk_cell BK1107.out 0).trans rfl
      have hcz19_1 : w6.cell? ⟨gb1107, 1, none⟩ = some (.int .i64 a0_1) := (blk_cell BK1107.out 1).trans rfl
      have hfz19_0 := blk_frozen BK1107.out 0
      have hfz19_1 := blk_frozen BK1107.out 1
      go_wp2_with (first | ((with_reducible refine gate_callee (f := 26) rfl ?_); refine goesL_ (some 7) rfl rfl Tryd.func26 (by kernel_rfl) rfl #[.agg #[.int .i64 a0_0, .int .i64 a0_1]] rfl qe_ ?_; (with_reducible refine (num_Valid.calls k a0_0 a0_1 false _ A7.out).mono ?_); rintro e w20 ⟨rfl, hb⟩; refine ⟨_, rfl, ?_⟩; have n0_ := Aside0.mk (qk_ BK1107.out hb); have n1_ := Aside0.mk (qk_ BK1108.out hb); have n2_ := Aside0.mk (qk_ BK1109.out hb); have n3_ := Aside0.mk (below_step (q3_ HB.out GE1107.out GE1108.out GE1109.out) hb); clear BK1107; clear BK1108; clear BK1109; clear HB; have BK1107 := n0_; have BK1108 := n1_; have BK1109 := n2_; have HB := n3_; clear n0_ n1_ n2_ n3_; (try clear hb); (try clear hb2); (try clear hk); (try clear hi)))
      go_meet
      case rel => exact ⟨_, (true), (by first | rfl | (simp; done) | (simp [*]; done)), H', ⟨by first | omega | exact Nat.le_refl _⟩, ⟨by (with_reducible repeat (first | refine blk_drewN ?_ _ | refine blk_drew ?_ | refine blk_alloc ?_ _)); exact BK1107.out⟩, ⟨by (with_reducible repeat (first | refine blk_drewN ?_ _ | refine blk_drew ?_ | refine blk_alloc ?_ _)); exact BK1108.out⟩, ⟨by (with_reducible repeat (first | refine blk_drewN ?_ _ | refine blk_drew ?_ | refine blk_alloc ?_ _)); exact BK1109.out⟩, ⟨(q3_ HB.out GE1107.out GE1108.out GE1109.out)⟩⟩
  case rest =>
    clear HC3
    try clear c1
    try clear c2
    try clear p2
    try clear c5
    try clear c8
    try clear c10
    try clear c11
    try clear c14
    try clear c17
    try clear c18
    try clear hcz12_0
    try clear hcz12_1
    try clear hcz15_0
    try clear hcz15_1
    try clear hcz19_0
    try clear hcz19_1
    try clear hfz12_0
    try clear hfz12_1
    try clear hfz15_0
    try clear hfz15_1
    try clear hfz19_0
    try clear hfz19_1
    obtain ⟨kq, x13_2, rfl, HA, HJ2, BK1107, BK1108, BK1109, HB⟩ := hcut
    cases kq with
    | zero => exact absurd HA.out (by simp [num_Mul.j0])
    | succ kj2 =>
      have H := HA.out
      clear HA
      simp only [num_Mul.j0] at H
      by_cases c21 : x13_2 = true
      · subst c21
        have H1 : (some (0, 0, 2)) = some (r1, r2, r3) := by rw [if_pos rfl] at H; exact H
        clear H
        have H := H1
        clear H1
        simp only [Option.some.injEq, Prod.mk.injEq] at H
        obtain ⟨rfl, rfl, rfl⟩ := H
        have hnb22 := NB1109_1107.out
        have hnc22 := NB1107_1109.out
        have hnb23 := NB1109_1108.out
        have hnc23 := NB1108_1109.out
        have hcz24_0 : wc.cell? ⟨gb1109, 0, none⟩ = some (.int .i64 0) := (blk_cell BK1109.out 0).trans rfl
        have hcz24_1 : wc.cell? ⟨gb1109, 1, none⟩ = some (.int .i64 0) := (blk_cell BK1109.out 1).trans rfl
        have hfz24_0 := blk_frozen BK1109.out 0
        have hfz24_1 := blk_frozen BK1109.out 1
        go_wp2
        refine bodyPost_ret (results_ct rfl _ _ gb1109 23 #[.int .i64 0, .int .i64 0] (0, 0) _ rfl (by (with_reducible repeat (first | refine blk_drewN ?_ _ | refine blk_drew ?_ | refine blk_alloc ?_ _)); refine blk_put (cs := #[.int .i64 0, .int .i64 0]) ?_ 1 _ rfl; (with_reducible repeat (first | refine blk_drewN ?_ _ | refine blk_drew ?_ | refine blk_alloc ?_ _)); refine blk_put (cs := #[.int .i64 0, .int .i64 0]) ?_ 0 _ rfl; (with_reducible repeat (first | refine blk_drewN ?_ _ | refine blk_drew ?_ | refine blk_alloc ?_ _)); exact BK1109.out) Tryd.underlying23 rfl (by kernel_rfl)) rfl ?_
        exact ⟨by first | rfl | (simp [errW_none, errW_some] <;> rfl) | (simp [*, errW_none, errW_some] <;> rfl), (q3_ HB.out GE1107.out GE1108.out GE1109.out)⟩
      · replace c21 := Bool.eq_false_iff.mpr c21
        subst c21
        have H1 : ((num_size.f a1_0).bind fun t1112 => ((num_times.f kj2 a0_0 a0_1 (decide (a1_0 < 0)) t1112 (IntKind.u64.wrap (a1_1))).bind fun bt1113 => (some (bt1113.1, bt1113.2.1, bt1113.2.2)))) = some (r1, r2, r3) := by rw [if_neg (show ¬ (false = true) by decide)] at H; exact H
        clear H
        have H := H1
        clear H1
        replace H := Option.bind_eq_some_iff.mp H
        obtain ⟨t1112, A250, H⟩ := H
        replace H : ((num_times.f kj2 a0_0 a0_1 (decide (a1_0 < 0)) t1112 (IntKind.u64.wrap (a1_1))).bind fun bt1113 => (some (bt1113.1, bt1113.2.1, bt1113.2.2))) = some (r1, r2, r3) := H
        have A25 := Aside0.mk A250
        clear A250
        replace H := Option.bind_eq_some_iff.mp H
        obtain ⟨⟨t1113, t1114, t1115⟩, A260, H⟩ := H
        replace H : (some (t1113, t1114, t1115)) = some (r1, r2, r3) := H
        have A26 := Aside0.mk A260
        clear A260
        simp only [Option.some.injEq, Prod.mk.injEq] at H
        obtain ⟨rfl, rfl, rfl⟩ := H
        try go_wp2
        have n0_ := Aside0.mk (blk_drew BK1107.out)
        have n1_ := Aside0.mk (blk_drew BK1108.out)
        have n2_ := Aside0.mk (blk_drew BK1109.out)
        have n3_ := Aside0.mk (below_drew1 HB.out)
        clear BK1107
        clear BK1108
        clear BK1109
        clear HB
        have BK1107 := n0_
        have BK1108 := n1_
        have BK1109 := n2_
        have HB := n3_
        clear n0_ n1_ n2_ n3_
        refine start_ (n := 15) (S := fun w' => w'.cell? ⟨gb1107, 0, none⟩ = some (.int .i64 a0_0) ∧ w'.cell? ⟨gb1107, 1, none⟩ = some (.int .i64 a0_1) ∧ w'.cell? ⟨gb1108, 0, none⟩ = some (.int .i64 a1_0) ∧ w'.cell? ⟨gb1108, 1, none⟩ = some (.int .i64 a1_1)) (ds := []) #[false, false, false, false, false, false, false, false, false, false, false, false, false, false, false] (by kernel_rfl) rfl rfl ⟨(blk_cell BK1107.out 0).trans rfl, (blk_cell BK1107.out 1).trans rfl, (blk_cell BK1108.out 0).trans rfl, (blk_cell BK1108.out 1).trans rfl⟩ (fun hHeld => ?_); refine with_tabW num_Mul.tab3 num_Mul.bits3 (fun HT_ HW_ => ?_)
        generalize wc.drew = w27 at BK1107 BK1108 BK1109 HB hHeld ⊢
        refine pure_ (i := 1) (N := some 16) (v := ?_) (a' := ?_) #[false, true, false, false, false, false, false, false, false, false, false, false, false, false, false] rfl rfl (any_of HT_.out (by kernel_rfl)) (fun _ _ _ h => h) (Or.inl ⟨by rfl, ?_⟩) ?_ ?_
        rotate_left
        · intro w'
          go_simp
          with_reducible rfl
        rotate_left
        · simp only [Act.put, List.setIfInBounds_toArray, List.set_cons_zero, List.set_cons_succ, i64_w, i32_w]
          rfl
        refine pure_ (i := 4) (N := some 19) (v := ?_) (a' := ?_) #[false, true, false, false, true, false, false, false, false, false, false, false, false, false, false] rfl rfl (any_of HT_.out (by kernel_rfl)) (fun _ _ _ h => h) (Or.inl ⟨by rfl, ?_⟩) ?_ ?_
        rotate_left
        · intro w'
          go_simp
          with_reducible rfl
        rotate_left
        · simp only [Act.put, List.setIfInBounds_toArray, List.set_cons_zero, List.set_cons_succ, i64_w, i32_w]
          rfl
        refine pure_ (i := 7) (N := some 22) (v := ?_) (a' := ?_) #[false, true, false, false, true, false, false, true, false, false, false, false, false, false, false] rfl rfl (any_of HT_.out (by kernel_rfl)) (fun _ _ _ h => h) (Or.inl ⟨by rfl, ?_⟩) ?_ ?_
        rotate_left
        · intro w'
          go_simp
          with_reducible rfl
        rotate_left
        · simp only [Act.put, List.setIfInBounds_toArray, List.set_cons_zero, List.set_cons_succ, i64_w, i32_w]
          rfl
        refine take_ (i := 0) (N := some 15) (v := ?_) (a' := ?_) #[true, true, false, false, true, false, false, true, false, false, false, false, false, false, false] rfl rfl (take_ofW HT_.out HW_.out (by kernel_rfl)) (fun _ _ _ h => h) (Or.inl ⟨by rfl, ?_⟩) hHeld ?_ ?_
        rotate_left
        · rintro w' ⟨s0, s1, s2, s3⟩
          go_simp
          with_reducible rfl
        rotate_left
        · simp only [Act.put, List.setIfInBounds_toArray, List.set_cons_zero, List.set_cons_succ, i64_w, i32_w]
          rfl
        refine take_ (i := 2) (N := some 17) (v := ?_) (a' := ?_) #[true, true, true, false, true, false, false, true, false, false, false, false, false, false, false] rfl rfl (take_ofW HT_.out HW_.out (by kernel_rfl)) (fun _ _ _ h => h) (Or.inl ⟨by rfl, ?_⟩) hHeld ?_ ?_
        rotate_left
        · rintro w' ⟨s0, s1, s2, s3⟩
          go_simp
          with_reducible rfl
        rotate_left
        · simp only [Act.put, List.setIfInBounds_toArray, List.set_cons_zero, List.set_cons_succ, i64_w, i32_w]
          rfl
        refine pure_ (i := 3) (N := some 18) (v := ?_) (a' := ?_) #[true, true, true, true, true, false, false, true, false, false, false, false, false, false, false] rfl rfl (any_of HT_.out (by kernel_rfl)) (fun _ _ _ h => h) (Or.inl ⟨by rfl, ?_⟩) ?_ ?_
        rotate_left
        · intro w'
          go_simp
          with_reducible rfl
        rotate_left
        · simp only [Act.put, List.setIfInBounds_toArray, List.set_cons_zero, List.set_cons_succ, i64_w, i32_w]
          rfl
        refine take_ (i := 5) (N := some 20) (v := ?_) (a' := ?_) #[true, true, true, true, true, true, false, true, false, false, false, false, false, false, false] rfl rfl (take_ofW HT_.out HW_.out (by kernel_rfl)) (fun _ _ _ h => h) (Or.inl ⟨by rfl, ?_⟩) hHeld ?_ ?_
        rotate_left
        · rintro w' ⟨s0, s1, s2, s3⟩
          go_simp
          with_reducible rfl
        rotate_left
        · simp only [Act.put, List.setIfInBounds_toArray, List.set_cons_zero, List.set_cons_succ, i64_w, i32_w]
          rfl
        refine take_ (i := 8) (N := some 23) (v := ?_) (a' := ?_) #[true, true, true, true, true, true, false, true, true, false, false, false, false, false, false] rfl rfl (take_ofW HT_.out HW_.out (by kernel_rfl)) (fun _ _ _ h => h) (Or.inl ⟨by rfl, ?_⟩) hHeld ?_ ?_
        rotate_left
        · rintro w' ⟨s0, s1, s2, s3⟩
          go_simp
          with_reducible rfl
        rotate_left
        · simp only [Act.put, List.setIfInBounds_toArray, List.set_cons_zero, List.set_cons_succ, i64_w, i32_w]
          rfl
        refine pure_ (i := 9) (N := some 24) (v := ?_) (a' := ?_) #[true, true, true, true, true, true, false, true, true, true, false, false, false, false, false] rfl rfl (any_of HT_.out (by kernel_rfl)) (fun _ _ _ h => h) (Or.inl ⟨by rfl, ?_⟩) ?_ ?_
        rotate_left
        · intro w'
          go_simp
          with_reducible rfl
        rotate_left
        · simp only [Act.put, List.setIfInBounds_toArray, List.set_cons_zero, List.set_cons_succ, i64_w, i32_w]
          rfl
        refine one_ (i := 6) (N := some 21) #[true, true, true, true, true, true, true, true, true, true, false, false, false, false, false] rfl rfl (one_of HT_.out (by kernel_rfl)) (by decide) (fun K hK => ?_)
        refine goes_ Tryd.func78 (by kernel_rfl) rfl #[.int .i64 a1_0] (by rfl) rfl rfl qe_ ?_
        with_reducible refine (num_size.calls a1_0 t1112 _ A25.out).mono ?_
        rintro e w' ⟨rfl, ⟨nd, rfl⟩⟩
        refine ⟨_, rfl, ?_⟩
        refine hK.out _ _ ⟨(blk_cell BK1107.out 0).trans rfl, (blk_cell BK1107.out 1).trans rfl, (blk_cell BK1108.out 0).trans rfl, (blk_cell BK1108.out 1).trans rfl⟩ (fun hHeld => ?_)
        clear hK K
        refine norm_ (a' := ?_) ?_ ?_
        rotate_left
        · show Act.put _ (some 21) _ = _
          simp only [Act.put, List.setIfInBounds_toArray, List.set_cons_zero, List.set_cons_succ, i64_w, i32_w]
          rfl
        refine one_ (i := 10) (N := some 25) #[true, true, true, true, true, true, true, true, true, true, true, false, false, false, false] rfl rfl (one_of HT_.out (by kernel_rfl)) (by decide) (fun K hK => ?_)
        refine goes_ Tryd.func100 (by kernel_rfl) rfl #[.agg #[.int .i64 a0_0, .int .i64 a0_1], .bool (decide (a1_0 < 0)), .int .u64 t1112, .int .u64 (IntKind.u64.wrap (a1_1))] (by rfl) rfl rfl qe_ ?_
        with_reducible refine (num_times.calls kj2 a0_0 a0_1 (decide (a1_0 < 0)) t1112 (IntKind.u64.wrap (a1_1)) t1113 t1114 t1115 _ A26.out).mono ?_
        rintro e w28 ⟨rfl, hb⟩
        refine ⟨_, rfl, ?_⟩
        have n0_ := Aside0.mk (qk_ BK1107.out hb)
        have n1_ := Aside0.mk (qk_ BK1108.out hb)
        have n2_ := Aside0.mk (qk_ BK1109.out hb)
        have n3_ := Aside0.mk (below_step (q3_ HB.out GE1107.out GE1108.out GE1109.out) hb)
        clear BK1107
        clear BK1108
        clear BK1109
        clear HB
        have BK1107 := n0_
        have BK1108 := n1_
        have BK1109 := n2_
        have HB := n3_
        clear n0_ n1_ n2_ n3_
        (try clear hb)
        (try clear hb2)
        (try clear hk)
        (try clear hi)
        refine hK.out _ _ ⟨(blk_cell BK1107.out 0).trans rfl, (blk_cell BK1107.out 1).trans rfl, (blk_cell BK1108.out 0).trans rfl, (blk_cell BK1108.out 1).trans rfl⟩ (fun hHeld => ?_)
        clear hK K
        refine norm_ (a' := ?_) ?_ ?_
        rotate_left
        · show Act.put _ (some 25) _ = _
          simp only [Act.put, List.setIfInBounds_toArray, List.set_cons_zero, List.set_cons_succ, i64_w, i32_w]
          rfl
        refine pure_ (i := 11) (N := some 26) (v := ?_) (a' := ?_) #[true, true, true, true, true, true, true, true, true, true, true, true, false, false, false] rfl rfl (any_of HT_.out (by kernel_rfl)) (fun _ _ _ h => h) (Or.inl ⟨by rfl, ?_⟩) ?_ ?_
        rotate_left
        · intro w'
          go_simp
          with_reducible rfl
        rotate_left
        · simp only [Act.put, List.setIfInBounds_toArray, List.set_cons_zero, List.set_cons_succ, i64_w, i32_w]
          rfl
        refine pure_ (i := 12) (N := some 27) (v := ?_) (a' := ?_) #[true, true, true, true, true, true, true, true, true, true, true, true, true, false, false] rfl rfl (any_of HT_.out (by kernel_rfl)) (fun _ _ _ h => h) (Or.inl ⟨by rfl, ?_⟩) ?_ ?_
        rotate_left
        · intro w'
          go_simp
          with_reducible rfl
        rotate_left
        · simp only [Act.put, List.setIfInBounds_toArray, List.set_cons_zero, List.set_cons_succ, i64_w, i32_w]
          rfl
        refine one_ (i := 13) (N := none) #[true, true, true, true, true, true, true, true, true, true, true, true, true, true, false] rfl rfl (one_of HT_.out (by kernel_rfl)) (by decide) (fun K hK => ?_)
        have hs29 : w28.cell? ⟨gb1109, 0, none⟩ = some (.int .i64 0) := (blk_cell BK1109.out 0).trans rfl
        have hfs29 := blk_frozen BK1109.out 0
        have hns29_0 := NB1107_1109.out
        have hns29_1 := NB1108_1109.out
        have hms29_0 := NB1109_1107.out
        have hms29_1 := NB1109_1108.out
        have hs30 : w28.cell? ⟨gb1109, 1, none⟩ = some (.int .i64 0) := (blk_cell BK1109.out 1).trans rfl
        have hfs30 := blk_frozen BK1109.out 1
        have hns30_0 := NB1107_1109.out
        have hns30_1 := NB1108_1109.out
        have hms30_0 := NB1109_1107.out
        have hms30_1 := NB1109_1108.out
        refine skip_ (w1 := ?_) (by rfl) rfl ?_ ?_
        rotate_left
        · go_simp
          rfl
        refine hK.out _ _ ⟨((cell_far (p := ⟨gb1109, _, none⟩) NB1107_1109.out _).trans (((cell_far (p := ⟨gb1109, _, none⟩) NB1107_1109.out _).trans (hHeld.1)))), ((cell_far (p := ⟨gb1109, _, none⟩) NB1107_1109.out _).trans (((cell_far (p := ⟨gb1109, _, none⟩) NB1107_1109.out _).trans (hHeld.2.1)))), ((cell_far (p := ⟨gb1109, _, none⟩) NB1108_1109.out _).trans (((cell_far (p := ⟨gb1109, _, none⟩) NB1108_1109.out _).trans (hHeld.2.2.1)))), ((cell_far (p := ⟨gb1109, _, none⟩) NB1108_1109.out _).trans (((cell_far (p := ⟨gb1109, _, none⟩) NB1108_1109.out _).trans (hHeld.2.2.2))))⟩ (fun hHeld => ?_)
        clear hK K
        refine pure_ (i := 14) (N := some 5) (v := ?_) (a' := ?_) #[true, true, true, true, true, true, true, true, true, true, true, true, true, true, true] rfl rfl (any_of HT_.out (by kernel_rfl)) (fun _ _ _ h => h) (Or.inl ⟨by rfl, ?_⟩) ?_ ?_
        rotate_left
        · intro w'
          go_simp
          with_reducible rfl
        rotate_left
        · simp only [Act.put, List.setIfInBounds_toArray, List.set_cons_zero, List.set_cons_succ, i64_w, i32_w]
          rfl
        refine done_ (done_of HT_.out (by kernel_rfl)) ?_
        try go_wp2
        refine bodyPost_ret (results_ct rfl _ _ gb1109 23 #[.int .i64 t1113, .int .i64 t1114] (0, 0) _ rfl (by (with_reducible repeat (first | refine blk_drewN ?_ _ | refine blk_drew ?_ | refine blk_alloc ?_ _)); refine blk_put (cs := #[.int .i64 t1113, .int .i64 0]) ?_ 1 _ rfl; (with_reducible repeat (first | refine blk_drewN ?_ _ | refine blk_drew ?_ | refine blk_alloc ?_ _)); refine blk_put (cs := #[.int .i64 0, .int .i64 0]) ?_ 0 _ rfl; (with_reducible repeat (first | refine blk_drewN ?_ _ | refine blk_drew ?_ | refine blk_alloc ?_ _)); exact BK1109.out) Tryd.underlying23 rfl (by kernel_rfl)) rfl ?_
        exact ⟨by first | rfl | (simp [errW_none, errW_some] <;> rfl) | (simp [*, errW_none, errW_some] <;> rfl), (q3_ HB.out GE1107.out GE1108.out GE1109.out)⟩
def num_Div.j0 : Nat → Bool → Int → Int → Int → Int → Option (Int × Int × Int)
  | 0, _, _, _, _, _ => none
  | k + 1, x6, x1117000, x1117001, x1118000, x1118001 => if x6 = true then (some (0, 0, 2)) else (if x1118000 = 0 then (some (0, 0, 5)) else ((num_size.f x1118000).bind fun t1121 => ((num_times.f k x1117000 x1117001 (decide (x1118000 < 0)) (IntKind.u64.wrap (x1118001)) t1121).bind fun bt1122 => (some (bt1122.1, bt1122.2.1, bt1122.2.2)))))
def num_Div.f (k : Nat) (a0_0 : Int) (a0_1 : Int) (a1_0 : Int) (a1_1 : Int) : Option (Int × Int × Int) := (num_Valid.f k a0_0 a0_1).bind fun t1119 => (if t1119 = true then ((num_Valid.f k a1_0 a1_1).bind fun t1120 => (num_Div.j0 k (!t1120) a0_0 a0_1 a1_0 a1_1)) else (num_Div.j0 k true a0_0 a0_1 a1_0 a1_1))
theorem num_Div.mono_l : ∀ k, (∀ y0 y1 y2 y3 y4, LeO (num_Div.j0 k y0 y1 y2 y3 y4) (num_Div.j0 (k + 1) y0 y1 y2 y3 y4))
  | 0 => fun _ _ _ _ _ r h => by simp [num_Div.j0] at h
  | k + 1 => by
    have ih0 := num_Div.mono_l k
    · intro y0 y1 y2 y3 y4
      unfold num_Div.j0
      repeat' first
      | (with_reducible exact ih0 _ _ _ _ _)
      | (with_reducible exact num_Valid.mono _ _ _)
      | (with_reducible exact num_times.mono _ _ _ _ _ _)
      | (with_reducible exact LeO.refl _)
      | (with_reducible exact LeO.none _)
      | (with_reducible refine LeO.ite ?_ ?_)
      | (with_reducible refine LeO.bind ?_ (fun _ => ?_))
      | exact ih0 _ _ _ _ _
      | exact num_Valid.mono _ _ _
      | exact num_times.mono _ _ _ _ _ _
      | exact LeO.none _
      | refine LeO.ite ?_ ?_
      | refine LeO.bind ?_ (fun _ => ?_)
theorem num_Div.mono : ∀ a0 a1 a2 a3 k, LeO (num_Div.f k a0 a1 a2 a3) (num_Div.f (k + 1) a0 a1 a2 a3) := by
  intro a0 a1 a2 a3 k
  have ih0 := num_Div.mono_l k
  unfold num_Div.f
  repeat' first
      | (with_reducible exact ih0 _ _ _ _ _)
      | (with_reducible exact num_Valid.mono _ _ _)
      | (with_reducible exact num_times.mono _ _ _ _ _ _)
      | (with_reducible exact LeO.refl _)
      | (with_reducible exact LeO.none _)
      | (with_reducible refine LeO.ite ?_ ?_)
      | (with_reducible refine LeO.bind ?_ (fun _ => ?_))
      | exact ih0 _ _ _ _ _
      | exact num_Valid.mono _ _ _
      | exact num_times.mono _ _ _ _ _ _
      | exact LeO.none _
      | refine LeO.ite ?_ ?_
      | refine LeO.bind ?_ (fun _ => ?_)
def num_Div.T5 : Bool × List (List Nat × List Nat) := (true, [([], []), ([], []), ([1], [1]), ([2], [2]), ([], []), ([4], [4]), ([5], [5]), ([], []), ([7], [7]), ([8], [8]), ([0, 3, 6, 9, 9], [0, 3, 6, 9]), ([10], [10]), ([10], [10]), ([11, 10, 0, 1, 2, 3, 4, 5, 6, 7, 8, 9, 10, 11, 12], [11]), ([12, 13, 0, 1, 2, 3, 4, 5, 6, 7, 8, 9, 10, 11, 12, 13], [12])])
def num_Div.B5 : List Nat := [0, 0, 2, 6, 0, 16, 48, 0, 128, 384, 1023, 2047, 2047, 8191, 16383]
theorem num_Div.tab5 : rtab .any (opsOf Tryd.f55 5) = num_Div.T5 := by kernel_rfl
theorem num_Div.bits5 : waitsOk num_Div.T5.2 num_Div.B5 = true := by kernel_rfl
set_option maxHeartbeats 8000000 in
set_option maxRecDepth 100000 in
theorem num_Div.calls (k : Nat) (a0_0 : Int) (a0_1 : Int) (a1_0 : Int) (a1_1 : Int) (r1 : Int) (r2 : Int) (r3 : Int) (w : World) (h : num_Div.f k a0_0 a0_1 a1_0 a1_1 = some (r1, r2, r3)) :
    Calls Tryd.prog 55 #[.agg #[.int .i64 a0_0, .int .i64 a0_1], .agg #[.int .i64 a1_0, .int .i64 a1_1]] w fun e w' => e = .returned (.tuple #[.agg #[.int .i64 r1, .int .i64 r2], .int .i64 r3]) ∧ Below w.heap.size w w' := by
  have hu23 := Tryd.underlying23
  have HB := Aside0.mk (Below.refl w.heap.size w)
  have H : ((num_Valid.f k a0_0 a0_1).bind fun t1119 => (if t1119 = true then ((num_Valid.f k a1_0 a1_1).bind fun t1120 => (num_Div.j0 k (!t1120) a0_0 a0_1 a1_0 a1_1)) else (num_Div.j0 k true a0_0 a0_1 a1_0 a1_1))) = some (r1, r2, r3) := h
  clear h
  have HC3 := Aside0.mk H
  clear H
  go_enter Tryd.func55, Tryd.ntmps55
  go_upto_region 1 with (first | ((with_reducible refine gate_dst (N := 2) rfl ?_); refine qx_ 2 #[.int .i64 a0_0, .int .i64 a0_1] 23 ?hr ?_; (case hr => first | (go_simp; done) | (go_simp; rfl)); intro gb1116 hg w4 hbox hb; have n0_ := Aside0.mk (below_step (q0_ HB.out) hb); have n1_ := Aside0.mk (hbox); have n2_ := Aside0.mk (qs_ hg (q0_ HB.out) : w.heap.size ≤ gb1116); have n3_ := n2_; clear HB; have HB := n0_; have BK1116 := n1_; have GW1116 := n2_; have GE1116 := n3_; clear n0_ n1_ n2_ n3_; clear hb hbox hg) | ((with_reducible refine gate_dst (N := 3) rfl ?_); refine qx_ 3 #[.int .i64 a1_0, .int .i64 a1_1] 23 ?hr ?_; (case hr => first | (go_simp; done) | (go_simp; rfl)); intro gb1117 hg w5 hbox hb; have n0_ := Aside0.mk (qk_ BK1116.out hb); have n1_ := Aside0.mk (below_step (q1_ HB.out GE1116.out) hb); have n2_ := Aside0.mk (hbox); have n3_ := Aside0.mk (qs_ hg (q1_ HB.out GE1116.out) : w.heap.size ≤ gb1117); have n4_ := n3_; have n5_ := Aside0.mk (qn_ hg BK1116.out); have n6_ := Aside0.mk (Ne.symm (qn_ hg BK1116.out)); clear BK1116; clear HB; have BK1116 := n0_; have HB := n1_; have BK1117 := n2_; have GW1117 := n3_; have GE1117 := n4_; have NB1116_1117 := n5_; have NB1117_1116 := n6_; clear n0_ n1_ n2_ n3_ n4_ n5_ n6_; clear hb hbox hg) | ((with_reducible refine gate_dst (N := 4) rfl ?_); refine qx_ 4 #[.int .i64 0, .int .i64 0] 23 ?hr ?_; (case hr => first | (go_simp; done) | (go_simp; rfl)); intro gb1118 hg w6 hbox hb; have n0_ := Aside0.mk (qk_ BK1116.out hb); have n1_ := Aside0.mk (qk_ BK1117.out hb); have n2_ := Aside0.mk (below_step (q2_ HB.out GE1116.out GE1117.out) hb); have n3_ := Aside0.mk (hbox); have n4_ := Aside0.mk (qs_ hg (q2_ HB.out GE1116.out GE1117.out) : w.heap.size ≤ gb1118); have n5_ := n4_; have n6_ := Aside0.mk (qn_ hg BK1116.out); have n7_ := Aside0.mk (Ne.symm (qn_ hg BK1116.out)); have n8_ := Aside0.mk (qn_ hg BK1117.out); have n9_ := Aside0.mk (Ne.symm (qn_ hg BK1117.out)); clear BK1116; clear BK1117; clear HB; have BK1116 := n0_; have BK1117 := n1_; have HB := n2_; have BK1118 := n3_; have GW1118 := n4_; have GE1118 := n5_; have NB1116_1118 := n6_; have NB1118_1116 := n7_; have NB1117_1118 := n8_; have NB1118_1117 := n9_; clear n0_ n1_ n2_ n3_ n4_ n5_ n6_ n7_ n8_ n9_; clear hb hbox hg))
  (try simp only [Act.put, List.setIfInBounds_toArray, List.set_cons_zero, List.set_cons_succ])
  go_cut [6] (fun v6 wc => ∃ (kq : Nat) (x6_2 : Bool), v6 = .bool x6_2 ∧ Aside0 (num_Div.j0 kq x6_2 a0_0 a0_1 a1_0 a1_1 = some (r1, r2, r3)) ∧ Aside0 (kq ≤ k) ∧ Aside0 (wc.heap[gb1116]? = some (.cells #[.int .i64 a0_0, .int .i64 a0_1] 23 (0, 0))) ∧ Aside0 (wc.heap[gb1117]? = some (.cells #[.int .i64 a1_0, .int .i64 a1_1] 23 (0, 0))) ∧ Aside0 (wc.heap[gb1118]? = some (.cells #[.int .i64 0, .int .i64 0] 23 (0, 0))) ∧ Aside0 (Below w.heap.size w wc))
  case first =>
    have H := HC3.out
    clear HC3
    replace H := Option.bind_eq_some_iff.mp H
    obtain ⟨t1119, A70, H⟩ := H
    replace H : (if t1119 = true then ((num_Valid.f k a1_0 a1_1).bind fun t1120 => (num_Div.j0 k (!t1120) a0_0 a0_1 a1_0 a1_1)) else (num_Div.j0 k true a0_0 a0_1 a1_0 a1_1)) = some (r1, r2, r3) := H
    have A7 := Aside0.mk A70
    clear A70
    by_cases c8 : t1119 = true
    · subst c8
      have H1 : ((num_Valid.f k a1_0 a1_1).bind fun t1120 => (num_Div.j0 k (!t1120) a0_0 a0_1 a1_0 a1_1)) = some (r1, r2, r3) := by rw [if_pos rfl] at H; exact H
      clear H
      have H := H1
      clear H1
      replace H := Option.bind_eq_some_iff.mp H
      obtain ⟨t1120, A90, H⟩ := H
      replace H : (num_Div.j0 k (!t1120) a0_0 a0_1 a1_0 a1_1) = some (r1, r2, r3) := H
      have A9 := Aside0.mk A90
      clear A90
      have H' := Aside0.mk H
      clear H
      have hnb10 := NB1116_1117.out
      have hnc10 := NB1117_1116.out
      have hnb11 := NB1116_1118.out
      have hnc11 := NB1118_1116.out
      have hcz12_0 : w6.cell? ⟨gb1116, 0, none⟩ = some (.int .i64 a0_0) := (blk_cell BK1116.out 0).trans rfl
      have hcz12_1 : w6.cell? ⟨gb1116, 1, none⟩ = some (.int .i64 a0_1) := (blk_cell BK1116.out 1).trans rfl
      have hfz12_0 := blk_frozen BK1116.out 0
      have hfz12_1 := blk_frozen BK1116.out 1
      go_wp2_with (first | ((with_reducible refine gate_callee (f := 26) rfl ?_); refine goesL_ (some 8) rfl rfl Tryd.func26 (by kernel_rfl) rfl #[.agg #[.int .i64 a0_0, .int .i64 a0_1]] rfl qe_ ?_; (with_reducible refine (num_Valid.calls k a0_0 a0_1 true _ A7.out).mono ?_); rintro e w13 ⟨rfl, hb⟩; refine ⟨_, rfl, ?_⟩; have n0_ := Aside0.mk (qk_ BK1116.out hb); have n1_ := Aside0.mk (qk_ BK1117.out hb); have n2_ := Aside0.mk (qk_ BK1118.out hb); have n3_ := Aside0.mk (below_step (q3_ HB.out GE1116.out GE1117.out GE1118.out) hb); clear BK1116; clear BK1117; clear BK1118; clear HB; have BK1116 := n0_; have BK1117 := n1_; have BK1118 := n2_; have HB := n3_; clear n0_ n1_ n2_ n3_; (try clear hb); (try clear hb2); (try clear hk); (try clear hi); have hnb14 := NB1117_1118.out; have hnc14 := NB1118_1117.out; have hcz15_0 : w13.cell? ⟨gb1117, 0, none⟩ = some (.int .i64 a1_0) := (blk_cell BK1117.out 0).trans rfl; have hcz15_1 : w13.cell? ⟨gb1117, 1, none⟩ = some (.int .i64 a1_1) := (blk_cell BK1117.out 1).trans rfl; have hfz15_0 := blk_frozen BK1117.out 0; have hfz15_1 := blk_frozen BK1117.out 1) | (go_at_call 26; (with_reducible refine (num_Valid.calls k a1_0 a1_1 t1120 _ A9.out).mono ?_); rintro e w16 ⟨rfl, hb⟩; have n0_ := Aside0.mk (qk_ BK1116.out hb); have n1_ := Aside0.mk (qk_ BK1117.out hb); have n2_ := Aside0.mk (qk_ BK1118.out hb); have n3_ := Aside0.mk (below_step (q3_ HB.out GE1116.out GE1117.out GE1118.out) hb); clear BK1116; clear BK1117; clear BK1118; clear HB; have BK1116 := n0_; have BK1117 := n1_; have BK1118 := n2_; have HB := n3_; clear n0_ n1_ n2_ n3_; (try clear hb); (try clear hb2); (try clear hk); (try clear hi)))
      go_meet
      case rel => exact ⟨_, (!t1120), (by first | rfl | (simp; done) | (simp [*]; done)), H', ⟨by first | omega | exact Nat.le_refl _⟩, ⟨by (with_reducible repeat (first | refine blk_drewN ?_ _ | refine blk_drew ?_ | refine blk_alloc ?_ _)); exact BK1116.out⟩, ⟨by (with_reducible repeat (first | refine blk_drewN ?_ _ | refine blk_drew ?_ | refine blk_alloc ?_ _)); exact BK1117.out⟩, ⟨by (with_reducible repeat (first | refine blk_drewN ?_ _ | refine blk_drew ?_ | refine blk_alloc ?_ _)); exact BK1118.out⟩, ⟨(q3_ HB.out GE1116.out GE1117.out GE1118.out)⟩⟩
    · replace c8 := Bool.eq_false_iff.mpr c8
      subst c8
      have H1 : (num_Div.j0 k true a0_0 a0_1 a1_0 a1_1) = some (r1, r2, r3) := by rw [if_neg (show ¬ (false = true) by decide)] at H; exact H
      clear H
      have H := H1
      clear H1
      have H' := Aside0.mk H
      clear H
      have hnb17 := NB1116_1117.out
      have hnc17 := NB1117_1116.out
      have hnb18 := NB1116_1118.out
      have hnc18 := NB1118_1116.out
      have hcz19_0 : w6.cell? ⟨gb1116, 0, none⟩ = some (.int .i64 a0_0) := (blk_cell BK1116.out 0).trans rfl
      have hcz19_1 : w6.cell? ⟨gb1116, 1, none⟩ = some (.int .i64 a0_1) := (blk_cell BK1116.out 1).trans rfl
      have hfz19_0 := blk_frozen BK1116.out 0
      have hfz19_1 := blk_frozen BK1116.out 1
      go_wp2_with (first | ((with_reducible refine gate_callee (f := 26) rfl ?_); refine goesL_ (some 8) rfl rfl Tryd.func26 (by kernel_rfl) rfl #[.agg #[.int .i64 a0_0, .int .i64 a0_1]] rfl qe_ ?_; (with_reducible refine (num_Valid.calls k a0_0 a0_1 false _ A7.out).mono ?_); rintro e w20 ⟨rfl, hb⟩; refine ⟨_, rfl, ?_⟩; have n0_ := Aside0.mk (qk_ BK1116.out hb); have n1_ := Aside0.mk (qk_ BK1117.out hb); have n2_ := Aside0.mk (qk_ BK1118.out hb); have n3_ := Aside0.mk (below_step (q3_ HB.out GE1116.out GE1117.out GE1118.out) hb); clear BK1116; clear BK1117; clear BK1118; clear HB; have BK1116 := n0_; have BK1117 := n1_; have BK1118 := n2_; have HB := n3_; clear n0_ n1_ n2_ n3_; (try clear hb); (try clear hb2); (try clear hk); (try clear hi)))
      go_meet
      case rel => exact ⟨_, (true), (by first | rfl | (simp; done) | (simp [*]; done)), H', ⟨by first | omega | exact Nat.le_refl _⟩, ⟨by (with_reducible repeat (first | refine blk_drewN ?_ _ | refine blk_drew ?_ | refine blk_alloc ?_ _)); exact BK1116.out⟩, ⟨by (with_reducible repeat (first | refine blk_drewN ?_ _ | refine blk_drew ?_ | refine blk_alloc ?_ _)); exact BK1117.out⟩, ⟨by (with_reducible repeat (first | refine blk_drewN ?_ _ | refine blk_drew ?_ | refine blk_alloc ?_ _)); exact BK1118.out⟩, ⟨(q3_ HB.out GE1116.out GE1117.out GE1118.out)⟩⟩
  case rest =>
    clear HC3
    try clear c1
    try clear c2
    try clear p2
    try clear c5
    try clear c8
    try clear c10
    try clear c11
    try clear c14
    try clear c17
    try clear c18
    try clear hcz12_0
    try clear hcz12_1
    try clear hcz15_0
    try clear hcz15_1
    try clear hcz19_0
    try clear hcz19_1
    try clear hfz12_0
    try clear hfz12_1
    try clear hfz15_0
    try clear hfz15_1
    try clear hfz19_0
    try clear hfz19_1
    obtain ⟨kq, x6_2, rfl, HA, HJ2, BK1116, BK1117, BK1118, HB⟩ := hcut
    cases kq with
    | zero => exact absurd HA.out (by simp [num_Div.j0])
    | succ kj2 =>
      have H := HA.out
      clear HA
      simp only [num_Div.j0] at H
      by_cases c21 : x6_2 = true
      · subst c21
        have H1 : (some (0, 0, 2)) = some (r1, r2, r3) := by rw [if_pos rfl] at H; exact H
        clear H
        have H := H1
        clear H1
        simp only [Option.some.injEq, Prod.mk.injEq] at H
        obtain ⟨rfl, rfl, rfl⟩ := H
        have hnb22 := NB1118_1116.out
        have hnc22 := NB1116_1118.out
        have hnb23 := NB1118_1117.out
        have hnc23 := NB1117_1118.out
        have hcz24_0 : wc.cell? ⟨gb1118, 0, none⟩ = some (.int .i64 0) := (blk_cell BK1118.out 0).trans rfl
        have hcz24_1 : wc.cell? ⟨gb1118, 1, none⟩ = some (.int .i64 0) := (blk_cell BK1118.out 1).trans rfl
        have hfz24_0 := blk_frozen BK1118.out 0
        have hfz24_1 := blk_frozen BK1118.out 1
        go_wp2
        refine bodyPost_ret (results_ct rfl _ _ gb1118 23 #[.int .i64 0, .int .i64 0] (0, 0) _ rfl (by (with_reducible repeat (first | refine blk_drewN ?_ _ | refine blk_drew ?_ | refine blk_alloc ?_ _)); refine blk_put (cs := #[.int .i64 0, .int .i64 0]) ?_ 1 _ rfl; (with_reducible repeat (first | refine blk_drewN ?_ _ | refine blk_drew ?_ | refine blk_alloc ?_ _)); refine blk_put (cs := #[.int .i64 0, .int .i64 0]) ?_ 0 _ rfl; (with_reducible repeat (first | refine blk_drewN ?_ _ | refine blk_drew ?_ | refine blk_alloc ?_ _)); exact BK1118.out) Tryd.underlying23 rfl (by kernel_rfl)) rfl ?_
        exact ⟨by first | rfl | (simp [errW_none, errW_some] <;> rfl) | (simp [*, errW_none, errW_some] <;> rfl), (q3_ HB.out GE1116.out GE1117.out GE1118.out)⟩
      · replace c21 := Bool.eq_false_iff.mpr c21
        subst c21
        have H1 : (if a1_0 = 0 then (some (0, 0, 5)) else ((num_size.f a1_0).bind fun t1121 => ((num_times.f kj2 a0_0 a0_1 (decide (a1_0 < 0)) (IntKind.u64.wrap (a1_1)) t1121).bind fun bt1122 => (some (bt1122.1, bt1122.2.1, bt1122.2.2))))) = some (r1, r2, r3) := by rw [if_neg (show ¬ (false = true) by decide)] at H; exact H
        clear H
        have H := H1
        clear H1
        by_cases c25 : a1_0 = 0
        · rw [if_pos c25] at H
          have c25b0 : (a1_0 == 0) = true := beq_iff_eq.mpr c25
          have c25b1 : (a1_0 != 0) = false := bne_eq_false_iff_eq.mpr c25
          clear c25
          simp only [Option.some.injEq, Prod.mk.injEq] at H
          obtain ⟨rfl, rfl, rfl⟩ := H
          have hnb26 := NB1117_1116.out
          have hnc26 := NB1116_1117.out
          have hnb27 := NB1117_1118.out
          have hnc27 := NB1118_1117.out
          have hcz28_0 : wc.cell? ⟨gb1117, 0, none⟩ = some (.int .i64 a1_0) := (blk_cell BK1117.out 0).trans rfl
          have hcz28_1 : wc.cell? ⟨gb1117, 1, none⟩ = some (.int .i64 a1_1) := (blk_cell BK1117.out 1).trans rfl
          have hfz28_0 := blk_frozen BK1117.out 0
          have hfz28_1 := blk_frozen BK1117.out 1
          have hnb29 := NB1118_1116.out
          have hnc29 := NB1116_1118.out
          have hcz30_0 : wc.cell? ⟨gb1118, 0, none⟩ = some (.int .i64 0) := (blk_cell BK1118.out 0).trans rfl
          have hcz30_1 : wc.cell? ⟨gb1118, 1, none⟩ = some (.int .i64 0) := (blk_cell BK1118.out 1).trans rfl
          have hfz30_0 := blk_frozen BK1118.out 0
          have hfz30_1 := blk_frozen BK1118.out 1
          go_wp2
          refine bodyPost_ret (results_ct rfl _ _ gb1118 23 #[.int .i64 0, .int .i64 0] (0, 0) _ rfl (by (with_reducible repeat (first | refine blk_drewN ?_ _ | refine blk_drew ?_ | refine blk_alloc ?_ _)); refine blk_put (cs := #[.int .i64 0, .int .i64 0]) ?_ 1 _ rfl; (with_reducible repeat (first | refine blk_drewN ?_ _ | refine blk_drew ?_ | refine blk_alloc ?_ _)); refine blk_put (cs := #[.int .i64 0, .int .i64 0]) ?_ 0 _ rfl; (with_reducible repeat (first | refine blk_drewN ?_ _ | refine blk_drew ?_ | refine blk_alloc ?_ _)); exact BK1118.out) Tryd.underlying23 rfl (by kernel_rfl)) rfl ?_
          exact ⟨by first | rfl | (simp [errW_none, errW_some] <;> rfl) | (simp [*, errW_none, errW_some] <;> rfl), (q3_ HB.out GE1116.out GE1117.out GE1118.out)⟩
        · rw [if_neg c25] at H
          have c25b0 : (a1_0 == 0) = false := beq_eq_false_iff_ne.mpr c25
          have c25b1 : (a1_0 != 0) = true := bne_iff_ne.mpr c25
          replace H := Option.bind_eq_some_iff.mp H
          obtain ⟨t1121, A310, H⟩ := H
          replace H : ((num_times.f kj2 a0_0 a0_1 (decide (a1_0 < 0)) (IntKind.u64.wrap (a1_1)) t1121).bind fun bt1122 => (some (bt1122.1, bt1122.2.1, bt1122.2.2))) = some (r1, r2, r3) := H
          have A31 := Aside0.mk A310
          clear A310
          replace H := Option.bind_eq_some_iff.mp H
          obtain ⟨⟨t1122, t1123, t1124⟩, A320, H⟩ := H
          replace H : (some (t1122, t1123, t1124)) = some (r1, r2, r3) := H
          have A32 := Aside0.mk A320
          clear A320
          simp only [Option.some.injEq, Prod.mk.injEq] at H
          obtain ⟨rfl, rfl, rfl⟩ := H
          have hnb33 := NB1117_1116.out
          have hnc33 := NB1116_1117.out
          have hnb34 := NB1117_1118.out
          have hnc34 := NB1118_1117.out
          have hcz35_0 : wc.cell? ⟨gb1117, 0, none⟩ = some (.int .i64 a1_0) := (blk_cell BK1117.out 0).trans rfl
          have hcz35_1 : wc.cell? ⟨gb1117, 1, none⟩ = some (.int .i64 a1_1) := (blk_cell BK1117.out 1).trans rfl
          have hfz35_0 := blk_frozen BK1117.out 0
          have hfz35_1 := blk_frozen BK1117.out 1
          try go_wp2
          have n0_ := Aside0.mk (blk_drew BK1116.out)
          have n1_ := Aside0.mk (blk_drew BK1117.out)
          have n2_ := Aside0.mk (blk_drew BK1118.out)
          have n3_ := Aside0.mk (below_drew1 HB.out)
          clear BK1116
          clear BK1117
          clear BK1118
          clear HB
          have BK1116 := n0_
          have BK1117 := n1_
          have BK1118 := n2_
          have HB := n3_
          clear n0_ n1_ n2_ n3_
          refine start_ (n := 15) (S := fun w' => w'.cell? ⟨gb1116, 0, none⟩ = some (.int .i64 a0_0) ∧ w'.cell? ⟨gb1116, 1, none⟩ = some (.int .i64 a0_1) ∧ w'.cell? ⟨gb1117, 0, none⟩ = some (.int .i64 a1_0) ∧ w'.cell? ⟨gb1117, 1, none⟩ = some (.int .i64 a1_1)) (ds := []) #[false, false, false, false, false, false, false, false, false, false, false, false, false, false, false] (by kernel_rfl) rfl rfl ⟨(blk_cell BK1116.out 0).trans rfl, (blk_cell BK1116.out 1).trans rfl, (blk_cell BK1117.out 0).trans rfl, (blk_cell BK1117.out 1).trans rfl⟩ (fun hHeld => ?_); refine with_tabW num_Div.tab5 num_Div.bits5 (fun HT_ HW_ => ?_)
          generalize wc.drew = w36 at BK1116 BK1117 BK1118 HB hHeld ⊢
          refine pure_ (i := 1) (N := some 22) (v := ?_) (a' := ?_) #[false, true, false, false, false, false, false, false, false, false, false, false, false, false, false] rfl rfl (any_of HT_.out (by kernel_rfl)) (fun _ _ _ h => h) (Or.inl ⟨by rfl, ?_⟩) ?_ ?_
          rotate_left
          · intro w'
            go_simp
            with_reducible rfl
          rotate_left
          · simp only [Act.put, List.setIfInBounds_toArray, List.set_cons_zero, List.set_cons_succ, i64_w, i32_w]
            rfl
          refine pure_ (i := 4) (N := some 25) (v := ?_) (a' := ?_) #[false, true, false, false, true, false, false, false, false, false, false, false, false, false, false] rfl rfl (any_of HT_.out (by kernel_rfl)) (fun _ _ _ h => h) (Or.inl ⟨by rfl, ?_⟩) ?_ ?_
          rotate_left
          · intro w'
            go_simp
            with_reducible rfl
          rotate_left
          · simp only [Act.put, List.setIfInBounds_toArray, List.set_cons_zero, List.set_cons_succ, i64_w, i32_w]
            rfl
          refine pure_ (i := 7) (N := some 28) (v := ?_) (a' := ?_) #[false, true, false, false, true, false, false, true, false, false, false, false, false, false, false] rfl rfl (any_of HT_.out (by kernel_rfl)) (fun _ _ _ h => h) (Or.inl ⟨by rfl, ?_⟩) ?_ ?_
          rotate_left
          · intro w'
            go_simp
            with_reducible rfl
          rotate_left
          · simp only [Act.put, List.setIfInBounds_toArray, List.set_cons_zero, List.set_cons_succ, i64_w, i32_w]
            rfl
          refine take_ (i := 0) (N := some 21) (v := ?_) (a' := ?_) #[true, true, false, false, true, false, false, true, false, false, false, false, false, false, false] rfl rfl (take_ofW HT_.out HW_.out (by kernel_rfl)) (fun _ _ _ h => h) (Or.inl ⟨by rfl, ?_⟩) hHeld ?_ ?_
          rotate_left
          · rintro w' ⟨s0, s1, s2, s3⟩
            go_simp
            with_reducible rfl
          rotate_left
          · simp only [Act.put, List.setIfInBounds_toArray, List.set_cons_zero, List.set_cons_succ, i64_w, i32_w]
            rfl
          refine take_ (i := 2) (N := some 23) (v := ?_) (a' := ?_) #[true, true, true, false, true, false, false, true, false, false, false, false, false, false, false] rfl rfl (take_ofW HT_.out HW_.out (by kernel_rfl)) (fun _ _ _ h => h) (Or.inl ⟨by rfl, ?_⟩) hHeld ?_ ?_
          rotate_left
          · rintro w' ⟨s0, s1, s2, s3⟩
            go_simp
            with_reducible rfl
          rotate_left
          · simp only [Act.put, List.setIfInBounds_toArray, List.set_cons_zero, List.set_cons_succ, i64_w, i32_w]
            rfl
          refine pure_ (i := 3) (N := some 24) (v := ?_) (a' := ?_) #[true, true, true, true, true, false, false, true, false, false, false, false, false, false, false] rfl rfl (any_of HT_.out (by kernel_rfl)) (fun _ _ _ h => h) (Or.inl ⟨by rfl, ?_⟩) ?_ ?_
          rotate_left
          · intro w'
            go_simp
            with_reducible rfl
          rotate_left
          · simp only [Act.put, List.setIfInBounds_toArray, List.set_cons_zero, List.set_cons_succ, i64_w, i32_w]
            rfl
          refine take_ (i := 5) (N := some 26) (v := ?_) (a' := ?_) #[true, true, true, true, true, true, false, true, false, false, false, false, false, false, false] rfl rfl (take_ofW HT_.out HW_.out (by kernel_rfl)) (fun _ _ _ h => h) (Or.inl ⟨by rfl, ?_⟩) hHeld ?_ ?_
          rotate_left
          · rintro w' ⟨s0, s1, s2, s3⟩
            go_simp
            with_reducible rfl
          rotate_left
          · simp only [Act.put, List.setIfInBounds_toArray, List.set_cons_zero, List.set_cons_succ, i64_w, i32_w]
            rfl
          refine pure_ (i := 6) (N := some 27) (v := ?_) (a' := ?_) #[true, true, true, true, true, true, true, true, false, false, false, false, false, false, false] rfl rfl (any_of HT_.out (by kernel_rfl)) (fun _ _ _ h => h) (Or.inl ⟨by rfl, ?_⟩) ?_ ?_
          rotate_left
          · intro w'
            go_simp
            with_reducible rfl
          rotate_left
          · simp only [Act.put, List.setIfInBounds_toArray, List.set_cons_zero, List.set_cons_succ, i64_w, i32_w]
            rfl
          refine take_ (i := 8) (N := some 29) (v := ?_) (a' := ?_) #[true, true, true, true, true, true, true, true, true, false, false, false, false, false, false] rfl rfl (take_ofW HT_.out HW_.out (by kernel_rfl)) (fun _ _ _ h => h) (Or.inl ⟨by rfl, ?_⟩) hHeld ?_ ?_
          rotate_left
          · rintro w' ⟨s0, s1, s2, s3⟩
            go_simp
            with_reducible rfl
          rotate_left
          · simp only [Act.put, List.setIfInBounds_toArray, List.set_cons_zero, List.set_cons_succ, i64_w, i32_w]
            rfl
          refine one_ (i := 9) (N := some 30) #[true, true, true, true, true, true, true, true, true, true, false, false, false, false, false] rfl rfl (one_of HT_.out (by kernel_rfl)) (by decide) (fun K hK => ?_)
          refine goes_ Tryd.func78 (by kernel_rfl) rfl #[.int .i64 a1_0] (by rfl) rfl rfl qe_ ?_
          with_reducible refine (num_size.calls a1_0 t1121 _ A31.out).mono ?_
          rintro e w' ⟨rfl, ⟨nd, rfl⟩⟩
          refine ⟨_, rfl, ?_⟩
          refine hK.out _ _ ⟨(blk_cell BK1116.out 0).trans rfl, (blk_cell BK1116.out 1).trans rfl, (blk_cell BK1117.out 0).trans rfl, (blk_cell BK1117.out 1).trans rfl⟩ (fun hHeld => ?_)
          clear hK K
          refine norm_ (a' := ?_) ?_ ?_
          rotate_left
          · show Act.put _ (some 30) _ = _
            simp only [Act.put, List.setIfInBounds_toArray, List.set_cons_zero, List.set_cons_succ, i64_w, i32_w]
            rfl
          refine one_ (i := 10) (N := some 31) #[true, true, true, true, true, true, true, true, true, true, true, false, false, false, false] rfl rfl (one_of HT_.out (by kernel_rfl)) (by decide) (fun K hK => ?_)
          refine goes_ Tryd.func100 (by kernel_rfl) rfl #[.agg #[.int .i64 a0_0, .int .i64 a0_1], .bool (decide (a1_0 < 0)), .int .u64 (IntKind.u64.wrap (a1_1)), .int .u64 t1121] (by rfl) rfl rfl qe_ ?_
          with_reducible refine (num_times.calls kj2 a0_0 a0_1 (decide (a1_0 < 0)) (IntKind.u64.wrap (a1_1)) t1121 t1122 t1123 t1124 _ A32.out).mono ?_
          rintro e w37 ⟨rfl, hb⟩
          refine ⟨_, rfl, ?_⟩
          have n0_ := Aside0.mk (qk_ BK1116.out hb)
          have n1_ := Aside0.mk (qk_ BK1117.out hb)
          have n2_ := Aside0.mk (qk_ BK1118.out hb)
          have n3_ := Aside0.mk (below_step (q3_ HB.out GE1116.out GE1117.out GE1118.out) hb)
          clear BK1116
          clear BK1117
          clear BK1118
          clear HB
          have BK1116 := n0_
          have BK1117 := n1_
          have BK1118 := n2_
          have HB := n3_
          clear n0_ n1_ n2_ n3_
          (try clear hb)
          (try clear hb2)
          (try clear hk)
          (try clear hi)
          refine hK.out _ _ ⟨(blk_cell BK1116.out 0).trans rfl, (blk_cell BK1116.out 1).trans rfl, (blk_cell BK1117.out 0).trans rfl, (blk_cell BK1117.out 1).trans rfl⟩ (fun hHeld => ?_)
          clear hK K
          refine norm_ (a' := ?_) ?_ ?_
          rotate_left
          · show Act.put _ (some 31) _ = _
            simp only [Act.put, List.setIfInBounds_toArray, List.set_cons_zero, List.set_cons_succ, i64_w, i32_w]
            rfl
          refine pure_ (i := 11) (N := some 32) (v := ?_) (a' := ?_) #[true, true, true, true, true, true, true, true, true, true, true, true, false, false, false] rfl rfl (any_of HT_.out (by kernel_rfl)) (fun _ _ _ h => h) (Or.inl ⟨by rfl, ?_⟩) ?_ ?_
          rotate_left
          · intro w'
            go_simp
            with_reducible rfl
          rotate_left
          · simp only [Act.put, List.setIfInBounds_toArray, List.set_cons_zero, List.set_cons_succ, i64_w, i32_w]
            rfl
          refine pure_ (i := 12) (N := some 33) (v := ?_) (a' := ?_) #[true, true, true, true, true, true, true, true, true, true, true, true, true, false, false] rfl rfl (any_of HT_.out (by kernel_rfl)) (fun _ _ _ h => h) (Or.inl ⟨by rfl, ?_⟩) ?_ ?_
          rotate_left
          · intro w'
            go_simp
            with_reducible rfl
          rotate_left
          · simp only [Act.put, List.setIfInBounds_toArray, List.set_cons_zero, List.set_cons_succ, i64_w, i32_w]
            rfl
          refine one_ (i := 13) (N := none) #[true, true, true, true, true, true, true, true, true, true, true, true, true, true, false] rfl rfl (one_of HT_.out (by kernel_rfl)) (by decide) (fun K hK => ?_)
          have hs38 : w37.cell? ⟨gb1118, 0, none⟩ = some (.int .i64 0) := (blk_cell BK1118.out 0).trans rfl
          have hfs38 := blk_frozen BK1118.out 0
          have hns38_0 := NB1116_1118.out
          have hns38_1 := NB1117_1118.out
          have hms38_0 := NB1118_1116.out
          have hms38_1 := NB1118_1117.out
          have hs39 : w37.cell? ⟨gb1118, 1, none⟩ = some (.int .i64 0) := (blk_cell BK1118.out 1).trans rfl
          have hfs39 := blk_frozen BK1118.out 1
          have hns39_0 := NB1116_1118.out
          have hns39_1 := NB1117_1118.out
          have hms39_0 := NB1118_1116.out
          have hms39_1 := NB1118_1117.out
          refine skip_ (w1 := ?_) (by rfl) rfl ?_ ?_
          rotate_left
          · go_simp
            rfl
          refine hK.out _ _ ⟨((cell_far (p := ⟨gb1118, _, none⟩) NB1116_1118.out _).trans (((cell_far (p := ⟨gb1118, _, none⟩) NB1116_1118.out _).trans (hHeld.1)))), ((cell_far (p := ⟨gb1118, _, none⟩) NB1116_1118.out _).trans (((cell_far (p := ⟨gb1118, _, none⟩) NB1116_1118.out _).trans (hHeld.2.1)))), ((cell_far (p := ⟨gb1118, _, none⟩) NB1117_1118.out _).trans (((cell_far (p := ⟨gb1118, _, none⟩) NB1117_1118.out _).trans (hHeld.2.2.1)))), ((cell_far (p := ⟨gb1118, _, none⟩) NB1117_1118.out _).trans (((cell_far (p := ⟨gb1118, _, none⟩) NB1117_1118.out _).trans (hHeld.2.2.2))))⟩ (fun hHeld => ?_)
          clear hK K
          refine pure_ (i := 14) (N := some 5) (v := ?_) (a' := ?_) #[true, true, true, true, true, true, true, true, true, true, true, true, true, true, true] rfl rfl (any_of HT_.out (by kernel_rfl)) (fun _ _ _ h => h) (Or.inl ⟨by rfl, ?_⟩) ?_ ?_
          rotate_left
          · intro w'
            go_simp
            with_reducible rfl
          rotate_left
          · simp only [Act.put, List.setIfInBounds_toArray, List.set_cons_zero, List.set_cons_succ, i64_w, i32_w]
            rfl
          refine done_ (done_of HT_.out (by kernel_rfl)) ?_
          try go_wp2
          refine bodyPost_ret (results_ct rfl _ _ gb1118 23 #[.int .i64 t1122, .int .i64 t1123] (0, 0) _ rfl (by (with_reducible repeat (first | refine blk_drewN ?_ _ | refine blk_drew ?_ | refine blk_alloc ?_ _)); refine blk_put (cs := #[.int .i64 t1122, .int .i64 0]) ?_ 1 _ rfl; (with_reducible repeat (first | refine blk_drewN ?_ _ | refine blk_drew ?_ | refine blk_alloc ?_ _)); refine blk_put (cs := #[.int .i64 0, .int .i64 0]) ?_ 0 _ rfl; (with_reducible repeat (first | refine blk_drewN ?_ _ | refine blk_drew ?_ | refine blk_alloc ?_ _)); exact BK1118.out) Tryd.underlying23 rfl (by kernel_rfl)) rfl ?_
          exact ⟨by first | rfl | (simp [errW_none, errW_some] <;> rfl) | (simp [*, errW_none, errW_some] <;> rfl), (q3_ HB.out GE1116.out GE1117.out GE1118.out)⟩
end Go.Proofs.YtdjnneflpkllmaaDoor.Q

namespace Go.Proofs.YtdjnneflpkllmaaDoor.Q
open Go.RowKit Go.Proofs.YtdjnneflpkllmaaDoorW.PrintWords Go.Proofs.YtdjnneflpkllmaaDoorW.PrintLast Go.Proofs.YtdjnneflpkllmaaDoorW.PrintMore
attribute [local go_sem] max2_int min2_int max_two min_two max_three min_three max_four min_four   -- for this text's walks alone
set_option linter.unusedVariables false
set_option linter.unusedSimpArgs false
def merinolaw01_arith.f (k : Nat) (a0 : Int) (a1_0 : Int) (a1_1 : Int) (a2_0 : Int) (a2_1 : Int) : Option (Int × Int × Int) := if a0 = 0 then ((num_Add.f k a1_0 a1_1 a2_0 a2_1).bind fun bt1328 => (some (bt1328.1, bt1328.2.1, bt1328.2.2))) else (if a0 = 1 then ((num_Sub.f k a1_0 a1_1 a2_0 a2_1).bind fun bt1331 => (some (bt1331.1, bt1331.2.1, bt1331.2.2))) else (if a0 = 2 then ((num_Mul.f k a1_0 a1_1 a2_0 a2_1).bind fun bt1334 => (some (bt1334.1, bt1334.2.1, bt1334.2.2))) else ((num_Div.f k a1_0 a1_1 a2_0 a2_1).bind fun bt1337 => (some (bt1337.1, bt1337.2.1, bt1337.2.2)))))
theorem merinolaw01_arith.mono : ∀ a0 a1 a2 a3 a4 k, LeO (merinolaw01_arith.f k a0 a1 a2 a3 a4) (merinolaw01_arith.f (k + 1) a0 a1 a2 a3 a4) := by
  intro a0 a1 a2 a3 a4 k
  unfold merinolaw01_arith.f
  repeat' first
      | (with_reducible exact num_Add.mono _ _ _ _ _)
      | (with_reducible exact num_Div.mono _ _ _ _ _)
      | (with_reducible exact num_Mul.mono _ _ _ _ _)
      | (with_reducible exact num_Sub.mono _ _ _ _ _)
      | (with_reducible exact LeO.refl _)
      | (with_reducible exact LeO.none _)
      | (with_reducible refine LeO.ite ?_ ?_)
      | (with_reducible refine LeO.bind ?_ (fun _ => ?_))
      | exact num_Add.mono _ _ _ _ _
      | exact num_Div.mono _ _ _ _ _
      | exact num_Mul.mono _ _ _ _ _
      | exact num_Sub.mono _ _ _ _ _
      | exact LeO.none _
      | refine LeO.ite ?_ ?_
      | refine LeO.bind ?_ (fun _ => ?_)
set_option maxHeartbeats 8000000 in
set_option maxRecDepth 100000 in
theorem merinolaw01_arith.calls (k : Nat) (a0 : Int) (a1_0 : Int) (a1_1 : Int) (a2_0 : Int) (a2_1 : Int) (r1 : Int) (r2 : Int) (r3 : Int) (w : World) (h : merinolaw01_arith.f k a0 a1_0 a1_1 a2_0 a2_1 = some (r1, r2, r3)) :
    Calls Tryd.prog 63 #[.int .i64 a0, .agg #[.int .i64 a1_0, .int .i64 a1_1], .agg #[.int .i64 a2_0, .int .i64 a2_1]] w fun e w' => e = .returned (.tuple #[.agg #[.int .i64 r1, .int .i64 r2], .int .i64 r3]) ∧ Below w.heap.size w w' := by
  have hu23 := Tryd.underlying23
  have HB := Aside0.mk (Below.refl w.heap.size w)
  have H : (if a0 = 0 then ((num_Add.f k a1_0 a1_1 a2_0 a2_1).bind fun bt1328 => (some (bt1328.1, bt1328.2.1, bt1328.2.2))) else (if a0 = 1 then ((num_Sub.f k a1_0 a1_1 a2_0 a2_1).bind fun bt1331 => (some (bt1331.1, bt1331.2.1, bt1331.2.2))) else (if a0 = 2 then ((num_Mul.f k a1_0 a1_1 a2_0 a2_1).bind fun bt1334 => (some (bt1334.1, bt1334.2.1, bt1334.2.2))) else ((num_Div.f k a1_0 a1_1 a2_0 a2_1).bind fun bt1337 => (some (bt1337.1, bt1337.2.1, bt1337.2.2)))))) = some (r1, r2, r3) := h
  clear h
  by_cases c4 : a0 = 0
  · rw [if_pos c4] at H
    have c4b0 : (a0 == 0) = true := beq_iff_eq.mpr c4
    have c4b1 : (a0 != 0) = false := bne_eq_false_iff_eq.mpr c4
    clear c4
    replace H := Option.bind_eq_some_iff.mp H
    obtain ⟨⟨t1328, t1329, t1330⟩, A50, H⟩ := H
    replace H : (some (t1328, t1329, t1330)) = some (r1, r2, r3) := H
    have A5 := Aside0.mk A50
    clear A50
    simp only [Option.some.injEq, Prod.mk.injEq] at H
    obtain ⟨rfl, rfl, rfl⟩ := H
    go_enter Tryd.func63, Tryd.ntmps63
    go_wp2_with (first | ((with_reducible refine gate_dst (N := 4) rfl ?_); refine qx_ 4 #[.int .i64 a1_0, .int .i64 a1_1] 23 ?hr ?_; (case hr => first | (go_simp; done) | (go_simp; rfl)); intro gb1325 hg w6 hbox hb; have n0_ := Aside0.mk (below_step (q0_ HB.out) hb); have n1_ := Aside0.mk (hbox); have n2_ := Aside0.mk (qs_ hg (q0_ HB.out) : w.heap.size ≤ gb1325); have n3_ := n2_; clear HB; have HB := n0_; have BK1325 := n1_; have GW1325 := n2_; have GE1325 := n3_; clear n0_ n1_ n2_ n3_; clear hb hbox hg) | ((with_reducible refine gate_dst (N := 5) rfl ?_); refine qx_ 5 #[.int .i64 a2_0, .int .i64 a2_1] 23 ?hr ?_; (case hr => first | (go_simp; done) | (go_simp; rfl)); intro gb1326 hg w7 hbox hb; have n0_ := Aside0.mk (qk_ BK1325.out hb); have n1_ := Aside0.mk (below_step (q1_ HB.out GE1325.out) hb); have n2_ := Aside0.mk (hbox); have n3_ := Aside0.mk (qs_ hg (q1_ HB.out GE1325.out) : w.heap.size ≤ gb1326); have n4_ := n3_; have n5_ := Aside0.mk (qn_ hg BK1325.out); have n6_ := Aside0.mk (Ne.symm (qn_ hg BK1325.out)); clear BK1325; clear HB; have BK1325 := n0_; have HB := n1_; have BK1326 := n2_; have GW1326 := n3_; have GE1326 := n4_; have NB1325_1326 := n5_; have NB1326_1325 := n6_; clear n0_ n1_ n2_ n3_ n4_ n5_ n6_; clear hb hbox hg) | ((with_reducible refine gate_dst (N := 6) rfl ?_); refine qx_ 6 #[.int .i64 0, .int .i64 0] 23 ?hr ?_; (case hr => first | (go_simp; done) | (go_simp; rfl)); intro gb1327 hg w8 hbox hb; have n0_ := Aside0.mk (qk_ BK1325.out hb); have n1_ := Aside0.mk (qk_ BK1326.out hb); have n2_ := Aside0.mk (below_step (q2_ HB.out GE1325.out GE1326.out) hb); have n3_ := Aside0.mk (hbox); have n4_ := Aside0.mk (qs_ hg (q2_ HB.out GE1325.out GE1326.out) : w.heap.size ≤ gb1327); have n5_ := n4_; have n6_ := Aside0.mk (qn_ hg BK1325.out); have n7_ := Aside0.mk (Ne.symm (qn_ hg BK1325.out)); have n8_ := Aside0.mk (qn_ hg BK1326.out); have n9_ := Aside0.mk (Ne.symm (qn_ hg BK1326.out)); clear BK1325; clear BK1326; clear HB; have BK1325 := n0_; have BK1326 := n1_; have HB := n2_; have BK1327 := n3_; have GW1327 := n4_; have GE1327 := n5_; have NB1325_1327 := n6_; have NB1327_1325 := n7_; have NB1326_1327 := n8_; have NB1327_1326 := n9_; clear n0_ n1_ n2_ n3_ n4_ n5_ n6_ n7_ n8_ n9_; clear hb hbox hg; have hnb9 := NB1325_1326.out; have hnc9 := NB1326_1325.out; have hnb10 := NB1325_1327.out; have hnc10 := NB1327_1325.out; have hcz11_0 : w8.cell? ⟨gb1325, 0, none⟩ = some (.int .i64 a1_0) := (blk_cell BK1325.out 0).trans rfl; have hcz11_1 : w8.cell? ⟨gb1325, 1, none⟩ = some (.int .i64 a1_1) := (blk_cell BK1325.out 1).trans rfl; have hfz11_0 := blk_frozen BK1325.out 0; have hfz11_1 := blk_frozen BK1325.out 1; have hnb12 := NB1326_1327.out; have hnc12 := NB1327_1326.out; have hcz13_0 : w8.cell? ⟨gb1326, 0, none⟩ = some (.int .i64 a2_0) := (blk_cell BK1326.out 0).trans rfl; have hcz13_1 : w8.cell? ⟨gb1326, 1, none⟩ = some (.int .i64 a2_1) := (blk_cell BK1326.out 1).trans rfl; have hfz13_0 := blk_frozen BK1326.out 0; have hfz13_1 := blk_frozen BK1326.out 1) | ((with_reducible refine gate_callee (f := 52) rfl ?_); refine goesL_ (some 13) rfl rfl Tryd.func52 (by kernel_rfl) rfl #[.agg #[.int .i64 a1_0, .int .i64 a1_1], .agg #[.int .i64 a2_0, .int .i64 a2_1]] rfl qe_ ?_; (with_reducible refine (num_Add.calls k a1_0 a1_1 a2_0 a2_1 t1328 t1329 t1330 _ A5.out).mono ?_); rintro e w14 ⟨rfl, hb⟩; refine ⟨_, rfl, ?_⟩; have n0_ := Aside0.mk (qk_ BK1325.out hb); have n1_ := Aside0.mk (qk_ BK1326.out hb); have n2_ := Aside0.mk (qk_ BK1327.out hb); have n3_ := Aside0.mk (below_step (q3_ HB.out GE1325.out GE1326.out GE1327.out) hb); clear BK1325; clear BK1326; clear BK1327; clear HB; have BK1325 := n0_; have BK1326 := n1_; have BK1327 := n2_; have HB := n3_; clear n0_ n1_ n2_ n3_; (try clear hb); (try clear hb2); (try clear hk); (try clear hi); have hcz15_0 : w14.cell? ⟨gb1327, 0, none⟩ = some (.int .i64 0) := (blk_cell BK1327.out 0).trans rfl; have hcz15_1 : w14.cell? ⟨gb1327, 1, none⟩ = some (.int .i64 0) := (blk_cell BK1327.out 1).trans rfl; have hfz15_0 := blk_frozen BK1327.out 0; have hfz15_1 := blk_frozen BK1327.out 1))
    refine bodyPost_ret (results_ct rfl _ _ gb1327 23 #[.int .i64 t1328, .int .i64 t1329] (0, 0) _ rfl (by (with_reducible repeat (first | refine blk_drewN ?_ _ | refine blk_drew ?_ | refine blk_alloc ?_ _)); refine blk_put (cs := #[.int .i64 t1328, .int .i64 0]) ?_ 1 _ rfl; (with_reducible repeat (first | refine blk_drewN ?_ _ | refine blk_drew ?_ | refine blk_alloc ?_ _)); refine blk_put (cs := #[.int .i64 0, .int .i64 0]) ?_ 0 _ rfl; (with_reducible repeat (first | refine blk_drewN ?_ _ | refine blk_drew ?_ | refine blk_alloc ?_ _)); exact BK1327.out) Tryd.underlying23 rfl (by kernel_rfl)) rfl ?_
    exact ⟨by first | rfl | (simp [errW_none, errW_some] <;> rfl) | (simp [*, errW_none, errW_some] <;> rfl), (q3_ HB.out GE1325.out GE1326.out GE1327.out)⟩
  · rw [if_neg c4] at H
    have c4b0 : (a0 == 0) = false := beq_eq_false_iff_ne.mpr c4
    have c4b1 : (a0 != 0) = true := bne_iff_ne.mpr c4
    by_cases c16 : a0 = 1
    · rw [if_pos c16] at H
      have c16b0 : (a0 == 1) = true := beq_iff_eq.mpr c16
      have c16b1 : (a0 != 1) = false := bne_eq_false_iff_eq.mpr c16
      clear c16
      replace H := Option.bind_eq_some_iff.mp H
      obtain ⟨⟨t1331, t1332, t1333⟩, A170, H⟩ := H
      replace H : (some (t1331, t1332, t1333)) = some (r1, r2, r3) := H
      have A17 := Aside0.mk A170
      clear A170
      simp only [Option.some.injEq, Prod.mk.injEq] at H
      obtain ⟨rfl, rfl, rfl⟩ := H
      go_enter Tryd.func63, Tryd.ntmps63
      go_wp2_with (first | ((with_reducible refine gate_dst (N := 4) rfl ?_); refine qx_ 4 #[.int .i64 a1_0, .int .i64 a1_1] 23 ?hr ?_; (case hr => first | (go_simp; done) | (go_simp; rfl)); intro gb1325 hg w18 hbox hb; have n0_ := Aside0.mk (below_step (q0_ HB.out) hb); have n1_ := Aside0.mk (hbox); have n2_ := Aside0.mk (qs_ hg (q0_ HB.out) : w.heap.size ≤ gb1325); have n3_ := n2_; clear HB; have HB := n0_; have BK1325 := n1_; have GW1325 := n2_; have GE1325 := n3_; clear n0_ n1_ n2_ n3_; clear hb hbox hg) | ((with_reducible refine gate_dst (N := 5) rfl ?_); refine qx_ 5 #[.int .i64 a2_0, .int .i64 a2_1] 23 ?hr ?_; (case hr => first | (go_simp; done) | (go_simp; rfl)); intro gb1326 hg w19 hbox hb; have n0_ := Aside0.mk (qk_ BK1325.out hb); have n1_ := Aside0.mk (below_step (q1_ HB.out GE1325.out) hb); have n2_ := Aside0.mk (hbox); have n3_ := Aside0.mk (qs_ hg (q1_ HB.out GE1325.out) : w.heap.size ≤ gb1326); have n4_ := n3_; have n5_ := Aside0.mk (qn_ hg BK1325.out); have n6_ := Aside0.mk (Ne.symm (qn_ hg BK1325.out)); clear BK1325; clear HB; have BK1325 := n0_; have HB := n1_; have BK1326 := n2_; have GW1326 := n3_; have GE1326 := n4_; have NB1325_1326 := n5_; have NB1326_1325 := n6_; clear n0_ n1_ n2_ n3_ n4_ n5_ n6_; clear hb hbox hg) | ((with_reducible refine gate_dst (N := 6) rfl ?_); refine qx_ 6 #[.int .i64 0, .int .i64 0] 23 ?hr ?_; (case hr => first | (go_simp; done) | (go_simp; rfl)); intro gb1327 hg w20 hbox hb; have n0_ := Aside0.mk (qk_ BK1325.out hb); have n1_ := Aside0.mk (qk_ BK1326.out hb); have n2_ := Aside0.mk (below_step (q2_ HB.out GE1325.out GE1326.out) hb); have n3_ := Aside0.mk (hbox); have n4_ := Aside0.mk (qs_ hg (q2_ HB.out GE1325.out GE1326.out) : w.heap.size ≤ gb1327); have n5_ := n4_; have n6_ := Aside0.mk (qn_ hg BK1325.out); have n7_ := Aside0.mk (Ne.symm (qn_ hg BK1325.out)); have n8_ := Aside0.mk (qn_ hg BK1326.out); have n9_ := Aside0.mk (Ne.symm (qn_ hg BK1326.out)); clear BK1325; clear BK1326; clear HB; have BK1325 := n0_; have BK1326 := n1_; have HB := n2_; have BK1327 := n3_; have GW1327 := n4_; have GE1327 := n5_; have NB1325_1327 := n6_; have NB1327_1325 := n7_; have NB1326_1327 := n8_; have NB1327_1326 := n9_; clear n0_ n1_ n2_ n3_ n4_ n5_ n6_ n7_ n8_ n9_; clear hb hbox hg; have hnb21 := NB1325_1326.out; have hnc21 := NB1326_1325.out; have hnb22 := NB1325_1327.out; have hnc22 := NB1327_1325.out; have hcz23_0 : w20.cell? ⟨gb1325, 0, none⟩ = some (.int .i64 a1_0) := (blk_cell BK1325.out 0).trans rfl; have hcz23_1 : w20.cell? ⟨gb1325, 1, none⟩ = some (.int .i64 a1_1) := (blk_cell BK1325.out 1).trans rfl; have hfz23_0 := blk_frozen BK1325.out 0; have hfz23_1 := blk_frozen BK1325.out 1; have hnb24 := NB1326_1327.out; have hnc24 := NB1327_1326.out; have hcz25_0 : w20.cell? ⟨gb1326, 0, none⟩ = some (.int .i64 a2_0) := (blk_cell BK1326.out 0).trans rfl; have hcz25_1 : w20.cell? ⟨gb1326, 1, none⟩ = some (.int .i64 a2_1) := (blk_cell BK1326.out 1).trans rfl; have hfz25_0 := blk_frozen BK1326.out 0; have hfz25_1 := blk_frozen BK1326.out 1) | ((with_reducible refine gate_callee (f := 53) rfl ?_); refine goesL_ (some 20) rfl rfl Tryd.func53 (by kernel_rfl) rfl #[.agg #[.int .i64 a1_0, .int .i64 a1_1], .agg #[.int .i64 a2_0, .int .i64 a2_1]] rfl qe_ ?_; (with_reducible refine (num_Sub.calls k a1_0 a1_1 a2_0 a2_1 t1331 t1332 t1333 _ A17.out).mono ?_); rintro e w26 ⟨rfl, hb⟩; refine ⟨_, rfl, ?_⟩; have n0_ := Aside0.mk (qk_ BK1325.out hb); have n1_ := Aside0.mk (qk_ BK1326.out hb); have n2_ := Aside0.mk (qk_ BK1327.out hb); have n3_ := Aside0.mk (below_step (q3_ HB.out GE1325.out GE1326.out GE1327.out) hb); clear BK1325; clear BK1326; clear BK1327; clear HB; have BK1325 := n0_; have BK1326 := n1_; have BK1327 := n2_; have HB := n3_; clear n0_ n1_ n2_ n3_; (try clear hb); (try clear hb2); (try clear hk); (try clear hi); have hcz27_0 : w26.cell? ⟨gb1327, 0, none⟩ = some (.int .i64 0) := (blk_cell BK1327.out 0).trans rfl; have hcz27_1 : w26.cell? ⟨gb1327, 1, none⟩ = some (.int .i64 0) := (blk_cell BK1327.out 1).trans rfl; have hfz27_0 := blk_frozen BK1327.out 0; have hfz27_1 := blk_frozen BK1327.out 1))
      refine bodyPost_ret (results_ct rfl _ _ gb1327 23 #[.int .i64 t1331, .int .i64 t1332] (0, 0) _ rfl (by (with_reducible repeat (first | refine blk_drewN ?_ _ | refine blk_drew ?_ | refine blk_alloc ?_ _)); refine blk_put (cs := #[.int .i64 t1331, .int .i64 0]) ?_ 1 _ rfl; (with_reducible repeat (first | refine blk_drewN ?_ _ | refine blk_drew ?_ | refine blk_alloc ?_ _)); refine blk_put (cs := #[.int .i64 0, .int .i64 0]) ?_ 0 _ rfl; (with_reducible repeat (first | refine blk_drewN ?_ _ | refine blk_drew ?_ | refine blk_alloc ?_ _)); exact BK1327.out) Tryd.underlying23 rfl (by kernel_rfl)) rfl ?_
      exact ⟨by first | rfl | (simp [errW_none, errW_some] <;> rfl) | (simp [*, errW_none, errW_some] <;> rfl), (q3_ HB.out GE1325.out GE1326.out GE1327.out)⟩
    · rw [if_neg c16] at H
      have c16b0 : (a0 == 1) = false := beq_eq_false_iff_ne.mpr c16
      have c16b1 : (a0 != 1) = true := bne_iff_ne.mpr c16
      by_cases c28 : a0 = 2
      · rw [if_pos c28] at H
        have c28b0 : (a0 == 2) = true := beq_iff_eq.mpr c28
        have c28b1 : (a0 != 2) = false := bne_eq_false_iff_eq.mpr c28
        clear c28
        replace H := Option.bind_eq_some_iff.mp H
        obtain ⟨⟨t1334, t1335, t1336⟩, A290, H⟩ := H
        replace H : (some (t1334, t1335, t1336)) = some (r1, r2, r3) := H
        have A29 := Aside0.mk A290
        clear A290
        simp only [Option.some.injEq, Prod.mk.injEq] at H
        obtain ⟨rfl, rfl, rfl⟩ := H
        go_enter Tryd.func63, Tryd.ntmps63
        go_wp2_with (first | ((with_reducible refine gate_dst (N := 4) rfl ?_); refine qx_ 4 #[.int .i64 a1_0, .int .i64 a1_1] 23 ?hr ?_; (case hr => first | (go_simp; done) | (go_simp; rfl)); intro gb1325 hg w30 hbox hb; have n0_ := Aside0.mk (below_step (q0_ HB.out) hb); have n1_ := Aside0.mk (hbox); have n2_ := Aside0.mk (qs_ hg (q0_ HB.out) : w.heap.size ≤ gb1325); have n3_ := n2_; clear HB; have HB := n0_; have BK1325 := n1_; have GW1325 := n2_; have GE1325 := n3_; clear n0_ n1_ n2_ n3_; clear hb hbox hg) | ((with_reducible refine gate_dst (N := 5) rfl ?_); refine qx_ 5 #[.int .i64 a2_0, .int .i64 a2_1] 23 ?hr ?_; (case hr => first | (go_simp; done) | (go_simp; rfl)); intro gb1326 hg w31 hbox hb; have n0_ := Aside0.mk (qk_ BK1325.out hb); have n1_ := Aside0.mk (below_step (q1_ HB.out GE1325.out) hb); have n2_ := Aside0.mk (hbox); have n3_ := Aside0.mk (qs_ hg (q1_ HB.out GE1325.out) : w.heap.size ≤ gb1326); have n4_ := n3_; have n5_ := Aside0.mk (qn_ hg BK1325.out); have n6_ := Aside0.mk (Ne.symm (qn_ hg BK1325.out)); clear BK1325; clear HB; have BK1325 := n0_; have HB := n1_; have BK1326 := n2_; have GW1326 := n3_; have GE1326 := n4_; have NB1325_1326 := n5_; have NB1326_1325 := n6_; clear n0_ n1_ n2_ n3_ n4_ n5_ n6_; clear hb hbox hg) | ((with_reducible refine gate_dst (N := 6) rfl ?_); refine qx_ 6 #[.int .i64 0, .int .i64 0] 23 ?hr ?_; (case hr => first | (go_simp; done) | (go_simp; rfl)); intro gb1327 hg w32 hbox hb; have n0_ := Aside0.mk (qk_ BK1325.out hb); have n1_ := Aside0.mk (qk_ BK1326.out hb); have n2_ := Aside0.mk (below_step (q2_ HB.out GE1325.out GE1326.out) hb); have n3_ := Aside0.mk (hbox); have n4_ := Aside0.mk (qs_ hg (q2_ HB.out GE1325.out GE1326.out) : w.heap.size ≤ gb1327); have n5_ := n4_; have n6_ := Aside0.mk (qn_ hg BK1325.out); have n7_ := Aside0.mk (Ne.symm (qn_ hg BK1325.out)); have n8_ := Aside0.mk (qn_ hg BK1326.out); have n9_ := Aside0.mk (Ne.symm (qn_ hg BK1326.out)); clear BK1325; clear BK1326; clear HB; have BK1325 := n0_; have BK1326 := n1_; have HB := n2_; have BK1327 := n3_; have GW1327 := n4_; have GE1327 := n5_; have NB1325_1327 := n6_; have NB1327_1325 := n7_; have NB1326_1327 := n8_; have NB1327_1326 := n9_; clear n0_ n1_ n2_ n3_ n4_ n5_ n6_ n7_ n8_ n9_; clear hb hbox hg; have hnb33 := NB1325_1326.out; have hnc33 := NB1326_1325.out; have hnb34 := NB1325_1327.out; have hnc34 := NB1327_1325.out; have hcz35_0 : w32.cell? ⟨gb1325, 0, none⟩ = some (.int .i64 a1_0) := (blk_cell BK1325.out 0).trans rfl; have hcz35_1 : w32.cell? ⟨gb1325, 1, none⟩ = some (.int .i64 a1_1) := (blk_cell BK1325.out 1).trans rfl; have hfz35_0 := blk_frozen BK1325.out 0; have hfz35_1 := blk_frozen BK1325.out 1; have hnb36 := NB1326_1327.out; have hnc36 := NB1327_1326.out; have hcz37_0 : w32.cell? ⟨gb1326, 0, none⟩ = some (.int .i64 a2_0) := (blk_cell BK1326.out 0).trans rfl; have hcz37_1 : w32.cell? ⟨gb1326, 1, none⟩ = some (.int .i64 a2_1) := (blk_cell BK1326.out 1).trans rfl; have hfz37_0 := blk_frozen BK1326.out 0; have hfz37_1 := blk_frozen BK1326.out 1) | ((with_reducible refine gate_callee (f := 54) rfl ?_); refine goesL_ (some 27) rfl rfl Tryd.func54 (by kernel_rfl) rfl #[.agg #[.int .i64 a1_0, .int .i64 a1_1], .agg #[.int .i64 a2_0, .int .i64 a2_1]] rfl qe_ ?_; (with_reducible refine (num_Mul.calls k a1_0 a1_1 a2_0 a2_1 t1334 t1335 t1336 _ A29.out).mono ?_); rintro e w38 ⟨rfl, hb⟩; refine ⟨_, rfl, ?_⟩; have n0_ := Aside0.mk (qk_ BK1325.out hb); have n1_ := Aside0.mk (qk_ BK1326.out hb); have n2_ := Aside0.mk (qk_ BK1327.out hb); have n3_ := Aside0.mk (below_step (q3_ HB.out GE1325.out GE1326.out GE1327.out) hb); clear BK1325; clear BK1326; clear BK1327; clear HB; have BK1325 := n0_; have BK1326 := n1_; have BK1327 := n2_; have HB := n3_; clear n0_ n1_ n2_ n3_; (try clear hb); (try clear hb2); (try clear hk); (try clear hi); have hcz39_0 : w38.cell? ⟨gb1327, 0, none⟩ = some (.int .i64 0) := (blk_cell BK1327.out 0).trans rfl; have hcz39_1 : w38.cell? ⟨gb1327, 1, none⟩ = some (.int .i64 0) := (blk_cell BK1327.out 1).trans rfl; have hfz39_0 := blk_frozen BK1327.out 0; have hfz39_1 := blk_frozen BK1327.out 1))
        refine bodyPost_ret (results_ct rfl _ _ gb1327 23 #[.int .i64 t1334, .int .i64 t1335] (0, 0) _ rfl (by (with_reducible repeat (first | refine blk_drewN ?_ _ | refine blk_drew ?_ | refine blk_alloc ?_ _)); refine blk_put (cs := #[.int .i64 t1334, .int .i64 0]) ?_ 1 _ rfl; (with_reducible repeat (first | refine blk_drewN ?_ _ | refine blk_drew ?_ | refine blk_alloc ?_ _)); refine blk_put (cs := #[.int .i64 0, .int .i64 0]) ?_ 0 _ rfl; (with_reducible repeat (first | refine blk_drewN ?_ _ | refine blk_drew ?_ | refine blk_alloc ?_ _)); exact BK1327.out) Tryd.underlying23 rfl (by kernel_rfl)) rfl ?_
        exact ⟨by first | rfl | (simp [errW_none, errW_some] <;> rfl) | (simp [*, errW_none, errW_some] <;> rfl), (q3_ HB.out GE1325.out GE1326.out GE1327.out)⟩
      · rw [if_neg c28] at H
        have c28b0 : (a0 == 2) = false := beq_eq_false_iff_ne.mpr c28
        have c28b1 : (a0 != 2) = true := bne_iff_ne.mpr c28
        replace H := Option.bind_eq_some_iff.mp H
        obtain ⟨⟨t1337, t1338, t1339⟩, A400, H⟩ := H
        replace H : (some (t1337, t1338, t1339)) = some (r1, r2, r3) := H
        have A40 := Aside0.mk A400
        clear A400
        simp only [Option.some.injEq, Prod.mk.injEq] at H
        obtain ⟨rfl, rfl, rfl⟩ := H
        go_enter Tryd.func63, Tryd.ntmps63
        go_wp2_with (first | ((with_reducible refine gate_dst (N := 4) rfl ?_); refine qx_ 4 #[.int .i64 a1_0, .int .i64 a1_1] 23 ?hr ?_; (case hr => first | (go_simp; done) | (go_simp; rfl)); intro gb1325 hg w41 hbox hb; have n0_ := Aside0.mk (below_step (q0_ HB.out) hb); have n1_ := Aside0.mk (hbox); have n2_ := Aside0.mk (qs_ hg (q0_ HB.out) : w.heap.size ≤ gb1325); have n3_ := n2_; clear HB; have HB := n0_; have BK1325 := n1_; have GW1325 := n2_; have GE1325 := n3_; clear n0_ n1_ n2_ n3_; clear hb hbox hg) | ((with_reducible refine gate_dst (N := 5) rfl ?_); refine qx_ 5 #[.int .i64 a2_0, .int .i64 a2_1] 23 ?hr ?_; (case hr => first | (go_simp; done) | (go_simp; rfl)); intro gb1326 hg w42 hbox hb; have n0_ := Aside0.mk (qk_ BK1325.out hb); have n1_ := Aside0.mk (below_step (q1_ HB.out GE1325.out) hb); have n2_ := Aside0.mk (hbox); have n3_ := Aside0.mk (qs_ hg (q1_ HB.out GE1325.out) : w.heap.size ≤ gb1326); have n4_ := n3_; have n5_ := Aside0.mk (qn_ hg BK1325.out); have n6_ := Aside0.mk (Ne.symm (qn_ hg BK1325.out)); clear BK1325; clear HB; have BK1325 := n0_; have HB := n1_; have BK1326 := n2_; have GW1326 := n3_; have GE1326 := n4_; have NB1325_1326 := n5_; have NB1326_1325 := n6_; clear n0_ n1_ n2_ n3_ n4_ n5_ n6_; clear hb hbox hg) | ((with_reducible refine gate_dst (N := 6) rfl ?_); refine qx_ 6 #[.int .i64 0, .int .i64 0] 23 ?hr ?_; (case hr => first | (go_simp; done) | (go_simp; rfl)); intro gb1327 hg w43 hbox hb; have n0_ := Aside0.mk (qk_ BK1325.out hb); have n1_ := Aside0.mk (qk_ BK1326.out hb); have n2_ := Aside0.mk (below_step (q2_ HB.out GE1325.out GE1326.out) hb); have n3_ := Aside0.mk (hbox); have n4_ := Aside0.mk (qs_ hg (q2_ HB.out GE1325.out GE1326.out) : w.heap.size ≤ gb1327); have n5_ := n4_; have n6_ := Aside0.mk (qn_ hg BK1325.out); have n7_ := Aside0.mk (Ne.symm (qn_ hg BK1325.out)); have n8_ := Aside0.mk (qn_ hg BK1326.out); have n9_ := Aside0.mk (Ne.symm (qn_ hg BK1326.out)); clear BK1325; clear BK1326; clear HB; have BK1325 := n0_; have BK1326 := n1_; have HB := n2_; have BK1327 := n3_; have GW1327 := n4_; have GE1327 := n5_; have NB1325_1327 := n6_; have NB1327_1325 := n7_; have NB1326_1327 := n8_; have NB1327_1326 := n9_; clear n0_ n1_ n2_ n3_ n4_ n5_ n6_ n7_ n8_ n9_; clear hb hbox hg; have hnb44 := NB1325_1326.out; have hnc44 := NB1326_1325.out; have hnb45 := NB1325_1327.out; have hnc45 := NB1327_1325.out; have hcz46_0 : w43.cell? ⟨gb1325, 0, none⟩ = some (.int .i64 a1_0) := (blk_cell BK1325.out 0).trans rfl; have hcz46_1 : w43.cell? ⟨gb1325, 1, none⟩ = some (.int .i64 a1_1) := (blk_cell BK1325.out 1).trans rfl; have hfz46_0 := blk_frozen BK1325.out 0; have hfz46_1 := blk_frozen BK1325.out 1; have hnb47 := NB1326_1327.out; have hnc47 := NB1327_1326.out; have hcz48_0 : w43.cell? ⟨gb1326, 0, none⟩ = some (.int .i64 a2_0) := (blk_cell BK1326.out 0).trans rfl; have hcz48_1 : w43.cell? ⟨gb1326, 1, none⟩ = some (.int .i64 a2_1) := (blk_cell BK1326.out 1).trans rfl; have hfz48_0 := blk_frozen BK1326.out 0; have hfz48_1 := blk_frozen BK1326.out 1) | ((with_reducible refine gate_callee (f := 55) rfl ?_); refine goesL_ (some 32) rfl rfl Tryd.func55 (by kernel_rfl) rfl #[.agg #[.int .i64 a1_0, .int .i64 a1_1], .agg #[.int .i64 a2_0, .int .i64 a2_1]] rfl qe_ ?_; (with_reducible refine (num_Div.calls k a1_0 a1_1 a2_0 a2_1 t1337 t1338 t1339 _ A40.out).mono ?_); rintro e w49 ⟨rfl, hb⟩; refine ⟨_, rfl, ?_⟩; have n0_ := Aside0.mk (qk_ BK1325.out hb); have n1_ := Aside0.mk (qk_ BK1326.out hb); have n2_ := Aside0.mk (qk_ BK1327.out hb); have n3_ := Aside0.mk (below_step (q3_ HB.out GE1325.out GE1326.out GE1327.out) hb); clear BK1325; clear BK1326; clear BK1327; clear HB; have BK1325 := n0_; have BK1326 := n1_; have BK1327 := n2_; have HB := n3_; clear n0_ n1_ n2_ n3_; (try clear hb); (try clear hb2); (try clear hk); (try clear hi); have hcz50_0 : w49.cell? ⟨gb1327, 0, none⟩ = some (.int .i64 0) := (blk_cell BK1327.out 0).trans rfl; have hcz50_1 : w49.cell? ⟨gb1327, 1, none⟩ = some (.int .i64 0) := (blk_cell BK1327.out 1).trans rfl; have hfz50_0 := blk_frozen BK1327.out 0; have hfz50_1 := blk_frozen BK1327.out 1))
        refine bodyPost_ret (results_ct rfl _ _ gb1327 23 #[.int .i64 t1337, .int .i64 t1338] (0, 0) _ rfl (by (with_reducible repeat (first | refine blk_drewN ?_ _ | refine blk_drew ?_ | refine blk_alloc ?_ _)); refine blk_put (cs := #[.int .i64 t1337, .int .i64 0]) ?_ 1 _ rfl; (with_reducible repeat (first | refine blk_drewN ?_ _ | refine blk_drew ?_ | refine blk_alloc ?_ _)); refine blk_put (cs := #[.int .i64 0, .int .i64 0]) ?_ 0 _ rfl; (with_reducible repeat (first | refine blk_drewN ?_ _ | refine blk_drew ?_ | refine blk_alloc ?_ _)); exact BK1327.out) Tryd.underlying23 rfl (by kernel_rfl)) rfl ?_
        exact ⟨by first | rfl | (simp [errW_none, errW_some] <;> rfl) | (simp [*, errW_none, errW_some] <;> rfl), (q3_ HB.out GE1325.out GE1326.out GE1327.out)⟩
end Go.Proofs.YtdjnneflpkllmaaDoor.Q

namespace Go.Proofs.YtdjnneflpkllmaaDoor.Q
open Go.RowKit Go.Proofs.YtdjnneflpkllmaaDoorW.PrintWords Go.Proofs.YtdjnneflpkllmaaDoorW.PrintLast Go.Proofs.YtdjnneflpkllmaaDoorW.PrintMore
attribute [local go_sem] max2_int min2_int max_two min_two max_three min_three max_four min_four   -- for this text's walks alone
set_option linter.unusedVariables false
set_option linter.unusedSimpArgs false
def merinoref01_Opposite.f (k : Nat) (a0_0 : Int) (a0_1 : Int) : Option (Int × Int × Int) := (merinoref01_Valid.f k a0_0 a0_1).bind fun t1347 => (if t1347 = true then (some (wrap64 (-a0_0), a0_1, 0)) else (some (0, 0, 2)))
theorem merinoref01_Opposite.mono : ∀ a0 a1 k, LeO (merinoref01_Opposite.f k a0 a1) (merinoref01_Opposite.f (k + 1) a0 a1) := by
  intro a0 a1 k
  unfold merinoref01_Opposite.f
  repeat' first
      | (with_reducible exact merinoref01_Valid.mono _ _ _)
      | (with_reducible exact LeO.refl _)
      | (with_reducible exact LeO.none _)
      | (with_reducible refine LeO.ite ?_ ?_)
      | (with_reducible refine LeO.bind ?_ (fun _ => ?_))
      | exact merinoref01_Valid.mono _ _ _
      | exact LeO.none _
      | refine LeO.ite ?_ ?_
      | refine LeO.bind ?_ (fun _ => ?_)
set_option maxHeartbeats 8000000 in
set_option maxRecDepth 100000 in
theorem merinoref01_Opposite.calls (k : Nat) (a0_0 : Int) (a0_1 : Int) (r1 : Int) (r2 : Int) (r3 : Int) (w : World) (h : merinoref01_Opposite.f k a0_0 a0_1 = some (r1, r2, r3)) :
    Calls Tryd.prog 65 #[.agg #[.int .i64 a0_0, .int .i64 a0_1]] w fun e w' => e = .returned (.tuple #[.agg #[.int .i64 r1, .int .i64 r2], .int .i64 r3]) ∧ Below w.heap.size w w' := by
  have hu23 := Tryd.underlying23
  have HB := Aside0.mk (Below.refl w.heap.size w)
  have H : ((merinoref01_Valid.f k a0_0 a0_1).bind fun t1347 => (if t1347 = true then (some (wrap64 (-a0_0), a0_1, 0)) else (some (0, 0, 2)))) = some (r1, r2, r3) := h
  clear h
  replace H := Option.bind_eq_some_iff.mp H
  obtain ⟨t1347, A20, H⟩ := H
  replace H : (if t1347 = true then (some (wrap64 (-a0_0), a0_1, 0)) else (some (0, 0, 2))) = some (r1, r2, r3) := H
  have A2 := Aside0.mk A20
  clear A20
  by_cases c3 : t1347 = true
  · subst c3
    have H1 : (some (wrap64 (-a0_0), a0_1, 0)) = some (r1, r2, r3) := by rw [if_pos rfl] at H; exact H
    clear H
    have H := H1
    clear H1
    simp only [Option.some.injEq, Prod.mk.injEq] at H
    obtain ⟨rfl, rfl, rfl⟩ := H
    go_enter Tryd.func65, Tryd.ntmps65
    go_wp2_with (first | ((with_reducible refine gate_dst (N := 1) rfl ?_); refine qx_ 1 #[.int .i64 a0_0, .int .i64 a0_1] 23 ?hr ?_; (case hr => first | (go_simp; done) | (go_simp; rfl)); intro gb1345 hg w4 hbox hb; have n0_ := Aside0.mk (below_step (q0_ HB.out) hb); have n1_ := Aside0.mk (hbox); have n2_ := Aside0.mk (qs_ hg (q0_ HB.out) : w.heap.size ≤ gb1345); have n3_ := n2_; clear HB; have HB := n0_; have BK1345 := n1_; have GW1345 := n2_; have GE1345 := n3_; clear n0_ n1_ n2_ n3_; clear hb hbox hg) | ((with_reducible refine gate_dst (N := 2) rfl ?_); refine qx_ 2 #[.int .i64 0, .int .i64 0] 23 ?hr ?_; (case hr => first | (go_simp; done) | (go_simp; rfl)); intro gb1346 hg w5 hbox hb; have n0_ := Aside0.mk (qk_ BK1345.out hb); have n1_ := Aside0.mk (below_step (q1_ HB.out GE1345.out) hb); have n2_ := Aside0.mk (hbox); have n3_ := Aside0.mk (qs_ hg (q1_ HB.out GE1345.out) : w.heap.size ≤ gb1346); have n4_ := n3_; have n5_ := Aside0.mk (qn_ hg BK1345.out); have n6_ := Aside0.mk (Ne.symm (qn_ hg BK1345.out)); clear BK1345; clear HB; have BK1345 := n0_; have HB := n1_; have BK1346 := n2_; have GW1346 := n3_; have GE1346 := n4_; have NB1345_1346 := n5_; have NB1346_1345 := n6_; clear n0_ n1_ n2_ n3_ n4_ n5_ n6_; clear hb hbox hg; have hnb6 := NB1345_1346.out; have hnc6 := NB1346_1345.out; have hcz7_0 : w5.cell? ⟨gb1345, 0, none⟩ = some (.int .i64 a0_0) := (blk_cell BK1345.out 0).trans rfl; have hcz7_1 : w5.cell? ⟨gb1345, 1, none⟩ = some (.int .i64 a0_1) := (blk_cell BK1345.out 1).trans rfl; have hfz7_0 := blk_frozen BK1345.out 0; have hfz7_1 := blk_frozen BK1345.out 1) | ((with_reducible refine gate_callee (f := 29) rfl ?_); refine goesL_ (some 5) rfl rfl Tryd.func29 (by kernel_rfl) rfl #[.agg #[.int .i64 a0_0, .int .i64 a0_1]] rfl qe_ ?_; (with_reducible refine (merinoref01_Valid.calls k a0_0 a0_1 true _ A2.out).mono ?_); rintro e w8 ⟨rfl, hb⟩; refine ⟨_, rfl, ?_⟩; have n0_ := Aside0.mk (qk_ BK1345.out hb); have n1_ := Aside0.mk (qk_ BK1346.out hb); have n2_ := Aside0.mk (below_step (q2_ HB.out GE1345.out GE1346.out) hb); clear BK1345; clear BK1346; clear HB; have BK1345 := n0_; have BK1346 := n1_; have HB := n2_; clear n0_ n1_ n2_; (try clear hb); (try clear hb2); (try clear hk); (try clear hi); have hcz9_0 : w8.cell? ⟨gb1345, 0, none⟩ = some (.int .i64 a0_0) := (blk_cell BK1345.out 0).trans rfl; have hcz9_1 : w8.cell? ⟨gb1345, 1, none⟩ = some (.int .i64 a0_1) := (blk_cell BK1345.out 1).trans rfl; have hfz9_0 := blk_frozen BK1345.out 0; have hfz9_1 := blk_frozen BK1345.out 1; have hcz10_0 : w8.cell? ⟨gb1346, 0, none⟩ = some (.int .i64 0) := (blk_cell BK1346.out 0).trans rfl; have hcz10_1 : w8.cell? ⟨gb1346, 1, none⟩ = some (.int .i64 0) := (blk_cell BK1346.out 1).trans rfl; have hfz10_0 := blk_frozen BK1346.out 0; have hfz10_1 := blk_frozen BK1346.out 1))
    refine bodyPost_ret (results_ct rfl _ _ gb1346 23 #[.int .i64 (wrap64 (-a0_0)), .int .i64 a0_1] (0, 0) _ rfl (by (with_reducible repeat (first | refine blk_drewN ?_ _ | refine blk_drew ?_ | refine blk_alloc ?_ _)); refine blk_put (cs := #[.int .i64 (wrap64 (-a0_0)), .int .i64 0]) ?_ 1 _ rfl; (with_reducible repeat (first | refine blk_drewN ?_ _ | refine blk_drew ?_ | refine blk_alloc ?_ _)); refine blk_put (cs := #[.int .i64 0, .int .i64 0]) ?_ 0 _ rfl; (with_reducible repeat (first | refine blk_drewN ?_ _ | refine blk_drew ?_ | refine blk_alloc ?_ _)); exact BK1346.out) Tryd.underlying23 rfl (by kernel_rfl)) rfl ?_
    exact ⟨by first | rfl | (simp [errW_none, errW_some] <;> rfl) | (simp [*, errW_none, errW_some] <;> rfl), (q2_ HB.out GE1345.out GE1346.out)⟩
  · replace c3 := Bool.eq_false_iff.mpr c3
    subst c3
    have H1 : (some (0, 0, 2)) = some (r1, r2, r3) := by rw [if_neg (show ¬ (false = true) by decide)] at H; exact H
    clear H
    have H := H1
    clear H1
    simp only [Option.some.injEq, Prod.mk.injEq] at H
    obtain ⟨rfl, rfl, rfl⟩ := H
    go_enter Tryd.func65, Tryd.ntmps65
    go_wp2_with (first | ((with_reducible refine gate_dst (N := 1) rfl ?_); refine qx_ 1 #[.int .i64 a0_0, .int .i64 a0_1] 23 ?hr ?_; (case hr => first | (go_simp; done) | (go_simp; rfl)); intro gb1345 hg w11 hbox hb; have n0_ := Aside0.mk (below_step (q0_ HB.out) hb); have n1_ := Aside0.mk (hbox); have n2_ := Aside0.mk (qs_ hg (q0_ HB.out) : w.heap.size ≤ gb1345); have n3_ := n2_; clear HB; have HB := n0_; have BK1345 := n1_; have GW1345 := n2_; have GE1345 := n3_; clear n0_ n1_ n2_ n3_; clear hb hbox hg) | ((with_reducible refine gate_dst (N := 2) rfl ?_); refine qx_ 2 #[.int .i64 0, .int .i64 0] 23 ?hr ?_; (case hr => first | (go_simp; done) | (go_simp; rfl)); intro gb1346 hg w12 hbox hb; have n0_ := Aside0.mk (qk_ BK1345.out hb); have n1_ := Aside0.mk (below_step (q1_ HB.out GE1345.out) hb); have n2_ := Aside0.mk (hbox); have n3_ := Aside0.mk (qs_ hg (q1_ HB.out GE1345.out) : w.heap.size ≤ gb1346); have n4_ := n3_; have n5_ := Aside0.mk (qn_ hg BK1345.out); have n6_ := Aside0.mk (Ne.symm (qn_ hg BK1345.out)); clear BK1345; clear HB; have BK1345 := n0_; have HB := n1_; have BK1346 := n2_; have GW1346 := n3_; have GE1346 := n4_; have NB1345_1346 := n5_; have NB1346_1345 := n6_; clear n0_ n1_ n2_ n3_ n4_ n5_ n6_; clear hb hbox hg; have hnb13 := NB1345_1346.out; have hnc13 := NB1346_1345.out; have hcz14_0 : w12.cell? ⟨gb1345, 0, none⟩ = some (.int .i64 a0_0) := (blk_cell BK1345.out 0).trans rfl; have hcz14_1 : w12.cell? ⟨gb1345, 1, none⟩ = some (.int .i64 a0_1) := (blk_cell BK1345.out 1).trans rfl; have hfz14_0 := blk_frozen BK1345.out 0; have hfz14_1 := blk_frozen BK1345.out 1) | ((with_reducible refine gate_callee (f := 29) rfl ?_); refine goesL_ (some 5) rfl rfl Tryd.func29 (by kernel_rfl) rfl #[.agg #[.int .i64 a0_0, .int .i64 a0_1]] rfl qe_ ?_; (with_reducible refine (merinoref01_Valid.calls k a0_0 a0_1 false _ A2.out).mono ?_); rintro e w15 ⟨rfl, hb⟩; refine ⟨_, rfl, ?_⟩; have n0_ := Aside0.mk (qk_ BK1345.out hb); have n1_ := Aside0.mk (qk_ BK1346.out hb); have n2_ := Aside0.mk (below_step (q2_ HB.out GE1345.out GE1346.out) hb); clear BK1345; clear BK1346; clear HB; have BK1345 := n0_; have BK1346 := n1_; have HB := n2_; clear n0_ n1_ n2_; (try clear hb); (try clear hb2); (try clear hk); (try clear hi); have hcz16_0 : w15.cell? ⟨gb1346, 0, none⟩ = some (.int .i64 0) := (blk_cell BK1346.out 0).trans rfl; have hcz16_1 : w15.cell? ⟨gb1346, 1, none⟩ = some (.int .i64 0) := (blk_cell BK1346.out 1).trans rfl; have hfz16_0 := blk_frozen BK1346.out 0; have hfz16_1 := blk_frozen BK1346.out 1))
    refine bodyPost_ret (results_ct rfl _ _ gb1346 23 #[.int .i64 0, .int .i64 0] (0, 0) _ rfl (by (with_reducible repeat (first | refine blk_drewN ?_ _ | refine blk_drew ?_ | refine blk_alloc ?_ _)); refine blk_put (cs := #[.int .i64 0, .int .i64 0]) ?_ 1 _ rfl; (with_reducible repeat (first | refine blk_drewN ?_ _ | refine blk_drew ?_ | refine blk_alloc ?_ _)); refine blk_put (cs := #[.int .i64 0, .int .i64 0]) ?_ 0 _ rfl; (with_reducible repeat (first | refine blk_drewN ?_ _ | refine blk_drew ?_ | refine blk_alloc ?_ _)); exact BK1346.out) Tryd.underlying23 rfl (by kernel_rfl)) rfl ?_
    exact ⟨by first | rfl | (simp [errW_none, errW_some] <;> rfl) | (simp [*, errW_none, errW_some] <;> rfl), (q2_ HB.out GE1345.out GE1346.out)⟩
end Go.Proofs.YtdjnneflpkllmaaDoor.Q
