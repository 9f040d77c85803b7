/- Part 2 of the proof of NumField. -/
import Derived.Test.YtdjnneflpkllmaaDoorMNumField1
import Derived.Test.YtdjnneflpkllmaaDoorRows
import Derived.ProofKit
import Derived.LaidMore
import Derived.OpenShut
import Derived.ChangeOld
import Derived.SizedLaws
import Derived.Lib.SmallJoins
import Derived.Stop.Joined
import Derived.Test.YtdjnneflpkllmaaDoorProg
import Derived.Lib.Mul64
import Derived.Laws.Bits64b

namespace Go.Proofs.YtdjnneflpkllmaaDoor.Num
open Go.ChangeShapes Go.WideShapes Go.ChangeAt Go.RowKit Go.Joins Go.Deep
theorem own : ownKnob Tryd.prog.godebug = none := by kernel_rfl
def laid3 : List (String × DataW Unit) := [("math/bits.deBruijn32tab", Rows.laid_math_bits_deBruijn32tab), ("math/bits.deBruijn64tab", Rows.laid_math_bits_deBruijn64tab), ("internal/strconv.uint64pow10", Rows.laid_internal_strconv_uint64pow10)]
set_option maxRecDepth 100000 in
theorem door_met (os : Os) (args : Array Value) : laidMetH Tryd.prog laid3 ((World.doorLaid Tryd.prog 400 os).forCall (fun _ _ => 0) ⟨#[], args, []⟩).memory :=
  laidMetH_of_parts3 (fuel := 8) (laidMet_of_run' 8 (by kernel_rfl) (by kernel_rfl)) (by kernel_rfl) (by kernel_rfl)
theorem door_shaped (os : Os) (args : Array Value) : ((World.doorLaid Tryd.prog 400 os).forCall (fun _ _ => 0) ⟨#[], args, []⟩).Shaped Tryd.prog := World.shaped_of_RefB (by kernel_rfl) (by kernel_rfl)
theorem i64_bounds {x : Int} (h : (Lit.int .i64 x).wf) : -9223372036854775808 ≤ x ∧ x ≤ 9223372036854775807 := by
  have m0 : IntKind.i64.min = -9223372036854775808 := by decide
  have m1 : IntKind.i64.max = 9223372036854775807 := by decide
  simp [Lit.wf] at h
  omega
set_option linter.unusedVariables false
theorem under23 : ∃ f0 f1 : Field, Tryd.prog.underlying 23 = some (.struct #[f0, f1]) ∧ f0.type = 3 ∧ f1.type = 3 ∧ oneCellFields Tryd.prog #[f0, f1] = true := ⟨_, _, Tryd.underlying23, rfl, rfl, by kernel_rfl⟩
theorem cells23 : Tryd.prog.cellsOf 23 = 2 := by kernel_rfl
section
variable {H : Type} {enc : TypeId × Value → H} {W : World} {base : Nat} {spare : Nat → Bool} {held : Bool}
/-- A fraction's two numbers shut. -/
theorem shut_frac {n m : Int} (wn : (Lit.int .i64 n).wf = true) (wm : (Lit.int .i64 m).wf = true) : DataW.Trod enc Tryd.prog W base spare held 23 (.agg #[.int .i64 n, .int .i64 m]) (.agg [.lit (.int .i64 n), .lit (.int .i64 m)]) [] := by
  obtain ⟨f0, f1, hu, e0, e1, ho⟩ := under23
  obtain ⟨k0, h0⟩ := shut_int (enc := enc) (P := Tryd.prog) (w := W) (base := base) (spare := spare) (held := held) Tryd.underlying3 wn
  obtain ⟨k1, h1⟩ := shut_int (enc := enc) (P := Tryd.prog) (w := W) (base := base) (spare := spare) (held := held) Tryd.underlying3 wm
  exact shut_agg2 hu ho cells23 (y0 := (.lit (.int .i64 n), [])) (y1 := (.lit (.int .i64 m), [])) ⟨k0, by rw [e0]; exact h0⟩ ⟨k1, by rw [e1]; exact h1⟩
/-- A fraction as an argument, opened. -/
theorem open_fracP {P : Program} {t t3 : TypeId} {f0 f1 : Field} (hu : P.underlying t = some (.struct #[f0, f1])) (e0 : f0.type = t3) (e1 : f1.type = t3) (ho : oneCellFields P #[f0, f1] = true) (hc : P.cellsOf t = 2) (u3 : P.underlying t3 = some (.int .i64))
    {r : Reach} {b0 : Nat} {v : Value} {d : DataW H} {p : List MemPlace} (hv : Value.okWide P W r b0 t v) (h : DataW.Trod enc P W base spare held t v d p) :
    ∃ n m : Int, v = .agg #[.int .i64 n, .int .i64 m] ∧ d = .agg [.lit (.int .i64 n), .lit (.int .i64 m)] ∧ p = [] ∧ (Lit.int .i64 n).wf = true ∧ (Lit.int .i64 m).wf = true := by
  obtain ⟨v0, v1, y0, y1, n, ev, ed, ep, h0, h1⟩ := open_agg2 hu ho hc hv h
  rw [e0] at h0
  rw [e1] at h1
  obtain ⟨a, ha, e2, wa⟩ := DataW.trod_int u3 h0
  obtain ⟨b, hb, e3, wb⟩ := DataW.trod_int u3 h1
  injection ha with ha
  injection hb with hb
  subst ha hb e2 e3
  exact ⟨a, b, ev, ed, ep, wa, wb⟩
set_option maxRecDepth 100000 in
theorem open_frac {r : Reach} {b0 : Nat} {v : Value} {d : DataW H} {p : List MemPlace} (hv : Value.okWide Tryd.prog W r b0 23 v) (h : DataW.Trod enc Tryd.prog W base spare held 23 v d p) :
    ∃ n m : Int, v = .agg #[.int .i64 n, .int .i64 m] ∧ d = .agg [.lit (.int .i64 n), .lit (.int .i64 m)] ∧ p = [] ∧ (Lit.int .i64 n).wf = true ∧ (Lit.int .i64 m).wf = true := by
  obtain ⟨f0, f1, hu, e0, e1, ho⟩ := under23
  exact open_fracP (t := 23) (t3 := 3) hu e0 e1 ho cells23 Tryd.underlying3 hv h
end
end Go.Proofs.YtdjnneflpkllmaaDoor.Num

namespace Go.Proofs.Num
set_option linter.unusedVariables false
/-- The number that digits stand for, the lowest first. -/
def valD : List Int → Int
  | [] => 0
  | x :: t => x + 10000 * valD t
/-- Digits they are. -/
def Dig (l : List Int) : Prop := ∀ x ∈ l, 0 ≤ x ∧ x < 10000
/-- The digit at i. -/
def at_ (l : List Int) (i : Nat) : Int := l.getD i 0
theorem Dig.at_ {l : List Int} (h : Dig l) (i : Nat) : 0 ≤ at_ l i ∧ at_ l i < 10000 := by
  unfold Num.at_
  rcases Nat.lt_or_ge i l.length with hi | hi
  · rw [List.getD_eq_getElem?_getD, List.getElem?_eq_getElem hi]
    exact h _ (List.getElem_mem hi)
  · rw [List.getD_eq_getElem?_getD, List.getElem?_eq_none hi]
    decide
theorem Dig.set {l : List Int} (h : Dig l) (i : Nat) {v : Int} (h0 : 0 ≤ v) (h1 : v < 10000) : Dig (l.set i v) := fun x hx => by
  rcases List.mem_or_eq_of_mem_set hx with hx | rfl
  · exact h x hx
  · exact ⟨h0, h1⟩
theorem Dig.take {l : List Int} (h : Dig l) (i : Nat) : Dig (l.take i) := fun x hx => h x (List.mem_of_mem_take hx)
/-- Without a highest digit 0. -/
def Norm (l : List Int) : Prop := l = [] ∨ at_ l (l.length - 1) ≠ 0
/-- Digits, without a highest 0, of the number x. -/
structure Good (l : List Int) (x : Int) : Prop where
  dig : Dig l
  norm : Norm l
  val : valD l = x
theorem Good.nil : Good [] 0 := ⟨fun x h => (by cases h), .inl rfl, rfl⟩
end Go.Proofs.Num

namespace Go.Proofs.YtdjnneflpkllmaaDoor.Q
open Go.RowKit Go.Proofs.YtdjnneflpkllmaaDoorW.PrintWords Go.Proofs.YtdjnneflpkllmaaDoorW.PrintLast Go.Proofs.YtdjnneflpkllmaaDoorW.PrintMore
set_option linter.unusedVariables false in
theorem qb_ {X Y : Prop} (h : X) (f : X → Y := by intro h; (with_reducible repeat (first | refine blk_drewN ?_ _ | refine blk_drew ?_ | refine blk_alloc ?_ _)); exact h) : Y := f h
theorem qr_ {X Y : Prop} (h : X) (f : X → Y := by intro h; (with_reducible repeat (first | apply Kd.R_alloc | apply Kd.R_drewN | apply Kd.R_drew)); exact h) : Y := f h
theorem qv_ {X Y : Prop} (h : X) (f : X → Y := by intro h; (with_reducible repeat (first | apply Kd.V_alloc | apply Kd.V_drewN | apply Kd.V_drew)); exact h) : Y := f h
theorem qc_ {X Y : Prop} (h : X) (f : X → Y := by intro h; repeat (first | exact h | (with_reducible refine Kd.C_alloc ?_ _) | (with_reducible refine Kd.C_drewN ?_ _) | (with_reducible refine Kd.C_drew ?_))) : Y := f h
theorem qk_ {g : Nat} {o : Obj} {w w' w'' : World} (h : w.heap[g]? = some o) (hb : Below w'.heap.size w' w'') (f : w.heap[g]? = some o → w'.heap[g]? = some o := by intro h; (with_reducible repeat (first | refine blk_drewN ?_ _ | refine blk_drew ?_ | refine blk_alloc ?_ _)); exact h) : w''.heap[g]? = some o := blk_below (f h) hb
theorem qn_ {g g' : Nat} {o : Obj} {w w' : World} (hg : g' = w'.heap.size) (h : w.heap[g]? = some o) (f : w.heap[g]? = some o → w'.heap[g]? = some o := by intro h; (with_reducible repeat (first | refine blk_drewN ?_ _ | refine blk_drew ?_ | refine blk_alloc ?_ _)); exact h) : g ≠ g' := by rw [hg]; exact Nat.ne_of_lt (blk_lt (f h))
theorem qs_ {g : Nat} {w w' : World} (hg : g = w'.heap.size) (h : Below w.heap.size w w') : w.heap.size ≤ g := by rw [hg]; exact below_size h
theorem qx_ {P : Program} {ops : Array Oper} {Q : Exit → Act → World → Prop} {o : Oper} {rest : List Oper} {a : Act} {W : World} (N : Tmp) (cs : Array Value) (t : TypeId)
    (hrun : (execOp a.eval o).run P W = .ok (.value (.pointer (some ⟨W.heap.size, 0, none⟩))) (W.alloc (.cells cs t (0, 0))))
    (h : ∀ g, g = W.heap.size → ∀ w1, w1.heap[g]? = some (.cells cs t (0, 0)) → Below W.heap.size W w1 → wpList P ops Q rest (a.put o.dst (.pointer (some ⟨g, 0, none⟩))) w1) (hd : o.dst = some N := by rfl) (hg : o.guard = none := by rfl) : wpList P ops Q (o :: rest) a W := box_event hg hd hrun h
theorem qe_ {Y : Prop} (f : Y := by ((try simp only [List.map_toArray, List.map_cons, List.map_nil]); first | done | rfl | (simp only [List.length_drop, List.length_take]; rfl))) : Y := f
theorem q0_ {X Y : Prop} (h : X) (f : X → Y := by intro h; repeat (first | (with_reducible first | exact h | apply below_alloc | apply pw_below_drewN | apply below_drew1) | exact h)) : Y := f h
theorem q1_ {X Y Z0 : Prop} (h : X) (g0 : Z0) (f : X → Z0 → Y := by intro h g0; repeat (first | (with_reducible first | exact h | apply below_alloc | apply pw_below_drewN | apply below_drew1 | refine below_set ?_ g0) | exact h)) : Y := f h g0
theorem q2_ {X Y Z0 Z1 : Prop} (h : X) (g0 : Z0) (g1 : Z1) (f : X → Z0 → Z1 → Y := by intro h g0 g1; repeat (first | (with_reducible first | exact h | apply below_alloc | apply pw_below_drewN | apply below_drew1 | refine below_set ?_ g0 | refine below_set ?_ g1) | exact h)) : Y := f h g0 g1
theorem q3_ {X Y Z0 Z1 Z2 : Prop} (h : X) (g0 : Z0) (g1 : Z1) (g2 : Z2) (f : X → Z0 → Z1 → Z2 → Y := by intro h g0 g1 g2; repeat (first | (with_reducible first | exact h | apply below_alloc | apply pw_below_drewN | apply below_drew1 | refine below_set ?_ g0 | refine below_set ?_ g1 | refine below_set ?_ g2) | exact h)) : Y := f h g0 g1 g2
theorem q4_ {X Y Z0 Z1 Z2 Z3 : Prop} (h : X) (g0 : Z0) (g1 : Z1) (g2 : Z2) (g3 : Z3) (f : X → Z0 → Z1 → Z2 → Z3 → Y := by intro h g0 g1 g2 g3; repeat (first | (with_reducible first | exact h | apply below_alloc | apply pw_below_drewN | apply below_drew1 | refine below_set ?_ g0 | refine below_set ?_ g1 | refine below_set ?_ g2 | refine below_set ?_ g3) | exact h)) : Y := f h g0 g1 g2 g3
theorem q5_ {X Y Z0 Z1 Z2 Z3 Z4 : Prop} (h : X) (g0 : Z0) (g1 : Z1) (g2 : Z2) (g3 : Z3) (g4 : Z4) (f : X → Z0 → Z1 → Z2 → Z3 → Z4 → Y := by intro h g0 g1 g2 g3 g4; repeat (first | (with_reducible first | exact h | apply below_alloc | apply pw_below_drewN | apply below_drew1 | refine below_set ?_ g0 | refine below_set ?_ g1 | refine below_set ?_ g2 | refine below_set ?_ g3 | refine below_set ?_ g4) | exact h)) : Y := f h g0 g1 g2 g3 g4
theorem q6_ {X Y Z0 Z1 Z2 Z3 Z4 Z5 : Prop} (h : X) (g0 : Z0) (g1 : Z1) (g2 : Z2) (g3 : Z3) (g4 : Z4) (g5 : Z5) (f : X → Z0 → Z1 → Z2 → Z3 → Z4 → Z5 → Y := by intro h g0 g1 g2 g3 g4 g5; repeat (first | (with_reducible first | exact h | apply below_alloc | apply pw_below_drewN | apply below_drew1 | refine below_set ?_ g0 | refine below_set ?_ g1 | refine below_set ?_ g2 | refine below_set ?_ g3 | refine below_set ?_ g4 | refine below_set ?_ g5) | exact h)) : Y := f h g0 g1 g2 g3 g4 g5
theorem q7_ {X Y Z0 Z1 Z2 Z3 Z4 Z5 Z6 : Prop} (h : X) (g0 : Z0) (g1 : Z1) (g2 : Z2) (g3 : Z3) (g4 : Z4) (g5 : Z5) (g6 : Z6) (f : X → Z0 → Z1 → Z2 → Z3 → Z4 → Z5 → Z6 → Y := by intro h g0 g1 g2 g3 g4 g5 g6; repeat (first | (with_reducible first | exact h | apply below_alloc | apply pw_below_drewN | apply below_drew1 | refine below_set ?_ g0 | refine below_set ?_ g1 | refine below_set ?_ g2 | refine below_set ?_ g3 | refine below_set ?_ g4 | refine below_set ?_ g5 | refine below_set ?_ g6) | exact h)) : Y := f h g0 g1 g2 g3 g4 g5 g6
theorem q8_ {X Y Z0 Z1 Z2 Z3 Z4 Z5 Z6 Z7 : Prop} (h : X) (g0 : Z0) (g1 : Z1) (g2 : Z2) (g3 : Z3) (g4 : Z4) (g5 : Z5) (g6 : Z6) (g7 : Z7) (f : X → Z0 → Z1 → Z2 → Z3 → Z4 → Z5 → Z6 → Z7 → Y := by intro h g0 g1 g2 g3 g4 g5 g6 g7; repeat (first | (with_reducible first | exact h | apply below_alloc | apply pw_below_drewN | apply below_drew1 | refine below_set ?_ g0 | refine below_set ?_ g1 | refine below_set ?_ g2 | refine below_set ?_ g3 | refine below_set ?_ g4 | refine below_set ?_ g5 | refine below_set ?_ g6 | refine below_set ?_ g7) | exact h)) : Y := f h g0 g1 g2 g3 g4 g5 g6 g7
end Go.Proofs.YtdjnneflpkllmaaDoor.Q
namespace Go.Proofs.YtdjnneflpkllmaaDoor.Q
open Go.RowKit Go.Proofs.YtdjnneflpkllmaaDoorW.PrintWords Go.Proofs.YtdjnneflpkllmaaDoorW.PrintLast Go.Proofs.YtdjnneflpkllmaaDoorW.PrintMore
attribute [local go_sem] max2_int min2_int max_two min_two max_three min_three max_four min_four   -- for this text's walks alone
set_option linter.unusedVariables false
set_option linter.unusedSimpArgs false
def errW : Option Int → Value
  | none => .nilIface
  | some c => .iface 0 (.int .i64 c)
theorem errW_none : errW none = .nilIface := rfl
theorem errW_some (c : Int) : errW (some c) = .iface 0 (.int .i64 c) := rfl
end Go.Proofs.YtdjnneflpkllmaaDoor.Q

namespace Go.Proofs.YtdjnneflpkllmaaDoor.Q
open Go.RowKit Go.Proofs.YtdjnneflpkllmaaDoorW.PrintWords Go.Proofs.YtdjnneflpkllmaaDoorW.PrintLast Go.Proofs.YtdjnneflpkllmaaDoorW.PrintMore
attribute [local go_sem] max2_int min2_int max_two min_two max_three min_three max_four min_four   -- for this text's walks alone
set_option linter.unusedVariables false
set_option linter.unusedSimpArgs false
mutual
def merinoref01_trim.j1 : Nat → List Int → Int → Option (List Int)
  | 0, _, _ => none
  | k + 1, x0, x3 => merinoref01_trim.l1 k x0 x3 ([] : List Int) 0
def merinoref01_trim.l1 : Nat → List Int → Int → List Int → Int → Option (List Int)
  | 0, _, _, _, _ => none
  | k + 1, x0, x3, x4, x5 => if x5 < x3 then (if 0 ≤ x5 then (if x5 < (x0.length : Int) then (if x4.length < 17592186044416 then (merinoref01_trim.l1 k x0 x3 (x4 ++ [rd x0 x5]) (wrap64 (x5 + 1))) else (none)) else (none)) else (none)) else (some x4)
def merinoref01_trim.l0 : Nat → List Int → Int → Option (List Int)
  | 0, _, _ => none
  | k + 1, x0, x3 => if x3 > 0 then (if 0 ≤ (wrap64 (x3 - 1)) then (if (wrap64 (x3 - 1)) < (x0.length : Int) then (if (rd x0 (wrap64 (x3 - 1))) = 0 then (merinoref01_trim.l0 k x0 (wrap64 (x3 - 1))) else (merinoref01_trim.j1 k x0 x3)) else (none)) else (none)) else (merinoref01_trim.j1 k x0 x3)
end
def merinoref01_trim.f (k : Nat) (l0 : List Int) : Option (List Int) := merinoref01_trim.l0 k l0 (l0.length : Int)
theorem merinoref01_trim.mono_l : ∀ k, (∀ y0 y1, LeO (merinoref01_trim.j1 k y0 y1) (merinoref01_trim.j1 (k + 1) y0 y1)) ∧ (∀ y0 y1 y2 y3, LeO (merinoref01_trim.l1 k y0 y1 y2 y3) (merinoref01_trim.l1 (k + 1) y0 y1 y2 y3)) ∧ (∀ y0 y1, LeO (merinoref01_trim.l0 k y0 y1) (merinoref01_trim.l0 (k + 1) y0 y1))
  | 0 => ⟨fun _ _ r h => by simp [merinoref01_trim.j1] at h, fun _ _ _ _ r h => by simp [merinoref01_trim.l1] at h, fun _ _ r h => by simp [merinoref01_trim.l0] at h⟩
  | k + 1 => by
    obtain ⟨ih0, ih1, ih2⟩ := merinoref01_trim.mono_l k
    refine ⟨?_, ?_, ?_⟩
    · intro y0 y1
      unfold merinoref01_trim.j1
      repeat' first
      | (with_reducible exact ih0 _ _)
      | (with_reducible exact ih1 _ _ _ _)
      | (with_reducible exact ih2 _ _)
      | (with_reducible exact LeO.refl _)
      | (with_reducible exact LeO.none _)
      | (with_reducible refine LeO.ite ?_ ?_)
      | (with_reducible refine LeO.bind ?_ (fun _ => ?_))
      | exact ih0 _ _
      | exact ih1 _ _ _ _
      | exact ih2 _ _
      | exact LeO.none _
      | refine LeO.ite ?_ ?_
      | refine LeO.bind ?_ (fun _ => ?_)
    · intro y0 y1 y2 y3
      unfold merinoref01_trim.l1
      repeat' first
      | (with_reducible exact ih0 _ _)
      | (with_reducible exact ih1 _ _ _ _)
      | (with_reducible exact ih2 _ _)
      | (with_reducible exact LeO.refl _)
      | (with_reducible exact LeO.none _)
      | (with_reducible refine LeO.ite ?_ ?_)
      | (with_reducible refine LeO.bind ?_ (fun _ => ?_))
      | exact ih0 _ _
      | exact ih1 _ _ _ _
      | exact ih2 _ _
      | exact LeO.none _
      | refine LeO.ite ?_ ?_
      | refine LeO.bind ?_ (fun _ => ?_)
    · intro y0 y1
      unfold merinoref01_trim.l0
      repeat' first
      | (with_reducible exact ih0 _ _)
      | (with_reducible exact ih1 _ _ _ _)
      | (with_reducible exact ih2 _ _)
      | (with_reducible exact LeO.refl _)
      | (with_reducible exact LeO.none _)
      | (with_reducible refine LeO.ite ?_ ?_)
      | (with_reducible refine LeO.bind ?_ (fun _ => ?_))
      | exact ih0 _ _
      | exact ih1 _ _ _ _
      | exact ih2 _ _
      | exact LeO.none _
      | refine LeO.ite ?_ ?_
      | refine LeO.bind ?_ (fun _ => ?_)
theorem merinoref01_trim.mono : ∀ a0 k, LeO (merinoref01_trim.f k a0) (merinoref01_trim.f (k + 1) a0) := by
  intro a0 k
  obtain ⟨ih0, ih1, ih2⟩ := merinoref01_trim.mono_l k
  unfold merinoref01_trim.f
  repeat' first
      | (with_reducible exact ih0 _ _)
      | (with_reducible exact ih1 _ _ _ _)
      | (with_reducible exact ih2 _ _)
      | (with_reducible exact LeO.refl _)
      | (with_reducible exact LeO.none _)
      | (with_reducible refine LeO.ite ?_ ?_)
      | (with_reducible refine LeO.bind ?_ (fun _ => ?_))
      | exact ih0 _ _
      | exact ih1 _ _ _ _
      | exact ih2 _ _
      | exact LeO.none _
      | refine LeO.ite ?_ ?_
      | refine LeO.bind ?_ (fun _ => ?_)
def merinoref01_whole.f (k : Nat) (a0 : Bool) (l1 : List Int) : Option (Bool × List Int) := (merinoref01_trim.f k l1).bind fun t178 => (if a0 = true then (some (decide ((t178.length : Int) > 0), t178)) else (some (false, t178)))
theorem merinoref01_whole.mono : ∀ a0 a1 k, LeO (merinoref01_whole.f k a0 a1) (merinoref01_whole.f (k + 1) a0 a1) := by
  intro a0 a1 k
  unfold merinoref01_whole.f
  repeat' first
      | (with_reducible exact merinoref01_trim.mono _ _)
      | (with_reducible exact LeO.refl _)
      | (with_reducible exact LeO.none _)
      | (with_reducible refine LeO.ite ?_ ?_)
      | (with_reducible refine LeO.bind ?_ (fun _ => ?_))
      | exact merinoref01_trim.mono _ _
      | exact LeO.none _
      | refine LeO.ite ?_ ?_
      | refine LeO.bind ?_ (fun _ => ?_)
mutual
def merinoref01_mulD.l0 : Nat → List Int → List Int → List Int → Int → Option (List Int)
  | 0, _, _, _, _ => none
  | k + 1, x0, x1, x5, x6 => if x6 < (x0.length : Int) then (merinoref01_mulD.l1 k x0 x1 x5 x6 0 0) else ((merinoref01_trim.f k x5).bind fun t184 => (some t184))
def merinoref01_mulD.l1 : Nat → List Int → List Int → List Int → Int → Int → Int → Option (List Int)
  | 0, _, _, _, _, _, _ => none
  | k + 1, x0, x1, x5, x6, x7, x8 => if x8 < (x1.length : Int) then (if 0 ≤ (wrap64 (x6 + x8)) then (if (wrap64 (x6 + x8)) < (x5.length : Int) then (if 0 ≤ x6 then (if x6 < (x0.length : Int) then (if 0 ≤ x8 then (merinoref01_mulD.l1 k x0 x1 (x5.set ((wrap64 (x6 + x8)) : Int).toNat (Int.tmod (wrap64 ((wrap64 ((rd x5 (wrap64 (x6 + x8))) + (wrap64 ((rd x0 x6) * (rd x1 x8))))) + x7)) 10000)) x6 (wrap64 (Int.tdiv (wrap64 ((wrap64 ((rd x5 (wrap64 (x6 + x8))) + (wrap64 ((rd x0 x6) * (rd x1 x8))))) + x7)) 10000)) (wrap64 (x8 + 1))) else (none)) else (none)) else (none)) else (none)) else (none)) else (if 0 ≤ (wrap64 (x6 + (x1.length : Int))) then (if (wrap64 (x6 + (x1.length : Int))) < (x5.length : Int) then (merinoref01_mulD.l0 k x0 x1 (x5.set ((wrap64 (x6 + (x1.length : Int))) : Int).toNat x7) (wrap64 (x6 + 1))) else (none)) else (none))
end
def merinoref01_mulD.f (k : Nat) (l0 : List Int) (l1 : List Int) : Option (List Int) := if 0 ≤ (wrap64 ((l0.length : Int) + (l1.length : Int))) then (if (wrap64 ((l0.length : Int) + (l1.length : Int)) : Int).toNat ≤ 35184372088832 then (merinoref01_mulD.l0 k l0 l1 (List.replicate (wrap64 ((l0.length : Int) + (l1.length : Int)) : Int).toNat 0) 0) else (none)) else (none)
theorem merinoref01_mulD.mono_l : ∀ k, (∀ y0 y1 y2 y3, LeO (merinoref01_mulD.l0 k y0 y1 y2 y3) (merinoref01_mulD.l0 (k + 1) y0 y1 y2 y3)) ∧ (∀ y0 y1 y2 y3 y4 y5, LeO (merinoref01_mulD.l1 k y0 y1 y2 y3 y4 y5) (merinoref01_mulD.l1 (k + 1) y0 y1 y2 y3 y4 y5))
  | 0 => ⟨fun _ _ _ _ r h => by simp [merinoref01_mulD.l0] at h, fun _ _ _ _ _ _ r h => by simp [merinoref01_mulD.l1] at h⟩
  | k + 1 => by
    obtain ⟨ih0, ih1⟩ := merinoref01_mulD.mono_l k
    refine ⟨?_, ?_⟩
    · intro y0 y1 y2 y3
      unfold merinoref01_mulD.l0
      repeat' first
      | (with_reducible exact ih0 _ _ _ _)
      | (with_reducible exact ih1 _ _ _ _ _ _)
      | (with_reducible exact merinoref01_trim.mono _ _)
      | (with_reducible exact LeO.refl _)
      | (with_reducible exact LeO.none _)
      | (with_reducible refine LeO.ite ?_ ?_)
      | (with_reducible refine LeO.bind ?_ (fun _ => ?_))
      | exact ih0 _ _ _ _
      | exact ih1 _ _ _ _ _ _
      | exact merinoref01_trim.mono _ _
      | exact LeO.none _
      | refine LeO.ite ?_ ?_
      | refine LeO.bind ?_ (fun _ => ?_)
    · intro y0 y1 y2 y3 y4 y5
      unfold merinoref01_mulD.l1
      repeat' first
      | (with_reducible exact ih0 _ _ _ _)
      | (with_reducible exact ih1 _ _ _ _ _ _)
      | (with_reducible exact merinoref01_trim.mono _ _)
      | (with_reducible exact LeO.refl _)
      | (with_reducible exact LeO.none _)
      | (with_reducible refine LeO.ite ?_ ?_)
      | (with_reducible refine LeO.bind ?_ (fun _ => ?_))
      | exact ih0 _ _ _ _
      | exact ih1 _ _ _ _ _ _
      | exact merinoref01_trim.mono _ _
      | exact LeO.none _
      | refine LeO.ite ?_ ?_
      | refine LeO.bind ?_ (fun _ => ?_)
theorem merinoref01_mulD.mono : ∀ a0 a1 k, LeO (merinoref01_mulD.f k a0 a1) (merinoref01_mulD.f (k + 1) a0 a1) := by
  intro a0 a1 k
  obtain ⟨ih0, ih1⟩ := merinoref01_mulD.mono_l k
  unfold merinoref01_mulD.f
  repeat' first
      | (with_reducible exact ih0 _ _ _ _)
      | (with_reducible exact ih1 _ _ _ _ _ _)
      | (with_reducible exact merinoref01_trim.mono _ _)
      | (with_reducible exact LeO.refl _)
      | (with_reducible exact LeO.none _)
      | (with_reducible refine LeO.ite ?_ ?_)
      | (with_reducible refine LeO.bind ?_ (fun _ => ?_))
      | exact ih0 _ _ _ _
      | exact ih1 _ _ _ _ _ _
      | exact merinoref01_trim.mono _ _
      | exact LeO.none _
      | refine LeO.ite ?_ ?_
      | refine LeO.bind ?_ (fun _ => ?_)
def merinoref01_Of.l0 : Nat → Int → List Int → Bool → Option (Bool × List Int)
  | 0, _, _, _ => none
  | k + 1, x0, x3, x4 => if x0 = 0 then ((merinoref01_whole.f k x4 x3).bind fun bt203 => (some (bt203.1, bt203.2))) else (if (Int.tmod x0 10000) < 0 then (if x3.length < 17592186044416 then (merinoref01_Of.l0 k (wrap64 (Int.tdiv x0 10000)) (x3 ++ [wrap64 (-(Int.tmod x0 10000))]) x4) else (none)) else (if x3.length < 17592186044416 then (merinoref01_Of.l0 k (wrap64 (Int.tdiv x0 10000)) (x3 ++ [Int.tmod x0 10000]) x4) else (none)))
def merinoref01_Of.f (k : Nat) (a0 : Int) : Option (Bool × List Int) := merinoref01_Of.l0 k a0 ([] : List Int) (decide (a0 < 0))
theorem merinoref01_Of.mono_l : ∀ k, (∀ y0 y1 y2, LeO (merinoref01_Of.l0 k y0 y1 y2) (merinoref01_Of.l0 (k + 1) y0 y1 y2))
  | 0 => fun _ _ _ r h => by simp [merinoref01_Of.l0] at h
  | k + 1 => by
    have ih0 := merinoref01_Of.mono_l k
    · intro y0 y1 y2
      unfold merinoref01_Of.l0
      repeat' first
      | (with_reducible exact ih0 _ _ _)
      | (with_reducible exact merinoref01_whole.mono _ _ _)
      | (with_reducible exact LeO.refl _)
      | (with_reducible exact LeO.none _)
      | (with_reducible refine LeO.ite ?_ ?_)
      | (with_reducible refine LeO.bind ?_ (fun _ => ?_))
      | exact ih0 _ _ _
      | exact merinoref01_whole.mono _ _ _
      | exact LeO.none _
      | refine LeO.ite ?_ ?_
      | refine LeO.bind ?_ (fun _ => ?_)
theorem merinoref01_Of.mono : ∀ a0 k, LeO (merinoref01_Of.f k a0) (merinoref01_Of.f (k + 1) a0) := by
  intro a0 k
  have ih0 := merinoref01_Of.mono_l k
  unfold merinoref01_Of.f
  repeat' first
      | (with_reducible exact ih0 _ _ _)
      | (with_reducible exact merinoref01_whole.mono _ _ _)
      | (with_reducible exact LeO.refl _)
      | (with_reducible exact LeO.none _)
      | (with_reducible refine LeO.ite ?_ ?_)
      | (with_reducible refine LeO.bind ?_ (fun _ => ?_))
      | exact ih0 _ _ _
      | exact merinoref01_whole.mono _ _ _
      | exact LeO.none _
      | refine LeO.ite ?_ ?_
      | refine LeO.bind ?_ (fun _ => ?_)
def merinoref01_cmpD.l0 : Nat → List Int → List Int → Int → Option (Int)
  | 0, _, _, _ => none
  | k + 1, x0, x1, x5 => if x5 ≥ 0 then (if 0 ≤ x5 then (if x5 < (x0.length : Int) then (if x5 < (x1.length : Int) then (if (rd x0 x5) < (rd x1 x5) then (some (-1)) else (if (rd x0 x5) > (rd x1 x5) then (some 1) else (merinoref01_cmpD.l0 k x0 x1 (wrap64 (x5 - 1))))) else (none)) else (none)) else (none)) else (some 0)
def merinoref01_cmpD.f (k : Nat) (l0 : List Int) (l1 : List Int) : Option (Int) := if (l0.length : Int) < (l1.length : Int) then (some (-1)) else (if (l0.length : Int) > (l1.length : Int) then (some 1) else (merinoref01_cmpD.l0 k l0 l1 (wrap64 ((l0.length : Int) - 1))))
theorem merinoref01_cmpD.mono_l : ∀ k, (∀ y0 y1 y2, LeO (merinoref01_cmpD.l0 k y0 y1 y2) (merinoref01_cmpD.l0 (k + 1) y0 y1 y2))
  | 0 => fun _ _ _ r h => by simp [merinoref01_cmpD.l0] at h
  | k + 1 => by
    have ih0 := merinoref01_cmpD.mono_l k
    · intro y0 y1 y2
      unfold merinoref01_cmpD.l0
      repeat' first
      | (with_reducible exact ih0 _ _ _)
      | (with_reducible exact LeO.refl _)
      | (with_reducible exact LeO.none _)
      | (with_reducible refine LeO.ite ?_ ?_)
      | (with_reducible refine LeO.bind ?_ (fun _ => ?_))
      | exact ih0 _ _ _
      | exact LeO.none _
      | refine LeO.ite ?_ ?_
      | refine LeO.bind ?_ (fun _ => ?_)
theorem merinoref01_cmpD.mono : ∀ a0 a1 k, LeO (merinoref01_cmpD.f k a0 a1) (merinoref01_cmpD.f (k + 1) a0 a1) := by
  intro a0 a1 k
  have ih0 := merinoref01_cmpD.mono_l k
  unfold merinoref01_cmpD.f
  repeat' first
      | (with_reducible exact ih0 _ _ _)
      | (with_reducible exact LeO.refl _)
      | (with_reducible exact LeO.none _)
      | (with_reducible refine LeO.ite ?_ ?_)
      | (with_reducible refine LeO.bind ?_ (fun _ => ?_))
      | exact ih0 _ _ _
      | exact LeO.none _
      | refine LeO.ite ?_ ?_
      | refine LeO.bind ?_ (fun _ => ?_)
end Go.Proofs.YtdjnneflpkllmaaDoor.Q

namespace Go.Proofs.YtdjnneflpkllmaaDoor.Q
open Go.RowKit Go.Proofs.YtdjnneflpkllmaaDoorW.PrintWords Go.Proofs.YtdjnneflpkllmaaDoorW.PrintLast Go.Proofs.YtdjnneflpkllmaaDoorW.PrintMore
attribute [local go_sem] max2_int min2_int max_two min_two max_three min_three max_four min_four   -- for this text's walks alone
set_option linter.unusedVariables false
set_option linter.unusedSimpArgs false
def merinoref01_Times.f (k : Nat) (a0_0 : Bool) (l0_1 : List Int) (a1_0 : Bool) (l1_1 : List Int) : Option (Bool × List Int) := (merinoref01_mulD.f k l0_1 l1_1).bind fun t195 => ((merinoref01_whole.f k (a0_0 != a1_0) t195).bind fun bt198 => (some (bt198.1, bt198.2)))
theorem merinoref01_Times.mono : ∀ a0 a1 a2 a3 k, LeO (merinoref01_Times.f k a0 a1 a2 a3) (merinoref01_Times.f (k + 1) a0 a1 a2 a3) := by
  intro a0 a1 a2 a3 k
  unfold merinoref01_Times.f
  repeat' first
      | (with_reducible exact merinoref01_mulD.mono _ _ _)
      | (with_reducible exact merinoref01_whole.mono _ _ _)
      | (with_reducible exact LeO.refl _)
      | (with_reducible exact LeO.none _)
      | (with_reducible refine LeO.ite ?_ ?_)
      | (with_reducible refine LeO.bind ?_ (fun _ => ?_))
      | exact merinoref01_mulD.mono _ _ _
      | exact merinoref01_whole.mono _ _ _
      | exact LeO.none _
      | refine LeO.ite ?_ ?_
      | refine LeO.bind ?_ (fun _ => ?_)
end Go.Proofs.YtdjnneflpkllmaaDoor.Q

namespace Go.Proofs.YtdjnneflpkllmaaDoor.Q
open Go.RowKit Go.Proofs.YtdjnneflpkllmaaDoorW.PrintWords Go.Proofs.YtdjnneflpkllmaaDoorW.PrintLast Go.Proofs.YtdjnneflpkllmaaDoorW.PrintMore
attribute [local go_sem] max2_int min2_int max_two min_two max_three min_three max_four min_four   -- for this text's walks alone
set_option linter.unusedVariables false
set_option linter.unusedSimpArgs false
def merinoref01_Compare.f (k : Nat) (a0_0 : Bool) (l0_1 : List Int) (a1_0 : Bool) (l1_1 : List Int) : Option (Int) := if (a0_0 != a1_0) = true then (if a0_0 = true then (some (-1)) else (some 1)) else ((merinoref01_cmpD.f k l0_1 l1_1).bind fun t327 => (if a0_0 = true then (some (wrap64 (-t327))) else (some t327)))
theorem merinoref01_Compare.mono : ∀ a0 a1 a2 a3 k, LeO (merinoref01_Compare.f k a0 a1 a2 a3) (merinoref01_Compare.f (k + 1) a0 a1 a2 a3) := by
  intro a0 a1 a2 a3 k
  unfold merinoref01_Compare.f
  repeat' first
      | (with_reducible exact merinoref01_cmpD.mono _ _ _)
      | (with_reducible exact LeO.refl _)
      | (with_reducible exact LeO.none _)
      | (with_reducible refine LeO.ite ?_ ?_)
      | (with_reducible refine LeO.bind ?_ (fun _ => ?_))
      | exact merinoref01_cmpD.mono _ _ _
      | exact LeO.none _
      | refine LeO.ite ?_ ?_
      | refine LeO.bind ?_ (fun _ => ?_)
end Go.Proofs.YtdjnneflpkllmaaDoor.Q

namespace Go.Proofs.Num
open Go.RowKit Go.Proofs.YtdjnneflpkllmaaDoorW.PrintWords Go.Proofs.YtdjnneflpkllmaaDoorW.PrintMore Go.Proofs.YtdjnneflpkllmaaDoor.Q
set_option linter.unusedVariables false
set_option linter.unusedSimpArgs false
end Go.Proofs.Num

namespace Go.Proofs.YtdjnneflpkllmaaDoor.Q
open Go.RowKit Go.Proofs.YtdjnneflpkllmaaDoorW.PrintWords Go.Proofs.YtdjnneflpkllmaaDoorW.PrintLast Go.Proofs.YtdjnneflpkllmaaDoorW.PrintMore
attribute [local go_sem] max2_int min2_int max_two min_two max_three min_three max_four min_four   -- for this text's walks alone
set_option linter.unusedVariables false
set_option linter.unusedSimpArgs false
def merinoref01_subD.l0 : Nat → List Int → List Int → List Int → Int → Int → Option (List Int)
  | 0, _, _, _, _, _ => none
  | k + 1, x0, x1, x5, x6, x7 => if x7 < (x0.length : Int) then (if 0 ≤ x7 then (if x7 < (x1.length : Int) then (if (wrap64 ((wrap64 ((rd x0 x7) - x6)) - (rd x1 x7))) < 0 then (if x5.length < 17592186044416 then (merinoref01_subD.l0 k x0 x1 (x5 ++ [wrap64 ((wrap64 ((wrap64 ((rd x0 x7) - x6)) - (rd x1 x7))) + 10000)]) 1 (wrap64 (x7 + 1))) else (none)) else (if x5.length < 17592186044416 then (merinoref01_subD.l0 k x0 x1 (x5 ++ [wrap64 ((wrap64 ((rd x0 x7) - x6)) - (rd x1 x7))]) 0 (wrap64 (x7 + 1))) else (none))) else (if (wrap64 ((rd x0 x7) - x6)) < 0 then (if x5.length < 17592186044416 then (merinoref01_subD.l0 k x0 x1 (x5 ++ [wrap64 ((wrap64 ((rd x0 x7) - x6)) + 10000)]) 1 (wrap64 (x7 + 1))) else (none)) else (if x5.length < 17592186044416 then (merinoref01_subD.l0 k x0 x1 (x5 ++ [wrap64 ((rd x0 x7) - x6)]) 0 (wrap64 (x7 + 1))) else (none)))) else (none)) else ((merinoref01_trim.f k x5).bind fun t238 => (some t238))
def merinoref01_subD.f (k : Nat) (l0 : List Int) (l1 : List Int) : Option (List Int) := merinoref01_subD.l0 k l0 l1 ([] : List Int) 0 0
theorem merinoref01_subD.mono_l : ∀ k, (∀ y0 y1 y2 y3 y4, LeO (merinoref01_subD.l0 k y0 y1 y2 y3 y4) (merinoref01_subD.l0 (k + 1) y0 y1 y2 y3 y4))
  | 0 => fun _ _ _ _ _ r h => by simp [merinoref01_subD.l0] at h
  | k + 1 => by
    have ih0 := merinoref01_subD.mono_l k
    · intro y0 y1 y2 y3 y4
      unfold merinoref01_subD.l0
      repeat' first
      | (with_reducible exact ih0 _ _ _ _ _)
      | (with_reducible exact merinoref01_trim.mono _ _)
      | (with_reducible exact LeO.refl _)
      | (with_reducible exact LeO.none _)
      | (with_reducible refine LeO.ite ?_ ?_)
      | (with_reducible refine LeO.bind ?_ (fun _ => ?_))
      | exact ih0 _ _ _ _ _
      | exact merinoref01_trim.mono _ _
      | exact LeO.none _
      | refine LeO.ite ?_ ?_
      | refine LeO.bind ?_ (fun _ => ?_)
theorem merinoref01_subD.mono : ∀ a0 a1 k, LeO (merinoref01_subD.f k a0 a1) (merinoref01_subD.f (k + 1) a0 a1) := by
  intro a0 a1 k
  have ih0 := merinoref01_subD.mono_l k
  unfold merinoref01_subD.f
  repeat' first
      | (with_reducible exact ih0 _ _ _ _ _)
      | (with_reducible exact merinoref01_trim.mono _ _)
      | (with_reducible exact LeO.refl _)
      | (with_reducible exact LeO.none _)
      | (with_reducible refine LeO.ite ?_ ?_)
      | (with_reducible refine LeO.bind ?_ (fun _ => ?_))
      | exact ih0 _ _ _ _ _
      | exact merinoref01_trim.mono _ _
      | exact LeO.none _
      | refine LeO.ite ?_ ?_
      | refine LeO.bind ?_ (fun _ => ?_)
set_option maxRecDepth 100000 in
theorem field31_1_ (b : Bool) (A : Option Addr) (n c : Nat) (W : World) : (Instr.field 31 (.agg #[.bool b, .slice A n c]) 1).run Tryd.prog W = .ok (.slice A n c) W := by rfl
attribute [local go_sem] field31_1_
def merinoref01_Within.l0 : Nat → Int → Int → Bool → List Int → Option (Int × Bool)
  | 0, _, _, _, _ => none
  | k + 1, x6, x7, x373000, x373001 => if x7 ≥ 0 then (if 0 ≤ x7 then (if x7 < (x373001.length : Int) then (merinoref01_Within.l0 k (wrap64 ((wrap64 (x6 * 10000)) + (rd x373001 x7))) (wrap64 (x7 - 1)) x373000 x373001) else (none)) else (none)) else (if x373000 = true then (some (wrap64 (-x6), true)) else (some (x6, true)))
def merinoref01_Within.f (k : Nat) (a0_0 : Bool) (l0_1 : List Int) (a1 : Int) : Option (Int × Bool) := (merinoref01_Of.f k a1).bind fun bt373 => ((merinoref01_cmpD.f k l0_1 bt373.2).bind fun t377 => (if t377 > 0 then (some (0, false)) else (merinoref01_Within.l0 k 0 (wrap64 ((l0_1.length : Int) - 1)) a0_0 l0_1)))
theorem merinoref01_Within.mono_l : ∀ k, (∀ y0 y1 y2 y3, LeO (merinoref01_Within.l0 k y0 y1 y2 y3) (merinoref01_Within.l0 (k + 1) y0 y1 y2 y3))
  | 0 => fun _ _ _ _ r h => by simp [merinoref01_Within.l0] at h
  | k + 1 => by
    have ih0 := merinoref01_Within.mono_l k
    · intro y0 y1 y2 y3
      unfold merinoref01_Within.l0
      repeat' first
      | (with_reducible exact ih0 _ _ _ _)
      | (with_reducible exact merinoref01_Of.mono _ _)
      | (with_reducible exact merinoref01_cmpD.mono _ _ _)
      | (with_reducible exact LeO.refl _)
      | (with_reducible exact LeO.none _)
      | (with_reducible refine LeO.ite ?_ ?_)
      | (with_reducible refine LeO.bind ?_ (fun _ => ?_))
      | exact ih0 _ _ _ _
      | exact merinoref01_Of.mono _ _
      | exact merinoref01_cmpD.mono _ _ _
      | exact LeO.none _
      | refine LeO.ite ?_ ?_
      | refine LeO.bind ?_ (fun _ => ?_)
theorem merinoref01_Within.mono : ∀ a0 a1 a2 k, LeO (merinoref01_Within.f k a0 a1 a2) (merinoref01_Within.f (k + 1) a0 a1 a2) := by
  intro a0 a1 a2 k
  have ih0 := merinoref01_Within.mono_l k
  unfold merinoref01_Within.f
  repeat' first
      | (with_reducible exact ih0 _ _ _ _)
      | (with_reducible exact merinoref01_Of.mono _ _)
      | (with_reducible exact merinoref01_cmpD.mono _ _ _)
      | (with_reducible exact LeO.refl _)
      | (with_reducible exact LeO.none _)
      | (with_reducible refine LeO.ite ?_ ?_)
      | (with_reducible refine LeO.bind ?_ (fun _ => ?_))
      | exact ih0 _ _ _ _
      | exact merinoref01_Of.mono _ _
      | exact merinoref01_cmpD.mono _ _ _
      | exact LeO.none _
      | refine LeO.ite ?_ ?_
      | refine LeO.bind ?_ (fun _ => ?_)
mutual
def merinoref01_divD.l0 : Nat → List Int → List Int → List Int → List Int → Int → Option (List Int × List Int)
  | 0, _, _, _, _, _ => none
  | k + 1, x0, x1, x6, x7, x8 => if x8 ≥ 0 then (if 0 ≤ x8 then (if x8 < (x0.length : Int) then ((some (([rd x0 x8] : List Int) : List Int)).bind fun y386 => (if y386.length + x7.length < 17592186044416 then ((merinoref01_trim.f k (y386 ++ x7)).bind fun t392 => (merinoref01_divD.l1 k x0 x1 x6 t392 x8 0 9999)) else (none))) else (none)) else (none)) else ((merinoref01_trim.f k x6).bind fun t382 => (some (t382, x7)))
def merinoref01_divD.l1 : Nat → List Int → List Int → List Int → List Int → Int → Int → Int → Option (List Int × List Int)
  | 0, _, _, _, _, _, _, _ => none
  | k + 1, x0, x1, x6, x7, x8, x10, x11 => if x10 < x11 then ((merinoref01_trim.f k (([wrap64 (Int.tdiv (wrap64 ((wrap64 (x10 + x11)) + 1)) 2)] : List Int))).bind fun t411 => ((merinoref01_mulD.f k x1 t411).bind fun t414 => ((merinoref01_cmpD.f k t414 x7).bind fun t417 => (if t417 ≤ 0 then (merinoref01_divD.l1 k x0 x1 x6 x7 x8 (wrap64 (Int.tdiv (wrap64 ((wrap64 (x10 + x11)) + 1)) 2)) x11) else (merinoref01_divD.l1 k x0 x1 x6 x7 x8 x10 (wrap64 ((wrap64 (Int.tdiv (wrap64 ((wrap64 (x10 + x11)) + 1)) 2)) - 1))))))) else (if 0 ≤ x8 then (if x8 < (x6.length : Int) then ((merinoref01_trim.f k (([x10] : List Int))).bind fun t399 => ((merinoref01_mulD.f k x1 t399).bind fun t402 => ((merinoref01_subD.f k x7 t402).bind fun t405 => (merinoref01_divD.l0 k x0 x1 (x6.set (x8 : Int).toNat x10) t405 (wrap64 (x8 - 1)))))) else (none)) else (none))
end
def merinoref01_divD.f (k : Nat) (l0 : List Int) (l1 : List Int) : Option (List Int × List Int) := if (l1.length : Int) = 0 then (some (([] : List Int), ([] : List Int))) else (if 0 ≤ (l0.length : Int) then (if ((l0.length : Int) : Int).toNat ≤ 35184372088832 then (merinoref01_divD.l0 k l0 l1 (List.replicate ((l0.length : Int) : Int).toNat 0) ([] : List Int) (wrap64 ((l0.length : Int) - 1))) else (none)) else (none))
theorem merinoref01_divD.mono_l : ∀ k, (∀ y0 y1 y2 y3 y4, LeO (merinoref01_divD.l0 k y0 y1 y2 y3 y4) (merinoref01_divD.l0 (k + 1) y0 y1 y2 y3 y4)) ∧ (∀ y0 y1 y2 y3 y4 y5 y6, LeO (merinoref01_divD.l1 k y0 y1 y2 y3 y4 y5 y6) (merinoref01_divD.l1 (k + 1) y0 y1 y2 y3 y4 y5 y6))
  | 0 => ⟨fun _ _ _ _ _ r h => by simp [merinoref01_divD.l0] at h, fun _ _ _ _ _ _ _ r h => by simp [merinoref01_divD.l1] at h⟩
  | k + 1 => by
    obtain ⟨ih0, ih1⟩ := merinoref01_divD.mono_l k
    refine ⟨?_, ?_⟩
    · intro y0 y1 y2 y3 y4
      unfold merinoref01_divD.l0
      repeat' first
      | (with_reducible exact ih0 _ _ _ _ _)
      | (with_reducible exact ih1 _ _ _ _ _ _ _)
      | (with_reducible exact merinoref01_cmpD.mono _ _ _)
      | (with_reducible exact merinoref01_mulD.mono _ _ _)
      | (with_reducible exact merinoref01_subD.mono _ _ _)
      | (with_reducible exact merinoref01_trim.mono _ _)
      | (with_reducible exact LeO.refl _)
      | (with_reducible exact LeO.none _)
      | (with_reducible refine LeO.ite ?_ ?_)
      | (with_reducible refine LeO.bind ?_ (fun _ => ?_))
      | exact ih0 _ _ _ _ _
      | exact ih1 _ _ _ _ _ _ _
      | exact merinoref01_cmpD.mono _ _ _
      | exact merinoref01_mulD.mono _ _ _
      | exact merinoref01_subD.mono _ _ _
      | exact merinoref01_trim.mono _ _
      | exact LeO.none _
      | refine LeO.ite ?_ ?_
      | refine LeO.bind ?_ (fun _ => ?_)
    · intro y0 y1 y2 y3 y4 y5 y6
      unfold merinoref01_divD.l1
      repeat' first
      | (with_reducible exact ih0 _ _ _ _ _)
      | (with_reducible exact ih1 _ _ _ _ _ _ _)
      | (with_reducible exact merinoref01_cmpD.mono _ _ _)
      | (with_reducible exact merinoref01_mulD.mono _ _ _)
      | (with_reducible exact merinoref01_subD.mono _ _ _)
      | (with_reducible exact merinoref01_trim.mono _ _)
      | (with_reducible exact LeO.refl _)
      | (with_reducible exact LeO.none _)
      | (with_reducible refine LeO.ite ?_ ?_)
      | (with_reducible refine LeO.bind ?_ (fun _ => ?_))
      | exact ih0 _ _ _ _ _
      | exact ih1 _ _ _ _ _ _ _
      | exact merinoref01_cmpD.mono _ _ _
      | exact merinoref01_mulD.mono _ _ _
      | exact merinoref01_subD.mono _ _ _
      | exact merinoref01_trim.mono _ _
      | exact LeO.none _
      | refine LeO.ite ?_ ?_
      | refine LeO.bind ?_ (fun _ => ?_)
theorem merinoref01_divD.mono : ∀ a0 a1 k, LeO (merinoref01_divD.f k a0 a1) (merinoref01_divD.f (k + 1) a0 a1) := by
  intro a0 a1 k
  obtain ⟨ih0, ih1⟩ := merinoref01_divD.mono_l k
  unfold merinoref01_divD.f
  repeat' first
      | (with_reducible exact ih0 _ _ _ _ _)
      | (with_reducible exact ih1 _ _ _ _ _ _ _)
      | (with_reducible exact merinoref01_cmpD.mono _ _ _)
      | (with_reducible exact merinoref01_mulD.mono _ _ _)
      | (with_reducible exact merinoref01_subD.mono _ _ _)
      | (with_reducible exact merinoref01_trim.mono _ _)
      | (with_reducible exact LeO.refl _)
      | (with_reducible exact LeO.none _)
      | (with_reducible refine LeO.ite ?_ ?_)
      | (with_reducible refine LeO.bind ?_ (fun _ => ?_))
      | exact ih0 _ _ _ _ _
      | exact ih1 _ _ _ _ _ _ _
      | exact merinoref01_cmpD.mono _ _ _
      | exact merinoref01_mulD.mono _ _ _
      | exact merinoref01_subD.mono _ _ _
      | exact merinoref01_trim.mono _ _
      | exact LeO.none _
      | refine LeO.ite ?_ ?_
      | refine LeO.bind ?_ (fun _ => ?_)
end Go.Proofs.YtdjnneflpkllmaaDoor.Q

namespace Go.Proofs.Num
open Go.RowKit Go.Proofs.YtdjnneflpkllmaaDoorW.PrintWords Go.Proofs.YtdjnneflpkllmaaDoorW.PrintMore Go.Proofs.YtdjnneflpkllmaaDoor.Q
set_option linter.unusedVariables false
set_option linter.unusedSimpArgs false
end Go.Proofs.Num

namespace Go.Proofs.YtdjnneflpkllmaaDoor.Q
open Go.RowKit Go.Proofs.YtdjnneflpkllmaaDoorW.PrintWords Go.Proofs.YtdjnneflpkllmaaDoorW.PrintLast Go.Proofs.YtdjnneflpkllmaaDoorW.PrintMore
attribute [local go_sem] max2_int min2_int max_two min_two max_three min_three max_four min_four   -- for this text's walks alone
set_option linter.unusedVariables false
set_option linter.unusedSimpArgs false
def merinoref01_gcdD.l0 : Nat → List Int → List Int → Option (List Int)
  | 0, _, _ => none
  | k + 1, x0, x1 => if (x1.length : Int) > 0 then ((merinoref01_divD.f k x0 x1).bind fun bt418 => (merinoref01_gcdD.l0 k x1 bt418.2)) else (some x0)
def merinoref01_gcdD.f (k : Nat) (l0 : List Int) (l1 : List Int) : Option (List Int) := merinoref01_gcdD.l0 k l0 l1
theorem merinoref01_gcdD.mono_l : ∀ k, (∀ y0 y1, LeO (merinoref01_gcdD.l0 k y0 y1) (merinoref01_gcdD.l0 (k + 1) y0 y1))
  | 0 => fun _ _ r h => by simp [merinoref01_gcdD.l0] at h
  | k + 1 => by
    have ih0 := merinoref01_gcdD.mono_l k
    · intro y0 y1
      unfold merinoref01_gcdD.l0
      repeat' first
      | (with_reducible exact ih0 _ _)
      | (with_reducible exact merinoref01_divD.mono _ _ _)
      | (with_reducible exact LeO.refl _)
      | (with_reducible exact LeO.none _)
      | (with_reducible refine LeO.ite ?_ ?_)
      | (with_reducible refine LeO.bind ?_ (fun _ => ?_))
      | exact ih0 _ _
      | exact merinoref01_divD.mono _ _ _
      | exact LeO.none _
      | refine LeO.ite ?_ ?_
      | refine LeO.bind ?_ (fun _ => ?_)
theorem merinoref01_gcdD.mono : ∀ a0 a1 k, LeO (merinoref01_gcdD.f k a0 a1) (merinoref01_gcdD.f (k + 1) a0 a1) := by
  intro a0 a1 k
  have ih0 := merinoref01_gcdD.mono_l k
  unfold merinoref01_gcdD.f
  repeat' first
      | (with_reducible exact ih0 _ _)
      | (with_reducible exact merinoref01_divD.mono _ _ _)
      | (with_reducible exact LeO.refl _)
      | (with_reducible exact LeO.none _)
      | (with_reducible refine LeO.ite ?_ ?_)
      | (with_reducible refine LeO.bind ?_ (fun _ => ?_))
      | exact ih0 _ _
      | exact merinoref01_divD.mono _ _ _
      | exact LeO.none _
      | refine LeO.ite ?_ ?_
      | refine LeO.bind ?_ (fun _ => ?_)
end Go.Proofs.YtdjnneflpkllmaaDoor.Q

namespace Go.Proofs.YtdjnneflpkllmaaDoor.Q
open Go.RowKit Go.Proofs.YtdjnneflpkllmaaDoorW.PrintWords Go.Proofs.YtdjnneflpkllmaaDoorW.PrintLast Go.Proofs.YtdjnneflpkllmaaDoorW.PrintMore
attribute [local go_sem] max2_int min2_int max_two min_two max_three min_three max_four min_four   -- for this text's walks alone
set_option linter.unusedVariables false
set_option linter.unusedSimpArgs false
def merinoref01_Lowest.core (k : Nat) (a0_0 : Bool) (l0_1 : List Int) (a1_0 : Bool) (l1_1 : List Int) : Option (Int × Int × Int) := (merinoref01_gcdD.f k l0_1 l1_1).bind fun t427 => ((merinoref01_divD.f k l0_1 t427).bind fun bt430 => ((merinoref01_divD.f k l1_1 t427).bind fun bt436 => ((merinoref01_whole.f k a0_0 bt430.1).bind fun bt442 => ((merinoref01_Within.f k bt442.1 bt442.2 1099511627776).bind fun bt446 => ((merinoref01_whole.f k false bt436.1).bind fun bt448 => ((merinoref01_Within.f k bt448.1 bt448.2 1048576).bind fun bt452 => (if bt446.2 = true then (if bt452.2 = true then (some (bt446.1, bt452.1, 0)) else (some (0, 0, 4))) else (some (0, 0, 4)))))))))
theorem merinoref01_Lowest.core_mono : ∀ a0 a1 a2 a3 k, LeO (merinoref01_Lowest.core k a0 a1 a2 a3) (merinoref01_Lowest.core (k + 1) a0 a1 a2 a3) := by
  intro a0 a1 a2 a3 k
  unfold merinoref01_Lowest.core
  repeat' first
      | (with_reducible exact merinoref01_Within.mono _ _ _ _)
      | (with_reducible exact merinoref01_divD.mono _ _ _)
      | (with_reducible exact merinoref01_gcdD.mono _ _ _)
      | (with_reducible exact merinoref01_whole.mono _ _ _)
      | (with_reducible exact LeO.refl _)
      | (with_reducible exact LeO.none _)
      | (with_reducible refine LeO.ite ?_ ?_)
      | (with_reducible refine LeO.bind ?_ (fun _ => ?_))
      | exact merinoref01_Within.mono _ _ _ _
      | exact merinoref01_divD.mono _ _ _
      | exact merinoref01_gcdD.mono _ _ _
      | exact merinoref01_whole.mono _ _ _
      | exact LeO.none _
      | refine LeO.ite ?_ ?_
      | refine LeO.bind ?_ (fun _ => ?_)
end Go.Proofs.YtdjnneflpkllmaaDoor.Q

namespace Go.Proofs.Num
open Go.RowKit Go.Proofs.YtdjnneflpkllmaaDoorW.PrintWords Go.Proofs.YtdjnneflpkllmaaDoorW.PrintMore Go.Proofs.YtdjnneflpkllmaaDoor.Q
set_option linter.unusedVariables false
set_option linter.unusedSimpArgs false
/-- x/y in lowest terms, where it fits. -/
def lowest (x y : Int) : Int × Int × Int :=
  let g : Int := (Nat.gcd x.natAbs y.natAbs : Nat)
  if (x.natAbs : Int) / g ≤ 1099511627776 ∧ y / g ≤ 1048576 then ((if x < 0 then -((x.natAbs : Int) / g) else (x.natAbs : Int) / g), y / g, 0) else (0, 0, 4)
end Go.Proofs.Num

namespace Go.Proofs.YtdjnneflpkllmaaDoor.Q
open Go.RowKit Go.Proofs.YtdjnneflpkllmaaDoorW.PrintWords Go.Proofs.YtdjnneflpkllmaaDoorW.PrintLast Go.Proofs.YtdjnneflpkllmaaDoorW.PrintMore
attribute [local go_sem] max2_int min2_int max_two min_two max_three min_three max_four min_four   -- for this text's walks alone
set_option linter.unusedVariables false
set_option linter.unusedSimpArgs false
def num_size.f (a0 : Int) : Option (Int) := if a0 < 0 then (some (IntKind.u64.wrap (-(IntKind.u64.wrap (a0))))) else (some (IntKind.u64.wrap (a0)))
set_option maxHeartbeats 8000000 in
set_option maxRecDepth 100000 in
theorem num_size.calls (a0 : Int) (r : Int) (w : World) (h : num_size.f a0 = some r) :
    Calls Tryd.prog 78 #[.int .i64 a0] w fun e w' => e = .returned (.int .u64 r) ∧ Drawn0 w w' := by
  have H : (if a0 < 0 then (some (IntKind.u64.wrap (-(IntKind.u64.wrap (a0))))) else (some (IntKind.u64.wrap (a0)))) = some r := h
  clear h
  by_cases c2 : a0 < 0
  · rw [if_pos c2] at H
    have c2b0 : decide (a0 < 0) = true := decide_eq_true c2
    clear c2
    obtain rfl := Option.some.inj H
    go_enter Tryd.func78, Tryd.ntmps78
    go_wp2
    go_ret
    exact ⟨by first | rfl | (simp; done) | (simp [*]; done), by repeat (first | exact Drawn0.refl _ | apply Drawn0.step)⟩
  · rw [if_neg c2] at H
    have c2b0 : decide (a0 < 0) = false := decide_eq_false c2
    clear c2
    obtain rfl := Option.some.inj H
    go_enter Tryd.func78, Tryd.ntmps78
    go_wp2
    go_ret
    exact ⟨by first | rfl | (simp; done) | (simp [*]; done), by repeat (first | exact Drawn0.refl _ | apply Drawn0.step)⟩
end Go.Proofs.YtdjnneflpkllmaaDoor.Q

namespace Go.Proofs.YtdjnneflpkllmaaDoor.Q
open Go.RowKit Go.Proofs.YtdjnneflpkllmaaDoorW.PrintWords Go.Proofs.YtdjnneflpkllmaaDoorW.PrintLast Go.Proofs.YtdjnneflpkllmaaDoorW.PrintMore
attribute [local go_sem] max2_int min2_int max_two min_two max_three min_three max_four min_four   -- for this text's walks alone
set_option linter.unusedVariables false
set_option linter.unusedSimpArgs false
def num_gcd.l0 : Nat → Int → Int → Option (Int)
  | 0, _, _ => none
  | k + 1, x0, x1 => if x1 = 0 then (some x0) else (num_gcd.l0 k x1 (Int.tmod x0 x1))
def num_gcd.f (k : Nat) (a0 : Int) (a1 : Int) : Option (Int) := num_gcd.l0 k a0 a1
theorem num_gcd.mono_l : ∀ k, (∀ y0 y1, LeO (num_gcd.l0 k y0 y1) (num_gcd.l0 (k + 1) y0 y1))
  | 0 => fun _ _ r h => by simp [num_gcd.l0] at h
  | k + 1 => by
    have ih0 := num_gcd.mono_l k
    · intro y0 y1
      unfold num_gcd.l0
      repeat' first
      | (with_reducible exact ih0 _ _)
      | (with_reducible exact LeO.refl _)
      | (with_reducible exact LeO.none _)
      | (with_reducible refine LeO.ite ?_ ?_)
      | (with_reducible refine LeO.bind ?_ (fun _ => ?_))
      | exact ih0 _ _
      | exact LeO.none _
      | refine LeO.ite ?_ ?_
      | refine LeO.bind ?_ (fun _ => ?_)
theorem num_gcd.mono : ∀ a0 a1 k, LeO (num_gcd.f k a0 a1) (num_gcd.f (k + 1) a0 a1) := by
  intro a0 a1 k
  have ih0 := num_gcd.mono_l k
  unfold num_gcd.f
  repeat' first
      | (with_reducible exact ih0 _ _)
      | (with_reducible exact LeO.refl _)
      | (with_reducible exact LeO.none _)
      | (with_reducible refine LeO.ite ?_ ?_)
      | (with_reducible refine LeO.bind ?_ (fun _ => ?_))
      | exact ih0 _ _
      | exact LeO.none _
      | refine LeO.ite ?_ ?_
      | refine LeO.bind ?_ (fun _ => ?_)
set_option maxHeartbeats 8000000 in
set_option maxRecDepth 100000 in
theorem num_gcd.calls (k : Nat) (a0 : Int) (a1 : Int) (r : Int) (w : World) (h : num_gcd.f k a0 a1 = some r) :
    Calls Tryd.prog 77 #[.int .u64 a0, .int .u64 a1] w fun e w' => e = .returned (.int .u64 r) ∧ Drawn0 w w' := by
  have H : (num_gcd.l0 k a0 a1) = some r := h
  clear h
  have H' := Aside0.mk H
  clear H
  go_enter Tryd.func77, Tryd.ntmps77
  go_wp2
  repeat (go_quiet (fail); try go_wp2)
  go_loopg [0, 1] k (fun kq v0 v1 w' => ∃ (x0_1 : Int) (x1_1 : Int), v0 = .int .u64 x0_1 ∧ v1 = .int .u64 x1_1 ∧ Aside0 (num_gcd.l0 kq x0_1 x1_1 = some r) ∧ Aside0 (kq ≤ k) ∧ Drawn0 w w')
  case atStart => exact ⟨(a0), (a1), (by first | rfl | (simp; done) | (simp [*]; done)), (by first | rfl | (simp; done) | (simp [*]; done)), H', ⟨Nat.le_refl _⟩, by repeat (first | exact Drawn0.refl _ | apply Drawn0.step)⟩
  case round =>
    clear H'
    try clear p2
    obtain ⟨x0_1, x1_1, rfl, rfl, HA, HK1, ⟨m1, rfl⟩⟩ := hrel
    cases gk with
    | zero => exact absurd HA.out (by simp [num_gcd.l0])
    | succ k1 =>
      have H := HA.out
      clear HA
      simp only [num_gcd.l0] at H
      by_cases c3 : x1_1 = 0
      · rw [if_pos c3] at H
        have c3b0 : (x1_1 == 0) = true := beq_iff_eq.mpr c3
        have c3b1 : (x1_1 != 0) = false := bne_eq_false_iff_eq.mpr c3
        clear c3
        obtain rfl := Option.some.inj H
        go_wp2
        repeat (go_quiet (fail); try go_wp2)
        go_ret
        exact ⟨by first | rfl | (simp; done) | (simp [*]; done), by repeat (first | exact Drawn0.refl _ | apply Drawn0.step)⟩
      · rw [if_neg c3] at H
        have c3b0 : (x1_1 == 0) = false := beq_eq_false_iff_ne.mpr c3
        have c3b1 : (x1_1 != 0) = true := bne_iff_ne.mpr c3
        have H' := Aside0.mk H
        clear H
        go_wp2
        repeat (go_quiet (fail); try go_wp2)
        go_roundg k1
        case measure => have := HK1.out; omega
        case rel => exact ⟨(x1_1), (Int.tmod x0_1 x1_1), (by first | rfl | (simp; done) | (simp [*]; done)), (by first | rfl | (simp; done) | (simp [*]; done)), H', ⟨by have := HK1.out; omega⟩, by repeat (first | exact Drawn0.refl _ | apply Drawn0.step)⟩
def num_Valid.f (k : Nat) (a0_0 : Int) (a0_1 : Int) : Option (Bool) := if a0_1 ≥ 1 then (if a0_1 ≤ 1048576 then (if a0_0 ≥ (-1099511627776) then (if a0_0 ≤ 1099511627776 then ((num_size.f a0_0).bind fun t116 => ((num_gcd.f k t116 (IntKind.u64.wrap (a0_1))).bind fun t117 => (some (t117 == 1)))) else (some false)) else (some false)) else (some false)) else (some false)
theorem num_Valid.mono : ∀ a0 a1 k, LeO (num_Valid.f k a0 a1) (num_Valid.f (k + 1) a0 a1) := by
  intro a0 a1 k
  unfold num_Valid.f
  repeat' first
      | (with_reducible exact num_gcd.mono _ _ _)
      | (with_reducible exact LeO.refl _)
      | (with_reducible exact LeO.none _)
      | (with_reducible refine LeO.ite ?_ ?_)
      | (with_reducible refine LeO.bind ?_ (fun _ => ?_))
      | exact num_gcd.mono _ _ _
      | exact LeO.none _
      | refine LeO.ite ?_ ?_
      | refine LeO.bind ?_ (fun _ => ?_)
set_option maxHeartbeats 8000000 in
set_option maxRecDepth 100000 in
theorem num_Valid.calls (k : Nat) (a0_0 : Int) (a0_1 : Int) (r : Bool) (w : World) (h : num_Valid.f k a0_0 a0_1 = some r) :
    Calls Tryd.prog 26 #[.agg #[.int .i64 a0_0, .int .i64 a0_1]] w fun e w' => e = .returned (.bool r) ∧ Below w.heap.size w w' := by
  have hu23 := Tryd.underlying23
  have HB := Aside0.mk (Below.refl w.heap.size w)
  have H : (if a0_1 ≥ 1 then (if a0_1 ≤ 1048576 then (if a0_0 ≥ (-1099511627776) then (if a0_0 ≤ 1099511627776 then ((num_size.f a0_0).bind fun t116 => ((num_gcd.f k t116 (IntKind.u64.wrap (a0_1))).bind fun t117 => (some (t117 == 1)))) else (some false)) else (some false)) else (some false)) else (some false)) = some r := h
  clear h
  by_cases c2 : a0_1 ≥ 1
  · rw [if_pos c2] at H
    have c2b0 : decide (1 ≤ a0_1) = true := decide_eq_true c2
    clear c2
    by_cases c3 : a0_1 ≤ 1048576
    · rw [if_pos c3] at H
      have c3b0 : decide (a0_1 ≤ 1048576) = true := decide_eq_true c3
      clear c3
      by_cases c4 : a0_0 ≥ (-1099511627776)
      · rw [if_pos c4] at H
        have c4b0 : decide ((-1099511627776) ≤ a0_0) = true := decide_eq_true c4
        clear c4
        by_cases c5 : a0_0 ≤ 1099511627776
        · rw [if_pos c5] at H
          have c5b0 : decide (a0_0 ≤ 1099511627776) = true := decide_eq_true c5
          clear c5
          replace H := Option.bind_eq_some_iff.mp H
          obtain ⟨t116, A60, H⟩ := H
          replace H : ((num_gcd.f k t116 (IntKind.u64.wrap (a0_1))).bind fun t117 => (some (t117 == 1))) = some r := H
          have A6 := Aside0.mk A60
          clear A60
          replace H := Option.bind_eq_some_iff.mp H
          obtain ⟨t117, A70, H⟩ := H
          replace H : (some (t117 == 1)) = some r := H
          have A7 := Aside0.mk A70
          clear A70
          obtain rfl := Option.some.inj H
          go_enter Tryd.func26, Tryd.ntmps26
          go_wp2_with (first | ((with_reducible refine gate_dst (N := 1) rfl ?_); refine qx_ 1 #[.int .i64 a0_0, .int .i64 a0_1] 23 ?hr ?_; (case hr => first | (go_simp; done) | (go_simp; rfl)); intro gb115 hg w8 hbox hb; have n0_ := Aside0.mk (below_step (q0_ HB.out) hb); have n1_ := Aside0.mk (hbox); have n2_ := Aside0.mk (qs_ hg (q0_ HB.out) : w.heap.size ≤ gb115); have n3_ := n2_; clear HB; have HB := n0_; have BK115 := n1_; have GW115 := n2_; have GE115 := n3_; clear n0_ n1_ n2_ n3_; clear hb hbox hg; have hcz9_0 : w8.cell? ⟨gb115, 0, none⟩ = some (.int .i64 a0_0) := (blk_cell BK115.out 0).trans rfl; have hcz9_1 : w8.cell? ⟨gb115, 1, none⟩ = some (.int .i64 a0_1) := (blk_cell BK115.out 1).trans rfl; have hfz9_0 := blk_frozen BK115.out 0; have hfz9_1 := blk_frozen BK115.out 1) | (go_at_call 78; (with_reducible refine (num_size.calls a0_0 t116 _ A6.out).mono ?_); rintro e w' ⟨rfl, ⟨nd, rfl⟩⟩; (try first | exact ⟨rfl, _, World.drewN_drewN _ _ _⟩ | exact ⟨rfl, _, Eq.trans (World.drewN_drewN _ _ _) (congrArg (World.drewN _) (Nat.add_assoc _ _ _))⟩)) | (go_at_call 77; (with_reducible refine (num_gcd.calls k t116 (IntKind.u64.wrap (a0_1)) t117 _ A7.out).mono ?_); rintro e w' ⟨rfl, ⟨nd, rfl⟩⟩; (try first | exact ⟨rfl, _, World.drewN_drewN _ _ _⟩ | exact ⟨rfl, _, Eq.trans (World.drewN_drewN _ _ _) (congrArg (World.drewN _) (Nat.add_assoc _ _ _))⟩)))
          repeat (go_quiet (first | ((with_reducible refine gate_dst (N := 1) rfl ?_); refine qx_ 1 #[.int .i64 a0_0, .int .i64 a0_1] 23 ?hr ?_; (case hr => first | (go_simp; done) | (go_simp; rfl)); intro gb115 hg w8 hbox hb; have n0_ := Aside0.mk (below_step (q0_ HB.out) hb); have n1_ := Aside0.mk (hbox); have n2_ := Aside0.mk (qs_ hg (q0_ HB.out) : w.heap.size ≤ gb115); have n3_ := n2_; clear HB; have HB := n0_; have BK115 := n1_; have GW115 := n2_; have GE115 := n3_; clear n0_ n1_ n2_ n3_; clear hb hbox hg; have hcz9_0 : w8.cell? ⟨gb115, 0, none⟩ = some (.int .i64 a0_0) := (blk_cell BK115.out 0).trans rfl; have hcz9_1 : w8.cell? ⟨gb115, 1, none⟩ = some (.int .i64 a0_1) := (blk_cell BK115.out 1).trans rfl; have hfz9_0 := blk_frozen BK115.out 0; have hfz9_1 := blk_frozen BK115.out 1) | (go_at_call 78; (with_reducible refine (num_size.calls a0_0 t116 _ A6.out).mono ?_); rintro e w' ⟨rfl, ⟨nd, rfl⟩⟩; (try first | exact ⟨rfl, _, World.drewN_drewN _ _ _⟩ | exact ⟨rfl, _, Eq.trans (World.drewN_drewN _ _ _) (congrArg (World.drewN _) (Nat.add_assoc _ _ _))⟩)) | (go_at_call 77; (with_reducible refine (num_gcd.calls k t116 (IntKind.u64.wrap (a0_1)) t117 _ A7.out).mono ?_); rintro e w' ⟨rfl, ⟨nd, rfl⟩⟩; (try first | exact ⟨rfl, _, World.drewN_drewN _ _ _⟩ | exact ⟨rfl, _, Eq.trans (World.drewN_drewN _ _ _) (congrArg (World.drewN _) (Nat.add_assoc _ _ _))⟩))); try go_wp2_with (first | ((with_reducible refine gate_dst (N := 1) rfl ?_); refine qx_ 1 #[.int .i64 a0_0, .int .i64 a0_1] 23 ?hr ?_; (case hr => first | (go_simp; done) | (go_simp; rfl)); intro gb115 hg w8 hbox hb; have n0_ := Aside0.mk (below_step (q0_ HB.out) hb); have n1_ := Aside0.mk (hbox); have n2_ := Aside0.mk (qs_ hg (q0_ HB.out) : w.heap.size ≤ gb115); have n3_ := n2_; clear HB; have HB := n0_; have BK115 := n1_; have GW115 := n2_; have GE115 := n3_; clear n0_ n1_ n2_ n3_; clear hb hbox hg; have hcz9_0 : w8.cell? ⟨gb115, 0, none⟩ = some (.int .i64 a0_0) := (blk_cell BK115.out 0).trans rfl; have hcz9_1 : w8.cell? ⟨gb115, 1, none⟩ = some (.int .i64 a0_1) := (blk_cell BK115.out 1).trans rfl; have hfz9_0 := blk_frozen BK115.out 0; have hfz9_1 := blk_frozen BK115.out 1) | (go_at_call 78; (with_reducible refine (num_size.calls a0_0 t116 _ A6.out).mono ?_); rintro e w' ⟨rfl, ⟨nd, rfl⟩⟩; (try first | exact ⟨rfl, _, World.drewN_drewN _ _ _⟩ | exact ⟨rfl, _, Eq.trans (World.drewN_drewN _ _ _) (congrArg (World.drewN _) (Nat.add_assoc _ _ _))⟩)) | (go_at_call 77; (with_reducible refine (num_gcd.calls k t116 (IntKind.u64.wrap (a0_1)) t117 _ A7.out).mono ?_); rintro e w' ⟨rfl, ⟨nd, rfl⟩⟩; (try first | exact ⟨rfl, _, World.drewN_drewN _ _ _⟩ | exact ⟨rfl, _, Eq.trans (World.drewN_drewN _ _ _) (congrArg (World.drewN _) (Nat.add_assoc _ _ _))⟩))))
          go_ret
          exact ⟨by first | rfl | (simp [errW_none, errW_some] <;> rfl) | (simp [*, errW_none, errW_some] <;> rfl), (q1_ HB.out GE115.out)⟩
        · rw [if_neg c5] at H
          have c5b0 : decide (a0_0 ≤ 1099511627776) = false := decide_eq_false c5
          clear c5
          obtain rfl := Option.some.inj H
          go_enter Tryd.func26, Tryd.ntmps26
          go_wp2_with (first | ((with_reducible refine gate_dst (N := 1) rfl ?_); refine qx_ 1 #[.int .i64 a0_0, .int .i64 a0_1] 23 ?hr ?_; (case hr => first | (go_simp; done) | (go_simp; rfl)); intro gb115 hg w10 hbox hb; have n0_ := Aside0.mk (below_step (q0_ HB.out) hb); have n1_ := Aside0.mk (hbox); have n2_ := Aside0.mk (qs_ hg (q0_ HB.out) : w.heap.size ≤ gb115); have n3_ := n2_; clear HB; have HB := n0_; have BK115 := n1_; have GW115 := n2_; have GE115 := n3_; clear n0_ n1_ n2_ n3_; clear hb hbox hg; have hcz11_0 : w10.cell? ⟨gb115, 0, none⟩ = some (.int .i64 a0_0) := (blk_cell BK115.out 0).trans rfl; have hcz11_1 : w10.cell? ⟨gb115, 1, none⟩ = some (.int .i64 a0_1) := (blk_cell BK115.out 1).trans rfl; have hfz11_0 := blk_frozen BK115.out 0; have hfz11_1 := blk_frozen BK115.out 1))
          repeat (go_quiet (first | ((with_reducible refine gate_dst (N := 1) rfl ?_); refine qx_ 1 #[.int .i64 a0_0, .int .i64 a0_1] 23 ?hr ?_; (case hr => first | (go_simp; done) | (go_simp; rfl)); intro gb115 hg w10 hbox hb; have n0_ := Aside0.mk (below_step (q0_ HB.out) hb); have n1_ := Aside0.mk (hbox); have n2_ := Aside0.mk (qs_ hg (q0_ HB.out) : w.heap.size ≤ gb115); have n3_ := n2_; clear HB; have HB := n0_; have BK115 := n1_; have GW115 := n2_; have GE115 := n3_; clear n0_ n1_ n2_ n3_; clear hb hbox hg; have hcz11_0 : w10.cell? ⟨gb115, 0, none⟩ = some (.int .i64 a0_0) := (blk_cell BK115.out 0).trans rfl; have hcz11_1 : w10.cell? ⟨gb115, 1, none⟩ = some (.int .i64 a0_1) := (blk_cell BK115.out 1).trans rfl; have hfz11_0 := blk_frozen BK115.out 0; have hfz11_1 := blk_frozen BK115.out 1)); try go_wp2_with (first | ((with_reducible refine gate_dst (N := 1) rfl ?_); refine qx_ 1 #[.int .i64 a0_0, .int .i64 a0_1] 23 ?hr ?_; (case hr => first | (go_simp; done) | (go_simp; rfl)); intro gb115 hg w10 hbox hb; have n0_ := Aside0.mk (below_step (q0_ HB.out) hb); have n1_ := Aside0.mk (hbox); have n2_ := Aside0.mk (qs_ hg (q0_ HB.out) : w.heap.size ≤ gb115); have n3_ := n2_; clear HB; have HB := n0_; have BK115 := n1_; have GW115 := n2_; have GE115 := n3_; clear n0_ n1_ n2_ n3_; clear hb hbox hg; have hcz11_0 : w10.cell? ⟨gb115, 0, none⟩ = some (.int .i64 a0_0) := (blk_cell BK115.out 0).trans rfl; have hcz11_1 : w10.cell? ⟨gb115, 1, none⟩ = some (.int .i64 a0_1) := (blk_cell BK115.out 1).trans rfl; have hfz11_0 := blk_frozen BK115.out 0; have hfz11_1 := blk_frozen BK115.out 1)))
          go_ret
          exact ⟨by first | rfl | (simp [errW_none, errW_some] <;> rfl) | (simp [*, errW_none, errW_some] <;> rfl), (q1_ HB.out GE115.out)⟩
      · rw [if_neg c4] at H
        have c4b0 : decide ((-1099511627776) ≤ a0_0) = false := decide_eq_false c4
        clear c4
        obtain rfl := Option.some.inj H
        go_enter Tryd.func26, Tryd.ntmps26
        go_wp2_with (first | ((with_reducible refine gate_dst (N := 1) rfl ?_); refine qx_ 1 #[.int .i64 a0_0, .int .i64 a0_1] 23 ?hr ?_; (case hr => first | (go_simp; done) | (go_simp; rfl)); intro gb115 hg w12 hbox hb; have n0_ := Aside0.mk (below_step (q0_ HB.out) hb); have n1_ := Aside0.mk (hbox); have n2_ := Aside0.mk (qs_ hg (q0_ HB.out) : w.heap.size ≤ gb115); have n3_ := n2_; clear HB; have HB := n0_; have BK115 := n1_; have GW115 := n2_; have GE115 := n3_; clear n0_ n1_ n2_ n3_; clear hb hbox hg; have hcz13_0 : w12.cell? ⟨gb115, 0, none⟩ = some (.int .i64 a0_0) := (blk_cell BK115.out 0).trans rfl; have hcz13_1 : w12.cell? ⟨gb115, 1, none⟩ = some (.int .i64 a0_1) := (blk_cell BK115.out 1).trans rfl; have hfz13_0 := blk_frozen BK115.out 0; have hfz13_1 := blk_frozen BK115.out 1))
        repeat (go_quiet (first | ((with_reducible refine gate_dst (N := 1) rfl ?_); refine qx_ 1 #[.int .i64 a0_0, .int .i64 a0_1] 23 ?hr ?_; (case hr => first | (go_simp; done) | (go_simp; rfl)); intro gb115 hg w12 hbox hb; have n0_ := Aside0.mk (below_step (q0_ HB.out) hb); have n1_ := Aside0.mk (hbox); have n2_ := Aside0.mk (qs_ hg (q0_ HB.out) : w.heap.size ≤ gb115); have n3_ := n2_; clear HB; have HB := n0_; have BK115 := n1_; have GW115 := n2_; have GE115 := n3_; clear n0_ n1_ n2_ n3_; clear hb hbox hg; have hcz13_0 : w12.cell? ⟨gb115, 0, none⟩ = some (.int .i64 a0_0) := (blk_cell BK115.out 0).trans rfl; have hcz13_1 : w12.cell? ⟨gb115, 1, none⟩ = some (.int .i64 a0_1) := (blk_cell BK115.out 1).trans rfl; have hfz13_0 := blk_frozen BK115.out 0; have hfz13_1 := blk_frozen BK115.out 1)); try go_wp2_with (first | ((with_reducible refine gate_dst (N := 1) rfl ?_); refine qx_ 1 #[.int .i64 a0_0, .int .i64 a0_1] 23 ?hr ?_; (case hr => first | (go_simp; done) | (go_simp; rfl)); intro gb115 hg w12 hbox hb; have n0_ := Aside0.mk (below_step (q0_ HB.out) hb); have n1_ := Aside0.mk (hbox); have n2_ := Aside0.mk (qs_ hg (q0_ HB.out) : w.heap.size ≤ gb115); have n3_ := n2_; clear HB; have HB := n0_; have BK115 := n1_; have GW115 := n2_; have GE115 := n3_; clear n0_ n1_ n2_ n3_; clear hb hbox hg; have hcz13_0 : w12.cell? ⟨gb115, 0, none⟩ = some (.int .i64 a0_0) := (blk_cell BK115.out 0).trans rfl; have hcz13_1 : w12.cell? ⟨gb115, 1, none⟩ = some (.int .i64 a0_1) := (blk_cell BK115.out 1).trans rfl; have hfz13_0 := blk_frozen BK115.out 0; have hfz13_1 := blk_frozen BK115.out 1)))
        go_ret
        exact ⟨by first | rfl | (simp [errW_none, errW_some] <;> rfl) | (simp [*, errW_none, errW_some] <;> rfl), (q1_ HB.out GE115.out)⟩
    · rw [if_neg c3] at H
      have c3b0 : decide (a0_1 ≤ 1048576) = false := decide_eq_false c3
      clear c3
      obtain rfl := Option.some.inj H
      go_enter Tryd.func26, Tryd.ntmps26
      go_wp2_with (first | ((with_reducible refine gate_dst (N := 1) rfl ?_); refine qx_ 1 #[.int .i64 a0_0, .int .i64 a0_1] 23 ?hr ?_; (case hr => first | (go_simp; done) | (go_simp; rfl)); intro gb115 hg w14 hbox hb; have n0_ := Aside0.mk (below_step (q0_ HB.out) hb); have n1_ := Aside0.mk (hbox); have n2_ := Aside0.mk (qs_ hg (q0_ HB.out) : w.heap.size ≤ gb115); have n3_ := n2_; clear HB; have HB := n0_; have BK115 := n1_; have GW115 := n2_; have GE115 := n3_; clear n0_ n1_ n2_ n3_; clear hb hbox hg; have hcz15_0 : w14.cell? ⟨gb115, 0, none⟩ = some (.int .i64 a0_0) := (blk_cell BK115.out 0).trans rfl; have hcz15_1 : w14.cell? ⟨gb115, 1, none⟩ = some (.int .i64 a0_1) := (blk_cell BK115.out 1).trans rfl; have hfz15_0 := blk_frozen BK115.out 0; have hfz15_1 := blk_frozen BK115.out 1))
      repeat (go_quiet (first | ((with_reducible refine gate_dst (N := 1) rfl ?_); refine qx_ 1 #[.int .i64 a0_0, .int .i64 a0_1] 23 ?hr ?_; (case hr => first | (go_simp; done) | (go_simp; rfl)); intro gb115 hg w14 hbox hb; have n0_ := Aside0.mk (below_step (q0_ HB.out) hb); have n1_ := Aside0.mk (hbox); have n2_ := Aside0.mk (qs_ hg (q0_ HB.out) : w.heap.size ≤ gb115); have n3_ := n2_; clear HB; have HB := n0_; have BK115 := n1_; have GW115 := n2_; have GE115 := n3_; clear n0_ n1_ n2_ n3_; clear hb hbox hg; have hcz15_0 : w14.cell? ⟨gb115, 0, none⟩ = some (.int .i64 a0_0) := (blk_cell BK115.out 0).trans rfl; have hcz15_1 : w14.cell? ⟨gb115, 1, none⟩ = some (.int .i64 a0_1) := (blk_cell BK115.out 1).trans rfl; have hfz15_0 := blk_frozen BK115.out 0; have hfz15_1 := blk_frozen BK115.out 1)); try go_wp2_with (first | ((with_reducible refine gate_dst (N := 1) rfl ?_); refine qx_ 1 #[.int .i64 a0_0, .int .i64 a0_1] 23 ?hr ?_; (case hr => first | (go_simp; done) | (go_simp; rfl)); intro gb115 hg w14 hbox hb; have n0_ := Aside0.mk (below_step (q0_ HB.out) hb); have n1_ := Aside0.mk (hbox); have n2_ := Aside0.mk (qs_ hg (q0_ HB.out) : w.heap.size ≤ gb115); have n3_ := n2_; clear HB; have HB := n0_; have BK115 := n1_; have GW115 := n2_; have GE115 := n3_; clear n0_ n1_ n2_ n3_; clear hb hbox hg; have hcz15_0 : w14.cell? ⟨gb115, 0, none⟩ = some (.int .i64 a0_0) := (blk_cell BK115.out 0).trans rfl; have hcz15_1 : w14.cell? ⟨gb115, 1, none⟩ = some (.int .i64 a0_1) := (blk_cell BK115.out 1).trans rfl; have hfz15_0 := blk_frozen BK115.out 0; have hfz15_1 := blk_frozen BK115.out 1)))
      go_ret
      exact ⟨by first | rfl | (simp [errW_none, errW_some] <;> rfl) | (simp [*, errW_none, errW_some] <;> rfl), (q1_ HB.out GE115.out)⟩
  · rw [if_neg c2] at H
    have c2b0 : decide (1 ≤ a0_1) = false := decide_eq_false c2
    clear c2
    obtain rfl := Option.some.inj H
    go_enter Tryd.func26, Tryd.ntmps26
    go_wp2_with (first | ((with_reducible refine gate_dst (N := 1) rfl ?_); refine qx_ 1 #[.int .i64 a0_0, .int .i64 a0_1] 23 ?hr ?_; (case hr => first | (go_simp; done) | (go_simp; rfl)); intro gb115 hg w16 hbox hb; have n0_ := Aside0.mk (below_step (q0_ HB.out) hb); have n1_ := Aside0.mk (hbox); have n2_ := Aside0.mk (qs_ hg (q0_ HB.out) : w.heap.size ≤ gb115); have n3_ := n2_; clear HB; have HB := n0_; have BK115 := n1_; have GW115 := n2_; have GE115 := n3_; clear n0_ n1_ n2_ n3_; clear hb hbox hg; have hcz17_0 : w16.cell? ⟨gb115, 0, none⟩ = some (.int .i64 a0_0) := (blk_cell BK115.out 0).trans rfl; have hcz17_1 : w16.cell? ⟨gb115, 1, none⟩ = some (.int .i64 a0_1) := (blk_cell BK115.out 1).trans rfl; have hfz17_0 := blk_frozen BK115.out 0; have hfz17_1 := blk_frozen BK115.out 1))
    repeat (go_quiet (first | ((with_reducible refine gate_dst (N := 1) rfl ?_); refine qx_ 1 #[.int .i64 a0_0, .int .i64 a0_1] 23 ?hr ?_; (case hr => first | (go_simp; done) | (go_simp; rfl)); intro gb115 hg w16 hbox hb; have n0_ := Aside0.mk (below_step (q0_ HB.out) hb); have n1_ := Aside0.mk (hbox); have n2_ := Aside0.mk (qs_ hg (q0_ HB.out) : w.heap.size ≤ gb115); have n3_ := n2_; clear HB; have HB := n0_; have BK115 := n1_; have GW115 := n2_; have GE115 := n3_; clear n0_ n1_ n2_ n3_; clear hb hbox hg; have hcz17_0 : w16.cell? ⟨gb115, 0, none⟩ = some (.int .i64 a0_0) := (blk_cell BK115.out 0).trans rfl; have hcz17_1 : w16.cell? ⟨gb115, 1, none⟩ = some (.int .i64 a0_1) := (blk_cell BK115.out 1).trans rfl; have hfz17_0 := blk_frozen BK115.out 0; have hfz17_1 := blk_frozen BK115.out 1)); try go_wp2_with (first | ((with_reducible refine gate_dst (N := 1) rfl ?_); refine qx_ 1 #[.int .i64 a0_0, .int .i64 a0_1] 23 ?hr ?_; (case hr => first | (go_simp; done) | (go_simp; rfl)); intro gb115 hg w16 hbox hb; have n0_ := Aside0.mk (below_step (q0_ HB.out) hb); have n1_ := Aside0.mk (hbox); have n2_ := Aside0.mk (qs_ hg (q0_ HB.out) : w.heap.size ≤ gb115); have n3_ := n2_; clear HB; have HB := n0_; have BK115 := n1_; have GW115 := n2_; have GE115 := n3_; clear n0_ n1_ n2_ n3_; clear hb hbox hg; have hcz17_0 : w16.cell? ⟨gb115, 0, none⟩ = some (.int .i64 a0_0) := (blk_cell BK115.out 0).trans rfl; have hcz17_1 : w16.cell? ⟨gb115, 1, none⟩ = some (.int .i64 a0_1) := (blk_cell BK115.out 1).trans rfl; have hfz17_0 := blk_frozen BK115.out 0; have hfz17_1 := blk_frozen BK115.out 1)))
    go_ret
    exact ⟨by first | rfl | (simp [errW_none, errW_some] <;> rfl) | (simp [*, errW_none, errW_some] <;> rfl), (q1_ HB.out GE115.out)⟩
end Go.Proofs.YtdjnneflpkllmaaDoor.Q

namespace Go.Proofs.Num
open Go.RowKit Go.Proofs.YtdjnneflpkllmaaDoorW.PrintWords Go.Proofs.YtdjnneflpkllmaaDoor.Q
set_option linter.unusedVariables false
set_option linter.unusedSimpArgs false
theorem w64 {x : Int} (h0 : -9223372036854775808 ≤ x) (h1 : x ≤ 9223372036854775807) : wrap64 x = x := by unfold wrap64; omega
theorem wu {x : Int} (h0 : 0 ≤ x) (h1 : x ≤ 18446744073709551615) : IntKind.u64.wrap x = x := by
  simp [IntKind.wrap, IntKind.bits, IntKind.signed]
  omega
theorem size_ok {a : Int} (h0 : -9223372036854775808 ≤ a) (h1 : a ≤ 9223372036854775807) : num_size.f a = some (a.natAbs : Int) := by
  unfold num_size.f
  by_cases h : a < 0
  · rw [if_pos h]
    congr 1
    simp [IntKind.wrap, IntKind.bits, IntKind.signed]
    omega
  · rw [if_neg h, wu (by omega) (by omega)]
    congr 1
    omega
theorem tmod_nat (a b : Nat) : Int.tmod (a : Int) (b : Int) = ((a % b : Nat) : Int) := by
  exact Int.ofNat_tmod a b
theorem gcd_l0 : ∀ (b a : Nat), Ev (fun k => num_gcd.l0 k (a : Int) (b : Int)) (Nat.gcd a b : Int) := by
  intro b
  induction b using Nat.strongRecOn with
  | ind b ih =>
    intro a
    by_cases h : b = 0
    · subst h
      refine Ev.step (f := fun _ => some (a : Int)) (fun k => by simp [num_gcd.l0]) ?_
      rw [Nat.gcd_zero_right]
      exact Ev.now _
    · refine Ev.step (f := fun k => num_gcd.l0 k (b : Int) ((a % b : Nat) : Int)) (fun k => by rw [num_gcd.l0, if_neg (by omega), tmod_nat]) ?_
      have := ih (a % b) (Nat.mod_lt _ (by omega)) b
      rw [Nat.gcd_comm b, ← Nat.gcd_rec, Nat.gcd_comm] at this
      exact this
theorem gcd_ok (a b : Nat) : Ev (fun k => num_gcd.f k (a : Int) (b : Int)) (Nat.gcd a b : Int) := gcd_l0 b a
/-- A valid fraction. -/
def valid (n d : Int) : Prop := 1 ≤ d ∧ d ≤ 1048576 ∧ -1099511627776 ≤ n ∧ n ≤ 1099511627776 ∧ Nat.gcd n.natAbs d.natAbs = 1
instance (n d : Int) : Decidable (valid n d) := by unfold valid; infer_instance
theorem valid_ok (n d : Int) : Ev (fun k => num_Valid.f k n d) (decide (valid n d)) := by
  unfold num_Valid.f
  by_cases h1 : d ≥ 1
  · by_cases h2 : d ≤ 1048576
    · by_cases h3 : n ≥ -1099511627776
      · by_cases h4 : n ≤ 1099511627776
        · simp only [if_pos h1, if_pos h2, if_pos h3, if_pos h4, size_ok (by omega : -9223372036854775808 ≤ n) (by omega), Option.bind_some]
          have e : IntKind.u64.wrap d = (d.natAbs : Int) := by rw [wu (by omega) (by omega)]; omega
          rw [e]
          refine Ev.bind (gcd_ok _ _) ?_
          have : ((Nat.gcd n.natAbs d.natAbs : Int) == 1) = decide (valid n d) := by
            by_cases hg : Nat.gcd n.natAbs d.natAbs = 1
            · rw [decide_eq_true (show valid n d from ⟨h1, h2, h3, h4, hg⟩), hg]; rfl
            · rw [decide_eq_false (fun h : valid n d => hg h.2.2.2.2)]
              exact beq_eq_false_iff_ne.mpr (by omega)
          rw [this]
          exact Ev.now _
        · simp only [if_pos h1, if_pos h2, if_pos h3, if_neg h4]
          rw [decide_eq_false (fun h => h4 h.2.2.2.1)]
          exact Ev.now _
      · simp only [if_pos h1, if_pos h2, if_neg h3]
        rw [decide_eq_false (fun h => h3 h.2.2.1)]
        exact Ev.now _
    · simp only [if_pos h1, if_neg h2]
      rw [decide_eq_false (fun h => h2 h.2.1)]
      exact Ev.now _
  · simp only [if_neg h1]
    rw [decide_eq_false (fun h => h1 h.1)]
    exact Ev.now _
end Go.Proofs.Num

namespace Go.Proofs.YtdjnneflpkllmaaDoor.Q
open Go.RowKit Go.Proofs.YtdjnneflpkllmaaDoorW.PrintWords Go.Proofs.YtdjnneflpkllmaaDoorW.PrintLast Go.Proofs.YtdjnneflpkllmaaDoorW.PrintMore
attribute [local go_sem] max2_int min2_int max_two min_two max_three min_three max_four min_four   -- for this text's walks alone
set_option linter.unusedVariables false
set_option linter.unusedSimpArgs false
def merinoref01_Neg.f (k : Nat) (a0_0 : Bool) (l0_1 : List Int) : Option (Bool × List Int) := (merinoref01_whole.f k (!a0_0) l0_1).bind fun bt215 => (some (bt215.1, bt215.2))
theorem merinoref01_Neg.mono : ∀ a0 a1 k, LeO (merinoref01_Neg.f k a0 a1) (merinoref01_Neg.f (k + 1) a0 a1) := by
  intro a0 a1 k
  unfold merinoref01_Neg.f
  repeat' first
      | (with_reducible exact merinoref01_whole.mono _ _ _)
      | (with_reducible exact LeO.refl _)
      | (with_reducible exact LeO.none _)
      | (with_reducible refine LeO.ite ?_ ?_)
      | (with_reducible refine LeO.bind ?_ (fun _ => ?_))
      | exact merinoref01_whole.mono _ _ _
      | exact LeO.none _
      | refine LeO.ite ?_ ?_
      | refine LeO.bind ?_ (fun _ => ?_)
def merinolaw01_before.f (k : Nat) (a0 : Int) (a1 : Int) (a2 : Int) (a3 : Int) : Option (Bool) := (merinoref01_Of.f k a0).bind fun bt548 => ((merinoref01_Of.f k a3).bind fun bt552 => ((merinoref01_Times.f k bt548.1 bt548.2 bt552.1 bt552.2).bind fun bt556 => ((merinoref01_Of.f k a2).bind fun bt560 => ((merinoref01_Of.f k a1).bind fun bt564 => ((merinoref01_Times.f k bt560.1 bt560.2 bt564.1 bt564.2).bind fun bt568 => ((merinoref01_Compare.f k bt556.1 bt556.2 bt568.1 bt568.2).bind fun t572 => (some (decide (t572 < 0)))))))))
theorem merinolaw01_before.mono : ∀ a0 a1 a2 a3 k, LeO (merinolaw01_before.f k a0 a1 a2 a3) (merinolaw01_before.f (k + 1) a0 a1 a2 a3) := by
  intro a0 a1 a2 a3 k
  unfold merinolaw01_before.f
  repeat' first
      | (with_reducible exact merinoref01_Compare.mono _ _ _ _ _)
      | (with_reducible exact merinoref01_Of.mono _ _)
      | (with_reducible exact merinoref01_Times.mono _ _ _ _ _)
      | (with_reducible exact LeO.refl _)
      | (with_reducible exact LeO.none _)
      | (with_reducible refine LeO.ite ?_ ?_)
      | (with_reducible refine LeO.bind ?_ (fun _ => ?_))
      | exact merinoref01_Compare.mono _ _ _ _ _
      | exact merinoref01_Of.mono _ _
      | exact merinoref01_Times.mono _ _ _ _ _
      | exact LeO.none _
      | refine LeO.ite ?_ ?_
      | refine LeO.bind ?_ (fun _ => ?_)
def merinolaw01_distance.f (k : Nat) (a0 : Int) : Option (Bool × List Int) := (merinoref01_Of.f k a0).bind fun bt574 => (if bt574.1 = true then ((merinoref01_Neg.f k bt574.1 bt574.2).bind fun bt579 => (some (bt579.1, bt579.2))) else (some (bt574.1, bt574.2)))
theorem merinolaw01_distance.mono : ∀ a0 k, LeO (merinolaw01_distance.f k a0) (merinolaw01_distance.f (k + 1) a0) := by
  intro a0 k
  unfold merinolaw01_distance.f
  repeat' first
      | (with_reducible exact merinoref01_Neg.mono _ _ _)
      | (with_reducible exact merinoref01_Of.mono _ _)
      | (with_reducible exact LeO.refl _)
      | (with_reducible exact LeO.none _)
      | (with_reducible refine LeO.ite ?_ ?_)
      | (with_reducible refine LeO.bind ?_ (fun _ => ?_))
      | exact merinoref01_Neg.mono _ _ _
      | exact merinoref01_Of.mono _ _
      | exact LeO.none _
      | refine LeO.ite ?_ ?_
      | refine LeO.bind ?_ (fun _ => ?_)
end Go.Proofs.YtdjnneflpkllmaaDoor.Q

namespace Go.Proofs.YtdjnneflpkllmaaDoor.Q
open Go.RowKit Go.Proofs.YtdjnneflpkllmaaDoorW.PrintWords Go.Proofs.YtdjnneflpkllmaaDoorW.PrintLast Go.Proofs.YtdjnneflpkllmaaDoorW.PrintMore
attribute [local go_sem] max2_int min2_int max_two min_two max_three min_three max_four min_four   -- for this text's walks alone
set_option linter.unusedVariables false
set_option linter.unusedSimpArgs false
end Go.Proofs.YtdjnneflpkllmaaDoor.Q

namespace Go.Proofs.YtdjnneflpkllmaaDoor.Q
open Go.RowKit Go.Proofs.YtdjnneflpkllmaaDoorW.PrintWords Go.Proofs.YtdjnneflpkllmaaDoorW.PrintLast Go.Proofs.YtdjnneflpkllmaaDoorW.PrintMore
attribute [local go_sem] max2_int min2_int max_two min_two max_three min_three max_four min_four   -- for this text's walks alone
set_option linter.unusedVariables false
set_option linter.unusedSimpArgs false
def merinoref01_Lowest.f (k : Nat) (a0_0 : Bool) (l0_1 : List Int) (a1_0 : Bool) (l1_1 : List Int) : Option (Int × Int × Int) := if a1_0 = true then ((merinoref01_Neg.f k a0_0 l0_1).bind fun bn => ((merinoref01_Neg.f k true l1_1).bind fun bd => merinoref01_Lowest.core k bn.1 bn.2 bd.1 bd.2)) else merinoref01_Lowest.core k a0_0 l0_1 false l1_1
theorem merinoref01_Lowest.mono : ∀ a0 a1 a2 a3 k, LeO (merinoref01_Lowest.f k a0 a1 a2 a3) (merinoref01_Lowest.f (k + 1) a0 a1 a2 a3) := by
  intro a0 a1 a2 a3 k
  unfold merinoref01_Lowest.f
  exact LeO.ite (LeO.bind (merinoref01_Neg.mono _ _ _) (fun _ => LeO.bind (merinoref01_Neg.mono _ _ _) (fun _ => merinoref01_Lowest.core_mono _ _ _ _ k))) (merinoref01_Lowest.core_mono _ _ _ _ k)
end Go.Proofs.YtdjnneflpkllmaaDoor.Q

namespace Go.Proofs.YtdjnneflpkllmaaDoor.Q
open Go.RowKit Go.Proofs.YtdjnneflpkllmaaDoorW.PrintWords Go.Proofs.YtdjnneflpkllmaaDoorW.PrintLast Go.Proofs.YtdjnneflpkllmaaDoorW.PrintMore
attribute [local go_sem] max2_int min2_int max_two min_two max_three min_three max_four min_four   -- for this text's walks alone
set_option linter.unusedVariables false
set_option linter.unusedSimpArgs false
def num_made.j0 : Nat → Bool → Int → Int → Bool → Option (Int × Int × Int)
  | 0, _, _, _, _ => none
  | k + 1, x0, x1, x2, x23 => if x23 = true then (some (0, 0, 4)) else (if x0 = true then (some (wrap64 (-(wrap64 (x1))), wrap64 (x2), 0)) else (some (wrap64 (x1), wrap64 (x2), 0)))
def num_made.f (k : Nat) (a0 : Bool) (a1 : Int) (a2 : Int) : Option (Int × Int × Int) := (num_gcd.f k a1 a2).bind fun t365 => (if t365 = 0 then (none) else (if (IntKind.u64.wrap (Int.tdiv a1 t365)) > 1099511627776 then (num_made.j0 k a0 (IntKind.u64.wrap (Int.tdiv a1 t365)) (IntKind.u64.wrap (Int.tdiv a2 t365)) true) else (num_made.j0 k a0 (IntKind.u64.wrap (Int.tdiv a1 t365)) (IntKind.u64.wrap (Int.tdiv a2 t365)) (decide ((IntKind.u64.wrap (Int.tdiv a2 t365)) > 1048576)))))
theorem num_made.mono_l : ∀ k, (∀ y0 y1 y2 y3, LeO (num_made.j0 k y0 y1 y2 y3) (num_made.j0 (k + 1) y0 y1 y2 y3))
  | 0 => fun _ _ _ _ r h => by simp [num_made.j0] at h
  | k + 1 => by
    have ih0 := num_made.mono_l k
    · intro y0 y1 y2 y3
      unfold num_made.j0
      repeat' first
      | (with_reducible exact ih0 _ _ _ _)
      | (with_reducible exact num_gcd.mono _ _ _)
      | (with_reducible exact LeO.refl _)
      | (with_reducible exact LeO.none _)
      | (with_reducible refine LeO.ite ?_ ?_)
      | (with_reducible refine LeO.bind ?_ (fun _ => ?_))
      | exact ih0 _ _ _ _
      | exact num_gcd.mono _ _ _
      | exact LeO.none _
      | refine LeO.ite ?_ ?_
      | refine LeO.bind ?_ (fun _ => ?_)
theorem num_made.mono : ∀ a0 a1 a2 k, LeO (num_made.f k a0 a1 a2) (num_made.f (k + 1) a0 a1 a2) := by
  intro a0 a1 a2 k
  have ih0 := num_made.mono_l k
  unfold num_made.f
  repeat' first
      | (with_reducible exact ih0 _ _ _ _)
      | (with_reducible exact num_gcd.mono _ _ _)
      | (with_reducible exact LeO.refl _)
      | (with_reducible exact LeO.none _)
      | (with_reducible refine LeO.ite ?_ ?_)
      | (with_reducible refine LeO.bind ?_ (fun _ => ?_))
      | exact ih0 _ _ _ _
      | exact num_gcd.mono _ _ _
      | exact LeO.none _
      | refine LeO.ite ?_ ?_
      | refine LeO.bind ?_ (fun _ => ?_)
set_option maxHeartbeats 8000000 in
set_option maxRecDepth 100000 in
theorem num_made.calls (k : Nat) (a0 : Bool) (a1 : Int) (a2 : Int) (r1 : Int) (r2 : Int) (r3 : Int) (w : World) (h : num_made.f k a0 a1 a2 = some (r1, r2, r3)) :
    Calls Tryd.prog 79 #[.bool a0, .int .u64 a1, .int .u64 a2] w fun e w' => e = .returned (.tuple #[.agg #[.int .i64 r1, .int .i64 r2], .int .i64 r3]) ∧ Below w.heap.size w w' := by
  have hu23 := Tryd.underlying23
  have HB := Aside0.mk (Below.refl w.heap.size w)
  have H : ((num_gcd.f k a1 a2).bind fun t365 => (if t365 = 0 then (none) else (if (IntKind.u64.wrap (Int.tdiv a1 t365)) > 1099511627776 then (num_made.j0 k a0 (IntKind.u64.wrap (Int.tdiv a1 t365)) (IntKind.u64.wrap (Int.tdiv a2 t365)) true) else (num_made.j0 k a0 (IntKind.u64.wrap (Int.tdiv a1 t365)) (IntKind.u64.wrap (Int.tdiv a2 t365)) (decide ((IntKind.u64.wrap (Int.tdiv a2 t365)) > 1048576)))))) = some (r1, r2, r3) := h
  clear h
  replace H := Option.bind_eq_some_iff.mp H
  obtain ⟨t365, A40, H⟩ := H
  replace H : (if t365 = 0 then (none) else (if (IntKind.u64.wrap (Int.tdiv a1 t365)) > 1099511627776 then (num_made.j0 k a0 (IntKind.u64.wrap (Int.tdiv a1 t365)) (IntKind.u64.wrap (Int.tdiv a2 t365)) true) else (num_made.j0 k a0 (IntKind.u64.wrap (Int.tdiv a1 t365)) (IntKind.u64.wrap (Int.tdiv a2 t365)) (decide ((IntKind.u64.wrap (Int.tdiv a2 t365)) > 1048576))))) = some (r1, r2, r3) := H
  have A4 := Aside0.mk A40
  clear A40
  by_cases c5 : t365 = 0
  · rw [if_pos c5] at H
    exact absurd H (by simp)
  · rw [if_neg c5] at H
    have c5b0 : (t365 == 0) = false := beq_eq_false_iff_ne.mpr c5
    have c5b1 : (t365 != 0) = true := bne_iff_ne.mpr c5
    have HC6 := Aside0.mk H
    clear H
    go_enter Tryd.func79, Tryd.ntmps79
    go_upto_region 3 with (first | ((with_reducible refine gate_dst (N := 6) rfl ?_); refine qx_ 6 #[.int .i64 0, .int .i64 0] 23 ?hr ?_; (case hr => first | (go_simp; done) | (go_simp; rfl)); intro gb364 hg w7 hbox hb; have n0_ := Aside0.mk (below_step (q0_ HB.out) hb); have n1_ := Aside0.mk (hbox); have n2_ := Aside0.mk (qs_ hg (q0_ HB.out) : w.heap.size ≤ gb364); have n3_ := n2_; clear HB; have HB := n0_; have BK364 := n1_; have GW364 := n2_; have GE364 := n3_; clear n0_ n1_ n2_ n3_; clear hb hbox hg) | (go_at_call 77; (with_reducible refine (num_gcd.calls k a1 a2 t365 _ A4.out).mono ?_); rintro e w' ⟨rfl, ⟨nd, rfl⟩⟩; (try first | exact ⟨rfl, _, World.drewN_drewN _ _ _⟩ | exact ⟨rfl, _, Eq.trans (World.drewN_drewN _ _ _) (congrArg (World.drewN _) (Nat.add_assoc _ _ _))⟩)))
    repeat (go_quiet (first | ((with_reducible refine gate_dst (N := 6) rfl ?_); refine qx_ 6 #[.int .i64 0, .int .i64 0] 23 ?hr ?_; (case hr => first | (go_simp; done) | (go_simp; rfl)); intro gb364 hg w7 hbox hb; have n0_ := Aside0.mk (below_step (q0_ HB.out) hb); have n1_ := Aside0.mk (hbox); have n2_ := Aside0.mk (qs_ hg (q0_ HB.out) : w.heap.size ≤ gb364); have n3_ := n2_; clear HB; have HB := n0_; have BK364 := n1_; have GW364 := n2_; have GE364 := n3_; clear n0_ n1_ n2_ n3_; clear hb hbox hg) | (go_at_call 77; (with_reducible refine (num_gcd.calls k a1 a2 t365 _ A4.out).mono ?_); rintro e w' ⟨rfl, ⟨nd, rfl⟩⟩; (try first | exact ⟨rfl, _, World.drewN_drewN _ _ _⟩ | exact ⟨rfl, _, Eq.trans (World.drewN_drewN _ _ _) (congrArg (World.drewN _) (Nat.add_assoc _ _ _))⟩))); go_upto_region 3 with (first | ((with_reducible refine gate_dst (N := 6) rfl ?_); refine qx_ 6 #[.int .i64 0, .int .i64 0] 23 ?hr ?_; (case hr => first | (go_simp; done) | (go_simp; rfl)); intro gb364 hg w7 hbox hb; have n0_ := Aside0.mk (below_step (q0_ HB.out) hb); have n1_ := Aside0.mk (hbox); have n2_ := Aside0.mk (qs_ hg (q0_ HB.out) : w.heap.size ≤ gb364); have n3_ := n2_; clear HB; have HB := n0_; have BK364 := n1_; have GW364 := n2_; have GE364 := n3_; clear n0_ n1_ n2_ n3_; clear hb hbox hg) | (go_at_call 77; (with_reducible refine (num_gcd.calls k a1 a2 t365 _ A4.out).mono ?_); rintro e w' ⟨rfl, ⟨nd, rfl⟩⟩; (try first | exact ⟨rfl, _, World.drewN_drewN _ _ _⟩ | exact ⟨rfl, _, Eq.trans (World.drewN_drewN _ _ _) (congrArg (World.drewN _) (Nat.add_assoc _ _ _))⟩))))
    (try simp only [Act.put, List.setIfInBounds_toArray, List.set_cons_zero, List.set_cons_succ])
    go_cut [23] (fun v23 wc => ∃ (kq : Nat) (x23_5 : Bool), v23 = .bool x23_5 ∧ Aside0 (num_made.j0 kq a0 (IntKind.u64.wrap (Int.tdiv a1 t365)) (IntKind.u64.wrap (Int.tdiv a2 t365)) x23_5 = some (r1, r2, r3)) ∧ Aside0 (kq ≤ k) ∧ Aside0 (wc.heap[gb364]? = some (.cells #[.int .i64 0, .int .i64 0] 23 (0, 0))) ∧ Aside0 (Below w.heap.size w wc))
    case first =>
      have H := HC6.out
      clear HC6
      by_cases c8 : (IntKind.u64.wrap (Int.tdiv a1 t365)) > 1099511627776
      · rw [if_pos c8] at H
        have c8b0 : decide (1099511627776 < (IntKind.u64.wrap (Int.tdiv a1 t365))) = true := decide_eq_true c8
        clear c8
        (first | rw [c8b0] | (simp only [i64_w, i32_w]; rw [c8b0]) | skip)
        have H' := Aside0.mk H
        clear H
        go_wp2
        repeat (go_quiet (fail); try go_wp2)
        go_meet
        case rel => exact ⟨_, (true), (by first | rfl | (simp; done) | (simp [*]; done)), H', ⟨by first | omega | exact Nat.le_refl _⟩, ⟨by (with_reducible repeat (first | refine blk_drewN ?_ _ | refine blk_drew ?_ | refine blk_alloc ?_ _)); exact BK364.out⟩, ⟨(q1_ HB.out GE364.out)⟩⟩
      · rw [if_neg c8] at H
        have c8b0 : decide (1099511627776 < (IntKind.u64.wrap (Int.tdiv a1 t365))) = false := decide_eq_false c8
        clear c8
        (first | rw [c8b0] | (simp only [i64_w, i32_w]; rw [c8b0]) | skip)
        have H' := Aside0.mk H
        clear H
        go_wp2
        repeat (go_quiet (fail); try go_wp2)
        go_meet
        case rel => exact ⟨_, (decide ((IntKind.u64.wrap (Int.tdiv a2 t365)) > 1048576)), (by first | rfl | (simp; done) | (simp [*]; done)), H', ⟨by first | omega | exact Nat.le_refl _⟩, ⟨by (with_reducible repeat (first | refine blk_drewN ?_ _ | refine blk_drew ?_ | refine blk_alloc ?_ _)); exact BK364.out⟩, ⟨(q1_ HB.out GE364.out)⟩⟩
    case rest =>
      clear HC6
      try clear p2
      try clear c5
      try clear c5b0
      try clear c5b1
      try clear c7
      try clear c8
      try clear c8b0
      obtain ⟨kq, x23_5, rfl, HA, HJ5, BK364, HB⟩ := hcut
      cases kq with
      | zero => exact absurd HA.out (by simp [num_made.j0])
      | succ kj5 =>
        have H := HA.out
        clear HA
        simp only [num_made.j0] at H
        by_cases c9 : x23_5 = true
        · subst c9
          have H1 : (some (0, 0, 4)) = some (r1, r2, r3) := by rw [if_pos rfl] at H; exact H
          clear H
          have H := H1
          clear H1
          simp only [Option.some.injEq, Prod.mk.injEq] at H
          obtain ⟨rfl, rfl, rfl⟩ := H
          have hcz10_0 : wc.cell? ⟨gb364, 0, none⟩ = some (.int .i64 0) := (blk_cell BK364.out 0).trans rfl
          have hcz10_1 : wc.cell? ⟨gb364, 1, none⟩ = some (.int .i64 0) := (blk_cell BK364.out 1).trans rfl
          have hfz10_0 := blk_frozen BK364.out 0
          have hfz10_1 := blk_frozen BK364.out 1
          go_wp2
          repeat (go_quiet (fail); try go_wp2)
          refine bodyPost_ret (results_ct rfl _ _ gb364 23 #[.int .i64 0, .int .i64 0] (0, 0) _ rfl (by (with_reducible repeat (first | refine blk_drewN ?_ _ | refine blk_drew ?_ | refine blk_alloc ?_ _)); refine blk_put (cs := #[.int .i64 0, .int .i64 0]) ?_ 1 _ rfl; (with_reducible repeat (first | refine blk_drewN ?_ _ | refine blk_drew ?_ | refine blk_alloc ?_ _)); refine blk_put (cs := #[.int .i64 0, .int .i64 0]) ?_ 0 _ rfl; (with_reducible repeat (first | refine blk_drewN ?_ _ | refine blk_drew ?_ | refine blk_alloc ?_ _)); exact BK364.out) Tryd.underlying23 rfl (by kernel_rfl)) rfl ?_
          exact ⟨by first | rfl | (simp [errW_none, errW_some] <;> rfl) | (simp [*, errW_none, errW_some] <;> rfl), (q1_ HB.out GE364.out)⟩
        · replace c9 := Bool.eq_false_iff.mpr c9
          subst c9
          have H1 : (if a0 = true then (some (wrap64 (-(wrap64 ((IntKind.u64.wrap (Int.tdiv a1 t365))))), wrap64 ((IntKind.u64.wrap (Int.tdiv a2 t365))), 0)) else (some (wrap64 ((IntKind.u64.wrap (Int.tdiv a1 t365))), wrap64 ((IntKind.u64.wrap (Int.tdiv a2 t365))), 0))) = some (r1, r2, r3) := by rw [if_neg (show ¬ (false = true) by decide)] at H; exact H
          clear H
          have H := H1
          clear H1
          by_cases c11 : a0 = true
          · subst c11
            have H1 : (some (wrap64 (-(wrap64 ((IntKind.u64.wrap (Int.tdiv a1 t365))))), wrap64 ((IntKind.u64.wrap (Int.tdiv a2 t365))), 0)) = some (r1, r2, r3) := by rw [if_pos rfl] at H; exact H
            clear H
            have H := H1
            clear H1
            simp only [Option.some.injEq, Prod.mk.injEq] at H
            obtain ⟨rfl, rfl, rfl⟩ := H
            have hcz12_0 : wc.cell? ⟨gb364, 0, none⟩ = some (.int .i64 0) := (blk_cell BK364.out 0).trans rfl
            have hcz12_1 : wc.cell? ⟨gb364, 1, none⟩ = some (.int .i64 0) := (blk_cell BK364.out 1).trans rfl
            have hfz12_0 := blk_frozen BK364.out 0
            have hfz12_1 := blk_frozen BK364.out 1
            go_wp2
            repeat (go_quiet (fail); try go_wp2)
            refine bodyPost_ret (results_ct rfl _ _ gb364 23 #[.int .i64 (wrap64 (-(wrap64 ((IntKind.u64.wrap (Int.tdiv a1 t365)))))), .int .i64 (wrap64 ((IntKind.u64.wrap (Int.tdiv a2 t365))))] (0, 0) _ rfl (by (with_reducible repeat (first | refine blk_drewN ?_ _ | refine blk_drew ?_ | refine blk_alloc ?_ _)); refine blk_put (cs := #[.int .i64 (wrap64 (-(wrap64 ((IntKind.u64.wrap (Int.tdiv a1 t365)))))), .int .i64 0]) ?_ 1 _ rfl; (with_reducible repeat (first | refine blk_drewN ?_ _ | refine blk_drew ?_ | refine blk_alloc ?_ _)); refine blk_put (cs := #[.int .i64 0, .int .i64 0]) ?_ 0 _ rfl; (with_reducible repeat (first | refine blk_drewN ?_ _ | refine blk_drew ?_ | refine blk_alloc ?_ _)); exact BK364.out) Tryd.underlying23 rfl (by kernel_rfl)) rfl ?_
            exact ⟨by first | rfl | (simp [errW_none, errW_some] <;> rfl) | (simp [*, errW_none, errW_some] <;> rfl), (q1_ HB.out GE364.out)⟩
          · replace c11 := Bool.eq_false_iff.mpr c11
            subst c11
            have H1 : (some (wrap64 ((IntKind.u64.wrap (Int.tdiv a1 t365))), wrap64 ((IntKind.u64.wrap (Int.tdiv a2 t365))), 0)) = some (r1, r2, r3) := by rw [if_neg (show ¬ (false = true) by decide)] at H; exact H
            clear H
            have H := H1
            clear H1
            simp only [Option.some.injEq, Prod.mk.injEq] at H
            obtain ⟨rfl, rfl, rfl⟩ := H
            have hcz13_0 : wc.cell? ⟨gb364, 0, none⟩ = some (.int .i64 0) := (blk_cell BK364.out 0).trans rfl
            have hcz13_1 : wc.cell? ⟨gb364, 1, none⟩ = some (.int .i64 0) := (blk_cell BK364.out 1).trans rfl
            have hfz13_0 := blk_frozen BK364.out 0
            have hfz13_1 := blk_frozen BK364.out 1
            go_wp2
            repeat (go_quiet (fail); try go_wp2)
            refine bodyPost_ret (results_ct rfl _ _ gb364 23 #[.int .i64 (wrap64 ((IntKind.u64.wrap (Int.tdiv a1 t365)))), .int .i64 (wrap64 ((IntKind.u64.wrap (Int.tdiv a2 t365))))] (0, 0) _ rfl (by (with_reducible repeat (first | refine blk_drewN ?_ _ | refine blk_drew ?_ | refine blk_alloc ?_ _)); refine blk_put (cs := #[.int .i64 (wrap64 ((IntKind.u64.wrap (Int.tdiv a1 t365)))), .int .i64 0]) ?_ 1 _ rfl; (with_reducible repeat (first | refine blk_drewN ?_ _ | refine blk_drew ?_ | refine blk_alloc ?_ _)); refine blk_put (cs := #[.int .i64 0, .int .i64 0]) ?_ 0 _ rfl; (with_reducible repeat (first | refine blk_drewN ?_ _ | refine blk_drew ?_ | refine blk_alloc ?_ _)); exact BK364.out) Tryd.underlying23 rfl (by kernel_rfl)) rfl ?_
            exact ⟨by first | rfl | (simp [errW_none, errW_some] <;> rfl) | (simp [*, errW_none, errW_some] <;> rfl), (q1_ HB.out GE364.out)⟩
def num_Make.f (k : Nat) (a0 : Int) (a1 : Int) : Option (Int × Int × Int) := if a1 = 0 then (some (0, 0, 5)) else ((num_size.f a0).bind fun t367 => ((num_size.f a1).bind fun t368 => ((num_made.f k ((decide (a0 < 0)) != (decide (a1 < 0))) t367 t368).bind fun bt369 => (some (bt369.1, bt369.2.1, bt369.2.2)))))
theorem num_Make.mono : ∀ a0 a1 k, LeO (num_Make.f k a0 a1) (num_Make.f (k + 1) a0 a1) := by
  intro a0 a1 k
  unfold num_Make.f
  repeat' first
      | (with_reducible exact num_made.mono _ _ _ _)
      | (with_reducible exact LeO.refl _)
      | (with_reducible exact LeO.none _)
      | (with_reducible refine LeO.ite ?_ ?_)
      | (with_reducible refine LeO.bind ?_ (fun _ => ?_))
      | exact num_made.mono _ _ _ _
      | exact LeO.none _
      | refine LeO.ite ?_ ?_
      | refine LeO.bind ?_ (fun _ => ?_)
def merinoref01_Make.f (k : Nat) (a0 : Int) (a1 : Int) : Option (Int × Int × Int) := if a1 = 0 then (some (0, 0, 5)) else ((merinoref01_Of.f k a0).bind fun bt455 => ((merinoref01_Of.f k a1).bind fun bt459 => ((merinoref01_Lowest.f k bt455.1 bt455.2 bt459.1 bt459.2).bind fun bt463 => (some (bt463.1, bt463.2.1, bt463.2.2)))))
theorem merinoref01_Make.mono : ∀ a0 a1 k, LeO (merinoref01_Make.f k a0 a1) (merinoref01_Make.f (k + 1) a0 a1) := by
  intro a0 a1 k
  unfold merinoref01_Make.f
  repeat' first
      | (with_reducible exact merinoref01_Lowest.mono _ _ _ _ _)
      | (with_reducible exact merinoref01_Of.mono _ _)
      | (with_reducible exact LeO.refl _)
      | (with_reducible exact LeO.none _)
      | (with_reducible refine LeO.ite ?_ ?_)
      | (with_reducible refine LeO.bind ?_ (fun _ => ?_))
      | exact merinoref01_Lowest.mono _ _ _ _ _
      | exact merinoref01_Of.mono _ _
      | exact LeO.none _
      | refine LeO.ite ?_ ?_
      | refine LeO.bind ?_ (fun _ => ?_)
end Go.Proofs.YtdjnneflpkllmaaDoor.Q

namespace Go.Proofs.Num
open Go.RowKit Go.Proofs.YtdjnneflpkllmaaDoorW.PrintWords Go.Proofs.YtdjnneflpkllmaaDoorW.PrintMore Go.Proofs.YtdjnneflpkllmaaDoor.Q
set_option linter.unusedVariables false
set_option linter.unusedSimpArgs false
end Go.Proofs.Num

namespace Go.Proofs.YtdjnneflpkllmaaDoor.Q
open Go.RowKit Go.Proofs.YtdjnneflpkllmaaDoorW.PrintWords Go.Proofs.YtdjnneflpkllmaaDoorW.PrintLast Go.Proofs.YtdjnneflpkllmaaDoorW.PrintMore
attribute [local go_sem] max2_int min2_int max_two min_two max_three min_three max_four min_four   -- for this text's walks alone
set_option linter.unusedVariables false
set_option linter.unusedSimpArgs false
mutual
def merinoref01_addD.l0 : Nat → List Int → List Int → List Int → Int → Int → Option (List Int)
  | 0, _, _, _, _, _ => none
  | k + 1, x0, x1, x5, x6, x7 => if x7 < (x0.length : Int) then (merinoref01_addD.j1 k x0 x1 x5 x6 x7 true) else (if x7 < (x1.length : Int) then (merinoref01_addD.j1 k x0 x1 x5 x6 x7 true) else (merinoref01_addD.j1 k x0 x1 x5 x6 x7 (decide (x6 > 0))))
def merinoref01_addD.j1 : Nat → List Int → List Int → List Int → Int → Int → Bool → Option (List Int)
  | 0, _, _, _, _, _, _ => none
  | k + 1, x0, x1, x5, x6, x7, x22 => if x22 = true then (if x7 < (x0.length : Int) then (if 0 ≤ x7 then (if x7 < (x1.length : Int) then (if x5.length < 17592186044416 then (merinoref01_addD.l0 k x0 x1 (x5 ++ [Int.tmod (wrap64 ((wrap64 (x6 + (rd x0 x7))) + (rd x1 x7))) 10000]) (wrap64 (Int.tdiv (wrap64 ((wrap64 (x6 + (rd x0 x7))) + (rd x1 x7))) 10000)) (wrap64 (x7 + 1))) else (none)) else (if x5.length < 17592186044416 then (merinoref01_addD.l0 k x0 x1 (x5 ++ [Int.tmod (wrap64 (x6 + (rd x0 x7))) 10000]) (wrap64 (Int.tdiv (wrap64 (x6 + (rd x0 x7))) 10000)) (wrap64 (x7 + 1))) else (none))) else (none)) else (if x7 < (x1.length : Int) then (if 0 ≤ x7 then (if x5.length < 17592186044416 then (merinoref01_addD.l0 k x0 x1 (x5 ++ [Int.tmod (wrap64 (x6 + (rd x1 x7))) 10000]) (wrap64 (Int.tdiv (wrap64 (x6 + (rd x1 x7))) 10000)) (wrap64 (x7 + 1))) else (none)) else (none)) else (if x5.length < 17592186044416 then (merinoref01_addD.l0 k x0 x1 (x5 ++ [Int.tmod x6 10000]) (wrap64 (Int.tdiv x6 10000)) (wrap64 (x7 + 1))) else (none)))) else (some x5)
end
def merinoref01_addD.f (k : Nat) (l0 : List Int) (l1 : List Int) : Option (List Int) := merinoref01_addD.l0 k l0 l1 ([] : List Int) 0 0
theorem merinoref01_addD.mono_l : ∀ k, (∀ y0 y1 y2 y3 y4, LeO (merinoref01_addD.l0 k y0 y1 y2 y3 y4) (merinoref01_addD.l0 (k + 1) y0 y1 y2 y3 y4)) ∧ (∀ y0 y1 y2 y3 y4 y5, LeO (merinoref01_addD.j1 k y0 y1 y2 y3 y4 y5) (merinoref01_addD.j1 (k + 1) y0 y1 y2 y3 y4 y5))
  | 0 => ⟨fun _ _ _ _ _ r h => by simp [merinoref01_addD.l0] at h, fun _ _ _ _ _ _ r h => by simp [merinoref01_addD.j1] at h⟩
  | k + 1 => by
    obtain ⟨ih0, ih1⟩ := merinoref01_addD.mono_l k
    refine ⟨?_, ?_⟩
    · intro y0 y1 y2 y3 y4
      unfold merinoref01_addD.l0
      repeat' first
      | (with_reducible exact ih0 _ _ _ _ _)
      | (with_reducible exact ih1 _ _ _ _ _ _)
      | (with_reducible exact LeO.refl _)
      | (with_reducible exact LeO.none _)
      | (with_reducible refine LeO.ite ?_ ?_)
      | (with_reducible refine LeO.bind ?_ (fun _ => ?_))
      | exact ih0 _ _ _ _ _
      | exact ih1 _ _ _ _ _ _
      | exact LeO.none _
      | refine LeO.ite ?_ ?_
      | refine LeO.bind ?_ (fun _ => ?_)
    · intro y0 y1 y2 y3 y4 y5
      unfold merinoref01_addD.j1
      repeat' first
      | (with_reducible exact ih0 _ _ _ _ _)
      | (with_reducible exact ih1 _ _ _ _ _ _)
      | (with_reducible exact LeO.refl _)
      | (with_reducible exact LeO.none _)
      | (with_reducible refine LeO.ite ?_ ?_)
      | (with_reducible refine LeO.bind ?_ (fun _ => ?_))
      | exact ih0 _ _ _ _ _
      | exact ih1 _ _ _ _ _ _
      | exact LeO.none _
      | refine LeO.ite ?_ ?_
      | refine LeO.bind ?_ (fun _ => ?_)
theorem merinoref01_addD.mono : ∀ a0 a1 k, LeO (merinoref01_addD.f k a0 a1) (merinoref01_addD.f (k + 1) a0 a1) := by
  intro a0 a1 k
  obtain ⟨ih0, ih1⟩ := merinoref01_addD.mono_l k
  unfold merinoref01_addD.f
  repeat' first
      | (with_reducible exact ih0 _ _ _ _ _)
      | (with_reducible exact ih1 _ _ _ _ _ _)
      | (with_reducible exact LeO.refl _)
      | (with_reducible exact LeO.none _)
      | (with_reducible refine LeO.ite ?_ ?_)
      | (with_reducible refine LeO.bind ?_ (fun _ => ?_))
      | exact ih0 _ _ _ _ _
      | exact ih1 _ _ _ _ _ _
      | exact LeO.none _
      | refine LeO.ite ?_ ?_
      | refine LeO.bind ?_ (fun _ => ?_)
def merinoref01_Plus.f (k : Nat) (a0_0 : Bool) (l0_1 : List Int) (a1_0 : Bool) (l1_1 : List Int) : Option (Bool × List Int) := if (a0_0 == a1_0) = true then ((merinoref01_addD.f k l0_1 l1_1).bind fun t258 => ((merinoref01_whole.f k a0_0 t258).bind fun bt261 => (some (bt261.1, bt261.2)))) else ((merinoref01_cmpD.f k l0_1 l1_1).bind fun t265 => (if t265 ≥ 0 then ((merinoref01_subD.f k l0_1 l1_1).bind fun t266 => ((merinoref01_whole.f k a0_0 t266).bind fun bt269 => (some (bt269.1, bt269.2)))) else ((merinoref01_subD.f k l1_1 l0_1).bind fun t273 => ((merinoref01_whole.f k a1_0 t273).bind fun bt276 => (some (bt276.1, bt276.2))))))
theorem merinoref01_Plus.mono : ∀ a0 a1 a2 a3 k, LeO (merinoref01_Plus.f k a0 a1 a2 a3) (merinoref01_Plus.f (k + 1) a0 a1 a2 a3) := by
  intro a0 a1 a2 a3 k
  unfold merinoref01_Plus.f
  repeat' first
      | (with_reducible exact merinoref01_addD.mono _ _ _)
      | (with_reducible exact merinoref01_cmpD.mono _ _ _)
      | (with_reducible exact merinoref01_subD.mono _ _ _)
      | (with_reducible exact merinoref01_whole.mono _ _ _)
      | (with_reducible exact LeO.refl _)
      | (with_reducible exact LeO.none _)
      | (with_reducible refine LeO.ite ?_ ?_)
      | (with_reducible refine LeO.bind ?_ (fun _ => ?_))
      | exact merinoref01_addD.mono _ _ _
      | exact merinoref01_cmpD.mono _ _ _
      | exact merinoref01_subD.mono _ _ _
      | exact merinoref01_whole.mono _ _ _
      | exact LeO.none _
      | refine LeO.ite ?_ ?_
      | refine LeO.bind ?_ (fun _ => ?_)
end Go.Proofs.YtdjnneflpkllmaaDoor.Q

namespace Go.Proofs.YtdjnneflpkllmaaDoor.Q
open Go.RowKit Go.Proofs.YtdjnneflpkllmaaDoorW.PrintWords Go.Proofs.YtdjnneflpkllmaaDoorW.PrintLast Go.Proofs.YtdjnneflpkllmaaDoorW.PrintMore
attribute [local go_sem] max2_int min2_int max_two min_two max_three min_three max_four min_four   -- for this text's walks alone
set_option linter.unusedVariables false
set_option linter.unusedSimpArgs false
def merinoref01_Over.f (k : Nat) (a0_0 : Bool) (l0_1 : List Int) (a1_0 : Bool) (l1_1 : List Int) : Option (Bool × List Int × Bool × List Int) := (merinoref01_divD.f k l0_1 l1_1).bind fun bt826 => (if a0_0 = true then (if (bt826.2.length : Int) = 0 then ((merinoref01_whole.f k true bt826.1).bind fun bt840 => (some (bt840.1, bt840.2, false, ([] : List Int)))) else ((merinoref01_addD.f k bt826.1 (([1] : List Int))).bind fun t847 => ((merinoref01_whole.f k true t847).bind fun bt850 => ((merinoref01_subD.f k l1_1 bt826.2).bind fun t854 => ((merinoref01_whole.f k false t854).bind fun bt857 => (some (bt850.1, bt850.2, bt857.1, bt857.2))))))) else ((merinoref01_whole.f k false bt826.1).bind fun bt832 => ((merinoref01_whole.f k false bt826.2).bind fun bt836 => (some (bt832.1, bt832.2, bt836.1, bt836.2)))))
theorem merinoref01_Over.mono : ∀ a0 a1 a2 a3 k, LeO (merinoref01_Over.f k a0 a1 a2 a3) (merinoref01_Over.f (k + 1) a0 a1 a2 a3) := by
  intro a0 a1 a2 a3 k
  unfold merinoref01_Over.f
  repeat' first
      | (with_reducible exact merinoref01_addD.mono _ _ _)
      | (with_reducible exact merinoref01_divD.mono _ _ _)
      | (with_reducible exact merinoref01_subD.mono _ _ _)
      | (with_reducible exact merinoref01_whole.mono _ _ _)
      | (with_reducible exact LeO.refl _)
      | (with_reducible exact LeO.none _)
      | (with_reducible refine LeO.ite ?_ ?_)
      | (with_reducible refine LeO.bind ?_ (fun _ => ?_))
      | exact merinoref01_addD.mono _ _ _
      | exact merinoref01_divD.mono _ _ _
      | exact merinoref01_subD.mono _ _ _
      | exact merinoref01_whole.mono _ _ _
      | exact LeO.none _
      | refine LeO.ite ?_ ?_
      | refine LeO.bind ?_ (fun _ => ?_)
def merinoref01_Zero.f (a0_0 : Bool) (l0_1 : List Int) : Option (Bool) := some ((l0_1.length : Int) == 0)
end Go.Proofs.YtdjnneflpkllmaaDoor.Q

namespace Go.Proofs.Num
open Go.RowKit Go.Proofs.YtdjnneflpkllmaaDoorW.PrintWords Go.Proofs.YtdjnneflpkllmaaDoorW.PrintMore Go.Proofs.YtdjnneflpkllmaaDoor.Q
set_option linter.unusedVariables false
set_option linter.unusedSimpArgs false
end Go.Proofs.Num

namespace Go.Proofs.Num
open Go.RowKit Go.Proofs.YtdjnneflpkllmaaDoorW.PrintWords Go.Proofs.YtdjnneflpkllmaaDoorW.PrintMore Go.Proofs.YtdjnneflpkllmaaDoor.Q
set_option linter.unusedVariables false
set_option linter.unusedSimpArgs false
/-- x/y in lowest terms, where it fits, of any y but 0. -/
def lowS (x y : Int) : Int × Int × Int := if y < 0 then lowest (-x) (-y) else lowest x y
theorem lowest_valid {x y : Int} (hy : 0 < y) : valid (lowest x y).1 (lowest x y).2.1 ↔ (lowest x y).2.2 = 0 := by
  unfold lowest
  simp only []
  have hg : 0 < Nat.gcd x.natAbs y.natAbs := Nat.gcd_pos_of_pos_right _ (by omega)
  have co : Nat.gcd (x.natAbs / Nat.gcd x.natAbs y.natAbs) (y.natAbs / Nat.gcd x.natAbs y.natAbs) = 1 := by rw [Nat.gcd_div (Nat.gcd_dvd_left _ _) (Nat.gcd_dvd_right _ _)]; exact Nat.div_self hg
  have dv : Nat.gcd x.natAbs y.natAbs ∣ y.natAbs := Nat.gcd_dvd_right _ _
  have yy : y / ((Nat.gcd x.natAbs y.natAbs : Nat) : Int) = ((y.natAbs / Nat.gcd x.natAbs y.natAbs : Nat) : Int) := by
    have : y = (y.natAbs : Int) := by omega
    conv => lhs; rw [this]
    simp
  have xx : (x.natAbs : Int) / ((Nat.gcd x.natAbs y.natAbs : Nat) : Int) = ((x.natAbs / Nat.gcd x.natAbs y.natAbs : Nat) : Int) := by simp
  have y1 : 0 < y.natAbs / Nat.gcd x.natAbs y.natAbs := Nat.div_pos (Nat.le_of_dvd (by omega) dv) hg
  rw [yy, xx]
  generalize x.natAbs / Nat.gcd x.natAbs y.natAbs = P at *
  generalize y.natAbs / Nat.gcd x.natAbs y.natAbs = Q at *
  by_cases c : (P : Int) ≤ 1099511627776 ∧ (Q : Int) ≤ 1048576
  · rw [if_pos c]
    simp only [iff_true]
    by_cases d : x < 0
    · rw [if_pos d]
      exact ⟨by omega, by omega, by omega, by omega, by rw [Int.natAbs_neg, Int.natAbs_natCast, Int.natAbs_natCast]; exact co⟩
    · rw [if_neg d]
      exact ⟨by omega, by omega, by omega, by omega, by rw [Int.natAbs_natCast, Int.natAbs_natCast]; exact co⟩
  · rw [if_neg c]
    constructor
    · intro h; exact absurd h.1 (by decide)
    · intro h; simp at h
end Go.Proofs.Num

namespace Go.Proofs.YtdjnneflpkllmaaDoor.Q
open Go.RowKit Go.Proofs.YtdjnneflpkllmaaDoorW.PrintWords Go.Proofs.YtdjnneflpkllmaaDoorW.PrintLast Go.Proofs.YtdjnneflpkllmaaDoorW.PrintMore
attribute [local go_sem] max2_int min2_int max_two min_two max_three min_three max_four min_four   -- for this text's walks alone
set_option linter.unusedVariables false
set_option linter.unusedSimpArgs false
mutual
def merinoref01_Valid.j0 : Nat → Bool → Int → Int → Option (Bool)
  | 0, _, _, _ => none
  | k + 1, x22, x467000, x467001 => if x22 = true then (some false) else (if x467000 < 0 then (merinoref01_Valid.j1 k (wrap64 (-x467000)) x467001) else (merinoref01_Valid.j1 k x467000 x467001))
def merinoref01_Valid.j1 : Nat → Int → Int → Option (Bool)
  | 0, _, _ => none
  | k + 1, x3, x4 => merinoref01_Valid.l0 k x3 x4
def merinoref01_Valid.l0 : Nat → Int → Int → Option (Bool)
  | 0, _, _ => none
  | k + 1, x3, x4 => if x4 > 0 then (if x4 = 0 then (none) else (merinoref01_Valid.l0 k x4 (Int.tmod x3 x4))) else (some (x3 == 1))
end
def merinoref01_Valid.f (k : Nat) (a0_0 : Int) (a0_1 : Int) : Option (Bool) := if a0_1 < 1 then (merinoref01_Valid.j0 k true a0_0 a0_1) else (if a0_1 > 1048576 then (merinoref01_Valid.j0 k true a0_0 a0_1) else (if a0_0 < (-1099511627776) then (merinoref01_Valid.j0 k true a0_0 a0_1) else (merinoref01_Valid.j0 k (decide (a0_0 > 1099511627776)) a0_0 a0_1)))
theorem merinoref01_Valid.mono_l : ∀ k, (∀ y0 y1 y2, LeO (merinoref01_Valid.j0 k y0 y1 y2) (merinoref01_Valid.j0 (k + 1) y0 y1 y2)) ∧ (∀ y0 y1, LeO (merinoref01_Valid.j1 k y0 y1) (merinoref01_Valid.j1 (k + 1) y0 y1)) ∧ (∀ y0 y1, LeO (merinoref01_Valid.l0 k y0 y1) (merinoref01_Valid.l0 (k + 1) y0 y1))
  | 0 => ⟨fun _ _ _ r h => by simp [merinoref01_Valid.j0] at h, fun _ _ r h => by simp [merinoref01_Valid.j1] at h, fun _ _ r h => by simp [merinoref01_Valid.l0] at h⟩
  | k + 1 => by
    obtain ⟨ih0, ih1, ih2⟩ := merinoref01_Valid.mono_l k
    refine ⟨?_, ?_, ?_⟩
    · intro y0 y1 y2
      unfold merinoref01_Valid.j0
      repeat' first
      | (with_reducible exact ih0 _ _ _)
      | (with_reducible exact ih1 _ _)
      | (with_reducible exact ih2 _ _)
      | (with_reducible exact LeO.refl _)
      | (with_reducible exact LeO.none _)
      | (with_reducible refine LeO.ite ?_ ?_)
      | (with_reducible refine LeO.bind ?_ (fun _ => ?_))
      | exact ih0 _ _ _
      | exact ih1 _ _
      | exact ih2 _ _
      | exact LeO.none _
      | refine LeO.ite ?_ ?_
      | refine LeO.bind ?_ (fun _ => ?_)
    · intro y0 y1
      unfold merinoref01_Valid.j1
      repeat' first
      | (with_reducible exact ih0 _ _ _)
      | (with_reducible exact ih1 _ _)
      | (with_reducible exact ih2 _ _)
      | (with_reducible exact LeO.refl _)
      | (with_reducible exact LeO.none _)
      | (with_reducible refine LeO.ite ?_ ?_)
      | (with_reducible refine LeO.bind ?_ (fun _ => ?_))
      | exact ih0 _ _ _
      | exact ih1 _ _
      | exact ih2 _ _
      | exact LeO.none _
      | refine LeO.ite ?_ ?_
      | refine LeO.bind ?_ (fun _ => ?_)
    · intro y0 y1
      unfold merinoref01_Valid.l0
      repeat' first
      | (with_reducible exact ih0 _ _ _)
      | (with_reducible exact ih1 _ _)
      | (with_reducible exact ih2 _ _)
      | (with_reducible exact LeO.refl _)
      | (with_reducible exact LeO.none _)
      | (with_reducible refine LeO.ite ?_ ?_)
      | (with_reducible refine LeO.bind ?_ (fun _ => ?_))
      | exact ih0 _ _ _
      | exact ih1 _ _
      | exact ih2 _ _
      | exact LeO.none _
      | refine LeO.ite ?_ ?_
      | refine LeO.bind ?_ (fun _ => ?_)
theorem merinoref01_Valid.mono : ∀ a0 a1 k, LeO (merinoref01_Valid.f k a0 a1) (merinoref01_Valid.f (k + 1) a0 a1) := by
  intro a0 a1 k
  obtain ⟨ih0, ih1, ih2⟩ := merinoref01_Valid.mono_l k
  unfold merinoref01_Valid.f
  repeat' first
      | (with_reducible exact ih0 _ _ _)
      | (with_reducible exact ih1 _ _)
      | (with_reducible exact ih2 _ _)
      | (with_reducible exact LeO.refl _)
      | (with_reducible exact LeO.none _)
      | (with_reducible refine LeO.ite ?_ ?_)
      | (with_reducible refine LeO.bind ?_ (fun _ => ?_))
      | exact ih0 _ _ _
      | exact ih1 _ _
      | exact ih2 _ _
      | exact LeO.none _
      | refine LeO.ite ?_ ?_
      | refine LeO.bind ?_ (fun _ => ?_)
end Go.Proofs.YtdjnneflpkllmaaDoor.Q

namespace Go.Proofs.Num
open Go.RowKit Go.Proofs.YtdjnneflpkllmaaDoorW.PrintWords Go.Proofs.YtdjnneflpkllmaaDoorW.PrintMore Go.Proofs.YtdjnneflpkllmaaDoor.Q
set_option linter.unusedVariables false
set_option linter.unusedSimpArgs false
end Go.Proofs.Num

namespace Go.Proofs.YtdjnneflpkllmaaDoor.Q
open Go.RowKit Go.Proofs.YtdjnneflpkllmaaDoorW.PrintWords Go.Proofs.YtdjnneflpkllmaaDoorW.PrintLast Go.Proofs.YtdjnneflpkllmaaDoorW.PrintMore
attribute [local go_sem] max2_int min2_int max_two min_two max_three min_three max_four min_four   -- for this text's walks alone
set_option linter.unusedVariables false
set_option linter.unusedSimpArgs false
def bits_Len64.j0 : Nat → Int → Int → Option (Int)
  | 0, _, _ => none
  | k + 1, x0, x2 => if x0 ≥ 65536 then (if (x0 / 65536) ≥ 256 then (if 0 ≤ (((x0 / 65536) / 256) % 256) then (if (((x0 / 65536) / 256) % 256) < 256 then (some (wrap64 ((wrap64 ((wrap64 (x2 + 16)) + 8)) + (wrap64 (bt (⟨#[0, 1, 2, 2, 3, 3, 3, 3, 4, 4, 4, 4, 4, 4, 4, 4, 5, 5, 5, 5, 5, 5, 5, 5, 5, 5, 5, 5, 5, 5, 5, 5, 6, 6, 6, 6, 6, 6, 6, 6, 6, 6, 6, 6, 6, 6, 6, 6, 6, 6, 6, 6, 6, 6, 6, 6, 6, 6, 6, 6, 6, 6, 6, 6, 7, 7, 7, 7, 7, 7, 7, 7, 7, 7, 7, 7, 7, 7, 7, 7, 7, 7, 7, 7, 7, 7, 7, 7, 7, 7, 7, 7, 7, 7, 7, 7, 7, 7, 7, 7, 7, 7, 7, 7, 7, 7, 7, 7, 7, 7, 7, 7, 7, 7, 7, 7, 7, 7, 7, 7, 7, 7, 7, 7, 7, 7, 7, 7, 8, 8, 8, 8, 8, 8, 8, 8, 8, 8, 8, 8, 8, 8, 8, 8, 8, 8, 8, 8, 8, 8, 8, 8, 8, 8, 8, 8, 8, 8, 8, 8, 8, 8, 8, 8, 8, 8, 8, 8, 8, 8, 8, 8, 8, 8, 8, 8, 8, 8, 8, 8, 8, 8, 8, 8, 8, 8, 8, 8, 8, 8, 8, 8, 8, 8, 8, 8, 8, 8, 8, 8, 8, 8, 8, 8, 8, 8, 8, 8, 8, 8, 8, 8, 8, 8, 8, 8, 8, 8, 8, 8, 8, 8, 8, 8, 8, 8, 8, 8, 8, 8, 8, 8, 8, 8, 8, 8, 8, 8, 8, 8, 8, 8, 8, 8, 8, 8, 8, 8, 8, 8, 8, 8, 8, 8, 8, 8]⟩ : ByteArray) (((x0 / 65536) / 256) % 256)))))) else (none)) else (none)) else (if 0 ≤ ((x0 / 65536) % 256) then (if ((x0 / 65536) % 256) < 256 then (some (wrap64 ((wrap64 (x2 + 16)) + (wrap64 (bt (⟨#[0, 1, 2, 2, 3, 3, 3, 3, 4, 4, 4, 4, 4, 4, 4, 4, 5, 5, 5, 5, 5, 5, 5, 5, 5, 5, 5, 5, 5, 5, 5, 5, 6, 6, 6, 6, 6, 6, 6, 6, 6, 6, 6, 6, 6, 6, 6, 6, 6, 6, 6, 6, 6, 6, 6, 6, 6, 6, 6, 6, 6, 6, 6, 6, 7, 7, 7, 7, 7, 7, 7, 7, 7, 7, 7, 7, 7, 7, 7, 7, 7, 7, 7, 7, 7, 7, 7, 7, 7, 7, 7, 7, 7, 7, 7, 7, 7, 7, 7, 7, 7, 7, 7, 7, 7, 7, 7, 7, 7, 7, 7, 7, 7, 7, 7, 7, 7, 7, 7, 7, 7, 7, 7, 7, 7, 7, 7, 7, 8, 8, 8, 8, 8, 8, 8, 8, 8, 8, 8, 8, 8, 8, 8, 8, 8, 8, 8, 8, 8, 8, 8, 8, 8, 8, 8, 8, 8, 8, 8, 8, 8, 8, 8, 8, 8, 8, 8, 8, 8, 8, 8, 8, 8, 8, 8, 8, 8, 8, 8, 8, 8, 8, 8, 8, 8, 8, 8, 8, 8, 8, 8, 8, 8, 8, 8, 8, 8, 8, 8, 8, 8, 8, 8, 8, 8, 8, 8, 8, 8, 8, 8, 8, 8, 8, 8, 8, 8, 8, 8, 8, 8, 8, 8, 8, 8, 8, 8, 8, 8, 8, 8, 8, 8, 8, 8, 8, 8, 8, 8, 8, 8, 8, 8, 8, 8, 8, 8, 8, 8, 8, 8, 8, 8, 8, 8, 8]⟩ : ByteArray) ((x0 / 65536) % 256)))))) else (none)) else (none))) else (if x0 ≥ 256 then (if 0 ≤ ((x0 / 256) % 256) then (if ((x0 / 256) % 256) < 256 then (some (wrap64 ((wrap64 (x2 + 8)) + (wrap64 (bt (⟨#[0, 1, 2, 2, 3, 3, 3, 3, 4, 4, 4, 4, 4, 4, 4, 4, 5, 5, 5, 5, 5, 5, 5, 5, 5, 5, 5, 5, 5, 5, 5, 5, 6, 6, 6, 6, 6, 6, 6, 6, 6, 6, 6, 6, 6, 6, 6, 6, 6, 6, 6, 6, 6, 6, 6, 6, 6, 6, 6, 6, 6, 6, 6, 6, 7, 7, 7, 7, 7, 7, 7, 7, 7, 7, 7, 7, 7, 7, 7, 7, 7, 7, 7, 7, 7, 7, 7, 7, 7, 7, 7, 7, 7, 7, 7, 7, 7, 7, 7, 7, 7, 7, 7, 7, 7, 7, 7, 7, 7, 7, 7, 7, 7, 7, 7, 7, 7, 7, 7, 7, 7, 7, 7, 7, 7, 7, 7, 7, 8, 8, 8, 8, 8, 8, 8, 8, 8, 8, 8, 8, 8, 8, 8, 8, 8, 8, 8, 8, 8, 8, 8, 8, 8, 8, 8, 8, 8, 8, 8, 8, 8, 8, 8, 8, 8, 8, 8, 8, 8, 8, 8, 8, 8, 8, 8, 8, 8, 8, 8, 8, 8, 8, 8, 8, 8, 8, 8, 8, 8, 8, 8, 8, 8, 8, 8, 8, 8, 8, 8, 8, 8, 8, 8, 8, 8, 8, 8, 8, 8, 8, 8, 8, 8, 8, 8, 8, 8, 8, 8, 8, 8, 8, 8, 8, 8, 8, 8, 8, 8, 8, 8, 8, 8, 8, 8, 8, 8, 8, 8, 8, 8, 8, 8, 8, 8, 8, 8, 8, 8, 8, 8, 8, 8, 8, 8, 8]⟩ : ByteArray) ((x0 / 256) % 256)))))) else (none)) else (none)) else (if 0 ≤ ((x0) % 256) then (if ((x0) % 256) < 256 then (some (wrap64 (x2 + (wrap64 (bt (⟨#[0, 1, 2, 2, 3, 3, 3, 3, 4, 4, 4, 4, 4, 4, 4, 4, 5, 5, 5, 5, 5, 5, 5, 5, 5, 5, 5, 5, 5, 5, 5, 5, 6, 6, 6, 6, 6, 6, 6, 6, 6, 6, 6, 6, 6, 6, 6, 6, 6, 6, 6, 6, 6, 6, 6, 6, 6, 6, 6, 6, 6, 6, 6, 6, 7, 7, 7, 7, 7, 7, 7, 7, 7, 7, 7, 7, 7, 7, 7, 7, 7, 7, 7, 7, 7, 7, 7, 7, 7, 7, 7, 7, 7, 7, 7, 7, 7, 7, 7, 7, 7, 7, 7, 7, 7, 7, 7, 7, 7, 7, 7, 7, 7, 7, 7, 7, 7, 7, 7, 7, 7, 7, 7, 7, 7, 7, 7, 7, 8, 8, 8, 8, 8, 8, 8, 8, 8, 8, 8, 8, 8, 8, 8, 8, 8, 8, 8, 8, 8, 8, 8, 8, 8, 8, 8, 8, 8, 8, 8, 8, 8, 8, 8, 8, 8, 8, 8, 8, 8, 8, 8, 8, 8, 8, 8, 8, 8, 8, 8, 8, 8, 8, 8, 8, 8, 8, 8, 8, 8, 8, 8, 8, 8, 8, 8, 8, 8, 8, 8, 8, 8, 8, 8, 8, 8, 8, 8, 8, 8, 8, 8, 8, 8, 8, 8, 8, 8, 8, 8, 8, 8, 8, 8, 8, 8, 8, 8, 8, 8, 8, 8, 8, 8, 8, 8, 8, 8, 8, 8, 8, 8, 8, 8, 8, 8, 8, 8, 8, 8, 8, 8, 8, 8, 8, 8, 8]⟩ : ByteArray) ((x0) % 256)))))) else (none)) else (none)))
def bits_Len64.f (k : Nat) (a0 : Int) : Option (Int) := if a0 ≥ 4294967296 then (bits_Len64.j0 k (a0 / 4294967296) 32) else (bits_Len64.j0 k a0 0)
theorem bits_Len64.mono_l : ∀ k, (∀ y0 y1, LeO (bits_Len64.j0 k y0 y1) (bits_Len64.j0 (k + 1) y0 y1))
  | 0 => fun _ _ r h => by simp [bits_Len64.j0] at h
  | k + 1 => by
    have ih0 := bits_Len64.mono_l k
    · intro y0 y1
      unfold bits_Len64.j0
      repeat' first
      | (with_reducible exact ih0 _ _)
      | (with_reducible exact LeO.refl _)
      | (with_reducible exact LeO.none _)
      | (with_reducible refine LeO.ite ?_ ?_)
      | (with_reducible refine LeO.bind ?_ (fun _ => ?_))
      | exact ih0 _ _
      | exact LeO.none _
      | refine LeO.ite ?_ ?_
      | refine LeO.bind ?_ (fun _ => ?_)
theorem bits_Len64.mono : ∀ a0 k, LeO (bits_Len64.f k a0) (bits_Len64.f (k + 1) a0) := by
  intro a0 k
  have ih0 := bits_Len64.mono_l k
  unfold bits_Len64.f
  repeat' first
      | (with_reducible exact ih0 _ _)
      | (with_reducible exact LeO.refl _)
      | (with_reducible exact LeO.none _)
      | (with_reducible refine LeO.ite ?_ ?_)
      | (with_reducible refine LeO.bind ?_ (fun _ => ?_))
      | exact ih0 _ _
      | exact LeO.none _
      | refine LeO.ite ?_ ?_
      | refine LeO.bind ?_ (fun _ => ?_)
def bits_LeadingZeros64.f (k : Nat) (a0 : Int) : Option (Int) := (bits_Len64.f k a0).bind fun t121 => (some (wrap64 (64 - t121)))
theorem bits_LeadingZeros64.mono : ∀ a0 k, LeO (bits_LeadingZeros64.f k a0) (bits_LeadingZeros64.f (k + 1) a0) := by
  intro a0 k
  unfold bits_LeadingZeros64.f
  repeat' first
      | (with_reducible exact bits_Len64.mono _ _)
      | (with_reducible exact LeO.refl _)
      | (with_reducible exact LeO.none _)
      | (with_reducible refine LeO.ite ?_ ?_)
      | (with_reducible refine LeO.bind ?_ (fun _ => ?_))
      | exact bits_Len64.mono _ _
      | exact LeO.none _
      | refine LeO.ite ?_ ?_
      | refine LeO.bind ?_ (fun _ => ?_)
end Go.Proofs.YtdjnneflpkllmaaDoor.Q

namespace Go.Proofs.YtdjnneflpkllmaaDoor.Q
open Go.RowKit Go.Proofs.YtdjnneflpkllmaaDoorW.PrintWords Go.Proofs.YtdjnneflpkllmaaDoorW.PrintLast Go.Proofs.YtdjnneflpkllmaaDoorW.PrintMore
attribute [local go_sem] max2_int min2_int max_two min_two max_three min_three max_four min_four   -- for this text's walks alone
set_option linter.unusedVariables false
set_option linter.unusedSimpArgs false
mutual
def bits_Div64_g.j2 : Nat → Int → Int → Int → Int → Int → Int → Int → Int → Option (Int × Int)
  | 0, _, _, _, _, _, _, _, _ => none
  | k + 1, x2, x8, x9, x10, x11, x13, x14, x15 => if x9 = 0 then (none) else (bits_Div64_g.l1 k x2 x8 x9 x10 x14 x15 (IntKind.u64.wrap ((IntKind.u64.wrap ((IntKind.u64.wrap ((IntKind.u64.wrap (x11 * 4294967296)) + x13)) - (IntKind.u64.wrap (x15 * x2)))) - (IntKind.u64.wrap ((IntKind.u64.wrap (Int.tdiv (IntKind.u64.wrap ((IntKind.u64.wrap ((IntKind.u64.wrap (x11 * 4294967296)) + x13)) - (IntKind.u64.wrap (x15 * x2)))) x9)) * x9)))) (IntKind.u64.wrap ((IntKind.u64.wrap ((IntKind.u64.wrap (x11 * 4294967296)) + x13)) - (IntKind.u64.wrap (x15 * x2)))) (IntKind.u64.wrap (Int.tdiv (IntKind.u64.wrap ((IntKind.u64.wrap ((IntKind.u64.wrap (x11 * 4294967296)) + x13)) - (IntKind.u64.wrap (x15 * x2)))) x9)))
def bits_Div64_g.l1 : Nat → Int → Int → Int → Int → Int → Int → Int → Int → Int → Option (Int × Int)
  | 0, _, _, _, _, _, _, _, _, _ => none
  | k + 1, x2, x8, x9, x10, x14, x15, x16, x17, x18 => if x18 ≥ 4294967296 then (bits_Div64_g.j4 k x2 x8 x9 x10 x14 x15 x16 x17 x18 true) else (bits_Div64_g.j4 k x2 x8 x9 x10 x14 x15 x16 x17 x18 (decide ((IntKind.u64.wrap (x18 * x10)) > (IntKind.u64.wrap ((IntKind.u64.wrap (4294967296 * x16)) + x14)))))
def bits_Div64_g.j4 : Nat → Int → Int → Int → Int → Int → Int → Int → Int → Int → Bool → Option (Int × Int)
  | 0, _, _, _, _, _, _, _, _, _, _ => none
  | k + 1, x2, x8, x9, x10, x14, x15, x16, x17, x18, x113 => if x113 = true then (if (IntKind.u64.wrap (x16 + x9)) ≥ 4294967296 then (if 0 ≤ x8 then (some (IntKind.u64.wrap ((IntKind.u64.wrap (x15 * 4294967296)) + (IntKind.u64.wrap (x18 - 1))), shr .u64 (IntKind.u64.wrap ((IntKind.u64.wrap ((IntKind.u64.wrap (x17 * 4294967296)) + x14)) - (IntKind.u64.wrap ((IntKind.u64.wrap (x18 - 1)) * x2)))) x8)) else (none)) else (bits_Div64_g.l1 k x2 x8 x9 x10 x14 x15 (IntKind.u64.wrap (x16 + x9)) x17 (IntKind.u64.wrap (x18 - 1)))) else (if 0 ≤ x8 then (some (IntKind.u64.wrap ((IntKind.u64.wrap (x15 * 4294967296)) + x18), shr .u64 (IntKind.u64.wrap ((IntKind.u64.wrap ((IntKind.u64.wrap (x17 * 4294967296)) + x14)) - (IntKind.u64.wrap (x18 * x2)))) x8)) else (none))
def bits_Div64_g.l0 : Nat → Int → Int → Int → Int → Int → Int → Int → Int → Int → Option (Int × Int)
  | 0, _, _, _, _, _, _, _, _, _ => none
  | k + 1, x2, x8, x9, x10, x11, x13, x14, x15, x16 => if x15 ≥ 4294967296 then (bits_Div64_g.j1 k x2 x8 x9 x10 x11 x13 x14 x15 x16 true) else (bits_Div64_g.j1 k x2 x8 x9 x10 x11 x13 x14 x15 x16 (decide ((IntKind.u64.wrap (x15 * x10)) > (IntKind.u64.wrap ((IntKind.u64.wrap (4294967296 * x16)) + x13)))))
def bits_Div64_g.j1 : Nat → Int → Int → Int → Int → Int → Int → Int → Int → Int → Bool → Option (Int × Int)
  | 0, _, _, _, _, _, _, _, _, _, _ => none
  | k + 1, x2, x8, x9, x10, x11, x13, x14, x15, x16, x78 => if x78 = true then (if (IntKind.u64.wrap (x16 + x9)) ≥ 4294967296 then (bits_Div64_g.j2 k x2 x8 x9 x10 x11 x13 x14 (IntKind.u64.wrap (x15 - 1))) else (bits_Div64_g.l0 k x2 x8 x9 x10 x11 x13 x14 (IntKind.u64.wrap (x15 - 1)) (IntKind.u64.wrap (x16 + x9)))) else (bits_Div64_g.j2 k x2 x8 x9 x10 x11 x13 x14 x15)
end
def bits_Div64_g.f (k : Nat) (a0 : Int) (a1 : Int) (a2 : Int) : Option (Int × Int) := if a0 = 0 then (if a2 = 0 then (none) else (some (IntKind.u64.wrap (Int.tdiv a1 a2), Int.tmod a1 a2))) else ((bits_LeadingZeros64.f k a2).bind fun t122 => (if 0 ≤ (IntKind.u64.wrap (t122)) then (if 0 ≤ (IntKind.u64.wrap (64 - (IntKind.u64.wrap (t122)))) then (if ((shl .u64 a2 (IntKind.u64.wrap (t122))) / 4294967296) = 0 then (none) else (bits_Div64_g.l0 k (shl .u64 a2 (IntKind.u64.wrap (t122))) (IntKind.u64.wrap (t122)) ((shl .u64 a2 (IntKind.u64.wrap (t122))) / 4294967296) (Go.bits .and .u64 (shl .u64 a2 (IntKind.u64.wrap (t122))) 4294967295) (Go.bits .or .u64 (shl .u64 a0 (IntKind.u64.wrap (t122))) (shr .u64 a1 (IntKind.u64.wrap (64 - (IntKind.u64.wrap (t122)))))) ((shl .u64 a1 (IntKind.u64.wrap (t122))) / 4294967296) (Go.bits .and .u64 (shl .u64 a1 (IntKind.u64.wrap (t122))) 4294967295) (IntKind.u64.wrap (Int.tdiv (Go.bits .or .u64 (shl .u64 a0 (IntKind.u64.wrap (t122))) (shr .u64 a1 (IntKind.u64.wrap (64 - (IntKind.u64.wrap (t122)))))) ((shl .u64 a2 (IntKind.u64.wrap (t122))) / 4294967296))) (IntKind.u64.wrap ((Go.bits .or .u64 (shl .u64 a0 (IntKind.u64.wrap (t122))) (shr .u64 a1 (IntKind.u64.wrap (64 - (IntKind.u64.wrap (t122)))))) - (IntKind.u64.wrap ((IntKind.u64.wrap (Int.tdiv (Go.bits .or .u64 (shl .u64 a0 (IntKind.u64.wrap (t122))) (shr .u64 a1 (IntKind.u64.wrap (64 - (IntKind.u64.wrap (t122)))))) ((shl .u64 a2 (IntKind.u64.wrap (t122))) / 4294967296))) * ((shl .u64 a2 (IntKind.u64.wrap (t122))) / 4294967296))))))) else (none)) else (none)))
theorem bits_Div64_g.mono_l : ∀ k, (∀ y0 y1 y2 y3 y4 y5 y6 y7, LeO (bits_Div64_g.j2 k y0 y1 y2 y3 y4 y5 y6 y7) (bits_Div64_g.j2 (k + 1) y0 y1 y2 y3 y4 y5 y6 y7)) ∧ (∀ y0 y1 y2 y3 y4 y5 y6 y7 y8, LeO (bits_Div64_g.l1 k y0 y1 y2 y3 y4 y5 y6 y7 y8) (bits_Div64_g.l1 (k + 1) y0 y1 y2 y3 y4 y5 y6 y7 y8)) ∧ (∀ y0 y1 y2 y3 y4 y5 y6 y7 y8 y9, LeO (bits_Div64_g.j4 k y0 y1 y2 y3 y4 y5 y6 y7 y8 y9) (bits_Div64_g.j4 (k + 1) y0 y1 y2 y3 y4 y5 y6 y7 y8 y9)) ∧ (∀ y0 y1 y2 y3 y4 y5 y6 y7 y8, LeO (bits_Div64_g.l0 k y0 y1 y2 y3 y4 y5 y6 y7 y8) (bits_Div64_g.l0 (k + 1) y0 y1 y2 y3 y4 y5 y6 y7 y8)) ∧ (∀ y0 y1 y2 y3 y4 y5 y6 y7 y8 y9, LeO (bits_Div64_g.j1 k y0 y1 y2 y3 y4 y5 y6 y7 y8 y9) (bits_Div64_g.j1 (k + 1) y0 y1 y2 y3 y4 y5 y6 y7 y8 y9))
  | 0 => ⟨fun _ _ _ _ _ _ _ _ r h => by simp [bits_Div64_g.j2] at h, fun _ _ _ _ _ _ _ _ _ r h => by simp [bits_Div64_g.l1] at h, fun _ _ _ _ _ _ _ _ _ _ r h => by simp [bits_Div64_g.j4] at h, fun _ _ _ _ _ _ _ _ _ r h => by simp [bits_Div64_g.l0] at h, fun _ _ _ _ _ _ _ _ _ _ r h => by simp [bits_Div64_g.j1] at h⟩
  | k + 1 => by
    obtain ⟨ih0, ih1, ih2, ih3, ih4⟩ := bits_Div64_g.mono_l k
    refine ⟨?_, ?_, ?_, ?_, ?_⟩
    · intro y0 y1 y2 y3 y4 y5 y6 y7
      unfold bits_Div64_g.j2
      repeat' first
      | (with_reducible exact ih0 _ _ _ _ _ _ _ _)
      | (with_reducible exact ih1 _ _ _ _ _ _ _ _ _)
      | (with_reducible exact ih2 _ _ _ _ _ _ _ _ _ _)
      | (with_reducible exact ih3 _ _ _ _ _ _ _ _ _)
      | (with_reducible exact ih4 _ _ _ _ _ _ _ _ _ _)
      | (with_reducible exact bits_LeadingZeros64.mono _ _)
      | (with_reducible exact LeO.refl _)
      | (with_reducible exact LeO.none _)
      | (with_reducible refine LeO.ite ?_ ?_)
      | (with_reducible refine LeO.bind ?_ (fun _ => ?_))
      | exact ih0 _ _ _ _ _ _ _ _
      | exact ih1 _ _ _ _ _ _ _ _ _
      | exact ih2 _ _ _ _ _ _ _ _ _ _
      | exact ih3 _ _ _ _ _ _ _ _ _
      | exact ih4 _ _ _ _ _ _ _ _ _ _
      | exact bits_LeadingZeros64.mono _ _
      | exact LeO.none _
      | refine LeO.ite ?_ ?_
      | refine LeO.bind ?_ (fun _ => ?_)
    · intro y0 y1 y2 y3 y4 y5 y6 y7 y8
      unfold bits_Div64_g.l1
      repeat' first
      | (with_reducible exact ih0 _ _ _ _ _ _ _ _)
      | (with_reducible exact ih1 _ _ _ _ _ _ _ _ _)
      | (with_reducible exact ih2 _ _ _ _ _ _ _ _ _ _)
      | (with_reducible exact ih3 _ _ _ _ _ _ _ _ _)
      | (with_reducible exact ih4 _ _ _ _ _ _ _ _ _ _)
      | (with_reducible exact bits_LeadingZeros64.mono _ _)
      | (with_reducible exact LeO.refl _)
      | (with_reducible exact LeO.none _)
      | (with_reducible refine LeO.ite ?_ ?_)
      | (with_reducible refine LeO.bind ?_ (fun _ => ?_))
      | exact ih0 _ _ _ _ _ _ _ _
      | exact ih1 _ _ _ _ _ _ _ _ _
      | exact ih2 _ _ _ _ _ _ _ _ _ _
      | exact ih3 _ _ _ _ _ _ _ _ _
      | exact ih4 _ _ _ _ _ _ _ _ _ _
      | exact bits_LeadingZeros64.mono _ _
      | exact LeO.none _
      | refine LeO.ite ?_ ?_
      | refine LeO.bind ?_ (fun _ => ?_)
    · intro y0 y1 y2 y3 y4 y5 y6 y7 y8 y9
      unfold bits_Div64_g.j4
      repeat' first
      | (with_reducible exact ih0 _ _ _ _ _ _ _ _)
      | (with_reducible exact ih1 _ _ _ _ _ _ _ _ _)
      | (with_reducible exact ih2 _ _ _ _ _ _ _ _ _ _)
      | (with_reducible exact ih3 _ _ _ _ _ _ _ _ _)
      | (with_reducible exact ih4 _ _ _ _ _ _ _ _ _ _)
      | (with_reducible exact bits_LeadingZeros64.mono _ _)
      | (with_reducible exact LeO.refl _)
      | (with_reducible exact LeO.none _)
      | (with_reducible refine LeO.ite ?_ ?_)
      | (with_reducible refine LeO.bind ?_ (fun _ => ?_))
      | exact ih0 _ _ _ _ _ _ _ _
      | exact ih1 _ _ _ _ _ _ _ _ _
      | exact ih2 _ _ _ _ _ _ _ _ _ _
      | exact ih3 _ _ _ _ _ _ _ _ _
      | exact ih4 _ _ _ _ _ _ _ _ _ _
      | exact bits_LeadingZeros64.mono _ _
      | exact LeO.none _
      | refine LeO.ite ?_ ?_
      | refine LeO.bind ?_ (fun _ => ?_)
    · intro y0 y1 y2 y3 y4 y5 y6 y7 y8
      unfold bits_Div64_g.l0
      repeat' first
      | (with_reducible exact ih0 _ _ _ _ _ _ _ _)
      | (with_reducible exact ih1 _ _ _ _ _ _ _ _ _)
      | (with_reducible exact ih2 _ _ _ _ _ _ _ _ _ _)
      | (with_reducible exact ih3 _ _ _ _ _ _ _ _ _)
      | (with_reducible exact ih4 _ _ _ _ _ _ _ _ _ _)
      | (with_reducible exact bits_LeadingZeros64.mono _ _)
      | (with_reducible exact LeO.refl _)
      | (with_reducible exact LeO.none _)
      | (with_reducible refine LeO.ite ?_ ?_)
      | (with_reducible refine LeO.bind ?_ (fun _ => ?_))
      | exact ih0 _ _ _ _ _ _ _ _
      | exact ih1 _ _ _ _ _ _ _ _ _
      | exact ih2 _ _ _ _ _ _ _ _ _ _
      | exact ih3 _ _ _ _ _ _ _ _ _
      | exact ih4 _ _ _ _ _ _ _ _ _ _
      | exact bits_LeadingZeros64.mono _ _
      | exact LeO.none _
      | refine LeO.ite ?_ ?_
      | refine LeO.bind ?_ (fun _ => ?_)
    · intro y0 y1 y2 y3 y4 y5 y6 y7 y8 y9
      unfold bits_Div64_g.j1
      repeat' first
      | (with_reducible exact ih0 _ _ _ _ _ _ _ _)
      | (with_reducible exact ih1 _ _ _ _ _ _ _ _ _)
      | (with_reducible exact ih2 _ _ _ _ _ _ _ _ _ _)
      | (with_reducible exact ih3 _ _ _ _ _ _ _ _ _)
      | (with_reducible exact ih4 _ _ _ _ _ _ _ _ _ _)
      | (with_reducible exact bits_LeadingZeros64.mono _ _)
      | (with_reducible exact LeO.refl _)
      | (with_reducible exact LeO.none _)
      | (with_reducible refine LeO.ite ?_ ?_)
      | (with_reducible refine LeO.bind ?_ (fun _ => ?_))
      | exact ih0 _ _ _ _ _ _ _ _
      | exact ih1 _ _ _ _ _ _ _ _ _
      | exact ih2 _ _ _ _ _ _ _ _ _ _
      | exact ih3 _ _ _ _ _ _ _ _ _
      | exact ih4 _ _ _ _ _ _ _ _ _ _
      | exact bits_LeadingZeros64.mono _ _
      | exact LeO.none _
      | refine LeO.ite ?_ ?_
      | refine LeO.bind ?_ (fun _ => ?_)
theorem bits_Div64_g.mono : ∀ a0 a1 a2 k, LeO (bits_Div64_g.f k a0 a1 a2) (bits_Div64_g.f (k + 1) a0 a1 a2) := by
  intro a0 a1 a2 k
  obtain ⟨ih0, ih1, ih2, ih3, ih4⟩ := bits_Div64_g.mono_l k
  unfold bits_Div64_g.f
  repeat' first
      | (with_reducible exact ih0 _ _ _ _ _ _ _ _)
      | (with_reducible exact ih1 _ _ _ _ _ _ _ _ _)
      | (with_reducible exact ih2 _ _ _ _ _ _ _ _ _ _)
      | (with_reducible exact ih3 _ _ _ _ _ _ _ _ _)
      | (with_reducible exact ih4 _ _ _ _ _ _ _ _ _ _)
      | (with_reducible exact bits_LeadingZeros64.mono _ _)
      | (with_reducible exact LeO.refl _)
      | (with_reducible exact LeO.none _)
      | (with_reducible refine LeO.ite ?_ ?_)
      | (with_reducible refine LeO.bind ?_ (fun _ => ?_))
      | exact ih0 _ _ _ _ _ _ _ _
      | exact ih1 _ _ _ _ _ _ _ _ _
      | exact ih2 _ _ _ _ _ _ _ _ _ _
      | exact ih3 _ _ _ _ _ _ _ _ _
      | exact ih4 _ _ _ _ _ _ _ _ _ _
      | exact bits_LeadingZeros64.mono _ _
      | exact LeO.none _
      | refine LeO.ite ?_ ?_
      | refine LeO.bind ?_ (fun _ => ?_)
/-- Div64 as it is: where it does not panic. -/
def bits_Div64.f (k : Nat) (a0 a1 a2 : Int) : Option (Int × Int) := if a2 = 0 then none else if a2 ≤ a0 then none else bits_Div64_g.f k a0 a1 a2
theorem bits_Div64.mono : ∀ a0 a1 a2 k, LeO (bits_Div64.f k a0 a1 a2) (bits_Div64.f (k + 1) a0 a1 a2) := by
  intro a0 a1 a2 k
  unfold bits_Div64.f
  exact LeO.ite (LeO.refl _) (LeO.ite (LeO.refl _) (bits_Div64_g.mono _ _ _ _))
end Go.Proofs.YtdjnneflpkllmaaDoor.Q

namespace Go.Proofs.YtdjnneflpkllmaaDoor.Q
open Go.RowKit Go.Proofs.YtdjnneflpkllmaaDoorW.PrintWords Go.Proofs.YtdjnneflpkllmaaDoorW.PrintLast Go.Proofs.YtdjnneflpkllmaaDoorW.PrintMore
attribute [local go_sem] max2_int min2_int max_two min_two max_three min_three max_four min_four   -- for this text's walks alone
set_option linter.unusedVariables false
set_option linter.unusedSimpArgs false
def bits_Mul64.f (a0 : Int) (a1 : Int) : Option (Int × Int) := some (IntKind.u64.wrap ((IntKind.u64.wrap ((IntKind.u64.wrap ((a0 / 4294967296) * (a1 / 4294967296))) + ((IntKind.u64.wrap ((IntKind.u64.wrap ((a0 / 4294967296) * (Go.bits .and .u64 a1 4294967295))) + ((IntKind.u64.wrap ((Go.bits .and .u64 a0 4294967295) * (Go.bits .and .u64 a1 4294967295))) / 4294967296))) / 4294967296))) + ((IntKind.u64.wrap ((Go.bits .and .u64 (IntKind.u64.wrap ((IntKind.u64.wrap ((a0 / 4294967296) * (Go.bits .and .u64 a1 4294967295))) + ((IntKind.u64.wrap ((Go.bits .and .u64 a0 4294967295) * (Go.bits .and .u64 a1 4294967295))) / 4294967296))) 4294967295) + (IntKind.u64.wrap ((Go.bits .and .u64 a0 4294967295) * (a1 / 4294967296))))) / 4294967296)), IntKind.u64.wrap (a0 * a1))
set_option maxHeartbeats 8000000 in
set_option maxRecDepth 100000 in
theorem bits_Mul64.calls (a0 : Int) (a1 : Int) (r1 : Int) (r2 : Int) (w : World) (h : bits_Mul64.f a0 a1 = some (r1, r2)) :
    Calls Tryd.prog 114 #[.int .u64 a0, .int .u64 a1] w fun e w' => e = .returned (.tuple #[.int .u64 r1, .int .u64 r2]) ∧ Drawn0 w w' := by
  have H : (some (IntKind.u64.wrap ((IntKind.u64.wrap ((IntKind.u64.wrap ((a0 / 4294967296) * (a1 / 4294967296))) + ((IntKind.u64.wrap ((IntKind.u64.wrap ((a0 / 4294967296) * (Go.bits .and .u64 a1 4294967295))) + ((IntKind.u64.wrap ((Go.bits .and .u64 a0 4294967295) * (Go.bits .and .u64 a1 4294967295))) / 4294967296))) / 4294967296))) + ((IntKind.u64.wrap ((Go.bits .and .u64 (IntKind.u64.wrap ((IntKind.u64.wrap ((a0 / 4294967296) * (Go.bits .and .u64 a1 4294967295))) + ((IntKind.u64.wrap ((Go.bits .and .u64 a0 4294967295) * (Go.bits .and .u64 a1 4294967295))) / 4294967296))) 4294967295) + (IntKind.u64.wrap ((Go.bits .and .u64 a0 4294967295) * (a1 / 4294967296))))) / 4294967296)), IntKind.u64.wrap (a0 * a1))) = some (r1, r2) := h
  clear h
  simp only [Option.some.injEq, Prod.mk.injEq] at H
  obtain ⟨rfl, rfl⟩ := H
  go_enter Tryd.func114, Tryd.ntmps114
  go_wp2
  go_ret2
  exact ⟨by first | rfl | (simp; done) | (simp [*]; done), by repeat (first | exact Drawn0.refl _ | apply Drawn0.step)⟩
end Go.Proofs.YtdjnneflpkllmaaDoor.Q

namespace Go.Proofs.Num
open Go.RowKit Go.Proofs.YtdjnneflpkllmaaDoorW.PrintWords Go.Proofs.YtdjnneflpkllmaaDoorW.PrintMore Go.Proofs.YtdjnneflpkllmaaDoor.Q
set_option linter.unusedVariables false
set_option linter.unusedSimpArgs false
theorem uw (n : Int) : IntKind.u64.wrap n = n % 18446744073709551616 := by simp [IntKind.wrap, IntKind.bits, IntKind.signed]
theorem uw_in {x : Int} (h0 : 0 ≤ x) (h1 : x ≤ 18446744073709551615) : IntKind.u64.wrap x = x := by rw [uw]; omega
theorem and32 {x : Int} (h0 : 0 ≤ x) (h1 : x < 18446744073709551616) : Go.bits .and .u64 x 4294967295 = x % 4294967296 := by
  obtain ⟨a, rfl⟩ := Int.eq_ofNat_of_zero_le h0
  have h := Go.bits_and_u64_nat a 4294967295 (by omega) (by omega)
  have e : a &&& 4294967295 = a % 4294967296 := Nat.and_two_pow_sub_one_eq_mod a 32
  rw [e] at h
  exact h.trans (by omega)
/-- Mul64: the product's two words. -/
theorem mul64_ok {x y : Int} (x0 : 0 ≤ x) (x1 : x < 18446744073709551616) (y0 : 0 ≤ y) (y1 : y < 18446744073709551616) :
    bits_Mul64.f x y = some (x * y / 18446744073709551616, x * y % 18446744073709551616) := by
  obtain ⟨a, rfl⟩ := Int.eq_ofNat_of_zero_le x0
  obtain ⟨b, rfl⟩ := Int.eq_ofNat_of_zero_le y0
  obtain ⟨h1, h2, h3, h4⟩ := Go.Lib.mul64_hi a b (by omega) (by omega)
  have g1 := Go.Lib.half_mul_le (a := a / 4294967296) (b := b / 4294967296) (by omega) (by omega)
  have g2 := Go.Lib.half_mul_le (a := a / 4294967296) (b := b % 4294967296) (by omega) (by omega)
  have g3 := Go.Lib.half_mul_le (a := a % 4294967296) (b := b / 4294967296) (by omega) (by omega)
  have hm : a * b < 18446744073709551616 * 18446744073709551616 := Nat.mul_lt_mul_of_lt_of_le (by omega) (by omega) (by omega)
  have k1 : (a : Int) / 4294967296 * ((b : Int) / 4294967296) = ((a / 4294967296 * (b / 4294967296) : Nat) : Int) := by simp
  have k2 : (a : Int) / 4294967296 * ((b : Int) % 4294967296) = ((a / 4294967296 * (b % 4294967296) : Nat) : Int) := by simp
  have k3 : (a : Int) % 4294967296 * ((b : Int) / 4294967296) = ((a % 4294967296 * (b / 4294967296) : Nat) : Int) := by simp
  have k4 : (a : Int) % 4294967296 * ((b : Int) % 4294967296) = ((a % 4294967296 * (b % 4294967296) : Nat) : Int) := by simp
  have k5 : (a : Int) * (b : Int) = ((a * b : Nat) : Int) := by simp
  unfold bits_Mul64.f
  rw [and32 x0 x1, and32 y0 y1, k1, k2, k3, k4, k5]
  generalize a / 4294967296 * (b / 4294967296) = A at *
  generalize a / 4294967296 * (b % 4294967296) = B at *
  generalize a % 4294967296 * (b / 4294967296) = C at *
  generalize a % 4294967296 * (b % 4294967296) = D at *
  generalize a * b = M at *
  rw [uw_in (x := (A : Int)) (by omega) (by omega), uw_in (x := (B : Int)) (by omega) (by omega), uw_in (x := (C : Int)) (by omega) (by omega), uw_in (x := (D : Int)) (by omega) (by omega)]
  rw [uw_in (x := (B : Int) + (D : Int) / 4294967296) (by omega) (by omega), and32 (by omega) (by omega)]
  rw [uw_in (x := ((B : Int) + (D : Int) / 4294967296) % 4294967296 + (C : Int)) (by omega) (by omega)]
  rw [uw_in (x := (A : Int) + ((B : Int) + (D : Int) / 4294967296) / 4294967296) (by omega) (by omega), uw, uw]
  congr 2
  omega
end Go.Proofs.Num

namespace Go.Proofs.YtdjnneflpkllmaaDoor.Q
open Go.RowKit Go.Proofs.YtdjnneflpkllmaaDoorW.PrintWords Go.Proofs.YtdjnneflpkllmaaDoorW.PrintLast Go.Proofs.YtdjnneflpkllmaaDoorW.PrintMore
attribute [local go_sem] max2_int min2_int max_two min_two max_three min_three max_four min_four   -- for this text's walks alone
set_option linter.unusedVariables false
set_option linter.unusedSimpArgs false
def num_mode.f (a0 : Int) : Option (Bool) := if a0 ≥ 0 then (some (decide (a0 ≤ 4))) else (some false)
def num_away.f (a0 : Bool) (a1 : Int) (a2 : Int) (a3 : Int) (a4 : Int) : Option (Bool) := if a2 = 0 then (some false) else (if a4 = 0 then (some a0) else (if a4 = 1 then (some (!a0)) else (if a4 = 2 then (some false) else (if a2 > (IntKind.u64.wrap (a3 - a2)) then (some true) else (if a2 < (IntKind.u64.wrap (a3 - a2)) then (some false) else (if a4 = 3 then (some (!a0)) else (some ((Int.tmod a1 2) == 1))))))))
def num_rounded.f (k : Nat) (a0 : Bool) (a1 : Int) (a2 : Int) (a3 : Int) (a4 : Int) : Option (Int × Bool) := if a1 ≥ a3 then (some (0, false)) else ((bits_Div64.f k a1 a2 a3).bind fun bt700 => (if bt700.1 > 4611686018427387904 then (some (0, false)) else ((num_away.f a0 bt700.1 bt700.2 a3 a4).bind fun t702 => (if t702 = true then (if a0 = true then (some (wrap64 (-(wrap64 (IntKind.u64.wrap (bt700.1 + 1)))), true)) else (some (wrap64 (IntKind.u64.wrap (bt700.1 + 1)), true))) else (if a0 = true then (some (wrap64 (-(wrap64 (bt700.1))), true)) else (some (wrap64 (bt700.1), true)))))))
theorem num_rounded.mono : ∀ a0 a1 a2 a3 a4 k, LeO (num_rounded.f k a0 a1 a2 a3 a4) (num_rounded.f (k + 1) a0 a1 a2 a3 a4) := by
  intro a0 a1 a2 a3 a4 k
  unfold num_rounded.f
  repeat' first
      | (with_reducible exact bits_Div64.mono _ _ _ _)
      | (with_reducible exact LeO.refl _)
      | (with_reducible exact LeO.none _)
      | (with_reducible refine LeO.ite ?_ ?_)
      | (with_reducible refine LeO.bind ?_ (fun _ => ?_))
      | exact bits_Div64.mono _ _ _ _
      | exact LeO.none _
      | refine LeO.ite ?_ ?_
      | refine LeO.bind ?_ (fun _ => ?_)
end Go.Proofs.YtdjnneflpkllmaaDoor.Q

namespace Go.Proofs.YtdjnneflpkllmaaDoor.Q
open Go.RowKit Go.Proofs.YtdjnneflpkllmaaDoorW.PrintWords Go.Proofs.YtdjnneflpkllmaaDoorW.PrintLast Go.Proofs.YtdjnneflpkllmaaDoorW.PrintMore
attribute [local go_sem] max2_int min2_int max_two min_two max_three min_three max_four min_four   -- for this text's walks alone
set_option linter.unusedVariables false
set_option linter.unusedSimpArgs false
def num_Round.j0 : Nat → Int → Bool → Int → Int → Option (Int × Int)
  | 0, _, _, _, _ => none
  | k + 1, x1, x15, x704000, x704001 => if x15 = true then (some (0, 2)) else ((num_size.f x704000).bind fun t706 => ((num_rounded.f k (decide (x704000 < 0)) 0 t706 (IntKind.u64.wrap (x704001)) x1).bind fun bt707 => (some (bt707.1, 0))))
def num_Round.f (k : Nat) (a0_0 : Int) (a0_1 : Int) (a1 : Int) : Option (Int × Int) := (num_Valid.f k a0_0 a0_1).bind fun t704 => (if t704 = true then ((num_mode.f a1).bind fun t705 => (num_Round.j0 k a1 (!t705) a0_0 a0_1)) else (num_Round.j0 k a1 true a0_0 a0_1))
theorem num_Round.mono_l : ∀ k, (∀ y0 y1 y2 y3, LeO (num_Round.j0 k y0 y1 y2 y3) (num_Round.j0 (k + 1) y0 y1 y2 y3))
  | 0 => fun _ _ _ _ r h => by simp [num_Round.j0] at h
  | k + 1 => by
    have ih0 := num_Round.mono_l k
    · intro y0 y1 y2 y3
      unfold num_Round.j0
      repeat' first
      | (with_reducible exact ih0 _ _ _ _)
      | (with_reducible exact num_Valid.mono _ _ _)
      | (with_reducible exact num_rounded.mono _ _ _ _ _ _)
      | (with_reducible exact LeO.refl _)
      | (with_reducible exact LeO.none _)
      | (with_reducible refine LeO.ite ?_ ?_)
      | (with_reducible refine LeO.bind ?_ (fun _ => ?_))
      | exact ih0 _ _ _ _
      | exact num_Valid.mono _ _ _
      | exact num_rounded.mono _ _ _ _ _ _
      | exact LeO.none _
      | refine LeO.ite ?_ ?_
      | refine LeO.bind ?_ (fun _ => ?_)
theorem num_Round.mono : ∀ a0 a1 a2 k, LeO (num_Round.f k a0 a1 a2) (num_Round.f (k + 1) a0 a1 a2) := by
  intro a0 a1 a2 k
  have ih0 := num_Round.mono_l k
  unfold num_Round.f
  repeat' first
      | (with_reducible exact ih0 _ _ _ _)
      | (with_reducible exact num_Valid.mono _ _ _)
      | (with_reducible exact num_rounded.mono _ _ _ _ _ _)
      | (with_reducible exact LeO.refl _)
      | (with_reducible exact LeO.none _)
      | (with_reducible refine LeO.ite ?_ ?_)
      | (with_reducible refine LeO.bind ?_ (fun _ => ?_))
      | exact ih0 _ _ _ _
      | exact num_Valid.mono _ _ _
      | exact num_rounded.mono _ _ _ _ _ _
      | exact LeO.none _
      | refine LeO.ite ?_ ?_
      | refine LeO.bind ?_ (fun _ => ?_)
end Go.Proofs.YtdjnneflpkllmaaDoor.Q

namespace Go.Proofs.YtdjnneflpkllmaaDoor.Q
open Go.RowKit Go.Proofs.YtdjnneflpkllmaaDoorW.PrintWords Go.Proofs.YtdjnneflpkllmaaDoorW.PrintLast Go.Proofs.YtdjnneflpkllmaaDoorW.PrintMore
attribute [local go_sem] max2_int min2_int max_two min_two max_three min_three max_four min_four   -- for this text's walks alone
set_option linter.unusedVariables false
set_option linter.unusedSimpArgs false
def num_Neg.f (k : Nat) (a0_0 : Int) (a0_1 : Int) : Option (Int × Int × Int) := (num_Valid.f k a0_0 a0_1).bind fun t711 => (if t711 = true then (some (wrap64 (-a0_0), a0_1, 0)) else (some (0, 0, 2)))
theorem num_Neg.mono : ∀ a0 a1 k, LeO (num_Neg.f k a0 a1) (num_Neg.f (k + 1) a0 a1) := by
  intro a0 a1 k
  unfold num_Neg.f
  repeat' first
      | (with_reducible exact num_Valid.mono _ _ _)
      | (with_reducible exact LeO.refl _)
      | (with_reducible exact LeO.none _)
      | (with_reducible refine LeO.ite ?_ ?_)
      | (with_reducible refine LeO.bind ?_ (fun _ => ?_))
      | exact num_Valid.mono _ _ _
      | exact LeO.none _
      | refine LeO.ite ?_ ?_
      | refine LeO.bind ?_ (fun _ => ?_)
set_option maxHeartbeats 8000000 in
set_option maxRecDepth 100000 in
theorem num_Neg.calls (k : Nat) (a0_0 : Int) (a0_1 : Int) (r1 : Int) (r2 : Int) (r3 : Int) (w : World) (h : num_Neg.f k a0_0 a0_1 = some (r1, r2, r3)) :
    Calls Tryd.prog 44 #[.agg #[.int .i64 a0_0, .int .i64 a0_1]] w fun e w' => e = .returned (.tuple #[.agg #[.int .i64 r1, .int .i64 r2], .int .i64 r3]) ∧ Below w.heap.size w w' := by
  have hu23 := Tryd.underlying23
  have HB := Aside0.mk (Below.refl w.heap.size w)
  have H : ((num_Valid.f k a0_0 a0_1).bind fun t711 => (if t711 = true then (some (wrap64 (-a0_0), a0_1, 0)) else (some (0, 0, 2)))) = some (r1, r2, r3) := h
  clear h
  replace H := Option.bind_eq_some_iff.mp H
  obtain ⟨t711, A20, H⟩ := H
  replace H : (if t711 = true then (some (wrap64 (-a0_0), a0_1, 0)) else (some (0, 0, 2))) = some (r1, r2, r3) := H
  have A2 := Aside0.mk A20
  clear A20
  by_cases c3 : t711 = true
  · subst c3
    have H1 : (some (wrap64 (-a0_0), a0_1, 0)) = some (r1, r2, r3) := by rw [if_pos rfl] at H; exact H
    clear H
    have H := H1
    clear H1
    simp only [Option.some.injEq, Prod.mk.injEq] at H
    obtain ⟨rfl, rfl, rfl⟩ := H
    go_enter Tryd.func44, Tryd.ntmps44
    go_wp2_with (first | ((with_reducible refine gate_dst (N := 1) rfl ?_); refine qx_ 1 #[.int .i64 a0_0, .int .i64 a0_1] 23 ?hr ?_; (case hr => first | (go_simp; done) | (go_simp; rfl)); intro gb709 hg w4 hbox hb; have n0_ := Aside0.mk (below_step (q0_ HB.out) hb); have n1_ := Aside0.mk (hbox); have n2_ := Aside0.mk (qs_ hg (q0_ HB.out) : w.heap.size ≤ gb709); have n3_ := n2_; clear HB; have HB := n0_; have BK709 := n1_; have GW709 := n2_; have GE709 := n3_; clear n0_ n1_ n2_ n3_; clear hb hbox hg) | ((with_reducible refine gate_dst (N := 2) rfl ?_); refine qx_ 2 #[.int .i64 0, .int .i64 0] 23 ?hr ?_; (case hr => first | (go_simp; done) | (go_simp; rfl)); intro gb710 hg w5 hbox hb; have n0_ := Aside0.mk (qk_ BK709.out hb); have n1_ := Aside0.mk (below_step (q1_ HB.out GE709.out) hb); have n2_ := Aside0.mk (hbox); have n3_ := Aside0.mk (qs_ hg (q1_ HB.out GE709.out) : w.heap.size ≤ gb710); have n4_ := n3_; have n5_ := Aside0.mk (qn_ hg BK709.out); have n6_ := Aside0.mk (Ne.symm (qn_ hg BK709.out)); clear BK709; clear HB; have BK709 := n0_; have HB := n1_; have BK710 := n2_; have GW710 := n3_; have GE710 := n4_; have NB709_710 := n5_; have NB710_709 := n6_; clear n0_ n1_ n2_ n3_ n4_ n5_ n6_; clear hb hbox hg; have hnb6 := NB709_710.out; have hnc6 := NB710_709.out; have hcz7_0 : w5.cell? ⟨gb709, 0, none⟩ = some (.int .i64 a0_0) := (blk_cell BK709.out 0).trans rfl; have hcz7_1 : w5.cell? ⟨gb709, 1, none⟩ = some (.int .i64 a0_1) := (blk_cell BK709.out 1).trans rfl; have hfz7_0 := blk_frozen BK709.out 0; have hfz7_1 := blk_frozen BK709.out 1) | ((with_reducible refine gate_callee (f := 26) rfl ?_); refine goesL_ (some 5) rfl rfl Tryd.func26 (by kernel_rfl) rfl #[.agg #[.int .i64 a0_0, .int .i64 a0_1]] rfl qe_ ?_; (with_reducible refine (num_Valid.calls k a0_0 a0_1 true _ A2.out).mono ?_); rintro e w8 ⟨rfl, hb⟩; refine ⟨_, rfl, ?_⟩; have n0_ := Aside0.mk (qk_ BK709.out hb); have n1_ := Aside0.mk (qk_ BK710.out hb); have n2_ := Aside0.mk (below_step (q2_ HB.out GE709.out GE710.out) hb); clear BK709; clear BK710; clear HB; have BK709 := n0_; have BK710 := n1_; have HB := n2_; clear n0_ n1_ n2_; (try clear hb); (try clear hb2); (try clear hk); (try clear hi); have hcz9_0 : w8.cell? ⟨gb709, 0, none⟩ = some (.int .i64 a0_0) := (blk_cell BK709.out 0).trans rfl; have hcz9_1 : w8.cell? ⟨gb709, 1, none⟩ = some (.int .i64 a0_1) := (blk_cell BK709.out 1).trans rfl; have hfz9_0 := blk_frozen BK709.out 0; have hfz9_1 := blk_frozen BK709.out 1; have hcz10_0 : w8.cell? ⟨gb710, 0, none⟩ = some (.int .i64 0) := (blk_cell BK710.out 0).trans rfl; have hcz10_1 : w8.cell? ⟨gb710, 1, none⟩ = some (.int .i64 0) := (blk_cell BK710.out 1).trans rfl; have hfz10_0 := blk_frozen BK710.out 0; have hfz10_1 := blk_frozen BK710.out 1))
    refine bodyPost_ret (results_ct rfl _ _ gb710 23 #[.int .i64 (wrap64 (-a0_0)), .int .i64 a0_1] (0, 0) _ rfl (by (with_reducible repeat (first | refine blk_drewN ?_ _ | refine blk_drew ?_ | refine blk_alloc ?_ _)); refine blk_put (cs := #[.int .i64 (wrap64 (-a0_0)), .int .i64 0]) ?_ 1 _ rfl; (with_reducible repeat (first | refine blk_drewN ?_ _ | refine blk_drew ?_ | refine blk_alloc ?_ _)); refine blk_put (cs := #[.int .i64 0, .int .i64 0]) ?_ 0 _ rfl; (with_reducible repeat (first | refine blk_drewN ?_ _ | refine blk_drew ?_ | refine blk_alloc ?_ _)); exact BK710.out) Tryd.underlying23 rfl (by kernel_rfl)) rfl ?_
    exact ⟨by first | rfl | (simp [errW_none, errW_some] <;> rfl) | (simp [*, errW_none, errW_some] <;> rfl), (q2_ HB.out GE709.out GE710.out)⟩
  · replace c3 := Bool.eq_false_iff.mpr c3
    subst c3
    have H1 : (some (0, 0, 2)) = some (r1, r2, r3) := by rw [if_neg (show ¬ (false = true) by decide)] at H; exact H
    clear H
    have H := H1
    clear H1
    simp only [Option.some.injEq, Prod.mk.injEq] at H
    obtain ⟨rfl, rfl, rfl⟩ := H
    go_enter Tryd.func44, Tryd.ntmps44
    go_wp2_with (first | ((with_reducible refine gate_dst (N := 1) rfl ?_); refine qx_ 1 #[.int .i64 a0_0, .int .i64 a0_1] 23 ?hr ?_; (case hr => first | (go_simp; done) | (go_simp; rfl)); intro gb709 hg w11 hbox hb; have n0_ := Aside0.mk (below_step (q0_ HB.out) hb); have n1_ := Aside0.mk (hbox); have n2_ := Aside0.mk (qs_ hg (q0_ HB.out) : w.heap.size ≤ gb709); have n3_ := n2_; clear HB; have HB := n0_; have BK709 := n1_; have GW709 := n2_; have GE709 := n3_; clear n0_ n1_ n2_ n3_; clear hb hbox hg) | ((with_reducible refine gate_dst (N := 2) rfl ?_); refine qx_ 2 #[.int .i64 0, .int .i64 0] 23 ?hr ?_; (case hr => first | (go_simp; done) | (go_simp; rfl)); intro gb710 hg w12 hbox hb; have n0_ := Aside0.mk (qk_ BK709.out hb); have n1_ := Aside0.mk (below_step (q1_ HB.out GE709.out) hb); have n2_ := Aside0.mk (hbox); have n3_ := Aside0.mk (qs_ hg (q1_ HB.out GE709.out) : w.heap.size ≤ gb710); have n4_ := n3_; have n5_ := Aside0.mk (qn_ hg BK709.out); have n6_ := Aside0.mk (Ne.symm (qn_ hg BK709.out)); clear BK709; clear HB; have BK709 := n0_; have HB := n1_; have BK710 := n2_; have GW710 := n3_; have GE710 := n4_; have NB709_710 := n5_; have NB710_709 := n6_; clear n0_ n1_ n2_ n3_ n4_ n5_ n6_; clear hb hbox hg; have hnb13 := NB709_710.out; have hnc13 := NB710_709.out; have hcz14_0 : w12.cell? ⟨gb709, 0, none⟩ = some (.int .i64 a0_0) := (blk_cell BK709.out 0).trans rfl; have hcz14_1 : w12.cell? ⟨gb709, 1, none⟩ = some (.int .i64 a0_1) := (blk_cell BK709.out 1).trans rfl; have hfz14_0 := blk_frozen BK709.out 0; have hfz14_1 := blk_frozen BK709.out 1) | ((with_reducible refine gate_callee (f := 26) rfl ?_); refine goesL_ (some 5) rfl rfl Tryd.func26 (by kernel_rfl) rfl #[.agg #[.int .i64 a0_0, .int .i64 a0_1]] rfl qe_ ?_; (with_reducible refine (num_Valid.calls k a0_0 a0_1 false _ A2.out).mono ?_); rintro e w15 ⟨rfl, hb⟩; refine ⟨_, rfl, ?_⟩; have n0_ := Aside0.mk (qk_ BK709.out hb); have n1_ := Aside0.mk (qk_ BK710.out hb); have n2_ := Aside0.mk (below_step (q2_ HB.out GE709.out GE710.out) hb); clear BK709; clear BK710; clear HB; have BK709 := n0_; have BK710 := n1_; have HB := n2_; clear n0_ n1_ n2_; (try clear hb); (try clear hb2); (try clear hk); (try clear hi); have hcz16_0 : w15.cell? ⟨gb710, 0, none⟩ = some (.int .i64 0) := (blk_cell BK710.out 0).trans rfl; have hcz16_1 : w15.cell? ⟨gb710, 1, none⟩ = some (.int .i64 0) := (blk_cell BK710.out 1).trans rfl; have hfz16_0 := blk_frozen BK710.out 0; have hfz16_1 := blk_frozen BK710.out 1))
    refine bodyPost_ret (results_ct rfl _ _ gb710 23 #[.int .i64 0, .int .i64 0] (0, 0) _ rfl (by (with_reducible repeat (first | refine blk_drewN ?_ _ | refine blk_drew ?_ | refine blk_alloc ?_ _)); refine blk_put (cs := #[.int .i64 0, .int .i64 0]) ?_ 1 _ rfl; (with_reducible repeat (first | refine blk_drewN ?_ _ | refine blk_drew ?_ | refine blk_alloc ?_ _)); refine blk_put (cs := #[.int .i64 0, .int .i64 0]) ?_ 0 _ rfl; (with_reducible repeat (first | refine blk_drewN ?_ _ | refine blk_drew ?_ | refine blk_alloc ?_ _)); exact BK710.out) Tryd.underlying23 rfl (by kernel_rfl)) rfl ?_
    exact ⟨by first | rfl | (simp [errW_none, errW_some] <;> rfl) | (simp [*, errW_none, errW_some] <;> rfl), (q2_ HB.out GE709.out GE710.out)⟩
end Go.Proofs.YtdjnneflpkllmaaDoor.Q

namespace Go.Proofs.Num
open Go.RowKit Go.Proofs.YtdjnneflpkllmaaDoorW.PrintWords Go.Proofs.YtdjnneflpkllmaaDoor.Q
set_option linter.unusedVariables false
set_option linter.unusedSimpArgs false
theorem neg_ok (n d : Int) : Ev (fun k => num_Neg.f k n d) (if valid n d then (-n, d, 0) else (0, 0, 2)) := by
  unfold num_Neg.f
  refine Ev.bind (valid_ok n d) ?_
  by_cases hv : valid n d
  · have hv' := hv
    obtain ⟨v1, v2, v3, v4, v5⟩ := hv'
    simp only [hv, decide_true, if_true, w64 (x := -n) (by omega) (by omega)]
    exact Ev.now _
  · simp only [hv, decide_false, Bool.false_eq_true, if_false]
    exact Ev.now _
end Go.Proofs.Num

namespace Go.Proofs.Num
set_option linter.unusedVariables false
/-- s/t lies strictly between n/d and p/q (q may be 0: no upper bound). -/
def Btw (n d p q s t : Int) : Prop := 1 ≤ t ∧ n * t < s * d ∧ s * q < p * t
/-- The simplest one of all: the least denominator, and of its fractions the numerator closest to 0. -/
structure Simple (n d p q x y : Int) : Prop where
  btw : Btw n d p q x y
  least : ∀ s t, Btw n d p q s t → y ≤ t ∧ (t = y → (x.natAbs : Int) ≤ s.natAbs)
theorem mul_pos_iff {a b : Int} (hb : 0 < b) (h : 0 < a * b) : 0 < a := by
  rcases Int.lt_or_le 0 a with h1 | h1
  · exact h1
  · have := Int.mul_nonneg (show 0 ≤ -a by omega) (show 0 ≤ b by omega)
    rw [Int.neg_mul] at this
    omega
theorem lt_of_mul {a b c : Int} (hc : 0 < c) (h : a * c < b * c) : a < b := Int.lt_of_mul_lt_mul_right h (by omega)
/-- The simplest fraction is in lowest terms. -/
theorem Simple.gcd {n d p q x y : Int} (hq : 0 ≤ q) (hd : 1 ≤ d) (h : Simple n d p q x y) : Nat.gcd x.natAbs y.natAbs = 1 := by
  obtain ⟨hy, h1, h2⟩ := h.btw
  obtain ⟨g, hg⟩ : ∃ g, g = Nat.gcd x.natAbs y.natAbs := ⟨_, rfl⟩
  have gx : (g : Int) ∣ x := Int.ofNat_dvd_left.2 (hg ▸ Nat.gcd_dvd_left _ _)
  have gy : (g : Int) ∣ y := Int.ofNat_dvd_left.2 (hg ▸ Nat.gcd_dvd_right _ _)
  obtain ⟨a, ha⟩ := gx
  obtain ⟨b, hb⟩ := gy
  have hg0 : 0 < g := by
    rw [hg]
    exact Nat.gcd_pos_of_pos_right _ (by omega)
  have hb1 : 1 ≤ b := by
    have : 0 < b * (g : Int) := by rw [Int.mul_comm]; omega
    have := mul_pos_iff (by omega) this
    omega
  have hin : Btw n d p q a b := by
    refine ⟨hb1, ?_, ?_⟩
    · refine lt_of_mul (c := (g : Int)) (by omega) ?_
      have e1 : n * b * (g : Int) = n * y := by rw [hb]; grind
      have e2 : a * d * (g : Int) = x * d := by rw [ha]; grind
      omega
    · refine lt_of_mul (c := (g : Int)) (by omega) ?_
      have e1 : a * q * (g : Int) = x * q := by rw [ha]; grind
      have e2 : p * b * (g : Int) = p * y := by rw [hb]; grind
      omega
  have hle := (h.least a b hin).1
  rw [← hg]
  rcases Nat.lt_or_ge 1 g with h3 | h3
  · exfalso
    have : 2 * b ≤ (g : Int) * b := Int.mul_le_mul_of_nonneg_right (by omega) (by omega)
    omega
  · omega
end Go.Proofs.Num

namespace Go.Proofs.Num
set_option linter.unusedVariables false
theorem pos_of_mul {d x : Int} (hd : 0 < d) (h : 0 < d * x) : 0 < x := Int.pos_of_mul_pos_right h hd
/-- What two neighbours are: the greatest at most, the least above r/d, of denominators at most M. -/
structure Near (r d M a b p q : Int) : Prop where
  hd : 0 < d
  hb : 1 ≤ b
  hq : 1 ≤ q
  hM : M < b + q
  det : p * b - a * q = 1
  lo : 0 ≤ r * b - a * d
  hi : 0 < p * d - r * q
/-- No fraction lies between neighbours. -/
theorem Near.gap {r d M a b p q s t : Int} (N : Near r d M a b p q) (ht : 1 ≤ t) (htM : t ≤ M) (h1 : 0 < p * t - s * q) (h2 : 0 < s * b - a * t) : False := by
  obtain ⟨hd, hb, hq, hM, det, lo, hi⟩ := N
  have e : b * (p * t - s * q) + q * (s * b - a * t) = t := by grind
  have l1 : b * 1 ≤ b * (p * t - s * q) := Int.mul_le_mul_of_nonneg_left (by omega) (by omega)
  have l2 : q * 1 ≤ q * (s * b - a * t) := Int.mul_le_mul_of_nonneg_left (by omega) (by omega)
  omega
/-- A fraction at most r/d is at most the lower neighbour. -/
theorem Near.below {r d M a b p q s t : Int} (N : Near r d M a b p q) (ht : 1 ≤ t) (htM : t ≤ M) (h : 0 ≤ r * t - s * d) : 0 ≤ a * t - s * b ∧ (a * t - s * b = 0 → b ≤ t) := by
  have hp : 0 < p * t - s * q := by
    refine pos_of_mul N.hd ?_
    have e : d * (p * t - s * q) = (p * d - r * q) * t + (r * t - s * d) * q := by grind
    have l1 := Int.mul_pos N.hi (show 0 < t by omega)
    have l2 := Int.mul_nonneg h (show 0 ≤ q by have := N.hq; omega)
    omega
  refine ⟨?_, fun h0 => ?_⟩
  · rcases Int.lt_or_le (a * t - s * b) 0 with hx | hx
    · exact (N.gap ht htM hp (by omega)).elim
    · exact hx
  · have det := N.det
    have hb := N.hb
    have e : b * (p * t - s * q) = t := by grind
    have l1 : b * 1 ≤ b * (p * t - s * q) := Int.mul_le_mul_of_nonneg_left (by omega) (by omega)
    omega
end Go.Proofs.Num

namespace Go.Proofs.YtdjnneflpkllmaaDoor.Q
open Go.RowKit Go.Proofs.YtdjnneflpkllmaaDoorW.PrintWords Go.Proofs.YtdjnneflpkllmaaDoorW.PrintLast Go.Proofs.YtdjnneflpkllmaaDoorW.PrintMore
attribute [local go_sem] max2_int min2_int max_two min_two max_three min_three max_four min_four   -- for this text's walks alone
set_option linter.unusedVariables false
set_option linter.unusedSimpArgs false
def num_down.f (a0 : Int) (a1 : Int) : Option (Int × Int) := if a1 = 0 then (none) else (if (Int.tmod a0 a1) < 0 then (some (wrap64 ((wrap64 (Int.tdiv a0 a1)) - 1), wrap64 ((Int.tmod a0 a1) + a1))) else (some (wrap64 (Int.tdiv a0 a1), Int.tmod a0 a1)))
set_option maxHeartbeats 8000000 in
set_option maxRecDepth 100000 in
theorem num_down.calls (a0 : Int) (a1 : Int) (r1 : Int) (r2 : Int) (w : World) (h : num_down.f a0 a1 = some (r1, r2)) :
    Calls Tryd.prog 70 #[.int .i64 a0, .int .i64 a1] w fun e w' => e = .returned (.tuple #[.int .i64 r1, .int .i64 r2]) ∧ Drawn0 w w' := by
  have H : (if a1 = 0 then (none) else (if (Int.tmod a0 a1) < 0 then (some (wrap64 ((wrap64 (Int.tdiv a0 a1)) - 1), wrap64 ((Int.tmod a0 a1) + a1))) else (some (wrap64 (Int.tdiv a0 a1), Int.tmod a0 a1)))) = some (r1, r2) := h
  clear h
  by_cases c3 : a1 = 0
  · rw [if_pos c3] at H
    exact absurd H (by simp)
  · rw [if_neg c3] at H
    have c3b0 : (a1 == 0) = false := beq_eq_false_iff_ne.mpr c3
    have c3b1 : (a1 != 0) = true := bne_iff_ne.mpr c3
    by_cases c4 : (Int.tmod a0 a1) < 0
    · rw [if_pos c4] at H
      have c4b0 : decide ((Int.tmod a0 a1) < 0) = true := decide_eq_true c4
      clear c4
      simp only [Option.some.injEq, Prod.mk.injEq] at H
      obtain ⟨rfl, rfl⟩ := H
      go_enter Tryd.func70, Tryd.ntmps70
      go_wp2
      repeat (go_quiet (fail); try go_wp2)
      go_ret2
      exact ⟨by first | rfl | (simp; done) | (simp [*]; done), by repeat (first | exact Drawn0.refl _ | apply Drawn0.step)⟩
    · rw [if_neg c4] at H
      have c4b0 : decide ((Int.tmod a0 a1) < 0) = false := decide_eq_false c4
      clear c4
      simp only [Option.some.injEq, Prod.mk.injEq] at H
      obtain ⟨rfl, rfl⟩ := H
      go_enter Tryd.func70, Tryd.ntmps70
      go_wp2
      repeat (go_quiet (fail); try go_wp2)
      go_ret2
      exact ⟨by first | rfl | (simp; done) | (simp [*]; done), by repeat (first | exact Drawn0.refl _ | apply Drawn0.step)⟩
end Go.Proofs.YtdjnneflpkllmaaDoor.Q

namespace Go.Proofs.YtdjnneflpkllmaaDoor.Q
open Go.RowKit Go.Proofs.YtdjnneflpkllmaaDoorW.PrintWords Go.Proofs.YtdjnneflpkllmaaDoorW.PrintLast Go.Proofs.YtdjnneflpkllmaaDoorW.PrintMore
attribute [local go_sem] max2_int min2_int max_two min_two max_three min_three max_four min_four   -- for this text's walks alone
set_option linter.unusedVariables false
set_option linter.unusedSimpArgs false
/-- Cells that are stored as they are. -/
theorem self2_ {W : World} {g : Nat} {A B : Value} {t : TypeId} {f : Nat × Nat} (k : W.heap[g]? = some (.cells #[A, B] t f)) : (W.setCell ⟨g, 0, none⟩ A).setCell ⟨g, 1, none⟩ B = W := by
  have h : (((W.setCell ⟨g, 0, none⟩ A).setCell ⟨g, 1, none⟩ B)).heap = W.heap := by
    apply Array.ext_getElem?
    intro i
    simp only [World.setCell, Array.getElem?_modify]
    by_cases e : g = i
    · subst e
      simp [k]
    · simp [e]
  exact (show _ = { W with heap := ((W.setCell ⟨g, 0, none⟩ A).setCell ⟨g, 1, none⟩ B).heap } from rfl).trans (by rw [h])
mutual
def num_around.l0 : Nat → Int → Int → Int → Int → Int → Int → Int → Option (Int × Int × Int × Int)
  | 0, _, _, _, _, _, _, _ => none
  | k + 1, x0, x1, x2, x102000, x102001, x103000, x103001 => if x103001 = 0 then (none) else (if (wrap64 ((wrap64 (x103000 * x1)) - (wrap64 (x0 * x103001)))) > 0 then (if (wrap64 ((wrap64 (x103000 * x1)) - (wrap64 (x0 * x103001)))) = 0 then (none) else (num_around.j1 k x0 x1 x2 (mn (wrap64 (Int.tdiv (wrap64 (x2 - x102001)) x103001)) (wrap64 (Int.tdiv (wrap64 ((wrap64 (x0 * x102001)) - (wrap64 (x102000 * x1)))) (wrap64 ((wrap64 (x103000 * x1)) - (wrap64 (x0 * x103001))))))) x102000 x102001 x103000 x103001)) else (num_around.j1 k x0 x1 x2 (wrap64 (Int.tdiv (wrap64 (x2 - x102001)) x103001)) x102000 x102001 x103000 x103001))
def num_around.j1 : Nat → Int → Int → Int → Int → Int → Int → Int → Int → Option (Int × Int × Int × Int)
  | 0, _, _, _, _, _, _, _, _ => none
  | k + 1, x0, x1, x2, x8, x102000, x102001, x103000, x103001 => if (wrap64 (x102001 + (wrap64 (x8 * x103001)))) = 0 then (none) else (if (wrap64 ((wrap64 (x0 * (wrap64 (x102001 + (wrap64 (x8 * x103001)))))) - (wrap64 ((wrap64 (x102000 + (wrap64 (x8 * x103000)))) * x1)))) > 0 then (if (wrap64 ((wrap64 (x0 * (wrap64 (x102001 + (wrap64 (x8 * x103001)))))) - (wrap64 ((wrap64 (x102000 + (wrap64 (x8 * x103000)))) * x1)))) = 0 then (none) else (if x8 = 0 then (if (mn (wrap64 (Int.tdiv (wrap64 (x2 - x103001)) (wrap64 (x102001 + (wrap64 (x8 * x103001)))))) (wrap64 (Int.tdiv (wrap64 ((wrap64 ((wrap64 (x103000 * x1)) - (wrap64 (x0 * x103001)))) - 1)) (wrap64 ((wrap64 (x0 * (wrap64 (x102001 + (wrap64 (x8 * x103001)))))) - (wrap64 ((wrap64 (x102000 + (wrap64 (x8 * x103000)))) * x1))))))) = 0 then (some (wrap64 (x102000 + (wrap64 (x8 * x103000))), wrap64 (x102001 + (wrap64 (x8 * x103001))), wrap64 (x103000 + (wrap64 ((mn (wrap64 (Int.tdiv (wrap64 (x2 - x103001)) (wrap64 (x102001 + (wrap64 (x8 * x103001)))))) (wrap64 (Int.tdiv (wrap64 ((wrap64 ((wrap64 (x103000 * x1)) - (wrap64 (x0 * x103001)))) - 1)) (wrap64 ((wrap64 (x0 * (wrap64 (x102001 + (wrap64 (x8 * x103001)))))) - (wrap64 ((wrap64 (x102000 + (wrap64 (x8 * x103000)))) * x1))))))) * (wrap64 (x102000 + (wrap64 (x8 * x103000))))))), wrap64 (x103001 + (wrap64 ((mn (wrap64 (Int.tdiv (wrap64 (x2 - x103001)) (wrap64 (x102001 + (wrap64 (x8 * x103001)))))) (wrap64 (Int.tdiv (wrap64 ((wrap64 ((wrap64 (x103000 * x1)) - (wrap64 (x0 * x103001)))) - 1)) (wrap64 ((wrap64 (x0 * (wrap64 (x102001 + (wrap64 (x8 * x103001)))))) - (wrap64 ((wrap64 (x102000 + (wrap64 (x8 * x103000)))) * x1))))))) * (wrap64 (x102001 + (wrap64 (x8 * x103001))))))))) else (num_around.l0 k x0 x1 x2 (wrap64 (x102000 + (wrap64 (x8 * x103000)))) (wrap64 (x102001 + (wrap64 (x8 * x103001)))) (wrap64 (x103000 + (wrap64 ((mn (wrap64 (Int.tdiv (wrap64 (x2 - x103001)) (wrap64 (x102001 + (wrap64 (x8 * x103001)))))) (wrap64 (Int.tdiv (wrap64 ((wrap64 ((wrap64 (x103000 * x1)) - (wrap64 (x0 * x103001)))) - 1)) (wrap64 ((wrap64 (x0 * (wrap64 (x102001 + (wrap64 (x8 * x103001)))))) - (wrap64 ((wrap64 (x102000 + (wrap64 (x8 * x103000)))) * x1))))))) * (wrap64 (x102000 + (wrap64 (x8 * x103000)))))))) (wrap64 (x103001 + (wrap64 ((mn (wrap64 (Int.tdiv (wrap64 (x2 - x103001)) (wrap64 (x102001 + (wrap64 (x8 * x103001)))))) (wrap64 (Int.tdiv (wrap64 ((wrap64 ((wrap64 (x103000 * x1)) - (wrap64 (x0 * x103001)))) - 1)) (wrap64 ((wrap64 (x0 * (wrap64 (x102001 + (wrap64 (x8 * x103001)))))) - (wrap64 ((wrap64 (x102000 + (wrap64 (x8 * x103000)))) * x1))))))) * (wrap64 (x102001 + (wrap64 (x8 * x103001)))))))))) else (num_around.l0 k x0 x1 x2 (wrap64 (x102000 + (wrap64 (x8 * x103000)))) (wrap64 (x102001 + (wrap64 (x8 * x103001)))) (wrap64 (x103000 + (wrap64 ((mn (wrap64 (Int.tdiv (wrap64 (x2 - x103001)) (wrap64 (x102001 + (wrap64 (x8 * x103001)))))) (wrap64 (Int.tdiv (wrap64 ((wrap64 ((wrap64 (x103000 * x1)) - (wrap64 (x0 * x103001)))) - 1)) (wrap64 ((wrap64 (x0 * (wrap64 (x102001 + (wrap64 (x8 * x103001)))))) - (wrap64 ((wrap64 (x102000 + (wrap64 (x8 * x103000)))) * x1))))))) * (wrap64 (x102000 + (wrap64 (x8 * x103000)))))))) (wrap64 (x103001 + (wrap64 ((mn (wrap64 (Int.tdiv (wrap64 (x2 - x103001)) (wrap64 (x102001 + (wrap64 (x8 * x103001)))))) (wrap64 (Int.tdiv (wrap64 ((wrap64 ((wrap64 (x103000 * x1)) - (wrap64 (x0 * x103001)))) - 1)) (wrap64 ((wrap64 (x0 * (wrap64 (x102001 + (wrap64 (x8 * x103001)))))) - (wrap64 ((wrap64 (x102000 + (wrap64 (x8 * x103000)))) * x1))))))) * (wrap64 (x102001 + (wrap64 (x8 * x103001))))))))))) else (if x8 = 0 then (if (wrap64 (Int.tdiv (wrap64 (x2 - x103001)) (wrap64 (x102001 + (wrap64 (x8 * x103001)))))) = 0 then (some (wrap64 (x102000 + (wrap64 (x8 * x103000))), wrap64 (x102001 + (wrap64 (x8 * x103001))), wrap64 (x103000 + (wrap64 ((wrap64 (Int.tdiv (wrap64 (x2 - x103001)) (wrap64 (x102001 + (wrap64 (x8 * x103001)))))) * (wrap64 (x102000 + (wrap64 (x8 * x103000))))))), wrap64 (x103001 + (wrap64 ((wrap64 (Int.tdiv (wrap64 (x2 - x103001)) (wrap64 (x102001 + (wrap64 (x8 * x103001)))))) * (wrap64 (x102001 + (wrap64 (x8 * x103001))))))))) else (num_around.l0 k x0 x1 x2 (wrap64 (x102000 + (wrap64 (x8 * x103000)))) (wrap64 (x102001 + (wrap64 (x8 * x103001)))) (wrap64 (x103000 + (wrap64 ((wrap64 (Int.tdiv (wrap64 (x2 - x103001)) (wrap64 (x102001 + (wrap64 (x8 * x103001)))))) * (wrap64 (x102000 + (wrap64 (x8 * x103000)))))))) (wrap64 (x103001 + (wrap64 ((wrap64 (Int.tdiv (wrap64 (x2 - x103001)) (wrap64 (x102001 + (wrap64 (x8 * x103001)))))) * (wrap64 (x102001 + (wrap64 (x8 * x103001)))))))))) else (num_around.l0 k x0 x1 x2 (wrap64 (x102000 + (wrap64 (x8 * x103000)))) (wrap64 (x102001 + (wrap64 (x8 * x103001)))) (wrap64 (x103000 + (wrap64 ((wrap64 (Int.tdiv (wrap64 (x2 - x103001)) (wrap64 (x102001 + (wrap64 (x8 * x103001)))))) * (wrap64 (x102000 + (wrap64 (x8 * x103000)))))))) (wrap64 (x103001 + (wrap64 ((wrap64 (Int.tdiv (wrap64 (x2 - x103001)) (wrap64 (x102001 + (wrap64 (x8 * x103001)))))) * (wrap64 (x102001 + (wrap64 (x8 * x103001)))))))))))
end
def num_around.f (k : Nat) (a0 : Int) (a1 : Int) (a2 : Int) : Option (Int × Int × Int × Int) := num_around.l0 k a0 a1 a2 0 1 1 1
theorem num_around.mono_l : ∀ k, (∀ y0 y1 y2 y3 y4 y5 y6, LeO (num_around.l0 k y0 y1 y2 y3 y4 y5 y6) (num_around.l0 (k + 1) y0 y1 y2 y3 y4 y5 y6)) ∧ (∀ y0 y1 y2 y3 y4 y5 y6 y7, LeO (num_around.j1 k y0 y1 y2 y3 y4 y5 y6 y7) (num_around.j1 (k + 1) y0 y1 y2 y3 y4 y5 y6 y7))
  | 0 => ⟨fun _ _ _ _ _ _ _ r h => by simp [num_around.l0] at h, fun _ _ _ _ _ _ _ _ r h => by simp [num_around.j1] at h⟩
  | k + 1 => by
    obtain ⟨ih0, ih1⟩ := num_around.mono_l k
    refine ⟨?_, ?_⟩
    · intro y0 y1 y2 y3 y4 y5 y6
      unfold num_around.l0
      repeat' first
      | (with_reducible exact ih0 _ _ _ _ _ _ _)
      | (with_reducible exact ih1 _ _ _ _ _ _ _ _)
      | (with_reducible exact LeO.refl _)
      | (with_reducible exact LeO.none _)
      | (with_reducible refine LeO.ite ?_ ?_)
      | (with_reducible refine LeO.bind ?_ (fun _ => ?_))
      | exact ih0 _ _ _ _ _ _ _
      | exact ih1 _ _ _ _ _ _ _ _
      | exact LeO.none _
      | refine LeO.ite ?_ ?_
      | refine LeO.bind ?_ (fun _ => ?_)
    · intro y0 y1 y2 y3 y4 y5 y6 y7
      unfold num_around.j1
      repeat' first
      | (with_reducible exact ih0 _ _ _ _ _ _ _)
      | (with_reducible exact ih1 _ _ _ _ _ _ _ _)
      | (with_reducible exact LeO.refl _)
      | (with_reducible exact LeO.none _)
      | (with_reducible refine LeO.ite ?_ ?_)
      | (with_reducible refine LeO.bind ?_ (fun _ => ?_))
      | exact ih0 _ _ _ _ _ _ _
      | exact ih1 _ _ _ _ _ _ _ _
      | exact LeO.none _
      | refine LeO.ite ?_ ?_
      | refine LeO.bind ?_ (fun _ => ?_)
theorem num_around.mono : ∀ a0 a1 a2 k, LeO (num_around.f k a0 a1 a2) (num_around.f (k + 1) a0 a1 a2) := by
  intro a0 a1 a2 k
  obtain ⟨ih0, ih1⟩ := num_around.mono_l k
  unfold num_around.f
  repeat' first
      | (with_reducible exact ih0 _ _ _ _ _ _ _)
      | (with_reducible exact ih1 _ _ _ _ _ _ _ _)
      | (with_reducible exact LeO.refl _)
      | (with_reducible exact LeO.none _)
      | (with_reducible refine LeO.ite ?_ ?_)
      | (with_reducible refine LeO.bind ?_ (fun _ => ?_))
      | exact ih0 _ _ _ _ _ _ _
      | exact ih1 _ _ _ _ _ _ _ _
      | exact LeO.none _
      | refine LeO.ite ?_ ?_
      | refine LeO.bind ?_ (fun _ => ?_)
set_option maxHeartbeats 8000000 in
set_option maxRecDepth 100000 in
theorem num_around.calls (k : Nat) (a0 : Int) (a1 : Int) (a2 : Int) (r1 : Int) (r2 : Int) (r3 : Int) (r4 : Int) (w : World) (h : num_around.f k a0 a1 a2 = some (r1, r2, r3, r4)) :
    Calls Tryd.prog 71 #[.int .i64 a0, .int .i64 a1, .int .i64 a2] w fun e w' => e = .returned (.tuple #[.agg #[.int .i64 r1, .int .i64 r2], .agg #[.int .i64 r3, .int .i64 r4]]) ∧ Below w.heap.size w w' := by
  have hu23 := Tryd.underlying23
  have HB := Aside0.mk (Below.refl w.heap.size w)
  have H : (num_around.l0 k a0 a1 a2 0 1 1 1) = some (r1, r2, r3, r4) := h
  clear h
  have H' := Aside0.mk H
  clear H
  go_enter Tryd.func71, Tryd.ntmps71
  go_wp2_with (first | ((with_reducible refine gate_dst (N := 6) rfl ?_); refine qx_ 6 #[.int .i64 0, .int .i64 0] 23 ?hr ?_; (case hr => first | (go_simp; done) | (go_simp; rfl)); intro gb101 hg w4 hbox hb; have n0_ := Aside0.mk (below_step (q0_ HB.out) hb); have n1_ := Aside0.mk (hbox); have n2_ := Aside0.mk (qs_ hg (q0_ HB.out) : w.heap.size ≤ gb101); have n3_ := n2_; clear HB; have HB := n0_; have BK101 := n1_; have GW101 := n2_; have GE101 := n3_; clear n0_ n1_ n2_ n3_; clear hb hbox hg) | ((with_reducible refine gate_dst (N := 7) rfl ?_); refine qx_ 7 #[.int .i64 0, .int .i64 0] 23 ?hr ?_; (case hr => first | (go_simp; done) | (go_simp; rfl)); intro gb102 hg w5 hbox hb; have n0_ := Aside0.mk (qk_ BK101.out hb); have n1_ := Aside0.mk (below_step (q1_ HB.out GE101.out) hb); have n2_ := Aside0.mk (hbox); have n3_ := Aside0.mk (qs_ hg (q1_ HB.out GE101.out) : w.heap.size ≤ gb102); have n4_ := n3_; have n5_ := Aside0.mk (qn_ hg BK101.out); have n6_ := Aside0.mk (Ne.symm (qn_ hg BK101.out)); clear BK101; clear HB; have BK101 := n0_; have HB := n1_; have BK102 := n2_; have GW102 := n3_; have GE102 := n4_; have NB101_102 := n5_; have NB102_101 := n6_; clear n0_ n1_ n2_ n3_ n4_ n5_ n6_; clear hb hbox hg; have hnb6 := NB101_102.out; have hnc6 := NB102_101.out; have hcz7_0 : w5.cell? ⟨gb101, 0, none⟩ = some (.int .i64 0) := (blk_cell BK101.out 0).trans rfl; have hcz7_1 : w5.cell? ⟨gb101, 1, none⟩ = some (.int .i64 0) := (blk_cell BK101.out 1).trans rfl; have hfz7_0 := blk_frozen BK101.out 0; have hfz7_1 := blk_frozen BK101.out 1; have hcz8_0 : w5.cell? ⟨gb102, 0, none⟩ = some (.int .i64 0) := (blk_cell BK102.out 0).trans rfl; have hcz8_1 : w5.cell? ⟨gb102, 1, none⟩ = some (.int .i64 0) := (blk_cell BK102.out 1).trans rfl; have hfz8_0 := blk_frozen BK102.out 0; have hfz8_1 := blk_frozen BK102.out 1))
  go_loopg [] k (fun kq w' => ∃ (x102000_1 : Int) (x102001_1 : Int) (x103000_1 : Int) (x103001_1 : Int), Aside0 (num_around.l0 kq a0 a1 a2 x102000_1 x102001_1 x103000_1 x103001_1 = some (r1, r2, r3, r4)) ∧ Aside0 (kq ≤ k) ∧ Aside0 (w'.heap[gb101]? = some (.cells #[.int .i64 x102000_1, .int .i64 x102001_1] 23 (0, 0))) ∧ Aside0 (w'.heap[gb102]? = some (.cells #[.int .i64 x103000_1, .int .i64 x103001_1] 23 (0, 0))) ∧ Aside0 (Below w.heap.size w w'))
  case atStart => exact ⟨(0), (1), (1), (1), H', ⟨Nat.le_refl _⟩, ⟨by (with_reducible repeat (first | refine blk_drewN ?_ _ | refine blk_drew ?_ | refine blk_alloc ?_ _)); refine blk_far ?_ NB101_102.out _; (with_reducible repeat (first | refine blk_drewN ?_ _ | refine blk_drew ?_ | refine blk_alloc ?_ _)); refine blk_far ?_ NB101_102.out _; (with_reducible repeat (first | refine blk_drewN ?_ _ | refine blk_drew ?_ | refine blk_alloc ?_ _)); refine blk_put (cs := #[.int .i64 0, .int .i64 0]) ?_ 1 _ rfl; (with_reducible repeat (first | refine blk_drewN ?_ _ | refine blk_drew ?_ | refine blk_alloc ?_ _)); refine blk_put (cs := #[.int .i64 0, .int .i64 0]) ?_ 0 _ rfl; (with_reducible repeat (first | refine blk_drewN ?_ _ | refine blk_drew ?_ | refine blk_alloc ?_ _)); exact BK101.out⟩, ⟨by (with_reducible repeat (first | refine blk_drewN ?_ _ | refine blk_drew ?_ | refine blk_alloc ?_ _)); refine blk_put (cs := #[.int .i64 1, .int .i64 0]) ?_ 1 _ rfl; (with_reducible repeat (first | refine blk_drewN ?_ _ | refine blk_drew ?_ | refine blk_alloc ?_ _)); refine blk_put (cs := #[.int .i64 0, .int .i64 0]) ?_ 0 _ rfl; (with_reducible repeat (first | refine blk_drewN ?_ _ | refine blk_drew ?_ | refine blk_alloc ?_ _)); refine blk_far ?_ NB102_101.out _; (with_reducible repeat (first | refine blk_drewN ?_ _ | refine blk_drew ?_ | refine blk_alloc ?_ _)); refine blk_far ?_ NB102_101.out _; (with_reducible repeat (first | refine blk_drewN ?_ _ | refine blk_drew ?_ | refine blk_alloc ?_ _)); exact BK102.out⟩, ⟨(q2_ HB.out GE101.out GE102.out)⟩⟩
  case round =>
    clear H'
    try clear p2
    try clear c6
    try clear c7
    try clear hcz7_0
    try clear hcz7_1
    try clear hcz8_0
    try clear hcz8_1
    try clear hfz7_0
    try clear hfz7_1
    try clear hfz8_0
    try clear hfz8_1
    obtain ⟨x102000_1, x102001_1, x103000_1, x103001_1, HA, HK1, BK101, BK102, HB⟩ := hrel
    cases gk with
    | zero => exact absurd HA.out (by simp [num_around.l0])
    | succ k1 =>
      have H := HA.out
      clear HA
      simp only [num_around.l0] at H
      by_cases c9 : x103001_1 = 0
      · rw [if_pos c9] at H
        exact absurd H (by simp)
      · rw [if_neg c9] at H
        have c9b0 : (x103001_1 == 0) = false := beq_eq_false_iff_ne.mpr c9
        have c9b1 : (x103001_1 != 0) = true := bne_iff_ne.mpr c9
        have HC10 := Aside0.mk H
        clear H
        have hnb11 := NB101_102.out
        have hnc11 := NB102_101.out
        have hcz12_0 : wr.cell? ⟨gb101, 0, none⟩ = some (.int .i64 x102000_1) := (blk_cell BK101.out 0).trans rfl
        have hcz12_1 : wr.cell? ⟨gb101, 1, none⟩ = some (.int .i64 x102001_1) := (blk_cell BK101.out 1).trans rfl
        have hfz12_0 := blk_frozen BK101.out 0
        have hfz12_1 := blk_frozen BK101.out 1
        have hcz13_0 : wr.cell? ⟨gb102, 0, none⟩ = some (.int .i64 x103000_1) := (blk_cell BK102.out 0).trans rfl
        have hcz13_1 : wr.cell? ⟨gb102, 1, none⟩ = some (.int .i64 x103001_1) := (blk_cell BK102.out 1).trans rfl
        have hfz13_0 := blk_frozen BK102.out 0
        have hfz13_1 := blk_frozen BK102.out 1
        go_upto_if 31 with (fail)
        go_cut [8] (fun v8 wc => ∃ (kq : Nat) (x8_9 : Int), v8 = .int .i64 x8_9 ∧ Aside0 (num_around.j1 kq a0 a1 a2 x8_9 x102000_1 x102001_1 x103000_1 x103001_1 = some (r1, r2, r3, r4)) ∧ Aside0 (kq ≤ k1) ∧ Aside0 (wc.heap[gb101]? = some (.cells #[.int .i64 x102000_1, .int .i64 x102001_1] 23 (0, 0))) ∧ Aside0 (wc.heap[gb102]? = some (.cells #[.int .i64 x103000_1, .int .i64 x103001_1] 23 (0, 0))) ∧ Aside0 (Below w.heap.size w wc))
        case first =>
          have H := HC10.out
          clear HC10
          by_cases c14 : (wrap64 ((wrap64 (x103000_1 * a1)) - (wrap64 (a0 * x103001_1)))) > 0
          · rw [if_pos c14] at H
            have c14b0 : decide (0 < (wrap64 ((wrap64 (x103000_1 * a1)) - (wrap64 (a0 * x103001_1))))) = true := decide_eq_true c14
            clear c14
            (first | rw [c14b0] | (simp only [i64_w, i32_w]; rw [c14b0]) | skip)
            by_cases c15 : (wrap64 ((wrap64 (x103000_1 * a1)) - (wrap64 (a0 * x103001_1)))) = 0
            · rw [if_pos c15] at H
              exact absurd H (by simp)
            · rw [if_neg c15] at H
              have c15b0 : ((wrap64 ((wrap64 (x103000_1 * a1)) - (wrap64 (a0 * x103001_1)))) == 0) = false := beq_eq_false_iff_ne.mpr c15
              have c15b1 : ((wrap64 ((wrap64 (x103000_1 * a1)) - (wrap64 (a0 * x103001_1)))) != 0) = true := bne_iff_ne.mpr c15
              obtain ⟨ji16, hji16⟩ : ∃ j_ : Int, (mn (wrap64 (Int.tdiv (wrap64 (a2 - x102001_1)) x103001_1)) (wrap64 (Int.tdiv (wrap64 ((wrap64 (a0 * x102001_1)) - (wrap64 (x102000_1 * a1)))) (wrap64 ((wrap64 (x103000_1 * a1)) - (wrap64 (a0 * x103001_1))))))) = j_ := ⟨_, rfl⟩
              replace H : (num_around.j1 k1 a0 a1 a2 ji16 x102000_1 x102001_1 x103000_1 x103001_1) = some (r1, r2, r3, r4) := by first | (rw [hji16] at H; exact H) | (simp only [hji16] at H ⊢; exact H)
              have hji16_ : (if (wrap64 (Int.tdiv (wrap64 ((wrap64 (a0 * x102001_1)) - (wrap64 (x102000_1 * a1)))) (wrap64 ((wrap64 (x103000_1 * a1)) - (wrap64 (a0 * x103001_1)))))) < (wrap64 (Int.tdiv (wrap64 (a2 - x102001_1)) x103001_1)) then (wrap64 (Int.tdiv (wrap64 ((wrap64 (a0 * x102001_1)) - (wrap64 (x102000_1 * a1)))) (wrap64 ((wrap64 (x103000_1 * a1)) - (wrap64 (a0 * x103001_1)))))) else (wrap64 (Int.tdiv (wrap64 (a2 - x102001_1)) x103001_1))) = ji16 := hji16
              have H' := Aside0.mk H
              clear H
              have hnb17 := NB101_102.out
              have hnc17 := NB102_101.out
              have hcz18_0 : wr.cell? ⟨gb101, 0, none⟩ = some (.int .i64 x102000_1) := (blk_cell BK101.out 0).trans rfl
              have hcz18_1 : wr.cell? ⟨gb101, 1, none⟩ = some (.int .i64 x102001_1) := (blk_cell BK101.out 1).trans rfl
              have hfz18_0 := blk_frozen BK101.out 0
              have hfz18_1 := blk_frozen BK101.out 1
              go_wp2
              go_meet
              case rel => exact ⟨_, (ji16), (by first | rfl | (simp; done) | (simp only [← hji16] <;> (first | rfl | simp)) | (simp [*]; done)), H', ⟨by have := HK1.out; first | omega | exact Nat.le_refl _⟩, ⟨by (with_reducible repeat (first | refine blk_drewN ?_ _ | refine blk_drew ?_ | refine blk_alloc ?_ _)); exact BK101.out⟩, ⟨by (with_reducible repeat (first | refine blk_drewN ?_ _ | refine blk_drew ?_ | refine blk_alloc ?_ _)); exact BK102.out⟩, ⟨(q2_ HB.out GE101.out GE102.out)⟩⟩
          · rw [if_neg c14] at H
            have c14b0 : decide (0 < (wrap64 ((wrap64 (x103000_1 * a1)) - (wrap64 (a0 * x103001_1))))) = false := decide_eq_false c14
            clear c14
            (first | rw [c14b0] | (simp only [i64_w, i32_w]; rw [c14b0]) | skip)
            have H' := Aside0.mk H
            clear H
            go_wp2
            go_meet
            case rel => exact ⟨_, (wrap64 (Int.tdiv (wrap64 (a2 - x102001_1)) x103001_1)), (by first | rfl | (simp; done) | (simp [*]; done)), H', ⟨by have := HK1.out; first | omega | exact Nat.le_refl _⟩, ⟨by (with_reducible repeat (first | refine blk_drewN ?_ _ | refine blk_drew ?_ | refine blk_alloc ?_ _)); exact BK101.out⟩, ⟨by (with_reducible repeat (first | refine blk_drewN ?_ _ | refine blk_drew ?_ | refine blk_alloc ?_ _)); exact BK102.out⟩, ⟨(q2_ HB.out GE101.out GE102.out)⟩⟩
        case rest =>
          clear HC10
          try clear c1
          try clear p2
          try clear c6
          try clear p6
          try clear c7
          try clear c9
          try clear c9b0
          try clear c9b1
          try clear c11
          try clear c14
          try clear c14b0
          try clear c15
          try clear c15b0
          try clear c15b1
          try clear c17
          try clear hcz12_0
          try clear hcz12_1
          try clear hcz13_0
          try clear hcz13_1
          try clear hcz18_0
          try clear hcz18_1
          try clear hcz7_0
          try clear hcz7_1
          try clear hcz8_0
          try clear hcz8_1
          try clear hfz12_0
          try clear hfz12_1
          try clear hfz13_0
          try clear hfz13_1
          try clear hfz18_0
          try clear hfz18_1
          try clear hfz7_0
          try clear hfz7_1
          try clear hfz8_0
          try clear hfz8_1
          try clear p2
          obtain ⟨kq, x8_9, rfl, HA, HJ9, BK101, BK102, HB⟩ := hcut
          cases kq with
          | zero => exact absurd HA.out (by simp [num_around.j1])
          | succ kj9 =>
            have H := HA.out
            clear HA
            simp only [num_around.j1] at H
            by_cases c19 : (wrap64 (x102001_1 + (wrap64 (x8_9 * x103001_1)))) = 0
            · rw [if_pos c19] at H
              exact absurd H (by simp)
            · rw [if_neg c19] at H
              have c19b0 : ((wrap64 (x102001_1 + (wrap64 (x8_9 * x103001_1)))) == 0) = false := beq_eq_false_iff_ne.mpr c19
              have c19b1 : ((wrap64 (x102001_1 + (wrap64 (x8_9 * x103001_1)))) != 0) = true := bne_iff_ne.mpr c19
              by_cases c20 : (wrap64 ((wrap64 (a0 * (wrap64 (x102001_1 + (wrap64 (x8_9 * x103001_1)))))) - (wrap64 ((wrap64 (x102000_1 + (wrap64 (x8_9 * x103000_1)))) * a1)))) > 0
              · rw [if_pos c20] at H
                have c20b0 : decide (0 < (wrap64 ((wrap64 (a0 * (wrap64 (x102001_1 + (wrap64 (x8_9 * x103001_1)))))) - (wrap64 ((wrap64 (x102000_1 + (wrap64 (x8_9 * x103000_1)))) * a1))))) = true := decide_eq_true c20
                clear c20
                by_cases c21 : (wrap64 ((wrap64 (a0 * (wrap64 (x102001_1 + (wrap64 (x8_9 * x103001_1)))))) - (wrap64 ((wrap64 (x102000_1 + (wrap64 (x8_9 * x103000_1)))) * a1)))) = 0
                · rw [if_pos c21] at H
                  exact absurd H (by simp)
                · rw [if_neg c21] at H
                  have c21b0 : ((wrap64 ((wrap64 (a0 * (wrap64 (x102001_1 + (wrap64 (x8_9 * x103001_1)))))) - (wrap64 ((wrap64 (x102000_1 + (wrap64 (x8_9 * x103000_1)))) * a1)))) == 0) = false := beq_eq_false_iff_ne.mpr c21
                  have c21b1 : ((wrap64 ((wrap64 (a0 * (wrap64 (x102001_1 + (wrap64 (x8_9 * x103001_1)))))) - (wrap64 ((wrap64 (x102000_1 + (wrap64 (x8_9 * x103000_1)))) * a1)))) != 0) = true := bne_iff_ne.mpr c21
                  obtain ⟨ji22, hji22⟩ : ∃ j_ : Int, (mn (wrap64 (Int.tdiv (wrap64 (a2 - x103001_1)) (wrap64 (x102001_1 + (wrap64 (x8_9 * x103001_1)))))) (wrap64 (Int.tdiv (wrap64 ((wrap64 ((wrap64 (x103000_1 * a1)) - (wrap64 (a0 * x103001_1)))) - 1)) (wrap64 ((wrap64 (a0 * (wrap64 (x102001_1 + (wrap64 (x8_9 * x103001_1)))))) - (wrap64 ((wrap64 (x102000_1 + (wrap64 (x8_9 * x103000_1)))) * a1))))))) = j_ := ⟨_, rfl⟩
                  replace H : (if x8_9 = 0 then (if (ji22) = 0 then (some (wrap64 (x102000_1 + (wrap64 (x8_9 * x103000_1))), wrap64 (x102001_1 + (wrap64 (x8_9 * x103001_1))), wrap64 (x103000_1 + (wrap64 ((ji22) * (wrap64 (x102000_1 + (wrap64 (x8_9 * x103000_1))))))), wrap64 (x103001_1 + (wrap64 ((ji22) * (wrap64 (x102001_1 + (wrap64 (x8_9 * x103001_1))))))))) else (num_around.l0 kj9 a0 a1 a2 (wrap64 (x102000_1 + (wrap64 (x8_9 * x103000_1)))) (wrap64 (x102001_1 + (wrap64 (x8_9 * x103001_1)))) (wrap64 (x103000_1 + (wrap64 ((ji22) * (wrap64 (x102000_1 + (wrap64 (x8_9 * x103000_1)))))))) (wrap64 (x103001_1 + (wrap64 ((ji22) * (wrap64 (x102001_1 + (wrap64 (x8_9 * x103001_1)))))))))) else (num_around.l0 kj9 a0 a1 a2 (wrap64 (x102000_1 + (wrap64 (x8_9 * x103000_1)))) (wrap64 (x102001_1 + (wrap64 (x8_9 * x103001_1)))) (wrap64 (x103000_1 + (wrap64 ((ji22) * (wrap64 (x102000_1 + (wrap64 (x8_9 * x103000_1)))))))) (wrap64 (x103001_1 + (wrap64 ((ji22) * (wrap64 (x102001_1 + (wrap64 (x8_9 * x103001_1)))))))))) = some (r1, r2, r3, r4) := by first | (rw [hji22] at H; exact H) | (simp only [hji22] at H ⊢; exact H)
                  have hji22_ : (if (wrap64 (Int.tdiv (wrap64 ((wrap64 ((wrap64 (x103000_1 * a1)) - (wrap64 (a0 * x103001_1)))) - 1)) (wrap64 ((wrap64 (a0 * (wrap64 (x102001_1 + (wrap64 (x8_9 * x103001_1)))))) - (wrap64 ((wrap64 (x102000_1 + (wrap64 (x8_9 * x103000_1)))) * a1)))))) < (wrap64 (Int.tdiv (wrap64 (a2 - x103001_1)) (wrap64 (x102001_1 + (wrap64 (x8_9 * x103001_1)))))) then (wrap64 (Int.tdiv (wrap64 ((wrap64 ((wrap64 (x103000_1 * a1)) - (wrap64 (a0 * x103001_1)))) - 1)) (wrap64 ((wrap64 (a0 * (wrap64 (x102001_1 + (wrap64 (x8_9 * x103001_1)))))) - (wrap64 ((wrap64 (x102000_1 + (wrap64 (x8_9 * x103000_1)))) * a1)))))) else (wrap64 (Int.tdiv (wrap64 (a2 - x103001_1)) (wrap64 (x102001_1 + (wrap64 (x8_9 * x103001_1))))))) = ji22 := hji22
                  by_cases c23 : x8_9 = 0
                  · rw [if_pos c23] at H
                    have c23b0 : (x8_9 == 0) = true := beq_iff_eq.mpr c23
                    have c23b1 : (x8_9 != 0) = false := bne_eq_false_iff_eq.mpr c23
                    clear c23
                    by_cases c24 : (ji22) = 0
                    · rw [if_pos c24] at H
                      have c24b0 : ((ji22) == 0) = true := beq_iff_eq.mpr c24
                      have c24b1 : ((ji22) != 0) = false := bne_eq_false_iff_eq.mpr c24
                      clear c24
                      simp only [Option.some.injEq, Prod.mk.injEq] at H
                      obtain ⟨rfl, rfl, rfl, rfl⟩ := H
                      have hnb25 := NB101_102.out
                      have hnc25 := NB102_101.out
                      have hcz26_0 : wc.cell? ⟨gb101, 0, none⟩ = some (.int .i64 x102000_1) := (blk_cell BK101.out 0).trans rfl
                      have hcz26_1 : wc.cell? ⟨gb101, 1, none⟩ = some (.int .i64 x102001_1) := (blk_cell BK101.out 1).trans rfl
                      have hfz26_0 := blk_frozen BK101.out 0
                      have hfz26_1 := blk_frozen BK101.out 1
                      have hcz27_0 : wc.cell? ⟨gb102, 0, none⟩ = some (.int .i64 x103000_1) := (blk_cell BK102.out 0).trans rfl
                      have hcz27_1 : wc.cell? ⟨gb102, 1, none⟩ = some (.int .i64 x103001_1) := (blk_cell BK102.out 1).trans rfl
                      have hfz27_0 := blk_frozen BK102.out 0
                      have hfz27_1 := blk_frozen BK102.out 1
                      go_upto_region 13 with (fail)
                      have k1_ : ((((wc.setCell ⟨gb101, 0, none⟩ (.int .i64 (wrap64 (x102000_1 + (wrap64 (x8_9 * x103000_1)))))).setCell ⟨gb101, 1, none⟩ (.int .i64 (wrap64 (x102001_1 + (wrap64 (x8_9 * x103001_1)))))).setCell ⟨gb102, 0, none⟩ (.int .i64 (wrap64 (x103000_1 + (wrap64 ((ji22) * (wrap64 (x102000_1 + (wrap64 (x8_9 * x103000_1)))))))))).setCell ⟨gb102, 1, none⟩ (.int .i64 (wrap64 (x103001_1 + (wrap64 ((ji22) * (wrap64 (x102001_1 + (wrap64 (x8_9 * x103001_1)))))))))).heap[gb101]? = some (.cells #[.int .i64 (wrap64 (x102000_1 + (wrap64 (x8_9 * x103000_1)))), .int .i64 (wrap64 (x102001_1 + (wrap64 (x8_9 * x103001_1))))] 23 (0, 0)) := (by (with_reducible repeat (first | refine blk_drewN ?_ _ | refine blk_drew ?_ | refine blk_alloc ?_ _)); refine blk_far ?_ NB101_102.out _; (with_reducible repeat (first | refine blk_drewN ?_ _ | refine blk_drew ?_ | refine blk_alloc ?_ _)); refine blk_far ?_ NB101_102.out _; (with_reducible repeat (first | refine blk_drewN ?_ _ | refine blk_drew ?_ | refine blk_alloc ?_ _)); refine blk_put (cs := #[.int .i64 (wrap64 (x102000_1 + (wrap64 (x8_9 * x103000_1)))), .int .i64 x102001_1]) ?_ 1 _ rfl; (with_reducible repeat (first | refine blk_drewN ?_ _ | refine blk_drew ?_ | refine blk_alloc ?_ _)); refine blk_put (cs := #[.int .i64 x102000_1, .int .i64 x102001_1]) ?_ 0 _ rfl; (with_reducible repeat (first | refine blk_drewN ?_ _ | refine blk_drew ?_ | refine blk_alloc ?_ _)); exact BK101.out)
                      have k2_ : ((((wc.setCell ⟨gb101, 0, none⟩ (.int .i64 (wrap64 (x102000_1 + (wrap64 (x8_9 * x103000_1)))))).setCell ⟨gb101, 1, none⟩ (.int .i64 (wrap64 (x102001_1 + (wrap64 (x8_9 * x103001_1)))))).setCell ⟨gb102, 0, none⟩ (.int .i64 (wrap64 (x103000_1 + (wrap64 ((ji22) * (wrap64 (x102000_1 + (wrap64 (x8_9 * x103000_1)))))))))).setCell ⟨gb102, 1, none⟩ (.int .i64 (wrap64 (x103001_1 + (wrap64 ((ji22) * (wrap64 (x102001_1 + (wrap64 (x8_9 * x103001_1)))))))))).heap[gb102]? = some (.cells #[.int .i64 (wrap64 (x103000_1 + (wrap64 ((ji22) * (wrap64 (x102000_1 + (wrap64 (x8_9 * x103000_1)))))))), .int .i64 (wrap64 (x103001_1 + (wrap64 ((ji22) * (wrap64 (x102001_1 + (wrap64 (x8_9 * x103001_1))))))))] 23 (0, 0)) := (by (with_reducible repeat (first | refine blk_drewN ?_ _ | refine blk_drew ?_ | refine blk_alloc ?_ _)); refine blk_put (cs := #[.int .i64 (wrap64 (x103000_1 + (wrap64 ((ji22) * (wrap64 (x102000_1 + (wrap64 (x8_9 * x103000_1)))))))), .int .i64 x103001_1]) ?_ 1 _ rfl; (with_reducible repeat (first | refine blk_drewN ?_ _ | refine blk_drew ?_ | refine blk_alloc ?_ _)); refine blk_put (cs := #[.int .i64 x103000_1, .int .i64 x103001_1]) ?_ 0 _ rfl; (with_reducible repeat (first | refine blk_drewN ?_ _ | refine blk_drew ?_ | refine blk_alloc ?_ _)); refine blk_far ?_ NB102_101.out _; (with_reducible repeat (first | refine blk_drewN ?_ _ | refine blk_drew ?_ | refine blk_alloc ?_ _)); refine blk_far ?_ NB102_101.out _; (with_reducible repeat (first | refine blk_drewN ?_ _ | refine blk_drew ?_ | refine blk_alloc ?_ _)); exact BK102.out)
                      have kb_ : Below w.heap.size w ((((wc.setCell ⟨gb101, 0, none⟩ (.int .i64 (wrap64 (x102000_1 + (wrap64 (x8_9 * x103000_1)))))).setCell ⟨gb101, 1, none⟩ (.int .i64 (wrap64 (x102001_1 + (wrap64 (x8_9 * x103001_1)))))).setCell ⟨gb102, 0, none⟩ (.int .i64 (wrap64 (x103000_1 + (wrap64 ((ji22) * (wrap64 (x102000_1 + (wrap64 (x8_9 * x103000_1)))))))))).setCell ⟨gb102, 1, none⟩ (.int .i64 (wrap64 (x103001_1 + (wrap64 ((ji22) * (wrap64 (x102001_1 + (wrap64 (x8_9 * x103001_1)))))))))) := (q2_ HB.out GE101.out GE102.out)
                      generalize ((((wc.setCell ⟨gb101, 0, none⟩ (.int .i64 (wrap64 (x102000_1 + (wrap64 (x8_9 * x103000_1)))))).setCell ⟨gb101, 1, none⟩ (.int .i64 (wrap64 (x102001_1 + (wrap64 (x8_9 * x103001_1)))))).setCell ⟨gb102, 0, none⟩ (.int .i64 (wrap64 (x103000_1 + (wrap64 ((ji22) * (wrap64 (x102000_1 + (wrap64 (x8_9 * x103000_1)))))))))).setCell ⟨gb102, 1, none⟩ (.int .i64 (wrap64 (x103001_1 + (wrap64 ((ji22) * (wrap64 (x102001_1 + (wrap64 (x8_9 * x103001_1)))))))))) = W_ at k1_ k2_ kb_ ⊢
                      have cek1_0 := (blk_cell k1_ 0).trans rfl
                      have cfk1_0 := blk_frozen k1_ 0
                      have cek1_1 := (blk_cell k1_ 1).trans rfl
                      have cfk1_1 := blk_frozen k1_ 1
                      have cek2_0 := (blk_cell k2_ 0).trans rfl
                      have cfk2_0 := blk_frozen k2_ 0
                      have cek2_1 := (blk_cell k2_ 1).trans rfl
                      have cfk2_1 := blk_frozen k2_ 1
                      have HK1_ := Aside0.mk k1_
                      have HK2_ := Aside0.mk k2_
                      clear k1_ k2_
                      refine start_ (n := 4) (S := fun w' => w' = W_.drew) (ds := []) #[false, false, false, false] (by kernel_rfl) rfl rfl rfl (fun hHeld => ?_)
                      refine take_ (i := 0) (N := some 113) (v := ?_) (a' := ?_) #[true, false, false, false] rfl rfl (by kernel_rfl) (fun _ _ _ h => h) (Or.inl ⟨by rfl, ?_⟩) hHeld ?_ ?_
                      rotate_left
                      · rintro w' rfl
                        go_simp
                        with_reducible rfl
                      rotate_left
                      · simp only [Act.put, List.setIfInBounds_toArray, List.set_cons_zero, List.set_cons_succ, i64_w, i32_w]
                        rfl
                      refine take_ (i := 1) (N := some 114) (v := ?_) (a' := ?_) #[true, true, false, false] rfl rfl (by kernel_rfl) (fun _ _ _ h => h) (Or.inl ⟨by rfl, ?_⟩) hHeld ?_ ?_
                      rotate_left
                      · rintro w' rfl
                        go_simp
                        with_reducible rfl
                      rotate_left
                      · simp only [Act.put, List.setIfInBounds_toArray, List.set_cons_zero, List.set_cons_succ, i64_w, i32_w]
                        rfl
                      refine one_ (i := 2) (N := none) #[true, true, true, false] rfl rfl (by kernel_rfl) (by decide) (fun K hK => ?_)
                      refine skip_ (w1 := ?_) (by rfl) rfl ?_ ?_
                      rotate_left
                      · go_simp
                        with_reducible rfl
                      refine hK.out _ _ (congrArg World.drew (self2_ HK1_.out)) (fun hHeld => ?_)
                      clear hK K
                      rw [self2_ HK1_.out]
                      refine one_ (i := 3) (N := none) #[true, true, true, true] rfl rfl (by kernel_rfl) (by decide) (fun K hK => ?_)
                      refine skip_ (w1 := ?_) (by rfl) rfl ?_ ?_
                      rotate_left
                      · go_simp
                        with_reducible rfl
                      refine hK.out _ _ (congrArg World.drew (self2_ HK2_.out)) (fun hHeld => ?_)
                      clear hK K
                      rw [self2_ HK2_.out]
                      refine done_ (by kernel_rfl) ?_
                      go_wp2
                      refine bodyPost_ret (results_cc rfl _ _ gb101 gb102 23 23 #[.int .i64 (wrap64 (x102000_1 + (wrap64 (x8_9 * x103000_1)))), .int .i64 (wrap64 (x102001_1 + (wrap64 (x8_9 * x103001_1))))] #[.int .i64 (wrap64 (x103000_1 + (wrap64 ((ji22) * (wrap64 (x102000_1 + (wrap64 (x8_9 * x103000_1)))))))), .int .i64 (wrap64 (x103001_1 + (wrap64 ((ji22) * (wrap64 (x102001_1 + (wrap64 (x8_9 * x103001_1))))))))] (0, 0) (0, 0) _ _ rfl HK1_.out Tryd.underlying23 rfl (by kernel_rfl) rfl HK2_.out Tryd.underlying23 rfl (by kernel_rfl)) rfl ?_
                      exact ⟨by first | rfl | (simp [errW_none, errW_some] <;> rfl) | (simp only [← hji22]; first | rfl | (simp [errW_none, errW_some] <;> rfl)) | (simp [*, errW_none, errW_some] <;> rfl), pw_below_drewN kb_ 1⟩
                    · rw [if_neg c24] at H
                      have c24b0 : ((ji22) == 0) = false := beq_eq_false_iff_ne.mpr c24
                      have c24b1 : ((ji22) != 0) = true := bne_iff_ne.mpr c24
                      have H' := Aside0.mk H
                      clear H
                      have hnb28 := NB101_102.out
                      have hnc28 := NB102_101.out
                      have hcz29_0 : wc.cell? ⟨gb101, 0, none⟩ = some (.int .i64 x102000_1) := (blk_cell BK101.out 0).trans rfl
                      have hcz29_1 : wc.cell? ⟨gb101, 1, none⟩ = some (.int .i64 x102001_1) := (blk_cell BK101.out 1).trans rfl
                      have hfz29_0 := blk_frozen BK101.out 0
                      have hfz29_1 := blk_frozen BK101.out 1
                      have hcz30_0 : wc.cell? ⟨gb102, 0, none⟩ = some (.int .i64 x103000_1) := (blk_cell BK102.out 0).trans rfl
                      have hcz30_1 : wc.cell? ⟨gb102, 1, none⟩ = some (.int .i64 x103001_1) := (blk_cell BK102.out 1).trans rfl
                      have hfz30_0 := blk_frozen BK102.out 0
                      have hfz30_1 := blk_frozen BK102.out 1
                      go_wp2
                      go_roundg kj9
                      case measure => have := HK1.out; have := HJ9.out; omega
                      case rel => exact ⟨(wrap64 (x102000_1 + (wrap64 (x8_9 * x103000_1)))), (wrap64 (x102001_1 + (wrap64 (x8_9 * x103001_1)))), (wrap64 (x103000_1 + (wrap64 ((ji22) * (wrap64 (x102000_1 + (wrap64 (x8_9 * x103000_1)))))))), (wrap64 (x103001_1 + (wrap64 ((ji22) * (wrap64 (x102001_1 + (wrap64 (x8_9 * x103001_1)))))))), H', ⟨by have := HK1.out; have := HJ9.out; omega⟩, ⟨by (with_reducible repeat (first | refine blk_drewN ?_ _ | refine blk_drew ?_ | refine blk_alloc ?_ _)); refine blk_far ?_ NB101_102.out _; (with_reducible repeat (first | refine blk_drewN ?_ _ | refine blk_drew ?_ | refine blk_alloc ?_ _)); refine blk_far ?_ NB101_102.out _; (with_reducible repeat (first | refine blk_drewN ?_ _ | refine blk_drew ?_ | refine blk_alloc ?_ _)); refine blk_put (cs := #[.int .i64 (wrap64 (x102000_1 + (wrap64 (x8_9 * x103000_1)))), .int .i64 x102001_1]) ?_ 1 _ rfl; (with_reducible repeat (first | refine blk_drewN ?_ _ | refine blk_drew ?_ | refine blk_alloc ?_ _)); refine blk_put (cs := #[.int .i64 x102000_1, .int .i64 x102001_1]) ?_ 0 _ rfl; (with_reducible repeat (first | refine blk_drewN ?_ _ | refine blk_drew ?_ | refine blk_alloc ?_ _)); exact BK101.out⟩, ⟨by (with_reducible repeat (first | refine blk_drewN ?_ _ | refine blk_drew ?_ | refine blk_alloc ?_ _)); refine blk_put (cs := #[.int .i64 (wrap64 (x103000_1 + (wrap64 ((ji22) * (wrap64 (x102000_1 + (wrap64 (x8_9 * x103000_1)))))))), .int .i64 x103001_1]) ?_ 1 _ rfl; (with_reducible repeat (first | refine blk_drewN ?_ _ | refine blk_drew ?_ | refine blk_alloc ?_ _)); refine blk_put (cs := #[.int .i64 x103000_1, .int .i64 x103001_1]) ?_ 0 _ rfl; (with_reducible repeat (first | refine blk_drewN ?_ _ | refine blk_drew ?_ | refine blk_alloc ?_ _)); refine blk_far ?_ NB102_101.out _; (with_reducible repeat (first | refine blk_drewN ?_ _ | refine blk_drew ?_ | refine blk_alloc ?_ _)); refine blk_far ?_ NB102_101.out _; (with_reducible repeat (first | refine blk_drewN ?_ _ | refine blk_drew ?_ | refine blk_alloc ?_ _)); exact BK102.out⟩, ⟨(q2_ HB.out GE101.out GE102.out)⟩⟩
                  · rw [if_neg c23] at H
                    have c23b0 : (x8_9 == 0) = false := beq_eq_false_iff_ne.mpr c23
                    have c23b1 : (x8_9 != 0) = true := bne_iff_ne.mpr c23
                    have H' := Aside0.mk H
                    clear H
                    have hnb31 := NB101_102.out
                    have hnc31 := NB102_101.out
                    have hcz32_0 : wc.cell? ⟨gb101, 0, none⟩ = some (.int .i64 x102000_1) := (blk_cell BK101.out 0).trans rfl
                    have hcz32_1 : wc.cell? ⟨gb101, 1, none⟩ = some (.int .i64 x102001_1) := (blk_cell BK101.out 1).trans rfl
                    have hfz32_0 := blk_frozen BK101.out 0
                    have hfz32_1 := blk_frozen BK101.out 1
                    have hcz33_0 : wc.cell? ⟨gb102, 0, none⟩ = some (.int .i64 x103000_1) := (blk_cell BK102.out 0).trans rfl
                    have hcz33_1 : wc.cell? ⟨gb102, 1, none⟩ = some (.int .i64 x103001_1) := (blk_cell BK102.out 1).trans rfl
                    have hfz33_0 := blk_frozen BK102.out 0
                    have hfz33_1 := blk_frozen BK102.out 1
                    go_wp2
                    go_roundg kj9
                    case measure => have := HK1.out; have := HJ9.out; omega
                    case rel => exact ⟨(wrap64 (x102000_1 + (wrap64 (x8_9 * x103000_1)))), (wrap64 (x102001_1 + (wrap64 (x8_9 * x103001_1)))), (wrap64 (x103000_1 + (wrap64 ((ji22) * (wrap64 (x102000_1 + (wrap64 (x8_9 * x103000_1)))))))), (wrap64 (x103001_1 + (wrap64 ((ji22) * (wrap64 (x102001_1 + (wrap64 (x8_9 * x103001_1)))))))), H', ⟨by have := HK1.out; have := HJ9.out; omega⟩, ⟨by (with_reducible repeat (first | refine blk_drewN ?_ _ | refine blk_drew ?_ | refine blk_alloc ?_ _)); refine blk_far ?_ NB101_102.out _; (with_reducible repeat (first | refine blk_drewN ?_ _ | refine blk_drew ?_ | refine blk_alloc ?_ _)); refine blk_far ?_ NB101_102.out _; (with_reducible repeat (first | refine blk_drewN ?_ _ | refine blk_drew ?_ | refine blk_alloc ?_ _)); refine blk_put (cs := #[.int .i64 (wrap64 (x102000_1 + (wrap64 (x8_9 * x103000_1)))), .int .i64 x102001_1]) ?_ 1 _ rfl; (with_reducible repeat (first | refine blk_drewN ?_ _ | refine blk_drew ?_ | refine blk_alloc ?_ _)); refine blk_put (cs := #[.int .i64 x102000_1, .int .i64 x102001_1]) ?_ 0 _ rfl; (with_reducible repeat (first | refine blk_drewN ?_ _ | refine blk_drew ?_ | refine blk_alloc ?_ _)); exact BK101.out⟩, ⟨by (with_reducible repeat (first | refine blk_drewN ?_ _ | refine blk_drew ?_ | refine blk_alloc ?_ _)); refine blk_put (cs := #[.int .i64 (wrap64 (x103000_1 + (wrap64 ((ji22) * (wrap64 (x102000_1 + (wrap64 (x8_9 * x103000_1)))))))), .int .i64 x103001_1]) ?_ 1 _ rfl; (with_reducible repeat (first | refine blk_drewN ?_ _ | refine blk_drew ?_ | refine blk_alloc ?_ _)); refine blk_put (cs := #[.int .i64 x103000_1, .int .i64 x103001_1]) ?_ 0 _ rfl; (with_reducible repeat (first | refine blk_drewN ?_ _ | refine blk_drew ?_ | refine blk_alloc ?_ _)); refine blk_far ?_ NB102_101.out _; (with_reducible repeat (first | refine blk_drewN ?_ _ | refine blk_drew ?_ | refine blk_alloc ?_ _)); refine blk_far ?_ NB102_101.out _; (with_reducible repeat (first | refine blk_drewN ?_ _ | refine blk_drew ?_ | refine blk_alloc ?_ _)); exact BK102.out⟩, ⟨(q2_ HB.out GE101.out GE102.out)⟩⟩
              · rw [if_neg c20] at H
                have c20b0 : decide (0 < (wrap64 ((wrap64 (a0 * (wrap64 (x102001_1 + (wrap64 (x8_9 * x103001_1)))))) - (wrap64 ((wrap64 (x102000_1 + (wrap64 (x8_9 * x103000_1)))) * a1))))) = false := decide_eq_false c20
                clear c20
                by_cases c34 : x8_9 = 0
                · rw [if_pos c34] at H
                  have c34b0 : (x8_9 == 0) = true := beq_iff_eq.mpr c34
                  have c34b1 : (x8_9 != 0) = false := bne_eq_false_iff_eq.mpr c34
                  clear c34
                  by_cases c35 : (wrap64 (Int.tdiv (wrap64 (a2 - x103001_1)) (wrap64 (x102001_1 + (wrap64 (x8_9 * x103001_1)))))) = 0
                  · rw [if_pos c35] at H
                    have c35b0 : ((wrap64 (Int.tdiv (wrap64 (a2 - x103001_1)) (wrap64 (x102001_1 + (wrap64 (x8_9 * x103001_1)))))) == 0) = true := beq_iff_eq.mpr c35
                    have c35b1 : ((wrap64 (Int.tdiv (wrap64 (a2 - x103001_1)) (wrap64 (x102001_1 + (wrap64 (x8_9 * x103001_1)))))) != 0) = false := bne_eq_false_iff_eq.mpr c35
                    clear c35
                    simp only [Option.some.injEq, Prod.mk.injEq] at H
                    obtain ⟨rfl, rfl, rfl, rfl⟩ := H
                    have hnb36 := NB101_102.out
                    have hnc36 := NB102_101.out
                    have hcz37_0 : wc.cell? ⟨gb101, 0, none⟩ = some (.int .i64 x102000_1) := (blk_cell BK101.out 0).trans rfl
                    have hcz37_1 : wc.cell? ⟨gb101, 1, none⟩ = some (.int .i64 x102001_1) := (blk_cell BK101.out 1).trans rfl
                    have hfz37_0 := blk_frozen BK101.out 0
                    have hfz37_1 := blk_frozen BK101.out 1
                    have hcz38_0 : wc.cell? ⟨gb102, 0, none⟩ = some (.int .i64 x103000_1) := (blk_cell BK102.out 0).trans rfl
                    have hcz38_1 : wc.cell? ⟨gb102, 1, none⟩ = some (.int .i64 x103001_1) := (blk_cell BK102.out 1).trans rfl
                    have hfz38_0 := blk_frozen BK102.out 0
                    have hfz38_1 := blk_frozen BK102.out 1
                    go_upto_region 13 with (fail)
                    have k1_ : ((((wc.setCell ⟨gb101, 0, none⟩ (.int .i64 (wrap64 (x102000_1 + (wrap64 (x8_9 * x103000_1)))))).setCell ⟨gb101, 1, none⟩ (.int .i64 (wrap64 (x102001_1 + (wrap64 (x8_9 * x103001_1)))))).setCell ⟨gb102, 0, none⟩ (.int .i64 (wrap64 (x103000_1 + (wrap64 ((wrap64 (Int.tdiv (wrap64 (a2 - x103001_1)) (wrap64 (x102001_1 + (wrap64 (x8_9 * x103001_1)))))) * (wrap64 (x102000_1 + (wrap64 (x8_9 * x103000_1)))))))))).setCell ⟨gb102, 1, none⟩ (.int .i64 (wrap64 (x103001_1 + (wrap64 ((wrap64 (Int.tdiv (wrap64 (a2 - x103001_1)) (wrap64 (x102001_1 + (wrap64 (x8_9 * x103001_1)))))) * (wrap64 (x102001_1 + (wrap64 (x8_9 * x103001_1)))))))))).heap[gb101]? = some (.cells #[.int .i64 (wrap64 (x102000_1 + (wrap64 (x8_9 * x103000_1)))), .int .i64 (wrap64 (x102001_1 + (wrap64 (x8_9 * x103001_1))))] 23 (0, 0)) := (by (with_reducible repeat (first | refine blk_drewN ?_ _ | refine blk_drew ?_ | refine blk_alloc ?_ _)); refine blk_far ?_ NB101_102.out _; (with_reducible repeat (first | refine blk_drewN ?_ _ | refine blk_drew ?_ | refine blk_alloc ?_ _)); refine blk_far ?_ NB101_102.out _; (with_reducible repeat (first | refine blk_drewN ?_ _ | refine blk_drew ?_ | refine blk_alloc ?_ _)); refine blk_put (cs := #[.int .i64 (wrap64 (x102000_1 + (wrap64 (x8_9 * x103000_1)))), .int .i64 x102001_1]) ?_ 1 _ rfl; (with_reducible repeat (first | refine blk_drewN ?_ _ | refine blk_drew ?_ | refine blk_alloc ?_ _)); refine blk_put (cs := #[.int .i64 x102000_1, .int .i64 x102001_1]) ?_ 0 _ rfl; (with_reducible repeat (first | refine blk_drewN ?_ _ | refine blk_drew ?_ | refine blk_alloc ?_ _)); exact BK101.out)
                    have k2_ : ((((wc.setCell ⟨gb101, 0, none⟩ (.int .i64 (wrap64 (x102000_1 + (wrap64 (x8_9 * x103000_1)))))).setCell ⟨gb101, 1, none⟩ (.int .i64 (wrap64 (x102001_1 + (wrap64 (x8_9 * x103001_1)))))).setCell ⟨gb102, 0, none⟩ (.int .i64 (wrap64 (x103000_1 + (wrap64 ((wrap64 (Int.tdiv (wrap64 (a2 - x103001_1)) (wrap64 (x102001_1 + (wrap64 (x8_9 * x103001_1)))))) * (wrap64 (x102000_1 + (wrap64 (x8_9 * x103000_1)))))))))).setCell ⟨gb102, 1, none⟩ (.int .i64 (wrap64 (x103001_1 + (wrap64 ((wrap64 (Int.tdiv (wrap64 (a2 - x103001_1)) (wrap64 (x102001_1 + (wrap64 (x8_9 * x103001_1)))))) * (wrap64 (x102001_1 + (wrap64 (x8_9 * x103001_1)))))))))).heap[gb102]? = some (.cells #[.int .i64 (wrap64 (x103000_1 + (wrap64 ((wrap64 (Int.tdiv (wrap64 (a2 - x103001_1)) (wrap64 (x102001_1 + (wrap64 (x8_9 * x103001_1)))))) * (wrap64 (x102000_1 + (wrap64 (x8_9 * x103000_1)))))))), .int .i64 (wrap64 (x103001_1 + (wrap64 ((wrap64 (Int.tdiv (wrap64 (a2 - x103001_1)) (wrap64 (x102001_1 + (wrap64 (x8_9 * x103001_1)))))) * (wrap64 (x102001_1 + (wrap64 (x8_9 * x103001_1))))))))] 23 (0, 0)) := (by (with_reducible repeat (first | refine blk_drewN ?_ _ | refine blk_drew ?_ | refine blk_alloc ?_ _)); refine blk_put (cs := #[.int .i64 (wrap64 (x103000_1 + (wrap64 ((wrap64 (Int.tdiv (wrap64 (a2 - x103001_1)) (wrap64 (x102001_1 + (wrap64 (x8_9 * x103001_1)))))) * (wrap64 (x102000_1 + (wrap64 (x8_9 * x103000_1)))))))), .int .i64 x103001_1]) ?_ 1 _ rfl; (with_reducible repeat (first | refine blk_drewN ?_ _ | refine blk_drew ?_ | refine blk_alloc ?_ _)); refine blk_put (cs := #[.int .i64 x103000_1, .int .i64 x103001_1]) ?_ 0 _ rfl; (with_reducible repeat (first | refine blk_drewN ?_ _ | refine blk_drew ?_ | refine blk_alloc ?_ _)); refine blk_far ?_ NB102_101.out _; (with_reducible repeat (first | refine blk_drewN ?_ _ | refine blk_drew ?_ | refine blk_alloc ?_ _)); refine blk_far ?_ NB102_101.out _; (with_reducible repeat (first | refine blk_drewN ?_ _ | refine blk_drew ?_ | refine blk_alloc ?_ _)); exact BK102.out)
                    have kb_ : Below w.heap.size w ((((wc.setCell ⟨gb101, 0, none⟩ (.int .i64 (wrap64 (x102000_1 + (wrap64 (x8_9 * x103000_1)))))).setCell ⟨gb101, 1, none⟩ (.int .i64 (wrap64 (x102001_1 + (wrap64 (x8_9 * x103001_1)))))).setCell ⟨gb102, 0, none⟩ (.int .i64 (wrap64 (x103000_1 + (wrap64 ((wrap64 (Int.tdiv (wrap64 (a2 - x103001_1)) (wrap64 (x102001_1 + (wrap64 (x8_9 * x103001_1)))))) * (wrap64 (x102000_1 + (wrap64 (x8_9 * x103000_1)))))))))).setCell ⟨gb102, 1, none⟩ (.int .i64 (wrap64 (x103001_1 + (wrap64 ((wrap64 (Int.tdiv (wrap64 (a2 - x103001_1)) (wrap64 (x102001_1 + (wrap64 (x8_9 * x103001_1)))))) * (wrap64 (x102001_1 + (wrap64 (x8_9 * x103001_1)))))))))) := (q2_ HB.out GE101.out GE102.out)
                    generalize ((((wc.setCell ⟨gb101, 0, none⟩ (.int .i64 (wrap64 (x102000_1 + (wrap64 (x8_9 * x103000_1)))))).setCell ⟨gb101, 1, none⟩ (.int .i64 (wrap64 (x102001_1 + (wrap64 (x8_9 * x103001_1)))))).setCell ⟨gb102, 0, none⟩ (.int .i64 (wrap64 (x103000_1 + (wrap64 ((wrap64 (Int.tdiv (wrap64 (a2 - x103001_1)) (wrap64 (x102001_1 + (wrap64 (x8_9 * x103001_1)))))) * (wrap64 (x102000_1 + (wrap64 (x8_9 * x103000_1)))))))))).setCell ⟨gb102, 1, none⟩ (.int .i64 (wrap64 (x103001_1 + (wrap64 ((wrap64 (Int.tdiv (wrap64 (a2 - x103001_1)) (wrap64 (x102001_1 + (wrap64 (x8_9 * x103001_1)))))) * (wrap64 (x102001_1 + (wrap64 (x8_9 * x103001_1)))))))))) = W_ at k1_ k2_ kb_ ⊢
                    have cek1_0 := (blk_cell k1_ 0).trans rfl
                    have cfk1_0 := blk_frozen k1_ 0
                    have cek1_1 := (blk_cell k1_ 1).trans rfl
                    have cfk1_1 := blk_frozen k1_ 1
                    have cek2_0 := (blk_cell k2_ 0).trans rfl
                    have cfk2_0 := blk_frozen k2_ 0
                    have cek2_1 := (blk_cell k2_ 1).trans rfl
                    have cfk2_1 := blk_frozen k2_ 1
                    have HK1_ := Aside0.mk k1_
                    have HK2_ := Aside0.mk k2_
                    clear k1_ k2_
                    refine start_ (n := 4) (S := fun w' => w' = W_.drew) (ds := []) #[false, false, false, false] (by kernel_rfl) rfl rfl rfl (fun hHeld => ?_)
                    refine take_ (i := 0) (N := some 113) (v := ?_) (a' := ?_) #[true, false, false, false] rfl rfl (by kernel_rfl) (fun _ _ _ h => h) (Or.inl ⟨by rfl, ?_⟩) hHeld ?_ ?_
                    rotate_left
                    · rintro w' rfl
                      go_simp
                      with_reducible rfl
                    rotate_left
                    · simp only [Act.put, List.setIfInBounds_toArray, List.set_cons_zero, List.set_cons_succ, i64_w, i32_w]
                      rfl
                    refine take_ (i := 1) (N := some 114) (v := ?_) (a' := ?_) #[true, true, false, false] rfl rfl (by kernel_rfl) (fun _ _ _ h => h) (Or.inl ⟨by rfl, ?_⟩) hHeld ?_ ?_
                    rotate_left
                    · rintro w' rfl
                      go_simp
                      with_reducible rfl
                    rotate_left
                    · simp only [Act.put, List.setIfInBounds_toArray, List.set_cons_zero, List.set_cons_succ, i64_w, i32_w]
                      rfl
                    refine one_ (i := 2) (N := none) #[true, true, true, false] rfl rfl (by kernel_rfl) (by decide) (fun K hK => ?_)
                    refine skip_ (w1 := ?_) (by rfl) rfl ?_ ?_
                    rotate_left
                    · go_simp
                      with_reducible rfl
                    refine hK.out _ _ (congrArg World.drew (self2_ HK1_.out)) (fun hHeld => ?_)
                    clear hK K
                    rw [self2_ HK1_.out]
                    refine one_ (i := 3) (N := none) #[true, true, true, true] rfl rfl (by kernel_rfl) (by decide) (fun K hK => ?_)
                    refine skip_ (w1 := ?_) (by rfl) rfl ?_ ?_
                    rotate_left
                    · go_simp
                      with_reducible rfl
                    refine hK.out _ _ (congrArg World.drew (self2_ HK2_.out)) (fun hHeld => ?_)
                    clear hK K
                    rw [self2_ HK2_.out]
                    refine done_ (by kernel_rfl) ?_
                    go_wp2
                    refine bodyPost_ret (results_cc rfl _ _ gb101 gb102 23 23 #[.int .i64 (wrap64 (x102000_1 + (wrap64 (x8_9 * x103000_1)))), .int .i64 (wrap64 (x102001_1 + (wrap64 (x8_9 * x103001_1))))] #[.int .i64 (wrap64 (x103000_1 + (wrap64 ((wrap64 (Int.tdiv (wrap64 (a2 - x103001_1)) (wrap64 (x102001_1 + (wrap64 (x8_9 * x103001_1)))))) * (wrap64 (x102000_1 + (wrap64 (x8_9 * x103000_1)))))))), .int .i64 (wrap64 (x103001_1 + (wrap64 ((wrap64 (Int.tdiv (wrap64 (a2 - x103001_1)) (wrap64 (x102001_1 + (wrap64 (x8_9 * x103001_1)))))) * (wrap64 (x102001_1 + (wrap64 (x8_9 * x103001_1))))))))] (0, 0) (0, 0) _ _ rfl HK1_.out Tryd.underlying23 rfl (by kernel_rfl) rfl HK2_.out Tryd.underlying23 rfl (by kernel_rfl)) rfl ?_
                    exact ⟨by first | rfl | (simp [errW_none, errW_some] <;> rfl) | (simp [*, errW_none, errW_some] <;> rfl), pw_below_drewN kb_ 1⟩
                  · rw [if_neg c35] at H
                    have c35b0 : ((wrap64 (Int.tdiv (wrap64 (a2 - x103001_1)) (wrap64 (x102001_1 + (wrap64 (x8_9 * x103001_1)))))) == 0) = false := beq_eq_false_iff_ne.mpr c35
                    have c35b1 : ((wrap64 (Int.tdiv (wrap64 (a2 - x103001_1)) (wrap64 (x102001_1 + (wrap64 (x8_9 * x103001_1)))))) != 0) = true := bne_iff_ne.mpr c35
                    have H' := Aside0.mk H
                    clear H
                    have hnb39 := NB101_102.out
                    have hnc39 := NB102_101.out
                    have hcz40_0 : wc.cell? ⟨gb101, 0, none⟩ = some (.int .i64 x102000_1) := (blk_cell BK101.out 0).trans rfl
                    have hcz40_1 : wc.cell? ⟨gb101, 1, none⟩ = some (.int .i64 x102001_1) := (blk_cell BK101.out 1).trans rfl
                    have hfz40_0 := blk_frozen BK101.out 0
                    have hfz40_1 := blk_frozen BK101.out 1
                    have hcz41_0 : wc.cell? ⟨gb102, 0, none⟩ = some (.int .i64 x103000_1) := (blk_cell BK102.out 0).trans rfl
                    have hcz41_1 : wc.cell? ⟨gb102, 1, none⟩ = some (.int .i64 x103001_1) := (blk_cell BK102.out 1).trans rfl
                    have hfz41_0 := blk_frozen BK102.out 0
                    have hfz41_1 := blk_frozen BK102.out 1
                    go_wp2
                    go_roundg kj9
                    case measure => have := HK1.out; have := HJ9.out; omega
                    case rel => exact ⟨(wrap64 (x102000_1 + (wrap64 (x8_9 * x103000_1)))), (wrap64 (x102001_1 + (wrap64 (x8_9 * x103001_1)))), (wrap64 (x103000_1 + (wrap64 ((wrap64 (Int.tdiv (wrap64 (a2 - x103001_1)) (wrap64 (x102001_1 + (wrap64 (x8_9 * x103001_1)))))) * (wrap64 (x102000_1 + (wrap64 (x8_9 * x103000_1)))))))), (wrap64 (x103001_1 + (wrap64 ((wrap64 (Int.tdiv (wrap64 (a2 - x103001_1)) (wrap64 (x102001_1 + (wrap64 (x8_9 * x103001_1)))))) * (wrap64 (x102001_1 + (wrap64 (x8_9 * x103001_1)))))))), H', ⟨by have := HK1.out; have := HJ9.out; omega⟩, ⟨by (with_reducible repeat (first | refine blk_drewN ?_ _ | refine blk_drew ?_ | refine blk_alloc ?_ _)); refine blk_far ?_ NB101_102.out _; (with_reducible repeat (first | refine blk_drewN ?_ _ | refine blk_drew ?_ | refine blk_alloc ?_ _)); refine blk_far ?_ NB101_102.out _; (with_reducible repeat (first | refine blk_drewN ?_ _ | refine blk_drew ?_ | refine blk_alloc ?_ _)); refine blk_put (cs := #[.int .i64 (wrap64 (x102000_1 + (wrap64 (x8_9 * x103000_1)))), .int .i64 x102001_1]) ?_ 1 _ rfl; (with_reducible repeat (first | refine blk_drewN ?_ _ | refine blk_drew ?_ | refine blk_alloc ?_ _)); refine blk_put (cs := #[.int .i64 x102000_1, .int .i64 x102001_1]) ?_ 0 _ rfl; (with_reducible repeat (first | refine blk_drewN ?_ _ | refine blk_drew ?_ | refine blk_alloc ?_ _)); exact BK101.out⟩, ⟨by (with_reducible repeat (first | refine blk_drewN ?_ _ | refine blk_drew ?_ | refine blk_alloc ?_ _)); refine blk_put (cs := #[.int .i64 (wrap64 (x103000_1 + (wrap64 ((wrap64 (Int.tdiv (wrap64 (a2 - x103001_1)) (wrap64 (x102001_1 + (wrap64 (x8_9 * x103001_1)))))) * (wrap64 (x102000_1 + (wrap64 (x8_9 * x103000_1)))))))), .int .i64 x103001_1]) ?_ 1 _ rfl; (with_reducible repeat (first | refine blk_drewN ?_ _ | refine blk_drew ?_ | refine blk_alloc ?_ _)); refine blk_put (cs := #[.int .i64 x103000_1, .int .i64 x103001_1]) ?_ 0 _ rfl; (with_reducible repeat (first | refine blk_drewN ?_ _ | refine blk_drew ?_ | refine blk_alloc ?_ _)); refine blk_far ?_ NB102_101.out _; (with_reducible repeat (first | refine blk_drewN ?_ _ | refine blk_drew ?_ | refine blk_alloc ?_ _)); refine blk_far ?_ NB102_101.out _; (with_reducible repeat (first | refine blk_drewN ?_ _ | refine blk_drew ?_ | refine blk_alloc ?_ _)); exact BK102.out⟩, ⟨(q2_ HB.out GE101.out GE102.out)⟩⟩
                · rw [if_neg c34] at H
                  have c34b0 : (x8_9 == 0) = false := beq_eq_false_iff_ne.mpr c34
                  have c34b1 : (x8_9 != 0) = true := bne_iff_ne.mpr c34
                  have H' := Aside0.mk H
                  clear H
                  have hnb42 := NB101_102.out
                  have hnc42 := NB102_101.out
                  have hcz43_0 : wc.cell? ⟨gb101, 0, none⟩ = some (.int .i64 x102000_1) := (blk_cell BK101.out 0).trans rfl
                  have hcz43_1 : wc.cell? ⟨gb101, 1, none⟩ = some (.int .i64 x102001_1) := (blk_cell BK101.out 1).trans rfl
                  have hfz43_0 := blk_frozen BK101.out 0
                  have hfz43_1 := blk_frozen BK101.out 1
                  have hcz44_0 : wc.cell? ⟨gb102, 0, none⟩ = some (.int .i64 x103000_1) := (blk_cell BK102.out 0).trans rfl
                  have hcz44_1 : wc.cell? ⟨gb102, 1, none⟩ = some (.int .i64 x103001_1) := (blk_cell BK102.out 1).trans rfl
                  have hfz44_0 := blk_frozen BK102.out 0
                  have hfz44_1 := blk_frozen BK102.out 1
                  go_wp2
                  go_roundg kj9
                  case measure => have := HK1.out; have := HJ9.out; omega
                  case rel => exact ⟨(wrap64 (x102000_1 + (wrap64 (x8_9 * x103000_1)))), (wrap64 (x102001_1 + (wrap64 (x8_9 * x103001_1)))), (wrap64 (x103000_1 + (wrap64 ((wrap64 (Int.tdiv (wrap64 (a2 - x103001_1)) (wrap64 (x102001_1 + (wrap64 (x8_9 * x103001_1)))))) * (wrap64 (x102000_1 + (wrap64 (x8_9 * x103000_1)))))))), (wrap64 (x103001_1 + (wrap64 ((wrap64 (Int.tdiv (wrap64 (a2 - x103001_1)) (wrap64 (x102001_1 + (wrap64 (x8_9 * x103001_1)))))) * (wrap64 (x102001_1 + (wrap64 (x8_9 * x103001_1)))))))), H', ⟨by have := HK1.out; have := HJ9.out; omega⟩, ⟨by (with_reducible repeat (first | refine blk_drewN ?_ _ | refine blk_drew ?_ | refine blk_alloc ?_ _)); refine blk_far ?_ NB101_102.out _; (with_reducible repeat (first | refine blk_drewN ?_ _ | refine blk_drew ?_ | refine blk_alloc ?_ _)); refine blk_far ?_ NB101_102.out _; (with_reducible repeat (first | refine blk_drewN ?_ _ | refine blk_drew ?_ | refine blk_alloc ?_ _)); refine blk_put (cs := #[.int .i64 (wrap64 (x102000_1 + (wrap64 (x8_9 * x103000_1)))), .int .i64 x102001_1]) ?_ 1 _ rfl; (with_reducible repeat (first | refine blk_drewN ?_ _ | refine blk_drew ?_ | refine blk_alloc ?_ _)); refine blk_put (cs := #[.int .i64 x102000_1, .int .i64 x102001_1]) ?_ 0 _ rfl; (with_reducible repeat (first | refine blk_drewN ?_ _ | refine blk_drew ?_ | refine blk_alloc ?_ _)); exact BK101.out⟩, ⟨by (with_reducible repeat (first | refine blk_drewN ?_ _ | refine blk_drew ?_ | refine blk_alloc ?_ _)); refine blk_put (cs := #[.int .i64 (wrap64 (x103000_1 + (wrap64 ((wrap64 (Int.tdiv (wrap64 (a2 - x103001_1)) (wrap64 (x102001_1 + (wrap64 (x8_9 * x103001_1)))))) * (wrap64 (x102000_1 + (wrap64 (x8_9 * x103000_1)))))))), .int .i64 x103001_1]) ?_ 1 _ rfl; (with_reducible repeat (first | refine blk_drewN ?_ _ | refine blk_drew ?_ | refine blk_alloc ?_ _)); refine blk_put (cs := #[.int .i64 x103000_1, .int .i64 x103001_1]) ?_ 0 _ rfl; (with_reducible repeat (first | refine blk_drewN ?_ _ | refine blk_drew ?_ | refine blk_alloc ?_ _)); refine blk_far ?_ NB102_101.out _; (with_reducible repeat (first | refine blk_drewN ?_ _ | refine blk_drew ?_ | refine blk_alloc ?_ _)); refine blk_far ?_ NB102_101.out _; (with_reducible repeat (first | refine blk_drewN ?_ _ | refine blk_drew ?_ | refine blk_alloc ?_ _)); exact BK102.out⟩, ⟨(q2_ HB.out GE101.out GE102.out)⟩⟩
end Go.Proofs.YtdjnneflpkllmaaDoor.Q
