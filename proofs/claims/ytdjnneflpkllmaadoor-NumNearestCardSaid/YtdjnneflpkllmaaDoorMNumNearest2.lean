/- Part 2 of the proof of NumNearest. -/
import Derived.Test.YtdjnneflpkllmaaDoorMNumNearest1
import Derived.Test.YtdjnneflpkllmaaDoorRows
import Derived.ProofKit
import Derived.LaidMore
import Derived.OpenShut
import Derived.ChangeOld
import Derived.SizedLaws
import Derived.Lib.SmallJoins
import Derived.Stop.Joined
import Derived.Test.YtdjnneflpkllmaaDoorProg
import Derived.BigRegion
import Derived.LoopN
import Derived.Lib.Hide
import Derived.Deep.DeepAppendWide
import Derived.RangeFuncBox
import Derived.Shelf.Strings.Repeat

namespace Go.Proofs.YtdjnneflpkllmaaDoor.Num
open Go.ChangeShapes Go.WideShapes Go.ChangeAt Go.RowKit Go.Joins Go.Deep
theorem own : ownKnob Tryd.prog.godebug = none := by kernel_rfl
def laid3 : List (String × DataW Unit) := [("math/bits.deBruijn32tab", Rows.laid_math_bits_deBruijn32tab), ("math/bits.deBruijn64tab", Rows.laid_math_bits_deBruijn64tab), ("internal/strconv.uint64pow10", Rows.laid_internal_strconv_uint64pow10)]
set_option maxRecDepth 100000 in
theorem door_met (os : Os) (args : Array Value) : laidMetH Tryd.prog laid3 ((World.doorLaid Tryd.prog 400 os).forCall (fun _ _ => 0) ⟨#[], args, []⟩).memory :=
  laidMetH_of_parts3 (fuel := 8) (laidMet_of_run' 8 (by kernel_rfl) (by kernel_rfl)) (by kernel_rfl) (by kernel_rfl)
theorem door_shaped (os : Os) (args : Array Value) : ((World.doorLaid Tryd.prog 400 os).forCall (fun _ _ => 0) ⟨#[], args, []⟩).Shaped Tryd.prog := World.shaped_of_RefB (by kernel_rfl) (by kernel_rfl)
theorem i64_bounds {x : Int} (h : (Lit.int .i64 x).wf) : -9223372036854775808 ≤ x ∧ x ≤ 9223372036854775807 := by
  have m0 : IntKind.i64.min = -9223372036854775808 := by decide
  have m1 : IntKind.i64.max = 9223372036854775807 := by decide
  simp [Lit.wf] at h
  omega
set_option linter.unusedVariables false
section
variable {H : Type} {enc : TypeId × Value → H} {W : World} {base : Nat} {spare : Nat → Bool} {held : Bool}
end
end Go.Proofs.YtdjnneflpkllmaaDoor.Num

namespace Go.Proofs.Num
set_option linter.unusedVariables false
/-- The number that digits stand for, the lowest first. -/
def valD : List Int → Int
  | [] => 0
  | x :: t => x + 10000 * valD t
/-- Digits they are. -/
def Dig (l : List Int) : Prop := ∀ x ∈ l, 0 ≤ x ∧ x < 10000
/-- The digit at i. -/
def at_ (l : List Int) (i : Nat) : Int := l.getD i 0
/-- What the lowest i digits stand for. -/
def vt (l : List Int) (i : Nat) : Int := valD (l.take i)
def pw (i : Nat) : Int := 10000 ^ i
theorem pw_zero : pw 0 = 1 := rfl
theorem pw_succ (i : Nat) : pw (i + 1) = 10000 * pw i := by unfold pw; rw [Int.pow_succ, Int.mul_comm]
theorem pw_pos (i : Nat) : 0 < pw i := Int.pow_pos (by omega)
theorem pw_add (i j : Nat) : pw (i + j) = pw i * pw j := by unfold pw; rw [Int.pow_add]
theorem pw_mono {i j : Nat} (h : i ≤ j) : pw i ≤ pw j := by
  induction j with
  | zero => obtain rfl : i = 0 := by omega
            omega
  | succ j ih =>
    rcases Nat.lt_or_ge j i with h1 | h1
    · obtain rfl : i = j + 1 := by omega
      omega
    · have := ih h1
      have := pw_pos j
      rw [pw_succ]
      omega
theorem at_cons_zero (x : Int) (t : List Int) : at_ (x :: t) 0 = x := rfl
theorem at_cons_succ (x : Int) (t : List Int) (i : Nat) : at_ (x :: t) (i + 1) = at_ t i := by simp [at_]
theorem Dig.at_ {l : List Int} (h : Dig l) (i : Nat) : 0 ≤ at_ l i ∧ at_ l i < 10000 := by
  unfold Num.at_
  rcases Nat.lt_or_ge i l.length with hi | hi
  · rw [List.getD_eq_getElem?_getD, List.getElem?_eq_getElem hi]
    exact h _ (List.getElem_mem hi)
  · rw [List.getD_eq_getElem?_getD, List.getElem?_eq_none hi]
    decide
theorem Dig.set {l : List Int} (h : Dig l) (i : Nat) {v : Int} (h0 : 0 ≤ v) (h1 : v < 10000) : Dig (l.set i v) := fun x hx => by
  rcases List.mem_or_eq_of_mem_set hx with hx | rfl
  · exact h x hx
  · exact ⟨h0, h1⟩
theorem Dig.take {l : List Int} (h : Dig l) (i : Nat) : Dig (l.take i) := fun x hx => h x (List.mem_of_mem_take hx)
theorem valD_set : ∀ (l : List Int) (i : Nat) (v : Int), i < l.length → valD (l.set i v) = valD l + (v - at_ l i) * pw i
  | x :: t, 0, v, _ => by simp [valD, at_cons_zero, pw_zero]; omega
  | x :: t, i + 1, v, h => by
    simp only [List.set_cons_succ, valD, at_cons_succ]
    rw [valD_set t i v (by simpa using h), pw_succ]
    grind
theorem vt_zero (l : List Int) : vt l 0 = 0 := by simp [vt, valD]
theorem vt_succ : ∀ (l : List Int) (i : Nat), vt l (i + 1) = vt l i + at_ l i * pw i
  | [], i => by simp [vt, valD, at_]
  | x :: t, 0 => by simp [vt, valD, at_cons_zero, pw_zero]
  | x :: t, i + 1 => by
    have := vt_succ t i
    simp only [vt, List.take_succ_cons, valD, at_cons_succ, pw_succ] at this ⊢
    rw [this]
    grind
theorem vt_all (l : List Int) {i : Nat} (h : l.length ≤ i) : vt l i = valD l := by unfold vt; rw [List.take_of_length_le h]
theorem vt_bd {l : List Int} (h : Dig l) : ∀ i, 0 ≤ vt l i ∧ vt l i < pw i
  | 0 => by rw [vt_zero, pw_zero]; omega
  | i + 1 => by
    have b := vt_bd h i
    have d := h.at_ i
    rw [vt_succ, pw_succ]
    have l1 : 0 ≤ at_ l i * pw i := Int.mul_nonneg d.1 (Int.le_of_lt (pw_pos i))
    have l2 : at_ l i * pw i ≤ 9999 * pw i := Int.mul_le_mul_of_nonneg_right (by omega) (Int.le_of_lt (pw_pos i))
    omega
theorem valD_bd {l : List Int} (h : Dig l) : 0 ≤ valD l ∧ valD l < pw l.length := by
  rw [← vt_all l (Nat.le_refl _)]
  exact vt_bd h _
/-- Without a highest digit 0. -/
def Norm (l : List Int) : Prop := l = [] ∨ at_ l (l.length - 1) ≠ 0
theorem norm_ge {l : List Int} (h : Dig l) (hn : Norm l) (h0 : l ≠ []) : pw (l.length - 1) ≤ valD l := by
  rcases hn with hn | hn
  · exact (h0 hn).elim
  · have hl : 0 < l.length := by cases l with | nil => exact (h0 rfl).elim | cons => simp
    obtain ⟨m, hm⟩ : ∃ m, l.length = m + 1 := ⟨l.length - 1, by omega⟩
    rw [← vt_all l (Nat.le_refl _)]
    rw [hm] at hn ⊢
    rw [Nat.add_sub_cancel] at hn ⊢
    rw [vt_succ]
    have b := vt_bd h m
    have d := h.at_ m
    have : 1 * pw m ≤ at_ l m * pw m := Int.mul_le_mul_of_nonneg_right (by omega) (Int.le_of_lt (pw_pos m))
    omega
/-- From i on there are but zeros: what stands there adds nothing. -/
theorem vt_zeros {l : List Int} {m : Nat} : ∀ j, (∀ i, m ≤ i → i < m + j → at_ l i = 0) → vt l (m + j) = vt l m
  | 0, _ => rfl
  | j + 1, h => by
    rw [← Nat.add_assoc, vt_succ, vt_zeros j (fun i h1 h2 => h i h1 (by omega)), h (m + j) (by omega) (by omega)]
    simp
/-- Digits, without a highest 0, of the number x. -/
structure Good (l : List Int) (x : Int) : Prop where
  dig : Dig l
  norm : Norm l
  val : valD l = x
theorem Good.nil : Good [] 0 := ⟨fun x h => (by cases h), .inl rfl, rfl⟩
theorem Good.zero_iff {l : List Int} {x : Int} (g : Good l x) : l = [] ↔ x = 0 := by
  constructor
  · intro h; subst h; exact g.val.symm
  · intro h
    rcases List.eq_nil_or_concat l with h0 | ⟨_, _, h0⟩
    · exact h0
    · have := norm_ge g.dig g.norm (by rw [h0]; simp)
      have := pw_pos (l.length - 1)
      have := g.val
      omega
theorem at_take {l : List Int} {m i : Nat} (h : i < m) : at_ (l.take m) i = at_ l i := by
  unfold at_
  rw [List.getD_eq_getElem?_getD, List.getD_eq_getElem?_getD, List.getElem?_take_of_lt h]
/-- What trim leaves. -/
theorem good_take {l : List Int} {m : Nat} (h : Dig l) (hm : m ≤ l.length) (h0 : m = 0 ∨ at_ l (m - 1) ≠ 0) (hz : ∀ i, m ≤ i → i < l.length → at_ l i = 0) : Good (l.take m) (valD l) := by
  have hl : (l.take m).length = m := by simp; omega
  refine ⟨h.take m, ?_, ?_⟩
  · rcases h0 with rfl | h0
    · exact .inl (by simp)
    · right
      rw [hl]
      rcases Nat.eq_zero_or_pos m with rfl | hp
      · simp at hz h0 ⊢
        rcases Nat.eq_zero_or_pos l.length with e | e
        · have : l = [] := List.eq_nil_of_length_eq_zero e
          subst this
          exact (h0 rfl).elim
        · exact (h0 (hz 0 e)).elim
      · rw [at_take (by omega)]
        exact h0
  · show vt l m = valD l
    have := vt_zeros (l := l) (m := m) (l.length - m) (fun i h1 h2 => hz i h1 (by omega))
    rw [show m + (l.length - m) = l.length by omega, vt_all l (Nat.le_refl _)] at this
    exact this.symm
/-- Comparing the numbers. -/
def cmpI (x y : Int) : Int := if x < y then -1 else if y < x then 1 else 0
theorem valD_replicate (n : Nat) : valD (List.replicate n 0) = 0 := by
  induction n with
  | zero => rfl
  | succ n ih => rw [List.replicate_succ]; simp [valD, ih]
theorem at_replicate (n i : Nat) : at_ (List.replicate n 0) i = 0 := by
  unfold at_
  rw [List.getD_eq_getElem?_getD, List.getElem?_replicate]
  split <;> rfl
theorem at_set_ne {l : List Int} {i j : Nat} {v : Int} (h : i ≠ j) : at_ (l.set i v) j = at_ l j := by
  unfold at_
  rw [List.getD_eq_getElem?_getD, List.getD_eq_getElem?_getD, List.getElem?_set_ne h]
end Go.Proofs.Num

namespace Go.Proofs.Num
set_option linter.unusedVariables false
theorem pos_of_mul {d x : Int} (hd : 0 < d) (h : 0 < d * x) : 0 < x := Int.pos_of_mul_pos_right h hd
/-- What two neighbours are: the greatest at most, the least above r/d, of denominators at most M. -/
structure Near (r d M a b p q : Int) : Prop where
  hd : 0 < d
  hb : 1 ≤ b
  hq : 1 ≤ q
  hM : M < b + q
  det : p * b - a * q = 1
  lo : 0 ≤ r * b - a * d
  hi : 0 < p * d - r * q
/-- No fraction lies between neighbours. -/
theorem Near.gap {r d M a b p q s t : Int} (N : Near r d M a b p q) (ht : 1 ≤ t) (htM : t ≤ M) (h1 : 0 < p * t - s * q) (h2 : 0 < s * b - a * t) : False := by
  obtain ⟨hd, hb, hq, hM, det, lo, hi⟩ := N
  have e : b * (p * t - s * q) + q * (s * b - a * t) = t := by grind
  have l1 : b * 1 ≤ b * (p * t - s * q) := Int.mul_le_mul_of_nonneg_left (by omega) (by omega)
  have l2 : q * 1 ≤ q * (s * b - a * t) := Int.mul_le_mul_of_nonneg_left (by omega) (by omega)
  omega
/-- A fraction at most r/d is at most the lower neighbour. -/
theorem Near.below {r d M a b p q s t : Int} (N : Near r d M a b p q) (ht : 1 ≤ t) (htM : t ≤ M) (h : 0 ≤ r * t - s * d) : 0 ≤ a * t - s * b ∧ (a * t - s * b = 0 → b ≤ t) := by
  have hp : 0 < p * t - s * q := by
    refine pos_of_mul N.hd ?_
    have e : d * (p * t - s * q) = (p * d - r * q) * t + (r * t - s * d) * q := by grind
    have l1 := Int.mul_pos N.hi (show 0 < t by omega)
    have l2 := Int.mul_nonneg h (show 0 ≤ q by have := N.hq; omega)
    omega
  refine ⟨?_, fun h0 => ?_⟩
  · rcases Int.lt_or_le (a * t - s * b) 0 with hx | hx
    · exact (N.gap ht htM hp (by omega)).elim
    · exact hx
  · have det := N.det
    have hb := N.hb
    have e : b * (p * t - s * q) = t := by grind
    have l1 : b * 1 ≤ b * (p * t - s * q) := Int.mul_le_mul_of_nonneg_left (by omega) (by omega)
    omega
/-- A fraction above r/d is at least the upper neighbour. -/
theorem Near.above {r d M a b p q s t : Int} (N : Near r d M a b p q) (ht : 1 ≤ t) (htM : t ≤ M) (h : 0 < s * d - r * t) : 0 ≤ s * q - p * t ∧ (s * q - p * t = 0 → q ≤ t) := by
  have hp : 0 < s * b - a * t := by
    refine pos_of_mul N.hd ?_
    have e : d * (s * b - a * t) = (r * b - a * d) * t + (s * d - r * t) * b := by grind
    have l1 := Int.mul_nonneg N.lo (show 0 ≤ t by omega)
    have l2 := Int.mul_pos h (show 0 < b by have := N.hb; omega)
    omega
  refine ⟨?_, fun h0 => ?_⟩
  · rcases Int.lt_or_le (s * q - p * t) 0 with hx | hx
    · exact (N.gap ht htM (by omega) hp).elim
    · exact hx
  · have det := N.det
    have hq := N.hq
    have e : q * (s * b - a * t) = t := by grind
    have l1 : q * 1 ≤ q * (s * b - a * t) := Int.mul_le_mul_of_nonneg_left (by omega) (by omega)
    omega
/-- How far a lower fraction is, against the lower neighbour's distance. -/
theorem Near.farL {r d M a b p q s t : Int} (N : Near r d M a b p q) (ht : 1 ≤ t) (htM : t ≤ M) (h : 0 ≤ r * t - s * d) :
    (r * b - a * d) * t ≤ (r * t - s * d) * b ∧ (t < b → (r * b - a * d) * t < (r * t - s * d) * b) := by
  obtain ⟨h1, h2⟩ := N.below ht htM h
  have e : (r * t - s * d) * b - (r * b - a * d) * t = d * (a * t - s * b) := by grind
  refine ⟨?_, fun hlt => ?_⟩
  · have := Int.mul_nonneg (Int.le_of_lt N.hd) h1
    omega
  · have : 0 < a * t - s * b := by
      rcases Int.lt_or_le 0 (a * t - s * b) with hx | hx
      · exact hx
      · have := h2 (by omega)
        omega
    have := Int.mul_pos N.hd this
    omega
theorem Near.farU {r d M a b p q s t : Int} (N : Near r d M a b p q) (ht : 1 ≤ t) (htM : t ≤ M) (h : 0 < s * d - r * t) :
    (p * d - r * q) * t ≤ (s * d - r * t) * q ∧ (t < q → (p * d - r * q) * t < (s * d - r * t) * q) := by
  obtain ⟨h1, h2⟩ := N.above ht htM h
  have e : (s * d - r * t) * q - (p * d - r * q) * t = d * (s * q - p * t) := by grind
  refine ⟨?_, fun hlt => ?_⟩
  · have := Int.mul_nonneg (Int.le_of_lt N.hd) h1
    omega
  · have : 0 < s * q - p * t := by
      rcases Int.lt_or_le 0 (s * q - p * t) with hx | hx
      · exact hx
      · have := h2 (by omega)
        omega
    have := Int.mul_pos N.hd this
    omega
/-- x/b at most y/q, y/q at most z/t: so x/b at most z/t. -/
theorem cross {x y z b q t : Int} (hb : 0 < b) (hq : 0 < q) (ht : 0 < t) (h1 : x * q ≤ y * b) (h2 : y * t ≤ z * q) : x * t ≤ z * b := by
  have a1 : (x * q) * t ≤ (y * b) * t := Int.mul_le_mul_of_nonneg_right h1 (by omega)
  have a2 : (y * t) * b ≤ (z * q) * b := Int.mul_le_mul_of_nonneg_right h2 (by omega)
  refine Int.le_of_mul_le_mul_left (a := q) ?_ hq
  have e1 : q * (x * t) = (x * q) * t := by grind
  have e2 : q * (z * b) = (z * q) * b := by grind
  have e3 : (y * b) * t = (y * t) * b := by grind
  omega
theorem cross_lt {x y z b q t : Int} (hb : 0 < b) (hq : 0 < q) (ht : 0 < t) (h1 : x * q ≤ y * b) (h2 : y * t ≤ z * q) (h : x * q < y * b ∨ y * t < z * q) : x * t < z * b := by
  have a1 : (x * q) * t ≤ (y * b) * t := Int.mul_le_mul_of_nonneg_right h1 (by omega)
  have a2 : (y * t) * b ≤ (z * q) * b := Int.mul_le_mul_of_nonneg_right h2 (by omega)
  refine Int.lt_of_mul_lt_mul_left (a := q) ?_ (by omega)
  have e1 : q * (x * t) = (x * q) * t := by grind
  have e2 : q * (z * b) = (z * q) * b := by grind
  have e3 : (y * b) * t = (y * t) * b := by grind
  rcases h with h | h
  · have : (x * q) * t < (y * b) * t := Int.mul_lt_mul_of_pos_right h ht
    omega
  · have : (y * t) * b < (z * q) * b := Int.mul_lt_mul_of_pos_right h hb
    omega
/-- The nearest of all: P/T at the distance F (times d and T); how the candidates of each t lie to it: r·t = s·d + ρ; the candidates are s/t at the distance ρ and (s + 1)/t at the distance d − ρ. 'up' tells which of the two of T it is. -/
structure Best (r d M T F : Int) (up : Bool) : Prop where
  lowB : ∀ t s, 1 ≤ t → t ≤ M → 0 ≤ r * t - s * d → (t < T ∨ (t = T ∧ up = true)) → F * t < (r * t - s * d) * T
  lowA : ∀ t s, 1 ≤ t → t ≤ M → 0 ≤ r * t - s * d → T < t → F * t ≤ (r * t - s * d) * T
  highB : ∀ t s, 1 ≤ t → t ≤ M → 0 < s * d - r * t → t < T → F * t < (s * d - r * t) * T
  highA : ∀ t s, 1 ≤ t → t ≤ M → 0 < s * d - r * t → (T < t ∨ (t = T ∧ up = false)) → F * t ≤ (s * d - r * t) * T
theorem Near.best_lo {r d M a b p q : Int} (N : Near r d M a b p q) (h1 : (r * b - a * d) * q ≤ (p * d - r * q) * b) (h2 : (r * b - a * d) * q = (p * d - r * q) * b → b ≤ q) : Best r d M b (r * b - a * d) false := by
  have hb := N.hb
  have hq := N.hq
  refine ⟨fun t s ht hM h c => ?_, fun t s ht hM h c => (N.farL ht hM h).1, fun t s ht hM h c => ?_, fun t s ht hM h c => cross (by omega) (by omega) (by omega) h1 (N.farU ht hM h).1⟩
  · rcases c with c | ⟨_, c⟩
    · exact (N.farL ht hM h).2 c
    · cases c
  · refine cross_lt (by omega) (by omega) (by omega) h1 (N.farU ht hM h).1 ?_
    rcases Int.lt_or_le ((r * b - a * d) * q) ((p * d - r * q) * b) with hx | hx
    · exact .inl hx
    · have := h2 (by omega)
      exact .inr ((N.farU ht hM h).2 (by omega))
theorem Near.best_hi {r d M a b p q : Int} (N : Near r d M a b p q) (h1 : (p * d - r * q) * b ≤ (r * b - a * d) * q) (h2 : (p * d - r * q) * b = (r * b - a * d) * q → q < b) : Best r d M q (p * d - r * q) true := by
  have hb := N.hb
  have hq := N.hq
  refine ⟨fun t s ht hM h c => ?_, fun t s ht hM h c => cross (by omega) (by omega) (by omega) h1 (N.farL ht hM h).1, fun t s ht hM h c => (N.farU ht hM h).2 c, fun t s ht hM h c => ?_⟩
  · refine cross_lt (by omega) (by omega) (by omega) h1 (N.farL ht hM h).1 ?_
    rcases Int.lt_or_le ((p * d - r * q) * b) ((r * b - a * d) * q) with hx | hx
    · exact .inl hx
    · have := h2 (by omega)
      exact .inr ((N.farL ht hM h).2 (by omega))
  · rcases c with c | ⟨_, c⟩
    · exact (N.farU ht hM h).1
    · cases c
end Go.Proofs.Num

namespace Go.Proofs.YtdjnneflpkllmaaDoor.Q
open Go.RowKit Go.Proofs.YtdjnneflpkllmaaDoorW.PrintWords Go.Proofs.YtdjnneflpkllmaaDoorW.PrintLast Go.Proofs.YtdjnneflpkllmaaDoorW.PrintMore
set_option linter.unusedVariables false in
theorem qb_ {X Y : Prop} (h : X) (f : X → Y := by intro h; (with_reducible repeat (first | refine blk_drewN ?_ _ | refine blk_drew ?_ | refine blk_alloc ?_ _)); exact h) : Y := f h
theorem qr_ {X Y : Prop} (h : X) (f : X → Y := by intro h; (with_reducible repeat (first | apply Kd.R_alloc | apply Kd.R_drewN | apply Kd.R_drew)); exact h) : Y := f h
theorem qv_ {X Y : Prop} (h : X) (f : X → Y := by intro h; (with_reducible repeat (first | apply Kd.V_alloc | apply Kd.V_drewN | apply Kd.V_drew)); exact h) : Y := f h
theorem qc_ {X Y : Prop} (h : X) (f : X → Y := by intro h; repeat (first | exact h | (with_reducible refine Kd.C_alloc ?_ _) | (with_reducible refine Kd.C_drewN ?_ _) | (with_reducible refine Kd.C_drew ?_))) : Y := f h
theorem qe_ {Y : Prop} (f : Y := by ((try simp only [List.map_toArray, List.map_cons, List.map_nil]); first | done | rfl | (simp only [List.length_drop, List.length_take]; rfl))) : Y := f
theorem q0_ {X Y : Prop} (h : X) (f : X → Y := by intro h; repeat (first | (with_reducible first | exact h | apply below_alloc | apply pw_below_drewN | apply below_drew1) | exact h)) : Y := f h
theorem q1_ {X Y Z0 : Prop} (h : X) (g0 : Z0) (f : X → Z0 → Y := by intro h g0; repeat (first | (with_reducible first | exact h | apply below_alloc | apply pw_below_drewN | apply below_drew1 | refine below_set ?_ g0) | exact h)) : Y := f h g0
theorem q2_ {X Y Z0 Z1 : Prop} (h : X) (g0 : Z0) (g1 : Z1) (f : X → Z0 → Z1 → Y := by intro h g0 g1; repeat (first | (with_reducible first | exact h | apply below_alloc | apply pw_below_drewN | apply below_drew1 | refine below_set ?_ g0 | refine below_set ?_ g1) | exact h)) : Y := f h g0 g1
theorem q3_ {X Y Z0 Z1 Z2 : Prop} (h : X) (g0 : Z0) (g1 : Z1) (g2 : Z2) (f : X → Z0 → Z1 → Z2 → Y := by intro h g0 g1 g2; repeat (first | (with_reducible first | exact h | apply below_alloc | apply pw_below_drewN | apply below_drew1 | refine below_set ?_ g0 | refine below_set ?_ g1 | refine below_set ?_ g2) | exact h)) : Y := f h g0 g1 g2
theorem q4_ {X Y Z0 Z1 Z2 Z3 : Prop} (h : X) (g0 : Z0) (g1 : Z1) (g2 : Z2) (g3 : Z3) (f : X → Z0 → Z1 → Z2 → Z3 → Y := by intro h g0 g1 g2 g3; repeat (first | (with_reducible first | exact h | apply below_alloc | apply pw_below_drewN | apply below_drew1 | refine below_set ?_ g0 | refine below_set ?_ g1 | refine below_set ?_ g2 | refine below_set ?_ g3) | exact h)) : Y := f h g0 g1 g2 g3
theorem q5_ {X Y Z0 Z1 Z2 Z3 Z4 : Prop} (h : X) (g0 : Z0) (g1 : Z1) (g2 : Z2) (g3 : Z3) (g4 : Z4) (f : X → Z0 → Z1 → Z2 → Z3 → Z4 → Y := by intro h g0 g1 g2 g3 g4; repeat (first | (with_reducible first | exact h | apply below_alloc | apply pw_below_drewN | apply below_drew1 | refine below_set ?_ g0 | refine below_set ?_ g1 | refine below_set ?_ g2 | refine below_set ?_ g3 | refine below_set ?_ g4) | exact h)) : Y := f h g0 g1 g2 g3 g4
theorem q6_ {X Y Z0 Z1 Z2 Z3 Z4 Z5 : Prop} (h : X) (g0 : Z0) (g1 : Z1) (g2 : Z2) (g3 : Z3) (g4 : Z4) (g5 : Z5) (f : X → Z0 → Z1 → Z2 → Z3 → Z4 → Z5 → Y := by intro h g0 g1 g2 g3 g4 g5; repeat (first | (with_reducible first | exact h | apply below_alloc | apply pw_below_drewN | apply below_drew1 | refine below_set ?_ g0 | refine below_set ?_ g1 | refine below_set ?_ g2 | refine below_set ?_ g3 | refine below_set ?_ g4 | refine below_set ?_ g5) | exact h)) : Y := f h g0 g1 g2 g3 g4 g5
theorem q7_ {X Y Z0 Z1 Z2 Z3 Z4 Z5 Z6 : Prop} (h : X) (g0 : Z0) (g1 : Z1) (g2 : Z2) (g3 : Z3) (g4 : Z4) (g5 : Z5) (g6 : Z6) (f : X → Z0 → Z1 → Z2 → Z3 → Z4 → Z5 → Z6 → Y := by intro h g0 g1 g2 g3 g4 g5 g6; repeat (first | (with_reducible first | exact h | apply below_alloc | apply pw_below_drewN | apply below_drew1 | refine below_set ?_ g0 | refine below_set ?_ g1 | refine below_set ?_ g2 | refine below_set ?_ g3 | refine below_set ?_ g4 | refine below_set ?_ g5 | refine below_set ?_ g6) | exact h)) : Y := f h g0 g1 g2 g3 g4 g5 g6
theorem q8_ {X Y Z0 Z1 Z2 Z3 Z4 Z5 Z6 Z7 : Prop} (h : X) (g0 : Z0) (g1 : Z1) (g2 : Z2) (g3 : Z3) (g4 : Z4) (g5 : Z5) (g6 : Z6) (g7 : Z7) (f : X → Z0 → Z1 → Z2 → Z3 → Z4 → Z5 → Z6 → Z7 → Y := by intro h g0 g1 g2 g3 g4 g5 g6 g7; repeat (first | (with_reducible first | exact h | apply below_alloc | apply pw_below_drewN | apply below_drew1 | refine below_set ?_ g0 | refine below_set ?_ g1 | refine below_set ?_ g2 | refine below_set ?_ g3 | refine below_set ?_ g4 | refine below_set ?_ g5 | refine below_set ?_ g6 | refine below_set ?_ g7) | exact h)) : Y := f h g0 g1 g2 g3 g4 g5 g6 g7
end Go.Proofs.YtdjnneflpkllmaaDoor.Q
namespace Go.Proofs.YtdjnneflpkllmaaDoor.Q
open Go.RowKit Go.Proofs.YtdjnneflpkllmaaDoorW.PrintWords Go.Proofs.YtdjnneflpkllmaaDoorW.PrintLast Go.Proofs.YtdjnneflpkllmaaDoorW.PrintMore
attribute [local go_sem] max2_int min2_int max_two min_two max_three min_three max_four min_four   -- for this text's walks alone
set_option linter.unusedVariables false
set_option linter.unusedSimpArgs false
def errW : Option Int → Value
  | none => .nilIface
  | some c => .iface 0 (.int .i64 c)
theorem errW_none : errW none = .nilIface := rfl
theorem errW_some (c : Int) : errW (some c) = .iface 0 (.int .i64 c) := rfl
theorem info3 : (Tryd.prog.info? 3).map (fun i => (i.zero, i.size, i.bytes)) = some (some (.int .i64 0), 1, 8) := by kernel_rfl
end Go.Proofs.YtdjnneflpkllmaaDoor.Q

namespace Go.Proofs.YtdjnneflpkllmaaDoor.Q
open Go.RowKit Go.Proofs.YtdjnneflpkllmaaDoorW.PrintWords Go.Proofs.YtdjnneflpkllmaaDoorW.PrintLast Go.Proofs.YtdjnneflpkllmaaDoorW.PrintMore
attribute [local go_sem] max2_int min2_int max_two min_two max_three min_three max_four min_four   -- for this text's walks alone
set_option linter.unusedVariables false
set_option linter.unusedSimpArgs false
def num_down.f (a0 : Int) (a1 : Int) : Option (Int × Int) := if a1 = 0 then (none) else (if (Int.tmod a0 a1) < 0 then (some (wrap64 ((wrap64 (Int.tdiv a0 a1)) - 1), wrap64 ((Int.tmod a0 a1) + a1))) else (some (wrap64 (Int.tdiv a0 a1), Int.tmod a0 a1)))
set_option maxHeartbeats 8000000 in
set_option maxRecDepth 100000 in
theorem num_down.calls (a0 : Int) (a1 : Int) (r1 : Int) (r2 : Int) (w : World) (h : num_down.f a0 a1 = some (r1, r2)) :
    Calls Tryd.prog 70 #[.int .i64 a0, .int .i64 a1] w fun e w' => e = .returned (.tuple #[.int .i64 r1, .int .i64 r2]) ∧ Drawn0 w w' := by
  have H : (if a1 = 0 then (none) else (if (Int.tmod a0 a1) < 0 then (some (wrap64 ((wrap64 (Int.tdiv a0 a1)) - 1), wrap64 ((Int.tmod a0 a1) + a1))) else (some (wrap64 (Int.tdiv a0 a1), Int.tmod a0 a1)))) = some (r1, r2) := h
  clear h
  by_cases c3 : a1 = 0
  · rw [if_pos c3] at H
    exact absurd H (by simp)
  · rw [if_neg c3] at H
    have c3b0 : (a1 == 0) = false := beq_eq_false_iff_ne.mpr c3
    have c3b1 : (a1 != 0) = true := bne_iff_ne.mpr c3
    by_cases c4 : (Int.tmod a0 a1) < 0
    · rw [if_pos c4] at H
      have c4b0 : decide ((Int.tmod a0 a1) < 0) = true := decide_eq_true c4
      clear c4
      simp only [Option.some.injEq, Prod.mk.injEq] at H
      obtain ⟨rfl, rfl⟩ := H
      go_enter Tryd.func70, Tryd.ntmps70
      go_wp2
      repeat (go_quiet (fail); try go_wp2)
      go_ret2
      exact ⟨by first | rfl | (simp; done) | (simp [*]; done), by repeat (first | exact Drawn0.refl _ | apply Drawn0.step)⟩
    · rw [if_neg c4] at H
      have c4b0 : decide ((Int.tmod a0 a1) < 0) = false := decide_eq_false c4
      clear c4
      simp only [Option.some.injEq, Prod.mk.injEq] at H
      obtain ⟨rfl, rfl⟩ := H
      go_enter Tryd.func70, Tryd.ntmps70
      go_wp2
      repeat (go_quiet (fail); try go_wp2)
      go_ret2
      exact ⟨by first | rfl | (simp; done) | (simp [*]; done), by repeat (first | exact Drawn0.refl _ | apply Drawn0.step)⟩
end Go.Proofs.YtdjnneflpkllmaaDoor.Q

namespace Go.Proofs.YtdjnneflpkllmaaDoor.Q
open Go.RowKit Go.Proofs.YtdjnneflpkllmaaDoorW.PrintWords Go.Proofs.YtdjnneflpkllmaaDoorW.PrintLast Go.Proofs.YtdjnneflpkllmaaDoorW.PrintMore
attribute [local go_sem] max2_int min2_int max_two min_two max_three min_three max_four min_four   -- for this text's walks alone
set_option linter.unusedVariables false
set_option linter.unusedSimpArgs false
/-- Cells that are stored as they are. -/
theorem self2_ {W : World} {g : Nat} {A B : Value} {t : TypeId} {f : Nat × Nat} (k : W.heap[g]? = some (.cells #[A, B] t f)) : (W.setCell ⟨g, 0, none⟩ A).setCell ⟨g, 1, none⟩ B = W := by
  have h : (((W.setCell ⟨g, 0, none⟩ A).setCell ⟨g, 1, none⟩ B)).heap = W.heap := by
    apply Array.ext_getElem?
    intro i
    simp only [World.setCell, Array.getElem?_modify]
    by_cases e : g = i
    · subst e
      simp [k]
    · simp [e]
  exact (show _ = { W with heap := ((W.setCell ⟨g, 0, none⟩ A).setCell ⟨g, 1, none⟩ B).heap } from rfl).trans (by rw [h])
mutual
def num_around.l0 : Nat → Int → Int → Int → Int → Int → Int → Int → Option (Int × Int × Int × Int)
  | 0, _, _, _, _, _, _, _ => none
  | k + 1, x0, x1, x2, x102000, x102001, x103000, x103001 => if x103001 = 0 then (none) else (if (wrap64 ((wrap64 (x103000 * x1)) - (wrap64 (x0 * x103001)))) > 0 then (if (wrap64 ((wrap64 (x103000 * x1)) - (wrap64 (x0 * x103001)))) = 0 then (none) else (num_around.j1 k x0 x1 x2 (mn (wrap64 (Int.tdiv (wrap64 (x2 - x102001)) x103001)) (wrap64 (Int.tdiv (wrap64 ((wrap64 (x0 * x102001)) - (wrap64 (x102000 * x1)))) (wrap64 ((wrap64 (x103000 * x1)) - (wrap64 (x0 * x103001))))))) x102000 x102001 x103000 x103001)) else (num_around.j1 k x0 x1 x2 (wrap64 (Int.tdiv (wrap64 (x2 - x102001)) x103001)) x102000 x102001 x103000 x103001))
def num_around.j1 : Nat → Int → Int → Int → Int → Int → Int → Int → Int → Option (Int × Int × Int × Int)
  | 0, _, _, _, _, _, _, _, _ => none
  | k + 1, x0, x1, x2, x8, x102000, x102001, x103000, x103001 => if (wrap64 (x102001 + (wrap64 (x8 * x103001)))) = 0 then (none) else (if (wrap64 ((wrap64 (x0 * (wrap64 (x102001 + (wrap64 (x8 * x103001)))))) - (wrap64 ((wrap64 (x102000 + (wrap64 (x8 * x103000)))) * x1)))) > 0 then (if (wrap64 ((wrap64 (x0 * (wrap64 (x102001 + (wrap64 (x8 * x103001)))))) - (wrap64 ((wrap64 (x102000 + (wrap64 (x8 * x103000)))) * x1)))) = 0 then (none) else (if x8 = 0 then (if (mn (wrap64 (Int.tdiv (wrap64 (x2 - x103001)) (wrap64 (x102001 + (wrap64 (x8 * x103001)))))) (wrap64 (Int.tdiv (wrap64 ((wrap64 ((wrap64 (x103000 * x1)) - (wrap64 (x0 * x103001)))) - 1)) (wrap64 ((wrap64 (x0 * (wrap64 (x102001 + (wrap64 (x8 * x103001)))))) - (wrap64 ((wrap64 (x102000 + (wrap64 (x8 * x103000)))) * x1))))))) = 0 then (some (wrap64 (x102000 + (wrap64 (x8 * x103000))), wrap64 (x102001 + (wrap64 (x8 * x103001))), wrap64 (x103000 + (wrap64 ((mn (wrap64 (Int.tdiv (wrap64 (x2 - x103001)) (wrap64 (x102001 + (wrap64 (x8 * x103001)))))) (wrap64 (Int.tdiv (wrap64 ((wrap64 ((wrap64 (x103000 * x1)) - (wrap64 (x0 * x103001)))) - 1)) (wrap64 ((wrap64 (x0 * (wrap64 (x102001 + (wrap64 (x8 * x103001)))))) - (wrap64 ((wrap64 (x102000 + (wrap64 (x8 * x103000)))) * x1))))))) * (wrap64 (x102000 + (wrap64 (x8 * x103000))))))), wrap64 (x103001 + (wrap64 ((mn (wrap64 (Int.tdiv (wrap64 (x2 - x103001)) (wrap64 (x102001 + (wrap64 (x8 * x103001)))))) (wrap64 (Int.tdiv (wrap64 ((wrap64 ((wrap64 (x103000 * x1)) - (wrap64 (x0 * x103001)))) - 1)) (wrap64 ((wrap64 (x0 * (wrap64 (x102001 + (wrap64 (x8 * x103001)))))) - (wrap64 ((wrap64 (x102000 + (wrap64 (x8 * x103000)))) * x1))))))) * (wrap64 (x102001 + (wrap64 (x8 * x103001))))))))) else (num_around.l0 k x0 x1 x2 (wrap64 (x102000 + (wrap64 (x8 * x103000)))) (wrap64 (x102001 + (wrap64 (x8 * x103001)))) (wrap64 (x103000 + (wrap64 ((mn (wrap64 (Int.tdiv (wrap64 (x2 - x103001)) (wrap64 (x102001 + (wrap64 (x8 * x103001)))))) (wrap64 (Int.tdiv (wrap64 ((wrap64 ((wrap64 (x103000 * x1)) - (wrap64 (x0 * x103001)))) - 1)) (wrap64 ((wrap64 (x0 * (wrap64 (x102001 + (wrap64 (x8 * x103001)))))) - (wrap64 ((wrap64 (x102000 + (wrap64 (x8 * x103000)))) * x1))))))) * (wrap64 (x102000 + (wrap64 (x8 * x103000)))))))) (wrap64 (x103001 + (wrap64 ((mn (wrap64 (Int.tdiv (wrap64 (x2 - x103001)) (wrap64 (x102001 + (wrap64 (x8 * x103001)))))) (wrap64 (Int.tdiv (wrap64 ((wrap64 ((wrap64 (x103000 * x1)) - (wrap64 (x0 * x103001)))) - 1)) (wrap64 ((wrap64 (x0 * (wrap64 (x102001 + (wrap64 (x8 * x103001)))))) - (wrap64 ((wrap64 (x102000 + (wrap64 (x8 * x103000)))) * x1))))))) * (wrap64 (x102001 + (wrap64 (x8 * x103001)))))))))) else (num_around.l0 k x0 x1 x2 (wrap64 (x102000 + (wrap64 (x8 * x103000)))) (wrap64 (x102001 + (wrap64 (x8 * x103001)))) (wrap64 (x103000 + (wrap64 ((mn (wrap64 (Int.tdiv (wrap64 (x2 - x103001)) (wrap64 (x102001 + (wrap64 (x8 * x103001)))))) (wrap64 (Int.tdiv (wrap64 ((wrap64 ((wrap64 (x103000 * x1)) - (wrap64 (x0 * x103001)))) - 1)) (wrap64 ((wrap64 (x0 * (wrap64 (x102001 + (wrap64 (x8 * x103001)))))) - (wrap64 ((wrap64 (x102000 + (wrap64 (x8 * x103000)))) * x1))))))) * (wrap64 (x102000 + (wrap64 (x8 * x103000)))))))) (wrap64 (x103001 + (wrap64 ((mn (wrap64 (Int.tdiv (wrap64 (x2 - x103001)) (wrap64 (x102001 + (wrap64 (x8 * x103001)))))) (wrap64 (Int.tdiv (wrap64 ((wrap64 ((wrap64 (x103000 * x1)) - (wrap64 (x0 * x103001)))) - 1)) (wrap64 ((wrap64 (x0 * (wrap64 (x102001 + (wrap64 (x8 * x103001)))))) - (wrap64 ((wrap64 (x102000 + (wrap64 (x8 * x103000)))) * x1))))))) * (wrap64 (x102001 + (wrap64 (x8 * x103001))))))))))) else (if x8 = 0 then (if (wrap64 (Int.tdiv (wrap64 (x2 - x103001)) (wrap64 (x102001 + (wrap64 (x8 * x103001)))))) = 0 then (some (wrap64 (x102000 + (wrap64 (x8 * x103000))), wrap64 (x102001 + (wrap64 (x8 * x103001))), wrap64 (x103000 + (wrap64 ((wrap64 (Int.tdiv (wrap64 (x2 - x103001)) (wrap64 (x102001 + (wrap64 (x8 * x103001)))))) * (wrap64 (x102000 + (wrap64 (x8 * x103000))))))), wrap64 (x103001 + (wrap64 ((wrap64 (Int.tdiv (wrap64 (x2 - x103001)) (wrap64 (x102001 + (wrap64 (x8 * x103001)))))) * (wrap64 (x102001 + (wrap64 (x8 * x103001))))))))) else (num_around.l0 k x0 x1 x2 (wrap64 (x102000 + (wrap64 (x8 * x103000)))) (wrap64 (x102001 + (wrap64 (x8 * x103001)))) (wrap64 (x103000 + (wrap64 ((wrap64 (Int.tdiv (wrap64 (x2 - x103001)) (wrap64 (x102001 + (wrap64 (x8 * x103001)))))) * (wrap64 (x102000 + (wrap64 (x8 * x103000)))))))) (wrap64 (x103001 + (wrap64 ((wrap64 (Int.tdiv (wrap64 (x2 - x103001)) (wrap64 (x102001 + (wrap64 (x8 * x103001)))))) * (wrap64 (x102001 + (wrap64 (x8 * x103001)))))))))) else (num_around.l0 k x0 x1 x2 (wrap64 (x102000 + (wrap64 (x8 * x103000)))) (wrap64 (x102001 + (wrap64 (x8 * x103001)))) (wrap64 (x103000 + (wrap64 ((wrap64 (Int.tdiv (wrap64 (x2 - x103001)) (wrap64 (x102001 + (wrap64 (x8 * x103001)))))) * (wrap64 (x102000 + (wrap64 (x8 * x103000)))))))) (wrap64 (x103001 + (wrap64 ((wrap64 (Int.tdiv (wrap64 (x2 - x103001)) (wrap64 (x102001 + (wrap64 (x8 * x103001)))))) * (wrap64 (x102001 + (wrap64 (x8 * x103001)))))))))))
end
def num_around.f (k : Nat) (a0 : Int) (a1 : Int) (a2 : Int) : Option (Int × Int × Int × Int) := num_around.l0 k a0 a1 a2 0 1 1 1
theorem num_around.mono_l : ∀ k, (∀ y0 y1 y2 y3 y4 y5 y6, LeO (num_around.l0 k y0 y1 y2 y3 y4 y5 y6) (num_around.l0 (k + 1) y0 y1 y2 y3 y4 y5 y6)) ∧ (∀ y0 y1 y2 y3 y4 y5 y6 y7, LeO (num_around.j1 k y0 y1 y2 y3 y4 y5 y6 y7) (num_around.j1 (k + 1) y0 y1 y2 y3 y4 y5 y6 y7))
  | 0 => ⟨fun _ _ _ _ _ _ _ r h => by simp [num_around.l0] at h, fun _ _ _ _ _ _ _ _ r h => by simp [num_around.j1] at h⟩
  | k + 1 => by
    obtain ⟨ih0, ih1⟩ := num_around.mono_l k
    refine ⟨?_, ?_⟩
    · intro y0 y1 y2 y3 y4 y5 y6
      unfold num_around.l0
      repeat' first
      | (with_reducible exact ih0 _ _ _ _ _ _ _)
      | (with_reducible exact ih1 _ _ _ _ _ _ _ _)
      | (with_reducible exact LeO.refl _)
      | (with_reducible exact LeO.none _)
      | (with_reducible refine LeO.ite ?_ ?_)
      | (with_reducible refine LeO.bind ?_ (fun _ => ?_))
      | exact ih0 _ _ _ _ _ _ _
      | exact ih1 _ _ _ _ _ _ _ _
      | exact LeO.none _
      | refine LeO.ite ?_ ?_
      | refine LeO.bind ?_ (fun _ => ?_)
    · intro y0 y1 y2 y3 y4 y5 y6 y7
      unfold num_around.j1
      repeat' first
      | (with_reducible exact ih0 _ _ _ _ _ _ _)
      | (with_reducible exact ih1 _ _ _ _ _ _ _ _)
      | (with_reducible exact LeO.refl _)
      | (with_reducible exact LeO.none _)
      | (with_reducible refine LeO.ite ?_ ?_)
      | (with_reducible refine LeO.bind ?_ (fun _ => ?_))
      | exact ih0 _ _ _ _ _ _ _
      | exact ih1 _ _ _ _ _ _ _ _
      | exact LeO.none _
      | refine LeO.ite ?_ ?_
      | refine LeO.bind ?_ (fun _ => ?_)
theorem num_around.mono : ∀ a0 a1 a2 k, LeO (num_around.f k a0 a1 a2) (num_around.f (k + 1) a0 a1 a2) := by
  intro a0 a1 a2 k
  obtain ⟨ih0, ih1⟩ := num_around.mono_l k
  unfold num_around.f
  repeat' first
      | (with_reducible exact ih0 _ _ _ _ _ _ _)
      | (with_reducible exact ih1 _ _ _ _ _ _ _ _)
      | (with_reducible exact LeO.refl _)
      | (with_reducible exact LeO.none _)
      | (with_reducible refine LeO.ite ?_ ?_)
      | (with_reducible refine LeO.bind ?_ (fun _ => ?_))
      | exact ih0 _ _ _ _ _ _ _
      | exact ih1 _ _ _ _ _ _ _ _
      | exact LeO.none _
      | refine LeO.ite ?_ ?_
      | refine LeO.bind ?_ (fun _ => ?_)
set_option maxHeartbeats 8000000 in
set_option maxRecDepth 100000 in
theorem num_around.calls (k : Nat) (a0 : Int) (a1 : Int) (a2 : Int) (r1 : Int) (r2 : Int) (r3 : Int) (r4 : Int) (w : World) (h : num_around.f k a0 a1 a2 = some (r1, r2, r3, r4)) :
    Calls Tryd.prog 71 #[.int .i64 a0, .int .i64 a1, .int .i64 a2] w fun e w' => e = .returned (.tuple #[.agg #[.int .i64 r1, .int .i64 r2], .agg #[.int .i64 r3, .int .i64 r4]]) ∧ Below w.heap.size w w' := by
  have hu23 := Tryd.underlying23
  have HB := Aside0.mk (Below.refl w.heap.size w)
  have H : (num_around.l0 k a0 a1 a2 0 1 1 1) = some (r1, r2, r3, r4) := h
  clear h
  have H' := Aside0.mk H
  clear H
  go_enter Tryd.func71, Tryd.ntmps71
  go_wp2_with (first | ((with_reducible refine gate_dst (N := 6) rfl ?_); refine box_event ?hg (N := 6) ?hd (cs := #[.int .i64 0, .int .i64 0]) (t := 23) ?hr ?_; (case hd => rfl); (case hg => rfl); (case hr => first | (go_simp; done) | (go_simp; rfl)); intro gb101 hg w4 hbox hb; have n0_ := Aside0.mk (below_step (q0_ HB.out) hb); have n1_ := Aside0.mk (hbox); have n2_ := Aside0.mk ((by rw [hg]; exact (below_size (q0_ HB.out)) : w.heap.size ≤ gb101)); have n3_ := Aside0.mk ((by rw [hg]; exact (below_size (q0_ HB.out)) : w.heap.size ≤ gb101)); clear HB; have HB := n0_; have BK101 := n1_; have GW101 := n2_; have GE101 := n3_; clear n0_ n1_ n2_ n3_; clear hb hbox hg) | ((with_reducible refine gate_dst (N := 7) rfl ?_); refine box_event ?hg (N := 7) ?hd (cs := #[.int .i64 0, .int .i64 0]) (t := 23) ?hr ?_; (case hd => rfl); (case hg => rfl); (case hr => first | (go_simp; done) | (go_simp; rfl)); intro gb102 hg w5 hbox hb; have n0_ := Aside0.mk (blk_below (g := gb101) (o := .cells #[.int .i64 0, .int .i64 0] 23 (0, 0)) (qb_ BK101.out) hb); have n1_ := Aside0.mk (below_step (q1_ HB.out GE101.out) hb); have n2_ := Aside0.mk (hbox); have n3_ := Aside0.mk ((by rw [hg]; exact (below_size (q1_ HB.out GE101.out)) : w.heap.size ≤ gb102)); have n4_ := Aside0.mk ((by rw [hg]; exact (below_size (q1_ HB.out GE101.out)) : w.heap.size ≤ gb102)); have n5_ := Aside0.mk ((by rw [hg]; exact Nat.ne_of_lt (blk_lt (g := gb101) (o := .cells #[.int .i64 0, .int .i64 0] 23 (0, 0)) (qb_ BK101.out)) : gb101 ≠ gb102)); have n6_ := Aside0.mk ((by rw [hg]; exact Nat.ne_of_gt (blk_lt (g := gb101) (o := .cells #[.int .i64 0, .int .i64 0] 23 (0, 0)) (qb_ BK101.out)) : gb102 ≠ gb101)); clear BK101; clear HB; have BK101 := n0_; have HB := n1_; have BK102 := n2_; have GW102 := n3_; have GE102 := n4_; have NB101_102 := n5_; have NB102_101 := n6_; clear n0_ n1_ n2_ n3_ n4_ n5_ n6_; clear hb hbox hg; have hnb6 := NB101_102.out; have hnc6 := NB102_101.out; have hcz7_0 : w5.cell? ⟨gb101, 0, none⟩ = some (.int .i64 0) := (blk_cell BK101.out 0).trans rfl; have hcz7_1 : w5.cell? ⟨gb101, 1, none⟩ = some (.int .i64 0) := (blk_cell BK101.out 1).trans rfl; have hfz7_0 := blk_frozen BK101.out 0; have hfz7_1 := blk_frozen BK101.out 1; have hcz8_0 : w5.cell? ⟨gb102, 0, none⟩ = some (.int .i64 0) := (blk_cell BK102.out 0).trans rfl; have hcz8_1 : w5.cell? ⟨gb102, 1, none⟩ = some (.int .i64 0) := (blk_cell BK102.out 1).trans rfl; have hfz8_0 := blk_frozen BK102.out 0; have hfz8_1 := blk_frozen BK102.out 1))
  go_loopg [] k (fun kq w' => ∃ (x102000_1 : Int) (x102001_1 : Int) (x103000_1 : Int) (x103001_1 : Int), Aside0 (num_around.l0 kq a0 a1 a2 x102000_1 x102001_1 x103000_1 x103001_1 = some (r1, r2, r3, r4)) ∧ Aside0 (kq ≤ k) ∧ Aside0 (w'.heap[gb101]? = some (.cells #[.int .i64 x102000_1, .int .i64 x102001_1] 23 (0, 0))) ∧ Aside0 (w'.heap[gb102]? = some (.cells #[.int .i64 x103000_1, .int .i64 x103001_1] 23 (0, 0))) ∧ Aside0 (Below w.heap.size w w'))
  case atStart => exact ⟨(0), (1), (1), (1), H', ⟨Nat.le_refl _⟩, ⟨by (with_reducible repeat (first | refine blk_drewN ?_ _ | refine blk_drew ?_ | refine blk_alloc ?_ _)); refine blk_far ?_ NB101_102.out _; (with_reducible repeat (first | refine blk_drewN ?_ _ | refine blk_drew ?_ | refine blk_alloc ?_ _)); refine blk_far ?_ NB101_102.out _; (with_reducible repeat (first | refine blk_drewN ?_ _ | refine blk_drew ?_ | refine blk_alloc ?_ _)); refine blk_put (cs := #[.int .i64 0, .int .i64 0]) ?_ 1 _ rfl; (with_reducible repeat (first | refine blk_drewN ?_ _ | refine blk_drew ?_ | refine blk_alloc ?_ _)); refine blk_put (cs := #[.int .i64 0, .int .i64 0]) ?_ 0 _ rfl; (with_reducible repeat (first | refine blk_drewN ?_ _ | refine blk_drew ?_ | refine blk_alloc ?_ _)); exact BK101.out⟩, ⟨by (with_reducible repeat (first | refine blk_drewN ?_ _ | refine blk_drew ?_ | refine blk_alloc ?_ _)); refine blk_put (cs := #[.int .i64 1, .int .i64 0]) ?_ 1 _ rfl; (with_reducible repeat (first | refine blk_drewN ?_ _ | refine blk_drew ?_ | refine blk_alloc ?_ _)); refine blk_put (cs := #[.int .i64 0, .int .i64 0]) ?_ 0 _ rfl; (with_reducible repeat (first | refine blk_drewN ?_ _ | refine blk_drew ?_ | refine blk_alloc ?_ _)); refine blk_far ?_ NB102_101.out _; (with_reducible repeat (first | refine blk_drewN ?_ _ | refine blk_drew ?_ | refine blk_alloc ?_ _)); refine blk_far ?_ NB102_101.out _; (with_reducible repeat (first | refine blk_drewN ?_ _ | refine blk_drew ?_ | refine blk_alloc ?_ _)); exact BK102.out⟩, ⟨(q2_ HB.out GE101.out GE102.out)⟩⟩
  case round =>
    clear H'
    try clear p2
    try clear c6
    try clear c7
    try clear hcz7_0
    try clear hcz7_1
    try clear hcz8_0
    try clear hcz8_1
    try clear hfz7_0
    try clear hfz7_1
    try clear hfz8_0
    try clear hfz8_1
    obtain ⟨x102000_1, x102001_1, x103000_1, x103001_1, HA, HK1, BK101, BK102, HB⟩ := hrel
    cases gk with
    | zero => exact absurd HA.out (by simp [num_around.l0])
    | succ k1 =>
      have H := HA.out
      clear HA
      simp only [num_around.l0] at H
      by_cases c9 : x103001_1 = 0
      · rw [if_pos c9] at H
        exact absurd H (by simp)
      · rw [if_neg c9] at H
        have c9b0 : (x103001_1 == 0) = false := beq_eq_false_iff_ne.mpr c9
        have c9b1 : (x103001_1 != 0) = true := bne_iff_ne.mpr c9
        have HC10 := Aside0.mk H
        clear H
        have hnb11 := NB101_102.out
        have hnc11 := NB102_101.out
        have hcz12_0 : wr.cell? ⟨gb101, 0, none⟩ = some (.int .i64 x102000_1) := (blk_cell BK101.out 0).trans rfl
        have hcz12_1 : wr.cell? ⟨gb101, 1, none⟩ = some (.int .i64 x102001_1) := (blk_cell BK101.out 1).trans rfl
        have hfz12_0 := blk_frozen BK101.out 0
        have hfz12_1 := blk_frozen BK101.out 1
        have hcz13_0 : wr.cell? ⟨gb102, 0, none⟩ = some (.int .i64 x103000_1) := (blk_cell BK102.out 0).trans rfl
        have hcz13_1 : wr.cell? ⟨gb102, 1, none⟩ = some (.int .i64 x103001_1) := (blk_cell BK102.out 1).trans rfl
        have hfz13_0 := blk_frozen BK102.out 0
        have hfz13_1 := blk_frozen BK102.out 1
        go_upto_if 31 with (fail)
        go_cut [8] (fun v8 wc => ∃ (kq : Nat) (x8_9 : Int), v8 = .int .i64 x8_9 ∧ Aside0 (num_around.j1 kq a0 a1 a2 x8_9 x102000_1 x102001_1 x103000_1 x103001_1 = some (r1, r2, r3, r4)) ∧ Aside0 (kq ≤ k1) ∧ Aside0 (wc.heap[gb101]? = some (.cells #[.int .i64 x102000_1, .int .i64 x102001_1] 23 (0, 0))) ∧ Aside0 (wc.heap[gb102]? = some (.cells #[.int .i64 x103000_1, .int .i64 x103001_1] 23 (0, 0))) ∧ Aside0 (Below w.heap.size w wc))
        case first =>
          have H := HC10.out
          clear HC10
          by_cases c14 : (wrap64 ((wrap64 (x103000_1 * a1)) - (wrap64 (a0 * x103001_1)))) > 0
          · rw [if_pos c14] at H
            have c14b0 : decide (0 < (wrap64 ((wrap64 (x103000_1 * a1)) - (wrap64 (a0 * x103001_1))))) = true := decide_eq_true c14
            clear c14
            (first | rw [c14b0] | (simp only [i64_w, i32_w]; rw [c14b0]) | skip)
            by_cases c15 : (wrap64 ((wrap64 (x103000_1 * a1)) - (wrap64 (a0 * x103001_1)))) = 0
            · rw [if_pos c15] at H
              exact absurd H (by simp)
            · rw [if_neg c15] at H
              have c15b0 : ((wrap64 ((wrap64 (x103000_1 * a1)) - (wrap64 (a0 * x103001_1)))) == 0) = false := beq_eq_false_iff_ne.mpr c15
              have c15b1 : ((wrap64 ((wrap64 (x103000_1 * a1)) - (wrap64 (a0 * x103001_1)))) != 0) = true := bne_iff_ne.mpr c15
              obtain ⟨ji16, hji16⟩ : ∃ j_ : Int, (mn (wrap64 (Int.tdiv (wrap64 (a2 - x102001_1)) x103001_1)) (wrap64 (Int.tdiv (wrap64 ((wrap64 (a0 * x102001_1)) - (wrap64 (x102000_1 * a1)))) (wrap64 ((wrap64 (x103000_1 * a1)) - (wrap64 (a0 * x103001_1))))))) = j_ := ⟨_, rfl⟩
              replace H : (num_around.j1 k1 a0 a1 a2 ji16 x102000_1 x102001_1 x103000_1 x103001_1) = some (r1, r2, r3, r4) := by first | (rw [hji16] at H; exact H) | (simp only [hji16] at H ⊢; exact H)
              have hji16_ : (if (wrap64 (Int.tdiv (wrap64 ((wrap64 (a0 * x102001_1)) - (wrap64 (x102000_1 * a1)))) (wrap64 ((wrap64 (x103000_1 * a1)) - (wrap64 (a0 * x103001_1)))))) < (wrap64 (Int.tdiv (wrap64 (a2 - x102001_1)) x103001_1)) then (wrap64 (Int.tdiv (wrap64 ((wrap64 (a0 * x102001_1)) - (wrap64 (x102000_1 * a1)))) (wrap64 ((wrap64 (x103000_1 * a1)) - (wrap64 (a0 * x103001_1)))))) else (wrap64 (Int.tdiv (wrap64 (a2 - x102001_1)) x103001_1))) = ji16 := hji16
              have H' := Aside0.mk H
              clear H
              have hnb17 := NB101_102.out
              have hnc17 := NB102_101.out
              have hcz18_0 : wr.cell? ⟨gb101, 0, none⟩ = some (.int .i64 x102000_1) := (blk_cell BK101.out 0).trans rfl
              have hcz18_1 : wr.cell? ⟨gb101, 1, none⟩ = some (.int .i64 x102001_1) := (blk_cell BK101.out 1).trans rfl
              have hfz18_0 := blk_frozen BK101.out 0
              have hfz18_1 := blk_frozen BK101.out 1
              go_wp2
              go_meet
              case rel => exact ⟨_, (ji16), (by first | rfl | (simp; done) | (simp only [← hji16] <;> (first | rfl | simp)) | (simp [*]; done)), H', ⟨by have := HK1.out; first | omega | exact Nat.le_refl _⟩, ⟨by (with_reducible repeat (first | refine blk_drewN ?_ _ | refine blk_drew ?_ | refine blk_alloc ?_ _)); exact BK101.out⟩, ⟨by (with_reducible repeat (first | refine blk_drewN ?_ _ | refine blk_drew ?_ | refine blk_alloc ?_ _)); exact BK102.out⟩, ⟨(q2_ HB.out GE101.out GE102.out)⟩⟩
          · rw [if_neg c14] at H
            have c14b0 : decide (0 < (wrap64 ((wrap64 (x103000_1 * a1)) - (wrap64 (a0 * x103001_1))))) = false := decide_eq_false c14
            clear c14
            (first | rw [c14b0] | (simp only [i64_w, i32_w]; rw [c14b0]) | skip)
            have H' := Aside0.mk H
            clear H
            go_wp2
            go_meet
            case rel => exact ⟨_, (wrap64 (Int.tdiv (wrap64 (a2 - x102001_1)) x103001_1)), (by first | rfl | (simp; done) | (simp [*]; done)), H', ⟨by have := HK1.out; first | omega | exact Nat.le_refl _⟩, ⟨by (with_reducible repeat (first | refine blk_drewN ?_ _ | refine blk_drew ?_ | refine blk_alloc ?_ _)); exact BK101.out⟩, ⟨by (with_reducible repeat (first | refine blk_drewN ?_ _ | refine blk_drew ?_ | refine blk_alloc ?_ _)); exact BK102.out⟩, ⟨(q2_ HB.out GE101.out GE102.out)⟩⟩
        case rest =>
          clear HC10
          try clear c1
          try clear p2
          try clear c6
          try clear p6
          try clear c7
          try clear c9
          try clear c9b0
          try clear c9b1
          try clear c11
          try clear c14
          try clear c14b0
          try clear c15
          try clear c15b0
          try clear c15b1
          try clear c17
          try clear hcz12_0
          try clear hcz12_1
          try clear hcz13_0
          try clear hcz13_1
          try clear hcz18_0
          try clear hcz18_1
          try clear hcz7_0
          try clear hcz7_1
          try clear hcz8_0
          try clear hcz8_1
          try clear hfz12_0
          try clear hfz12_1
          try clear hfz13_0
          try clear hfz13_1
          try clear hfz18_0
          try clear hfz18_1
          try clear hfz7_0
          try clear hfz7_1
          try clear hfz8_0
          try clear hfz8_1
          try clear p2
          obtain ⟨kq, x8_9, rfl, HA, HJ9, BK101, BK102, HB⟩ := hcut
          cases kq with
          | zero => exact absurd HA.out (by simp [num_around.j1])
          | succ kj9 =>
            have H := HA.out
            clear HA
            simp only [num_around.j1] at H
            by_cases c19 : (wrap64 (x102001_1 + (wrap64 (x8_9 * x103001_1)))) = 0
            · rw [if_pos c19] at H
              exact absurd H (by simp)
            · rw [if_neg c19] at H
              have c19b0 : ((wrap64 (x102001_1 + (wrap64 (x8_9 * x103001_1)))) == 0) = false := beq_eq_false_iff_ne.mpr c19
              have c19b1 : ((wrap64 (x102001_1 + (wrap64 (x8_9 * x103001_1)))) != 0) = true := bne_iff_ne.mpr c19
              by_cases c20 : (wrap64 ((wrap64 (a0 * (wrap64 (x102001_1 + (wrap64 (x8_9 * x103001_1)))))) - (wrap64 ((wrap64 (x102000_1 + (wrap64 (x8_9 * x103000_1)))) * a1)))) > 0
              · rw [if_pos c20] at H
                have c20b0 : decide (0 < (wrap64 ((wrap64 (a0 * (wrap64 (x102001_1 + (wrap64 (x8_9 * x103001_1)))))) - (wrap64 ((wrap64 (x102000_1 + (wrap64 (x8_9 * x103000_1)))) * a1))))) = true := decide_eq_true c20
                clear c20
                by_cases c21 : (wrap64 ((wrap64 (a0 * (wrap64 (x102001_1 + (wrap64 (x8_9 * x103001_1)))))) - (wrap64 ((wrap64 (x102000_1 + (wrap64 (x8_9 * x103000_1)))) * a1)))) = 0
                · rw [if_pos c21] at H
                  exact absurd H (by simp)
                · rw [if_neg c21] at H
                  have c21b0 : ((wrap64 ((wrap64 (a0 * (wrap64 (x102001_1 + (wrap64 (x8_9 * x103001_1)))))) - (wrap64 ((wrap64 (x102000_1 + (wrap64 (x8_9 * x103000_1)))) * a1)))) == 0) = false := beq_eq_false_iff_ne.mpr c21
                  have c21b1 : ((wrap64 ((wrap64 (a0 * (wrap64 (x102001_1 + (wrap64 (x8_9 * x103001_1)))))) - (wrap64 ((wrap64 (x102000_1 + (wrap64 (x8_9 * x103000_1)))) * a1)))) != 0) = true := bne_iff_ne.mpr c21
                  obtain ⟨ji22, hji22⟩ : ∃ j_ : Int, (mn (wrap64 (Int.tdiv (wrap64 (a2 - x103001_1)) (wrap64 (x102001_1 + (wrap64 (x8_9 * x103001_1)))))) (wrap64 (Int.tdiv (wrap64 ((wrap64 ((wrap64 (x103000_1 * a1)) - (wrap64 (a0 * x103001_1)))) - 1)) (wrap64 ((wrap64 (a0 * (wrap64 (x102001_1 + (wrap64 (x8_9 * x103001_1)))))) - (wrap64 ((wrap64 (x102000_1 + (wrap64 (x8_9 * x103000_1)))) * a1))))))) = j_ := ⟨_, rfl⟩
                  replace H : (if x8_9 = 0 then (if (ji22) = 0 then (some (wrap64 (x102000_1 + (wrap64 (x8_9 * x103000_1))), wrap64 (x102001_1 + (wrap64 (x8_9 * x103001_1))), wrap64 (x103000_1 + (wrap64 ((ji22) * (wrap64 (x102000_1 + (wrap64 (x8_9 * x103000_1))))))), wrap64 (x103001_1 + (wrap64 ((ji22) * (wrap64 (x102001_1 + (wrap64 (x8_9 * x103001_1))))))))) else (num_around.l0 kj9 a0 a1 a2 (wrap64 (x102000_1 + (wrap64 (x8_9 * x103000_1)))) (wrap64 (x102001_1 + (wrap64 (x8_9 * x103001_1)))) (wrap64 (x103000_1 + (wrap64 ((ji22) * (wrap64 (x102000_1 + (wrap64 (x8_9 * x103000_1)))))))) (wrap64 (x103001_1 + (wrap64 ((ji22) * (wrap64 (x102001_1 + (wrap64 (x8_9 * x103001_1)))))))))) else (num_around.l0 kj9 a0 a1 a2 (wrap64 (x102000_1 + (wrap64 (x8_9 * x103000_1)))) (wrap64 (x102001_1 + (wrap64 (x8_9 * x103001_1)))) (wrap64 (x103000_1 + (wrap64 ((ji22) * (wrap64 (x102000_1 + (wrap64 (x8_9 * x103000_1)))))))) (wrap64 (x103001_1 + (wrap64 ((ji22) * (wrap64 (x102001_1 + (wrap64 (x8_9 * x103001_1)))))))))) = some (r1, r2, r3, r4) := by first | (rw [hji22] at H; exact H) | (simp only [hji22] at H ⊢; exact H)
                  have hji22_ : (if (wrap64 (Int.tdiv (wrap64 ((wrap64 ((wrap64 (x103000_1 * a1)) - (wrap64 (a0 * x103001_1)))) - 1)) (wrap64 ((wrap64 (a0 * (wrap64 (x102001_1 + (wrap64 (x8_9 * x103001_1)))))) - (wrap64 ((wrap64 (x102000_1 + (wrap64 (x8_9 * x103000_1)))) * a1)))))) < (wrap64 (Int.tdiv (wrap64 (a2 - x103001_1)) (wrap64 (x102001_1 + (wrap64 (x8_9 * x103001_1)))))) then (wrap64 (Int.tdiv (wrap64 ((wrap64 ((wrap64 (x103000_1 * a1)) - (wrap64 (a0 * x103001_1)))) - 1)) (wrap64 ((wrap64 (a0 * (wrap64 (x102001_1 + (wrap64 (x8_9 * x103001_1)))))) - (wrap64 ((wrap64 (x102000_1 + (wrap64 (x8_9 * x103000_1)))) * a1)))))) else (wrap64 (Int.tdiv (wrap64 (a2 - x103001_1)) (wrap64 (x102001_1 + (wrap64 (x8_9 * x103001_1))))))) = ji22 := hji22
                  by_cases c23 : x8_9 = 0
                  · rw [if_pos c23] at H
                    have c23b0 : (x8_9 == 0) = true := beq_iff_eq.mpr c23
                    have c23b1 : (x8_9 != 0) = false := bne_eq_false_iff_eq.mpr c23
                    clear c23
                    by_cases c24 : (ji22) = 0
                    · rw [if_pos c24] at H
                      have c24b0 : ((ji22) == 0) = true := beq_iff_eq.mpr c24
                      have c24b1 : ((ji22) != 0) = false := bne_eq_false_iff_eq.mpr c24
                      clear c24
                      simp only [Option.some.injEq, Prod.mk.injEq] at H
                      obtain ⟨rfl, rfl, rfl, rfl⟩ := H
                      have hnb25 := NB101_102.out
                      have hnc25 := NB102_101.out
                      have hcz26_0 : wc.cell? ⟨gb101, 0, none⟩ = some (.int .i64 x102000_1) := (blk_cell BK101.out 0).trans rfl
                      have hcz26_1 : wc.cell? ⟨gb101, 1, none⟩ = some (.int .i64 x102001_1) := (blk_cell BK101.out 1).trans rfl
                      have hfz26_0 := blk_frozen BK101.out 0
                      have hfz26_1 := blk_frozen BK101.out 1
                      have hcz27_0 : wc.cell? ⟨gb102, 0, none⟩ = some (.int .i64 x103000_1) := (blk_cell BK102.out 0).trans rfl
                      have hcz27_1 : wc.cell? ⟨gb102, 1, none⟩ = some (.int .i64 x103001_1) := (blk_cell BK102.out 1).trans rfl
                      have hfz27_0 := blk_frozen BK102.out 0
                      have hfz27_1 := blk_frozen BK102.out 1
                      go_upto_region 13 with (fail)
                      have k1_ : ((((wc.setCell ⟨gb101, 0, none⟩ (.int .i64 (wrap64 (x102000_1 + (wrap64 (x8_9 * x103000_1)))))).setCell ⟨gb101, 1, none⟩ (.int .i64 (wrap64 (x102001_1 + (wrap64 (x8_9 * x103001_1)))))).setCell ⟨gb102, 0, none⟩ (.int .i64 (wrap64 (x103000_1 + (wrap64 ((ji22) * (wrap64 (x102000_1 + (wrap64 (x8_9 * x103000_1)))))))))).setCell ⟨gb102, 1, none⟩ (.int .i64 (wrap64 (x103001_1 + (wrap64 ((ji22) * (wrap64 (x102001_1 + (wrap64 (x8_9 * x103001_1)))))))))).heap[gb101]? = some (.cells #[.int .i64 (wrap64 (x102000_1 + (wrap64 (x8_9 * x103000_1)))), .int .i64 (wrap64 (x102001_1 + (wrap64 (x8_9 * x103001_1))))] 23 (0, 0)) := (by (with_reducible repeat (first | refine blk_drewN ?_ _ | refine blk_drew ?_ | refine blk_alloc ?_ _)); refine blk_far ?_ NB101_102.out _; (with_reducible repeat (first | refine blk_drewN ?_ _ | refine blk_drew ?_ | refine blk_alloc ?_ _)); refine blk_far ?_ NB101_102.out _; (with_reducible repeat (first | refine blk_drewN ?_ _ | refine blk_drew ?_ | refine blk_alloc ?_ _)); refine blk_put (cs := #[.int .i64 (wrap64 (x102000_1 + (wrap64 (x8_9 * x103000_1)))), .int .i64 x102001_1]) ?_ 1 _ rfl; (with_reducible repeat (first | refine blk_drewN ?_ _ | refine blk_drew ?_ | refine blk_alloc ?_ _)); refine blk_put (cs := #[.int .i64 x102000_1, .int .i64 x102001_1]) ?_ 0 _ rfl; (with_reducible repeat (first | refine blk_drewN ?_ _ | refine blk_drew ?_ | refine blk_alloc ?_ _)); exact BK101.out)
                      have k2_ : ((((wc.setCell ⟨gb101, 0, none⟩ (.int .i64 (wrap64 (x102000_1 + (wrap64 (x8_9 * x103000_1)))))).setCell ⟨gb101, 1, none⟩ (.int .i64 (wrap64 (x102001_1 + (wrap64 (x8_9 * x103001_1)))))).setCell ⟨gb102, 0, none⟩ (.int .i64 (wrap64 (x103000_1 + (wrap64 ((ji22) * (wrap64 (x102000_1 + (wrap64 (x8_9 * x103000_1)))))))))).setCell ⟨gb102, 1, none⟩ (.int .i64 (wrap64 (x103001_1 + (wrap64 ((ji22) * (wrap64 (x102001_1 + (wrap64 (x8_9 * x103001_1)))))))))).heap[gb102]? = some (.cells #[.int .i64 (wrap64 (x103000_1 + (wrap64 ((ji22) * (wrap64 (x102000_1 + (wrap64 (x8_9 * x103000_1)))))))), .int .i64 (wrap64 (x103001_1 + (wrap64 ((ji22) * (wrap64 (x102001_1 + (wrap64 (x8_9 * x103001_1))))))))] 23 (0, 0)) := (by (with_reducible repeat (first | refine blk_drewN ?_ _ | refine blk_drew ?_ | refine blk_alloc ?_ _)); refine blk_put (cs := #[.int .i64 (wrap64 (x103000_1 + (wrap64 ((ji22) * (wrap64 (x102000_1 + (wrap64 (x8_9 * x103000_1)))))))), .int .i64 x103001_1]) ?_ 1 _ rfl; (with_reducible repeat (first | refine blk_drewN ?_ _ | refine blk_drew ?_ | refine blk_alloc ?_ _)); refine blk_put (cs := #[.int .i64 x103000_1, .int .i64 x103001_1]) ?_ 0 _ rfl; (with_reducible repeat (first | refine blk_drewN ?_ _ | refine blk_drew ?_ | refine blk_alloc ?_ _)); refine blk_far ?_ NB102_101.out _; (with_reducible repeat (first | refine blk_drewN ?_ _ | refine blk_drew ?_ | refine blk_alloc ?_ _)); refine blk_far ?_ NB102_101.out _; (with_reducible repeat (first | refine blk_drewN ?_ _ | refine blk_drew ?_ | refine blk_alloc ?_ _)); exact BK102.out)
                      have kb_ : Below w.heap.size w ((((wc.setCell ⟨gb101, 0, none⟩ (.int .i64 (wrap64 (x102000_1 + (wrap64 (x8_9 * x103000_1)))))).setCell ⟨gb101, 1, none⟩ (.int .i64 (wrap64 (x102001_1 + (wrap64 (x8_9 * x103001_1)))))).setCell ⟨gb102, 0, none⟩ (.int .i64 (wrap64 (x103000_1 + (wrap64 ((ji22) * (wrap64 (x102000_1 + (wrap64 (x8_9 * x103000_1)))))))))).setCell ⟨gb102, 1, none⟩ (.int .i64 (wrap64 (x103001_1 + (wrap64 ((ji22) * (wrap64 (x102001_1 + (wrap64 (x8_9 * x103001_1)))))))))) := (q2_ HB.out GE101.out GE102.out)
                      generalize ((((wc.setCell ⟨gb101, 0, none⟩ (.int .i64 (wrap64 (x102000_1 + (wrap64 (x8_9 * x103000_1)))))).setCell ⟨gb101, 1, none⟩ (.int .i64 (wrap64 (x102001_1 + (wrap64 (x8_9 * x103001_1)))))).setCell ⟨gb102, 0, none⟩ (.int .i64 (wrap64 (x103000_1 + (wrap64 ((ji22) * (wrap64 (x102000_1 + (wrap64 (x8_9 * x103000_1)))))))))).setCell ⟨gb102, 1, none⟩ (.int .i64 (wrap64 (x103001_1 + (wrap64 ((ji22) * (wrap64 (x102001_1 + (wrap64 (x8_9 * x103001_1)))))))))) = W_ at k1_ k2_ kb_ ⊢
                      have cek1_0 := (blk_cell k1_ 0).trans rfl
                      have cfk1_0 := blk_frozen k1_ 0
                      have cek1_1 := (blk_cell k1_ 1).trans rfl
                      have cfk1_1 := blk_frozen k1_ 1
                      have cek2_0 := (blk_cell k2_ 0).trans rfl
                      have cfk2_0 := blk_frozen k2_ 0
                      have cek2_1 := (blk_cell k2_ 1).trans rfl
                      have cfk2_1 := blk_frozen k2_ 1
                      have HK1_ := Aside0.mk k1_
                      have HK2_ := Aside0.mk k2_
                      clear k1_ k2_
                      refine start_ (n := 4) (S := fun w' => w' = W_.drew) (ds := []) #[false, false, false, false] (by kernel_rfl) rfl rfl rfl (fun hHeld => ?_)
                      refine take_ (i := 0) (N := some 113) (v := ?_) (a' := ?_) #[true, false, false, false] rfl rfl (by kernel_rfl) (fun _ _ _ h => h) (Or.inl ⟨by rfl, ?_⟩) hHeld ?_ ?_
                      rotate_left
                      · rintro w' rfl
                        go_simp
                        with_reducible rfl
                      rotate_left
                      · simp only [Act.put, List.setIfInBounds_toArray, List.set_cons_zero, List.set_cons_succ, i64_w, i32_w]
                        rfl
                      refine take_ (i := 1) (N := some 114) (v := ?_) (a' := ?_) #[true, true, false, false] rfl rfl (by kernel_rfl) (fun _ _ _ h => h) (Or.inl ⟨by rfl, ?_⟩) hHeld ?_ ?_
                      rotate_left
                      · rintro w' rfl
                        go_simp
                        with_reducible rfl
                      rotate_left
                      · simp only [Act.put, List.setIfInBounds_toArray, List.set_cons_zero, List.set_cons_succ, i64_w, i32_w]
                        rfl
                      refine one_ (i := 2) (N := none) #[true, true, true, false] rfl rfl (by kernel_rfl) (by decide) (fun K hK => ?_)
                      refine skip_ (w1 := ?_) (by rfl) rfl ?_ ?_
                      rotate_left
                      · go_simp
                        with_reducible rfl
                      refine hK.out _ _ (congrArg World.drew (self2_ HK1_.out)) (fun hHeld => ?_)
                      clear hK K
                      rw [self2_ HK1_.out]
                      refine one_ (i := 3) (N := none) #[true, true, true, true] rfl rfl (by kernel_rfl) (by decide) (fun K hK => ?_)
                      refine skip_ (w1 := ?_) (by rfl) rfl ?_ ?_
                      rotate_left
                      · go_simp
                        with_reducible rfl
                      refine hK.out _ _ (congrArg World.drew (self2_ HK2_.out)) (fun hHeld => ?_)
                      clear hK K
                      rw [self2_ HK2_.out]
                      refine done_ (by kernel_rfl) ?_
                      go_wp2
                      refine bodyPost_ret (results_cc rfl _ _ gb101 gb102 23 23 #[.int .i64 (wrap64 (x102000_1 + (wrap64 (x8_9 * x103000_1)))), .int .i64 (wrap64 (x102001_1 + (wrap64 (x8_9 * x103001_1))))] #[.int .i64 (wrap64 (x103000_1 + (wrap64 ((ji22) * (wrap64 (x102000_1 + (wrap64 (x8_9 * x103000_1)))))))), .int .i64 (wrap64 (x103001_1 + (wrap64 ((ji22) * (wrap64 (x102001_1 + (wrap64 (x8_9 * x103001_1))))))))] (0, 0) (0, 0) _ _ rfl HK1_.out Tryd.underlying23 rfl (by kernel_rfl) rfl HK2_.out Tryd.underlying23 rfl (by kernel_rfl)) rfl ?_
                      exact ⟨by first | rfl | (simp [errW_none, errW_some] <;> rfl) | (simp only [← hji22]; first | rfl | (simp [errW_none, errW_some] <;> rfl)) | (simp [*, errW_none, errW_some] <;> rfl), pw_below_drewN kb_ 1⟩
                    · rw [if_neg c24] at H
                      have c24b0 : ((ji22) == 0) = false := beq_eq_false_iff_ne.mpr c24
                      have c24b1 : ((ji22) != 0) = true := bne_iff_ne.mpr c24
                      have H' := Aside0.mk H
                      clear H
                      have hnb28 := NB101_102.out
                      have hnc28 := NB102_101.out
                      have hcz29_0 : wc.cell? ⟨gb101, 0, none⟩ = some (.int .i64 x102000_1) := (blk_cell BK101.out 0).trans rfl
                      have hcz29_1 : wc.cell? ⟨gb101, 1, none⟩ = some (.int .i64 x102001_1) := (blk_cell BK101.out 1).trans rfl
                      have hfz29_0 := blk_frozen BK101.out 0
                      have hfz29_1 := blk_frozen BK101.out 1
                      have hcz30_0 : wc.cell? ⟨gb102, 0, none⟩ = some (.int .i64 x103000_1) := (blk_cell BK102.out 0).trans rfl
                      have hcz30_1 : wc.cell? ⟨gb102, 1, none⟩ = some (.int .i64 x103001_1) := (blk_cell BK102.out 1).trans rfl
                      have hfz30_0 := blk_frozen BK102.out 0
                      have hfz30_1 := blk_frozen BK102.out 1
                      go_wp2
                      go_roundg kj9
                      case measure => have := HK1.out; have := HJ9.out; omega
                      case rel => exact ⟨(wrap64 (x102000_1 + (wrap64 (x8_9 * x103000_1)))), (wrap64 (x102001_1 + (wrap64 (x8_9 * x103001_1)))), (wrap64 (x103000_1 + (wrap64 ((ji22) * (wrap64 (x102000_1 + (wrap64 (x8_9 * x103000_1)))))))), (wrap64 (x103001_1 + (wrap64 ((ji22) * (wrap64 (x102001_1 + (wrap64 (x8_9 * x103001_1)))))))), H', ⟨by have := HK1.out; have := HJ9.out; omega⟩, ⟨by (with_reducible repeat (first | refine blk_drewN ?_ _ | refine blk_drew ?_ | refine blk_alloc ?_ _)); refine blk_far ?_ NB101_102.out _; (with_reducible repeat (first | refine blk_drewN ?_ _ | refine blk_drew ?_ | refine blk_alloc ?_ _)); refine blk_far ?_ NB101_102.out _; (with_reducible repeat (first | refine blk_drewN ?_ _ | refine blk_drew ?_ | refine blk_alloc ?_ _)); refine blk_put (cs := #[.int .i64 (wrap64 (x102000_1 + (wrap64 (x8_9 * x103000_1)))), .int .i64 x102001_1]) ?_ 1 _ rfl; (with_reducible repeat (first | refine blk_drewN ?_ _ | refine blk_drew ?_ | refine blk_alloc ?_ _)); refine blk_put (cs := #[.int .i64 x102000_1, .int .i64 x102001_1]) ?_ 0 _ rfl; (with_reducible repeat (first | refine blk_drewN ?_ _ | refine blk_drew ?_ | refine blk_alloc ?_ _)); exact BK101.out⟩, ⟨by (with_reducible repeat (first | refine blk_drewN ?_ _ | refine blk_drew ?_ | refine blk_alloc ?_ _)); refine blk_put (cs := #[.int .i64 (wrap64 (x103000_1 + (wrap64 ((ji22) * (wrap64 (x102000_1 + (wrap64 (x8_9 * x103000_1)))))))), .int .i64 x103001_1]) ?_ 1 _ rfl; (with_reducible repeat (first | refine blk_drewN ?_ _ | refine blk_drew ?_ | refine blk_alloc ?_ _)); refine blk_put (cs := #[.int .i64 x103000_1, .int .i64 x103001_1]) ?_ 0 _ rfl; (with_reducible repeat (first | refine blk_drewN ?_ _ | refine blk_drew ?_ | refine blk_alloc ?_ _)); refine blk_far ?_ NB102_101.out _; (with_reducible repeat (first | refine blk_drewN ?_ _ | refine blk_drew ?_ | refine blk_alloc ?_ _)); refine blk_far ?_ NB102_101.out _; (with_reducible repeat (first | refine blk_drewN ?_ _ | refine blk_drew ?_ | refine blk_alloc ?_ _)); exact BK102.out⟩, ⟨(q2_ HB.out GE101.out GE102.out)⟩⟩
                  · rw [if_neg c23] at H
                    have c23b0 : (x8_9 == 0) = false := beq_eq_false_iff_ne.mpr c23
                    have c23b1 : (x8_9 != 0) = true := bne_iff_ne.mpr c23
                    have H' := Aside0.mk H
                    clear H
                    have hnb31 := NB101_102.out
                    have hnc31 := NB102_101.out
                    have hcz32_0 : wc.cell? ⟨gb101, 0, none⟩ = some (.int .i64 x102000_1) := (blk_cell BK101.out 0).trans rfl
                    have hcz32_1 : wc.cell? ⟨gb101, 1, none⟩ = some (.int .i64 x102001_1) := (blk_cell BK101.out 1).trans rfl
                    have hfz32_0 := blk_frozen BK101.out 0
                    have hfz32_1 := blk_frozen BK101.out 1
                    have hcz33_0 : wc.cell? ⟨gb102, 0, none⟩ = some (.int .i64 x103000_1) := (blk_cell BK102.out 0).trans rfl
                    have hcz33_1 : wc.cell? ⟨gb102, 1, none⟩ = some (.int .i64 x103001_1) := (blk_cell BK102.out 1).trans rfl
                    have hfz33_0 := blk_frozen BK102.out 0
                    have hfz33_1 := blk_frozen BK102.out 1
                    go_wp2
                    go_roundg kj9
                    case measure => have := HK1.out; have := HJ9.out; omega
                    case rel => exact ⟨(wrap64 (x102000_1 + (wrap64 (x8_9 * x103000_1)))), (wrap64 (x102001_1 + (wrap64 (x8_9 * x103001_1)))), (wrap64 (x103000_1 + (wrap64 ((ji22) * (wrap64 (x102000_1 + (wrap64 (x8_9 * x103000_1)))))))), (wrap64 (x103001_1 + (wrap64 ((ji22) * (wrap64 (x102001_1 + (wrap64 (x8_9 * x103001_1)))))))), H', ⟨by have := HK1.out; have := HJ9.out; omega⟩, ⟨by (with_reducible repeat (first | refine blk_drewN ?_ _ | refine blk_drew ?_ | refine blk_alloc ?_ _)); refine blk_far ?_ NB101_102.out _; (with_reducible repeat (first | refine blk_drewN ?_ _ | refine blk_drew ?_ | refine blk_alloc ?_ _)); refine blk_far ?_ NB101_102.out _; (with_reducible repeat (first | refine blk_drewN ?_ _ | refine blk_drew ?_ | refine blk_alloc ?_ _)); refine blk_put (cs := #[.int .i64 (wrap64 (x102000_1 + (wrap64 (x8_9 * x103000_1)))), .int .i64 x102001_1]) ?_ 1 _ rfl; (with_reducible repeat (first | refine blk_drewN ?_ _ | refine blk_drew ?_ | refine blk_alloc ?_ _)); refine blk_put (cs := #[.int .i64 x102000_1, .int .i64 x102001_1]) ?_ 0 _ rfl; (with_reducible repeat (first | refine blk_drewN ?_ _ | refine blk_drew ?_ | refine blk_alloc ?_ _)); exact BK101.out⟩, ⟨by (with_reducible repeat (first | refine blk_drewN ?_ _ | refine blk_drew ?_ | refine blk_alloc ?_ _)); refine blk_put (cs := #[.int .i64 (wrap64 (x103000_1 + (wrap64 ((ji22) * (wrap64 (x102000_1 + (wrap64 (x8_9 * x103000_1)))))))), .int .i64 x103001_1]) ?_ 1 _ rfl; (with_reducible repeat (first | refine blk_drewN ?_ _ | refine blk_drew ?_ | refine blk_alloc ?_ _)); refine blk_put (cs := #[.int .i64 x103000_1, .int .i64 x103001_1]) ?_ 0 _ rfl; (with_reducible repeat (first | refine blk_drewN ?_ _ | refine blk_drew ?_ | refine blk_alloc ?_ _)); refine blk_far ?_ NB102_101.out _; (with_reducible repeat (first | refine blk_drewN ?_ _ | refine blk_drew ?_ | refine blk_alloc ?_ _)); refine blk_far ?_ NB102_101.out _; (with_reducible repeat (first | refine blk_drewN ?_ _ | refine blk_drew ?_ | refine blk_alloc ?_ _)); exact BK102.out⟩, ⟨(q2_ HB.out GE101.out GE102.out)⟩⟩
              · rw [if_neg c20] at H
                have c20b0 : decide (0 < (wrap64 ((wrap64 (a0 * (wrap64 (x102001_1 + (wrap64 (x8_9 * x103001_1)))))) - (wrap64 ((wrap64 (x102000_1 + (wrap64 (x8_9 * x103000_1)))) * a1))))) = false := decide_eq_false c20
                clear c20
                by_cases c34 : x8_9 = 0
                · rw [if_pos c34] at H
                  have c34b0 : (x8_9 == 0) = true := beq_iff_eq.mpr c34
                  have c34b1 : (x8_9 != 0) = false := bne_eq_false_iff_eq.mpr c34
                  clear c34
                  by_cases c35 : (wrap64 (Int.tdiv (wrap64 (a2 - x103001_1)) (wrap64 (x102001_1 + (wrap64 (x8_9 * x103001_1)))))) = 0
                  · rw [if_pos c35] at H
                    have c35b0 : ((wrap64 (Int.tdiv (wrap64 (a2 - x103001_1)) (wrap64 (x102001_1 + (wrap64 (x8_9 * x103001_1)))))) == 0) = true := beq_iff_eq.mpr c35
                    have c35b1 : ((wrap64 (Int.tdiv (wrap64 (a2 - x103001_1)) (wrap64 (x102001_1 + (wrap64 (x8_9 * x103001_1)))))) != 0) = false := bne_eq_false_iff_eq.mpr c35
                    clear c35
                    simp only [Option.some.injEq, Prod.mk.injEq] at H
                    obtain ⟨rfl, rfl, rfl, rfl⟩ := H
                    have hnb36 := NB101_102.out
                    have hnc36 := NB102_101.out
                    have hcz37_0 : wc.cell? ⟨gb101, 0, none⟩ = some (.int .i64 x102000_1) := (blk_cell BK101.out 0).trans rfl
                    have hcz37_1 : wc.cell? ⟨gb101, 1, none⟩ = some (.int .i64 x102001_1) := (blk_cell BK101.out 1).trans rfl
                    have hfz37_0 := blk_frozen BK101.out 0
                    have hfz37_1 := blk_frozen BK101.out 1
                    have hcz38_0 : wc.cell? ⟨gb102, 0, none⟩ = some (.int .i64 x103000_1) := (blk_cell BK102.out 0).trans rfl
                    have hcz38_1 : wc.cell? ⟨gb102, 1, none⟩ = some (.int .i64 x103001_1) := (blk_cell BK102.out 1).trans rfl
                    have hfz38_0 := blk_frozen BK102.out 0
                    have hfz38_1 := blk_frozen BK102.out 1
                    go_upto_region 13 with (fail)
                    have k1_ : ((((wc.setCell ⟨gb101, 0, none⟩ (.int .i64 (wrap64 (x102000_1 + (wrap64 (x8_9 * x103000_1)))))).setCell ⟨gb101, 1, none⟩ (.int .i64 (wrap64 (x102001_1 + (wrap64 (x8_9 * x103001_1)))))).setCell ⟨gb102, 0, none⟩ (.int .i64 (wrap64 (x103000_1 + (wrap64 ((wrap64 (Int.tdiv (wrap64 (a2 - x103001_1)) (wrap64 (x102001_1 + (wrap64 (x8_9 * x103001_1)))))) * (wrap64 (x102000_1 + (wrap64 (x8_9 * x103000_1)))))))))).setCell ⟨gb102, 1, none⟩ (.int .i64 (wrap64 (x103001_1 + (wrap64 ((wrap64 (Int.tdiv (wrap64 (a2 - x103001_1)) (wrap64 (x102001_1 + (wrap64 (x8_9 * x103001_1)))))) * (wrap64 (x102001_1 + (wrap64 (x8_9 * x103001_1)))))))))).heap[gb101]? = some (.cells #[.int .i64 (wrap64 (x102000_1 + (wrap64 (x8_9 * x103000_1)))), .int .i64 (wrap64 (x102001_1 + (wrap64 (x8_9 * x103001_1))))] 23 (0, 0)) := (by (with_reducible repeat (first | refine blk_drewN ?_ _ | refine blk_drew ?_ | refine blk_alloc ?_ _)); refine blk_far ?_ NB101_102.out _; (with_reducible repeat (first | refine blk_drewN ?_ _ | refine blk_drew ?_ | refine blk_alloc ?_ _)); refine blk_far ?_ NB101_102.out _; (with_reducible repeat (first | refine blk_drewN ?_ _ | refine blk_drew ?_ | refine blk_alloc ?_ _)); refine blk_put (cs := #[.int .i64 (wrap64 (x102000_1 + (wrap64 (x8_9 * x103000_1)))), .int .i64 x102001_1]) ?_ 1 _ rfl; (with_reducible repeat (first | refine blk_drewN ?_ _ | refine blk_drew ?_ | refine blk_alloc ?_ _)); refine blk_put (cs := #[.int .i64 x102000_1, .int .i64 x102001_1]) ?_ 0 _ rfl; (with_reducible repeat (first | refine blk_drewN ?_ _ | refine blk_drew ?_ | refine blk_alloc ?_ _)); exact BK101.out)
                    have k2_ : ((((wc.setCell ⟨gb101, 0, none⟩ (.int .i64 (wrap64 (x102000_1 + (wrap64 (x8_9 * x103000_1)))))).setCell ⟨gb101, 1, none⟩ (.int .i64 (wrap64 (x102001_1 + (wrap64 (x8_9 * x103001_1)))))).setCell ⟨gb102, 0, none⟩ (.int .i64 (wrap64 (x103000_1 + (wrap64 ((wrap64 (Int.tdiv (wrap64 (a2 - x103001_1)) (wrap64 (x102001_1 + (wrap64 (x8_9 * x103001_1)))))) * (wrap64 (x102000_1 + (wrap64 (x8_9 * x103000_1)))))))))).setCell ⟨gb102, 1, none⟩ (.int .i64 (wrap64 (x103001_1 + (wrap64 ((wrap64 (Int.tdiv (wrap64 (a2 - x103001_1)) (wrap64 (x102001_1 + (wrap64 (x8_9 * x103001_1)))))) * (wrap64 (x102001_1 + (wrap64 (x8_9 * x103001_1)))))))))).heap[gb102]? = some (.cells #[.int .i64 (wrap64 (x103000_1 + (wrap64 ((wrap64 (Int.tdiv (wrap64 (a2 - x103001_1)) (wrap64 (x102001_1 + (wrap64 (x8_9 * x103001_1)))))) * (wrap64 (x102000_1 + (wrap64 (x8_9 * x103000_1)))))))), .int .i64 (wrap64 (x103001_1 + (wrap64 ((wrap64 (Int.tdiv (wrap64 (a2 - x103001_1)) (wrap64 (x102001_1 + (wrap64 (x8_9 * x103001_1)))))) * (wrap64 (x102001_1 + (wrap64 (x8_9 * x103001_1))))))))] 23 (0, 0)) := (by (with_reducible repeat (first | refine blk_drewN ?_ _ | refine blk_drew ?_ | refine blk_alloc ?_ _)); refine blk_put (cs := #[.int .i64 (wrap64 (x103000_1 + (wrap64 ((wrap64 (Int.tdiv (wrap64 (a2 - x103001_1)) (wrap64 (x102001_1 + (wrap64 (x8_9 * x103001_1)))))) * (wrap64 (x102000_1 + (wrap64 (x8_9 * x103000_1)))))))), .int .i64 x103001_1]) ?_ 1 _ rfl; (with_reducible repeat (first | refine blk_drewN ?_ _ | refine blk_drew ?_ | refine blk_alloc ?_ _)); refine blk_put (cs := #[.int .i64 x103000_1, .int .i64 x103001_1]) ?_ 0 _ rfl; (with_reducible repeat (first | refine blk_drewN ?_ _ | refine blk_drew ?_ | refine blk_alloc ?_ _)); refine blk_far ?_ NB102_101.out _; (with_reducible repeat (first | refine blk_drewN ?_ _ | refine blk_drew ?_ | refine blk_alloc ?_ _)); refine blk_far ?_ NB102_101.out _; (with_reducible repeat (first | refine blk_drewN ?_ _ | refine blk_drew ?_ | refine blk_alloc ?_ _)); exact BK102.out)
                    have kb_ : Below w.heap.size w ((((wc.setCell ⟨gb101, 0, none⟩ (.int .i64 (wrap64 (x102000_1 + (wrap64 (x8_9 * x103000_1)))))).setCell ⟨gb101, 1, none⟩ (.int .i64 (wrap64 (x102001_1 + (wrap64 (x8_9 * x103001_1)))))).setCell ⟨gb102, 0, none⟩ (.int .i64 (wrap64 (x103000_1 + (wrap64 ((wrap64 (Int.tdiv (wrap64 (a2 - x103001_1)) (wrap64 (x102001_1 + (wrap64 (x8_9 * x103001_1)))))) * (wrap64 (x102000_1 + (wrap64 (x8_9 * x103000_1)))))))))).setCell ⟨gb102, 1, none⟩ (.int .i64 (wrap64 (x103001_1 + (wrap64 ((wrap64 (Int.tdiv (wrap64 (a2 - x103001_1)) (wrap64 (x102001_1 + (wrap64 (x8_9 * x103001_1)))))) * (wrap64 (x102001_1 + (wrap64 (x8_9 * x103001_1)))))))))) := (q2_ HB.out GE101.out GE102.out)
                    generalize ((((wc.setCell ⟨gb101, 0, none⟩ (.int .i64 (wrap64 (x102000_1 + (wrap64 (x8_9 * x103000_1)))))).setCell ⟨gb101, 1, none⟩ (.int .i64 (wrap64 (x102001_1 + (wrap64 (x8_9 * x103001_1)))))).setCell ⟨gb102, 0, none⟩ (.int .i64 (wrap64 (x103000_1 + (wrap64 ((wrap64 (Int.tdiv (wrap64 (a2 - x103001_1)) (wrap64 (x102001_1 + (wrap64 (x8_9 * x103001_1)))))) * (wrap64 (x102000_1 + (wrap64 (x8_9 * x103000_1)))))))))).setCell ⟨gb102, 1, none⟩ (.int .i64 (wrap64 (x103001_1 + (wrap64 ((wrap64 (Int.tdiv (wrap64 (a2 - x103001_1)) (wrap64 (x102001_1 + (wrap64 (x8_9 * x103001_1)))))) * (wrap64 (x102001_1 + (wrap64 (x8_9 * x103001_1)))))))))) = W_ at k1_ k2_ kb_ ⊢
                    have cek1_0 := (blk_cell k1_ 0).trans rfl
                    have cfk1_0 := blk_frozen k1_ 0
                    have cek1_1 := (blk_cell k1_ 1).trans rfl
                    have cfk1_1 := blk_frozen k1_ 1
                    have cek2_0 := (blk_cell k2_ 0).trans rfl
                    have cfk2_0 := blk_frozen k2_ 0
                    have cek2_1 := (blk_cell k2_ 1).trans rfl
                    have cfk2_1 := blk_frozen k2_ 1
                    have HK1_ := Aside0.mk k1_
                    have HK2_ := Aside0.mk k2_
                    clear k1_ k2_
                    refine start_ (n := 4) (S := fun w' => w' = W_.drew) (ds := []) #[false, false, false, false] (by kernel_rfl) rfl rfl rfl (fun hHeld => ?_)
                    refine take_ (i := 0) (N := some 113) (v := ?_) (a' := ?_) #[true, false, false, false] rfl rfl (by kernel_rfl) (fun _ _ _ h => h) (Or.inl ⟨by rfl, ?_⟩) hHeld ?_ ?_
                    rotate_left
                    · rintro w' rfl
                      go_simp
                      with_reducible rfl
                    rotate_left
                    · simp only [Act.put, List.setIfInBounds_toArray, List.set_cons_zero, List.set_cons_succ, i64_w, i32_w]
                      rfl
                    refine take_ (i := 1) (N := some 114) (v := ?_) (a' := ?_) #[true, true, false, false] rfl rfl (by kernel_rfl) (fun _ _ _ h => h) (Or.inl ⟨by rfl, ?_⟩) hHeld ?_ ?_
                    rotate_left
                    · rintro w' rfl
                      go_simp
                      with_reducible rfl
                    rotate_left
                    · simp only [Act.put, List.setIfInBounds_toArray, List.set_cons_zero, List.set_cons_succ, i64_w, i32_w]
                      rfl
                    refine one_ (i := 2) (N := none) #[true, true, true, false] rfl rfl (by kernel_rfl) (by decide) (fun K hK => ?_)
                    refine skip_ (w1 := ?_) (by rfl) rfl ?_ ?_
                    rotate_left
                    · go_simp
                      with_reducible rfl
                    refine hK.out _ _ (congrArg World.drew (self2_ HK1_.out)) (fun hHeld => ?_)
                    clear hK K
                    rw [self2_ HK1_.out]
                    refine one_ (i := 3) (N := none) #[true, true, true, true] rfl rfl (by kernel_rfl) (by decide) (fun K hK => ?_)
                    refine skip_ (w1 := ?_) (by rfl) rfl ?_ ?_
                    rotate_left
                    · go_simp
                      with_reducible rfl
                    refine hK.out _ _ (congrArg World.drew (self2_ HK2_.out)) (fun hHeld => ?_)
                    clear hK K
                    rw [self2_ HK2_.out]
                    refine done_ (by kernel_rfl) ?_
                    go_wp2
                    refine bodyPost_ret (results_cc rfl _ _ gb101 gb102 23 23 #[.int .i64 (wrap64 (x102000_1 + (wrap64 (x8_9 * x103000_1)))), .int .i64 (wrap64 (x102001_1 + (wrap64 (x8_9 * x103001_1))))] #[.int .i64 (wrap64 (x103000_1 + (wrap64 ((wrap64 (Int.tdiv (wrap64 (a2 - x103001_1)) (wrap64 (x102001_1 + (wrap64 (x8_9 * x103001_1)))))) * (wrap64 (x102000_1 + (wrap64 (x8_9 * x103000_1)))))))), .int .i64 (wrap64 (x103001_1 + (wrap64 ((wrap64 (Int.tdiv (wrap64 (a2 - x103001_1)) (wrap64 (x102001_1 + (wrap64 (x8_9 * x103001_1)))))) * (wrap64 (x102001_1 + (wrap64 (x8_9 * x103001_1))))))))] (0, 0) (0, 0) _ _ rfl HK1_.out Tryd.underlying23 rfl (by kernel_rfl) rfl HK2_.out Tryd.underlying23 rfl (by kernel_rfl)) rfl ?_
                    exact ⟨by first | rfl | (simp [errW_none, errW_some] <;> rfl) | (simp [*, errW_none, errW_some] <;> rfl), pw_below_drewN kb_ 1⟩
                  · rw [if_neg c35] at H
                    have c35b0 : ((wrap64 (Int.tdiv (wrap64 (a2 - x103001_1)) (wrap64 (x102001_1 + (wrap64 (x8_9 * x103001_1)))))) == 0) = false := beq_eq_false_iff_ne.mpr c35
                    have c35b1 : ((wrap64 (Int.tdiv (wrap64 (a2 - x103001_1)) (wrap64 (x102001_1 + (wrap64 (x8_9 * x103001_1)))))) != 0) = true := bne_iff_ne.mpr c35
                    have H' := Aside0.mk H
                    clear H
                    have hnb39 := NB101_102.out
                    have hnc39 := NB102_101.out
                    have hcz40_0 : wc.cell? ⟨gb101, 0, none⟩ = some (.int .i64 x102000_1) := (blk_cell BK101.out 0).trans rfl
                    have hcz40_1 : wc.cell? ⟨gb101, 1, none⟩ = some (.int .i64 x102001_1) := (blk_cell BK101.out 1).trans rfl
                    have hfz40_0 := blk_frozen BK101.out 0
                    have hfz40_1 := blk_frozen BK101.out 1
                    have hcz41_0 : wc.cell? ⟨gb102, 0, none⟩ = some (.int .i64 x103000_1) := (blk_cell BK102.out 0).trans rfl
                    have hcz41_1 : wc.cell? ⟨gb102, 1, none⟩ = some (.int .i64 x103001_1) := (blk_cell BK102.out 1).trans rfl
                    have hfz41_0 := blk_frozen BK102.out 0
                    have hfz41_1 := blk_frozen BK102.out 1
                    go_wp2
                    go_roundg kj9
                    case measure => have := HK1.out; have := HJ9.out; omega
                    case rel => exact ⟨(wrap64 (x102000_1 + (wrap64 (x8_9 * x103000_1)))), (wrap64 (x102001_1 + (wrap64 (x8_9 * x103001_1)))), (wrap64 (x103000_1 + (wrap64 ((wrap64 (Int.tdiv (wrap64 (a2 - x103001_1)) (wrap64 (x102001_1 + (wrap64 (x8_9 * x103001_1)))))) * (wrap64 (x102000_1 + (wrap64 (x8_9 * x103000_1)))))))), (wrap64 (x103001_1 + (wrap64 ((wrap64 (Int.tdiv (wrap64 (a2 - x103001_1)) (wrap64 (x102001_1 + (wrap64 (x8_9 * x103001_1)))))) * (wrap64 (x102001_1 + (wrap64 (x8_9 * x103001_1)))))))), H', ⟨by have := HK1.out; have := HJ9.out; omega⟩, ⟨by (with_reducible repeat (first | refine blk_drewN ?_ _ | refine blk_drew ?_ | refine blk_alloc ?_ _)); refine blk_far ?_ NB101_102.out _; (with_reducible repeat (first | refine blk_drewN ?_ _ | refine blk_drew ?_ | refine blk_alloc ?_ _)); refine blk_far ?_ NB101_102.out _; (with_reducible repeat (first | refine blk_drewN ?_ _ | refine blk_drew ?_ | refine blk_alloc ?_ _)); refine blk_put (cs := #[.int .i64 (wrap64 (x102000_1 + (wrap64 (x8_9 * x103000_1)))), .int .i64 x102001_1]) ?_ 1 _ rfl; (with_reducible repeat (first | refine blk_drewN ?_ _ | refine blk_drew ?_ | refine blk_alloc ?_ _)); refine blk_put (cs := #[.int .i64 x102000_1, .int .i64 x102001_1]) ?_ 0 _ rfl; (with_reducible repeat (first | refine blk_drewN ?_ _ | refine blk_drew ?_ | refine blk_alloc ?_ _)); exact BK101.out⟩, ⟨by (with_reducible repeat (first | refine blk_drewN ?_ _ | refine blk_drew ?_ | refine blk_alloc ?_ _)); refine blk_put (cs := #[.int .i64 (wrap64 (x103000_1 + (wrap64 ((wrap64 (Int.tdiv (wrap64 (a2 - x103001_1)) (wrap64 (x102001_1 + (wrap64 (x8_9 * x103001_1)))))) * (wrap64 (x102000_1 + (wrap64 (x8_9 * x103000_1)))))))), .int .i64 x103001_1]) ?_ 1 _ rfl; (with_reducible repeat (first | refine blk_drewN ?_ _ | refine blk_drew ?_ | refine blk_alloc ?_ _)); refine blk_put (cs := #[.int .i64 x103000_1, .int .i64 x103001_1]) ?_ 0 _ rfl; (with_reducible repeat (first | refine blk_drewN ?_ _ | refine blk_drew ?_ | refine blk_alloc ?_ _)); refine blk_far ?_ NB102_101.out _; (with_reducible repeat (first | refine blk_drewN ?_ _ | refine blk_drew ?_ | refine blk_alloc ?_ _)); refine blk_far ?_ NB102_101.out _; (with_reducible repeat (first | refine blk_drewN ?_ _ | refine blk_drew ?_ | refine blk_alloc ?_ _)); exact BK102.out⟩, ⟨(q2_ HB.out GE101.out GE102.out)⟩⟩
                · rw [if_neg c34] at H
                  have c34b0 : (x8_9 == 0) = false := beq_eq_false_iff_ne.mpr c34
                  have c34b1 : (x8_9 != 0) = true := bne_iff_ne.mpr c34
                  have H' := Aside0.mk H
                  clear H
                  have hnb42 := NB101_102.out
                  have hnc42 := NB102_101.out
                  have hcz43_0 : wc.cell? ⟨gb101, 0, none⟩ = some (.int .i64 x102000_1) := (blk_cell BK101.out 0).trans rfl
                  have hcz43_1 : wc.cell? ⟨gb101, 1, none⟩ = some (.int .i64 x102001_1) := (blk_cell BK101.out 1).trans rfl
                  have hfz43_0 := blk_frozen BK101.out 0
                  have hfz43_1 := blk_frozen BK101.out 1
                  have hcz44_0 : wc.cell? ⟨gb102, 0, none⟩ = some (.int .i64 x103000_1) := (blk_cell BK102.out 0).trans rfl
                  have hcz44_1 : wc.cell? ⟨gb102, 1, none⟩ = some (.int .i64 x103001_1) := (blk_cell BK102.out 1).trans rfl
                  have hfz44_0 := blk_frozen BK102.out 0
                  have hfz44_1 := blk_frozen BK102.out 1
                  go_wp2
                  go_roundg kj9
                  case measure => have := HK1.out; have := HJ9.out; omega
                  case rel => exact ⟨(wrap64 (x102000_1 + (wrap64 (x8_9 * x103000_1)))), (wrap64 (x102001_1 + (wrap64 (x8_9 * x103001_1)))), (wrap64 (x103000_1 + (wrap64 ((wrap64 (Int.tdiv (wrap64 (a2 - x103001_1)) (wrap64 (x102001_1 + (wrap64 (x8_9 * x103001_1)))))) * (wrap64 (x102000_1 + (wrap64 (x8_9 * x103000_1)))))))), (wrap64 (x103001_1 + (wrap64 ((wrap64 (Int.tdiv (wrap64 (a2 - x103001_1)) (wrap64 (x102001_1 + (wrap64 (x8_9 * x103001_1)))))) * (wrap64 (x102001_1 + (wrap64 (x8_9 * x103001_1)))))))), H', ⟨by have := HK1.out; have := HJ9.out; omega⟩, ⟨by (with_reducible repeat (first | refine blk_drewN ?_ _ | refine blk_drew ?_ | refine blk_alloc ?_ _)); refine blk_far ?_ NB101_102.out _; (with_reducible repeat (first | refine blk_drewN ?_ _ | refine blk_drew ?_ | refine blk_alloc ?_ _)); refine blk_far ?_ NB101_102.out _; (with_reducible repeat (first | refine blk_drewN ?_ _ | refine blk_drew ?_ | refine blk_alloc ?_ _)); refine blk_put (cs := #[.int .i64 (wrap64 (x102000_1 + (wrap64 (x8_9 * x103000_1)))), .int .i64 x102001_1]) ?_ 1 _ rfl; (with_reducible repeat (first | refine blk_drewN ?_ _ | refine blk_drew ?_ | refine blk_alloc ?_ _)); refine blk_put (cs := #[.int .i64 x102000_1, .int .i64 x102001_1]) ?_ 0 _ rfl; (with_reducible repeat (first | refine blk_drewN ?_ _ | refine blk_drew ?_ | refine blk_alloc ?_ _)); exact BK101.out⟩, ⟨by (with_reducible repeat (first | refine blk_drewN ?_ _ | refine blk_drew ?_ | refine blk_alloc ?_ _)); refine blk_put (cs := #[.int .i64 (wrap64 (x103000_1 + (wrap64 ((wrap64 (Int.tdiv (wrap64 (a2 - x103001_1)) (wrap64 (x102001_1 + (wrap64 (x8_9 * x103001_1)))))) * (wrap64 (x102000_1 + (wrap64 (x8_9 * x103000_1)))))))), .int .i64 x103001_1]) ?_ 1 _ rfl; (with_reducible repeat (first | refine blk_drewN ?_ _ | refine blk_drew ?_ | refine blk_alloc ?_ _)); refine blk_put (cs := #[.int .i64 x103000_1, .int .i64 x103001_1]) ?_ 0 _ rfl; (with_reducible repeat (first | refine blk_drewN ?_ _ | refine blk_drew ?_ | refine blk_alloc ?_ _)); refine blk_far ?_ NB102_101.out _; (with_reducible repeat (first | refine blk_drewN ?_ _ | refine blk_drew ?_ | refine blk_alloc ?_ _)); refine blk_far ?_ NB102_101.out _; (with_reducible repeat (first | refine blk_drewN ?_ _ | refine blk_drew ?_ | refine blk_alloc ?_ _)); exact BK102.out⟩, ⟨(q2_ HB.out GE101.out GE102.out)⟩⟩
end Go.Proofs.YtdjnneflpkllmaaDoor.Q

namespace Go.Proofs.YtdjnneflpkllmaaDoor.Q
open Go.RowKit Go.Proofs.YtdjnneflpkllmaaDoorW.PrintWords Go.Proofs.YtdjnneflpkllmaaDoorW.PrintLast Go.Proofs.YtdjnneflpkllmaaDoorW.PrintMore
attribute [local go_sem] max2_int min2_int max_two min_two max_three min_three max_four min_four   -- for this text's walks alone
set_option linter.unusedVariables false
set_option linter.unusedSimpArgs false
def num_Best.j0 : Nat → Int → Int → Int → Bool → Option (Int × Int × Int)
  | 0, _, _, _, _ => none
  | k + 1, x0, x1, x2, x36 => if x36 = true then (some (0, 0, 2)) else ((num_down.f x0 x1).bind fun bt104 => ((num_around.f k bt104.2 x1 x2).bind fun bt106 => (if (wrap64 ((wrap64 ((wrap64 (bt106.2.2.1 * x1)) - (wrap64 (bt104.2 * bt106.2.2.2)))) * bt106.2.1)) < (wrap64 ((wrap64 ((wrap64 (bt104.2 * bt106.2.1)) - (wrap64 (bt106.1 * x1)))) * bt106.2.2.2)) then (some (wrap64 (bt106.2.2.1 + (wrap64 (bt104.1 * bt106.2.2.2))), bt106.2.2.2, 0)) else (if (wrap64 ((wrap64 ((wrap64 (bt106.2.2.1 * x1)) - (wrap64 (bt104.2 * bt106.2.2.2)))) * bt106.2.1)) = (wrap64 ((wrap64 ((wrap64 (bt104.2 * bt106.2.1)) - (wrap64 (bt106.1 * x1)))) * bt106.2.2.2)) then (if bt106.2.2.2 < bt106.2.1 then (some (wrap64 (bt106.2.2.1 + (wrap64 (bt104.1 * bt106.2.2.2))), bt106.2.2.2, 0)) else (some (wrap64 (bt106.1 + (wrap64 (bt104.1 * bt106.2.1))), bt106.2.1, 0))) else (some (wrap64 (bt106.1 + (wrap64 (bt104.1 * bt106.2.1))), bt106.2.1, 0))))))
def num_Best.f (k : Nat) (a0 : Int) (a1 : Int) (a2 : Int) : Option (Int × Int × Int) := if a0 < (-1099511627776) then (num_Best.j0 k a0 a1 a2 true) else (if a0 > 1099511627776 then (num_Best.j0 k a0 a1 a2 true) else (if a1 < 1 then (num_Best.j0 k a0 a1 a2 true) else (if a1 > 1099511627776 then (num_Best.j0 k a0 a1 a2 true) else (if a2 < 1 then (num_Best.j0 k a0 a1 a2 true) else (num_Best.j0 k a0 a1 a2 (decide (a2 > 1048576)))))))
theorem num_Best.mono_l : ∀ k, (∀ y0 y1 y2 y3, LeO (num_Best.j0 k y0 y1 y2 y3) (num_Best.j0 (k + 1) y0 y1 y2 y3))
  | 0 => fun _ _ _ _ r h => by simp [num_Best.j0] at h
  | k + 1 => by
    have ih0 := num_Best.mono_l k
    · intro y0 y1 y2 y3
      unfold num_Best.j0
      repeat' first
      | (with_reducible exact ih0 _ _ _ _)
      | (with_reducible exact num_around.mono _ _ _ _)
      | (with_reducible exact LeO.refl _)
      | (with_reducible exact LeO.none _)
      | (with_reducible refine LeO.ite ?_ ?_)
      | (with_reducible refine LeO.bind ?_ (fun _ => ?_))
      | exact ih0 _ _ _ _
      | exact num_around.mono _ _ _ _
      | exact LeO.none _
      | refine LeO.ite ?_ ?_
      | refine LeO.bind ?_ (fun _ => ?_)
theorem num_Best.mono : ∀ a0 a1 a2 k, LeO (num_Best.f k a0 a1 a2) (num_Best.f (k + 1) a0 a1 a2) := by
  intro a0 a1 a2 k
  have ih0 := num_Best.mono_l k
  unfold num_Best.f
  repeat' first
      | (with_reducible exact ih0 _ _ _ _)
      | (with_reducible exact num_around.mono _ _ _ _)
      | (with_reducible exact LeO.refl _)
      | (with_reducible exact LeO.none _)
      | (with_reducible refine LeO.ite ?_ ?_)
      | (with_reducible refine LeO.bind ?_ (fun _ => ?_))
      | exact ih0 _ _ _ _
      | exact num_around.mono _ _ _ _
      | exact LeO.none _
      | refine LeO.ite ?_ ?_
      | refine LeO.bind ?_ (fun _ => ?_)
set_option maxHeartbeats 8000000 in
set_option maxRecDepth 100000 in
theorem num_Best.calls (k : Nat) (a0 : Int) (a1 : Int) (a2 : Int) (r1 : Int) (r2 : Int) (r3 : Int) (w : World) (h : num_Best.f k a0 a1 a2 = some (r1, r2, r3)) :
    Calls Tryd.prog 19 #[.int .i64 a0, .int .i64 a1, .int .i64 a2] w fun e w' => e = .returned (.tuple #[.agg #[.int .i64 r1, .int .i64 r2], .int .i64 r3]) ∧ Below w.heap.size w w' := by
  have hu23 := Tryd.underlying23
  have HB := Aside0.mk (Below.refl w.heap.size w)
  have H : (if a0 < (-1099511627776) then (num_Best.j0 k a0 a1 a2 true) else (if a0 > 1099511627776 then (num_Best.j0 k a0 a1 a2 true) else (if a1 < 1 then (num_Best.j0 k a0 a1 a2 true) else (if a1 > 1099511627776 then (num_Best.j0 k a0 a1 a2 true) else (if a2 < 1 then (num_Best.j0 k a0 a1 a2 true) else (num_Best.j0 k a0 a1 a2 (decide (a2 > 1048576)))))))) = some (r1, r2, r3) := h
  clear h
  have HC4 := Aside0.mk H
  clear H
  go_enter Tryd.func19, Tryd.ntmps19
  go_upto_region 1 with (first | ((with_reducible refine gate_dst (N := 6) rfl ?_); refine box_event ?hg (N := 6) ?hd (cs := #[.int .i64 0, .int .i64 0]) (t := 23) ?hr ?_; (case hd => rfl); (case hg => rfl); (case hr => first | (go_simp; done) | (go_simp; rfl)); intro gb103 hg w5 hbox hb; have n0_ := Aside0.mk (below_step (q0_ HB.out) hb); have n1_ := Aside0.mk (hbox); have n2_ := Aside0.mk ((by rw [hg]; exact (below_size (q0_ HB.out)) : w.heap.size ≤ gb103)); have n3_ := Aside0.mk ((by rw [hg]; exact (below_size (q0_ HB.out)) : w.heap.size ≤ gb103)); clear HB; have HB := n0_; have BK103 := n1_; have GW103 := n2_; have GE103 := n3_; clear n0_ n1_ n2_ n3_; clear hb hbox hg))
  (try simp only [Act.put, List.setIfInBounds_toArray, List.set_cons_zero, List.set_cons_succ])
  go_cut [36] (fun v36 wc => ∃ (kq : Nat) (x36_3 : Bool), v36 = .bool x36_3 ∧ Aside0 (num_Best.j0 kq a0 a1 a2 x36_3 = some (r1, r2, r3)) ∧ Aside0 (kq ≤ k) ∧ Aside0 (wc.heap[gb103]? = some (.cells #[.int .i64 0, .int .i64 0] 23 (0, 0))) ∧ Aside0 (Below w.heap.size w wc))
  case first =>
    have H := HC4.out
    clear HC4
    by_cases c6 : a0 < (-1099511627776)
    · rw [if_pos c6] at H
      have c6b0 : decide (a0 < (-1099511627776)) = true := decide_eq_true c6
      clear c6
      (first | rw [c6b0] | (simp only [i64_w, i32_w]; rw [c6b0]) | skip)
      have H' := Aside0.mk H
      clear H
      go_wp2
      go_meet
      case rel => exact ⟨_, (true), (by first | rfl | (simp; done) | (simp [*]; done)), H', ⟨by first | omega | exact Nat.le_refl _⟩, ⟨by (with_reducible repeat (first | refine blk_drewN ?_ _ | refine blk_drew ?_ | refine blk_alloc ?_ _)); exact BK103.out⟩, ⟨(q1_ HB.out GE103.out)⟩⟩
    · rw [if_neg c6] at H
      have c6b0 : decide (a0 < (-1099511627776)) = false := decide_eq_false c6
      clear c6
      (first | rw [c6b0] | (simp only [i64_w, i32_w]; rw [c6b0]) | skip)
      by_cases c7 : a0 > 1099511627776
      · rw [if_pos c7] at H
        have c7b0 : decide (1099511627776 < a0) = true := decide_eq_true c7
        clear c7
        have H' := Aside0.mk H
        clear H
        go_wp2
        go_meet
        case rel => exact ⟨_, (true), (by first | rfl | (simp; done) | (simp [*]; done)), H', ⟨by first | omega | exact Nat.le_refl _⟩, ⟨by (with_reducible repeat (first | refine blk_drewN ?_ _ | refine blk_drew ?_ | refine blk_alloc ?_ _)); exact BK103.out⟩, ⟨(q1_ HB.out GE103.out)⟩⟩
      · rw [if_neg c7] at H
        have c7b0 : decide (1099511627776 < a0) = false := decide_eq_false c7
        clear c7
        by_cases c8 : a1 < 1
        · rw [if_pos c8] at H
          have c8b0 : decide (a1 < 1) = true := decide_eq_true c8
          clear c8
          have H' := Aside0.mk H
          clear H
          go_wp2
          go_meet
          case rel => exact ⟨_, (true), (by first | rfl | (simp; done) | (simp [*]; done)), H', ⟨by first | omega | exact Nat.le_refl _⟩, ⟨by (with_reducible repeat (first | refine blk_drewN ?_ _ | refine blk_drew ?_ | refine blk_alloc ?_ _)); exact BK103.out⟩, ⟨(q1_ HB.out GE103.out)⟩⟩
        · rw [if_neg c8] at H
          have c8b0 : decide (a1 < 1) = false := decide_eq_false c8
          clear c8
          by_cases c9 : a1 > 1099511627776
          · rw [if_pos c9] at H
            have c9b0 : decide (1099511627776 < a1) = true := decide_eq_true c9
            clear c9
            have H' := Aside0.mk H
            clear H
            go_wp2
            go_meet
            case rel => exact ⟨_, (true), (by first | rfl | (simp; done) | (simp [*]; done)), H', ⟨by first | omega | exact Nat.le_refl _⟩, ⟨by (with_reducible repeat (first | refine blk_drewN ?_ _ | refine blk_drew ?_ | refine blk_alloc ?_ _)); exact BK103.out⟩, ⟨(q1_ HB.out GE103.out)⟩⟩
          · rw [if_neg c9] at H
            have c9b0 : decide (1099511627776 < a1) = false := decide_eq_false c9
            clear c9
            by_cases c10 : a2 < 1
            · rw [if_pos c10] at H
              have c10b0 : decide (a2 < 1) = true := decide_eq_true c10
              clear c10
              have H' := Aside0.mk H
              clear H
              go_wp2
              go_meet
              case rel => exact ⟨_, (true), (by first | rfl | (simp; done) | (simp [*]; done)), H', ⟨by first | omega | exact Nat.le_refl _⟩, ⟨by (with_reducible repeat (first | refine blk_drewN ?_ _ | refine blk_drew ?_ | refine blk_alloc ?_ _)); exact BK103.out⟩, ⟨(q1_ HB.out GE103.out)⟩⟩
            · rw [if_neg c10] at H
              have c10b0 : decide (a2 < 1) = false := decide_eq_false c10
              clear c10
              have H' := Aside0.mk H
              clear H
              go_wp2
              go_meet
              case rel => exact ⟨_, (decide (a2 > 1048576)), (by first | rfl | (simp; done) | (simp [*]; done)), H', ⟨by first | omega | exact Nat.le_refl _⟩, ⟨by (with_reducible repeat (first | refine blk_drewN ?_ _ | refine blk_drew ?_ | refine blk_alloc ?_ _)); exact BK103.out⟩, ⟨(q1_ HB.out GE103.out)⟩⟩
  case rest =>
    clear HC4
    try clear c1
    try clear p2
    try clear c6
    try clear c6b0
    try clear c7
    try clear c7b0
    try clear c8
    try clear c8b0
    try clear c9
    try clear c9b0
    try clear c10
    try clear c10b0
    obtain ⟨kq, x36_3, rfl, HA, HJ3, BK103, HB⟩ := hcut
    cases kq with
    | zero => exact absurd HA.out (by simp [num_Best.j0])
    | succ kj3 =>
      have H := HA.out
      clear HA
      simp only [num_Best.j0] at H
      by_cases c11 : x36_3 = true
      · subst c11
        have H1 : (some (0, 0, 2)) = some (r1, r2, r3) := by rw [if_pos rfl] at H; exact H
        clear H
        have H := H1
        clear H1
        simp only [Option.some.injEq, Prod.mk.injEq] at H
        obtain ⟨rfl, rfl, rfl⟩ := H
        have hcz12_0 : wc.cell? ⟨gb103, 0, none⟩ = some (.int .i64 0) := (blk_cell BK103.out 0).trans rfl
        have hcz12_1 : wc.cell? ⟨gb103, 1, none⟩ = some (.int .i64 0) := (blk_cell BK103.out 1).trans rfl
        have hfz12_0 := blk_frozen BK103.out 0
        have hfz12_1 := blk_frozen BK103.out 1
        go_wp2
        refine bodyPost_ret (results_ct rfl _ _ gb103 23 #[.int .i64 0, .int .i64 0] (0, 0) _ rfl (by (with_reducible repeat (first | refine blk_drewN ?_ _ | refine blk_drew ?_ | refine blk_alloc ?_ _)); refine blk_put (cs := #[.int .i64 0, .int .i64 0]) ?_ 1 _ rfl; (with_reducible repeat (first | refine blk_drewN ?_ _ | refine blk_drew ?_ | refine blk_alloc ?_ _)); refine blk_put (cs := #[.int .i64 0, .int .i64 0]) ?_ 0 _ rfl; (with_reducible repeat (first | refine blk_drewN ?_ _ | refine blk_drew ?_ | refine blk_alloc ?_ _)); exact BK103.out) Tryd.underlying23 rfl (by kernel_rfl)) rfl ?_
        exact ⟨by first | rfl | (simp [errW_none, errW_some] <;> rfl) | (simp [*, errW_none, errW_some] <;> rfl), (q1_ HB.out GE103.out)⟩
      · replace c11 := Bool.eq_false_iff.mpr c11
        subst c11
        have H1 : ((num_down.f a0 a1).bind fun bt104 => ((num_around.f kj3 bt104.2 a1 a2).bind fun bt106 => (if (wrap64 ((wrap64 ((wrap64 (bt106.2.2.1 * a1)) - (wrap64 (bt104.2 * bt106.2.2.2)))) * bt106.2.1)) < (wrap64 ((wrap64 ((wrap64 (bt104.2 * bt106.2.1)) - (wrap64 (bt106.1 * a1)))) * bt106.2.2.2)) then (some (wrap64 (bt106.2.2.1 + (wrap64 (bt104.1 * bt106.2.2.2))), bt106.2.2.2, 0)) else (if (wrap64 ((wrap64 ((wrap64 (bt106.2.2.1 * a1)) - (wrap64 (bt104.2 * bt106.2.2.2)))) * bt106.2.1)) = (wrap64 ((wrap64 ((wrap64 (bt104.2 * bt106.2.1)) - (wrap64 (bt106.1 * a1)))) * bt106.2.2.2)) then (if bt106.2.2.2 < bt106.2.1 then (some (wrap64 (bt106.2.2.1 + (wrap64 (bt104.1 * bt106.2.2.2))), bt106.2.2.2, 0)) else (some (wrap64 (bt106.1 + (wrap64 (bt104.1 * bt106.2.1))), bt106.2.1, 0))) else (some (wrap64 (bt106.1 + (wrap64 (bt104.1 * bt106.2.1))), bt106.2.1, 0)))))) = some (r1, r2, r3) := by rw [if_neg (show ¬ (false = true) by decide)] at H; exact H
        clear H
        have H := H1
        clear H1
        replace H := Option.bind_eq_some_iff.mp H
        obtain ⟨⟨t104, t105⟩, A130, H⟩ := H
        replace H : ((num_around.f kj3 t105 a1 a2).bind fun bt106 => (if (wrap64 ((wrap64 ((wrap64 (bt106.2.2.1 * a1)) - (wrap64 (t105 * bt106.2.2.2)))) * bt106.2.1)) < (wrap64 ((wrap64 ((wrap64 (t105 * bt106.2.1)) - (wrap64 (bt106.1 * a1)))) * bt106.2.2.2)) then (some (wrap64 (bt106.2.2.1 + (wrap64 (t104 * bt106.2.2.2))), bt106.2.2.2, 0)) else (if (wrap64 ((wrap64 ((wrap64 (bt106.2.2.1 * a1)) - (wrap64 (t105 * bt106.2.2.2)))) * bt106.2.1)) = (wrap64 ((wrap64 ((wrap64 (t105 * bt106.2.1)) - (wrap64 (bt106.1 * a1)))) * bt106.2.2.2)) then (if bt106.2.2.2 < bt106.2.1 then (some (wrap64 (bt106.2.2.1 + (wrap64 (t104 * bt106.2.2.2))), bt106.2.2.2, 0)) else (some (wrap64 (bt106.1 + (wrap64 (t104 * bt106.2.1))), bt106.2.1, 0))) else (some (wrap64 (bt106.1 + (wrap64 (t104 * bt106.2.1))), bt106.2.1, 0))))) = some (r1, r2, r3) := H
        have A13 := Aside0.mk A130
        clear A130
        replace H := Option.bind_eq_some_iff.mp H
        obtain ⟨⟨t106, t107, t108, t109⟩, A140, H⟩ := H
        replace H : (if (wrap64 ((wrap64 ((wrap64 (t108 * a1)) - (wrap64 (t105 * t109)))) * t107)) < (wrap64 ((wrap64 ((wrap64 (t105 * t107)) - (wrap64 (t106 * a1)))) * t109)) then (some (wrap64 (t108 + (wrap64 (t104 * t109))), t109, 0)) else (if (wrap64 ((wrap64 ((wrap64 (t108 * a1)) - (wrap64 (t105 * t109)))) * t107)) = (wrap64 ((wrap64 ((wrap64 (t105 * t107)) - (wrap64 (t106 * a1)))) * t109)) then (if t109 < t107 then (some (wrap64 (t108 + (wrap64 (t104 * t109))), t109, 0)) else (some (wrap64 (t106 + (wrap64 (t104 * t107))), t107, 0))) else (some (wrap64 (t106 + (wrap64 (t104 * t107))), t107, 0)))) = some (r1, r2, r3) := H
        have A14 := Aside0.mk A140
        clear A140
        by_cases c15 : (wrap64 ((wrap64 ((wrap64 (t108 * a1)) - (wrap64 (t105 * t109)))) * t107)) < (wrap64 ((wrap64 ((wrap64 (t105 * t107)) - (wrap64 (t106 * a1)))) * t109))
        · rw [if_pos c15] at H
          have c15b0 : decide ((wrap64 ((wrap64 ((wrap64 (t108 * a1)) - (wrap64 (t105 * t109)))) * t107)) < (wrap64 ((wrap64 ((wrap64 (t105 * t107)) - (wrap64 (t106 * a1)))) * t109))) = true := decide_eq_true c15
          clear c15
          simp only [Option.some.injEq, Prod.mk.injEq] at H
          obtain ⟨rfl, rfl, rfl⟩ := H
          go_upto_region 10 with (first | ((with_reducible refine gate_callee (f := 70) rfl ?_); refine goesL_ (some 41) rfl rfl Tryd.func70 (by kernel_rfl) rfl #[.int .i64 a0, .int .i64 a1] rfl qe_ ?_; (with_reducible refine (num_down.calls a0 a1 t104 t105 _ A13.out).mono ?_); rintro e w' ⟨rfl, ⟨nd, rfl⟩⟩; refine ⟨_, rfl, ?_⟩; (try (rw [drewN_self wc]; generalize hq_ : World.drewN wc _ = wc; have n0_ : Aside0 (wc.heap[gb103]? = some (.cells #[.int .i64 0, .int .i64 0] 23 (0, 0))) := ⟨by rw [← hq_]; exact (qb_ BK103.out)⟩; have n1_ : Aside0 (Below w.heap.size w wc) := ⟨by rw [← hq_]; exact (q1_ HB.out GE103.out)⟩; clear BK103 HB hq_; have BK103 := n0_; have HB := n1_; clear n0_ n1_))) | ((with_reducible refine gate_callee (f := 71) rfl ?_); refine goesL_ (some 48) rfl rfl Tryd.func71 (by kernel_rfl) rfl #[.int .i64 t105, .int .i64 a1, .int .i64 a2] rfl qe_ ?_; (with_reducible refine (num_around.calls kj3 t105 a1 a2 t106 t107 t108 t109 _ A14.out).mono ?_); rintro e w16 ⟨rfl, hb⟩; refine ⟨_, rfl, ?_⟩; have n0_ := Aside0.mk (blk_below (g := gb103) (o := .cells #[.int .i64 0, .int .i64 0] 23 (0, 0)) (qb_ BK103.out) hb); have n1_ := Aside0.mk (below_step (q1_ HB.out GE103.out) hb); clear BK103; clear HB; have BK103 := n0_; have HB := n1_; clear n0_ n1_; (try clear hb); (try clear hb2); (try clear hk); (try clear hi)) | ((with_reducible refine gate_dst (N := 10) rfl ?_); refine box_event ?hg (N := 10) ?hd (cs := #[.int .i64 0, .int .i64 0]) (t := 23) ?hr ?_; (case hd => rfl); (case hg => rfl); (case hr => first | (go_simp; done) | (go_simp; rfl)); intro gb110 hg w17 hbox hb; have n0_ := Aside0.mk (blk_below (g := gb103) (o := .cells #[.int .i64 0, .int .i64 0] 23 (0, 0)) (qb_ BK103.out) hb); have n1_ := Aside0.mk (below_step (q1_ HB.out GE103.out) hb); have n2_ := Aside0.mk (hbox); have n3_ := Aside0.mk ((by rw [hg]; exact (below_size (q1_ HB.out GE103.out)) : w.heap.size ≤ gb110)); have n4_ := Aside0.mk ((by rw [hg]; exact (below_size (q1_ HB.out GE103.out)) : w.heap.size ≤ gb110)); have n5_ := Aside0.mk ((by rw [hg]; exact Nat.ne_of_lt (blk_lt (g := gb103) (o := .cells #[.int .i64 0, .int .i64 0] 23 (0, 0)) (qb_ BK103.out)) : gb103 ≠ gb110)); have n6_ := Aside0.mk ((by rw [hg]; exact Nat.ne_of_gt (blk_lt (g := gb103) (o := .cells #[.int .i64 0, .int .i64 0] 23 (0, 0)) (qb_ BK103.out)) : gb110 ≠ gb103)); clear BK103; clear HB; have BK103 := n0_; have HB := n1_; have BK110 := n2_; have GW110 := n3_; have GE110 := n4_; have NB103_110 := n5_; have NB110_103 := n6_; clear n0_ n1_ n2_ n3_ n4_ n5_ n6_; clear hb hbox hg) | ((with_reducible refine gate_dst (N := 11) rfl ?_); refine box_event ?hg (N := 11) ?hd (cs := #[.int .i64 0, .int .i64 0]) (t := 23) ?hr ?_; (case hd => rfl); (case hg => rfl); (case hr => first | (go_simp; done) | (go_simp; rfl)); intro gb111 hg w18 hbox hb; have n0_ := Aside0.mk (blk_below (g := gb103) (o := .cells #[.int .i64 0, .int .i64 0] 23 (0, 0)) (qb_ BK103.out) hb); have n1_ := Aside0.mk (blk_below (g := gb110) (o := .cells #[.int .i64 0, .int .i64 0] 23 (0, 0)) (qb_ BK110.out) hb); have n2_ := Aside0.mk (below_step (q2_ HB.out GE103.out GE110.out) hb); have n3_ := Aside0.mk (hbox); have n4_ := Aside0.mk ((by rw [hg]; exact (below_size (q2_ HB.out GE103.out GE110.out)) : w.heap.size ≤ gb111)); have n5_ := Aside0.mk ((by rw [hg]; exact (below_size (q2_ HB.out GE103.out GE110.out)) : w.heap.size ≤ gb111)); have n6_ := Aside0.mk ((by rw [hg]; exact Nat.ne_of_lt (blk_lt (g := gb103) (o := .cells #[.int .i64 0, .int .i64 0] 23 (0, 0)) (qb_ BK103.out)) : gb103 ≠ gb111)); have n7_ := Aside0.mk ((by rw [hg]; exact Nat.ne_of_gt (blk_lt (g := gb103) (o := .cells #[.int .i64 0, .int .i64 0] 23 (0, 0)) (qb_ BK103.out)) : gb111 ≠ gb103)); have n8_ := Aside0.mk ((by rw [hg]; exact Nat.ne_of_lt (blk_lt (g := gb110) (o := .cells #[.int .i64 0, .int .i64 0] 23 (0, 0)) (qb_ BK110.out)) : gb110 ≠ gb111)); have n9_ := Aside0.mk ((by rw [hg]; exact Nat.ne_of_gt (blk_lt (g := gb110) (o := .cells #[.int .i64 0, .int .i64 0] 23 (0, 0)) (qb_ BK110.out)) : gb111 ≠ gb110)); clear BK103; clear BK110; clear HB; have BK103 := n0_; have BK110 := n1_; have HB := n2_; have BK111 := n3_; have GW111 := n4_; have GE111 := n5_; have NB103_111 := n6_; have NB111_103 := n7_; have NB110_111 := n8_; have NB111_110 := n9_; clear n0_ n1_ n2_ n3_ n4_ n5_ n6_ n7_ n8_ n9_; clear hb hbox hg; have hnb19 := NB110_103.out; have hnc19 := NB103_110.out; have hnb20 := NB110_111.out; have hnc20 := NB111_110.out; have hcz21_0 : w18.cell? ⟨gb110, 0, none⟩ = some (.int .i64 0) := (blk_cell BK110.out 0).trans rfl; have hcz21_1 : w18.cell? ⟨gb110, 1, none⟩ = some (.int .i64 0) := (blk_cell BK110.out 1).trans rfl; have hfz21_0 := blk_frozen BK110.out 0; have hfz21_1 := blk_frozen BK110.out 1; have hnb22 := NB111_103.out; have hnc22 := NB103_111.out; have hcz23_0 : w18.cell? ⟨gb111, 0, none⟩ = some (.int .i64 0) := (blk_cell BK111.out 0).trans rfl; have hcz23_1 : w18.cell? ⟨gb111, 1, none⟩ = some (.int .i64 0) := (blk_cell BK111.out 1).trans rfl; have hfz23_0 := blk_frozen BK111.out 0; have hfz23_1 := blk_frozen BK111.out 1) | ((with_reducible refine gate_dst (N := 14) rfl ?_); refine box_event ?hg (N := 14) ?hd (cs := #[.int .i64 0, .int .i64 0]) (t := 23) ?hr ?_; (case hd => rfl); (case hg => rfl); (case hr => first | (go_simp; done) | (go_simp; rfl)); intro gb112 hg w24 hbox hb; have n0_ := Aside0.mk (blk_below (g := gb103) (o := .cells #[.int .i64 0, .int .i64 0] 23 (0, 0)) (by (with_reducible repeat (first | refine blk_drewN ?_ _ | refine blk_drew ?_ | refine blk_alloc ?_ _)); refine blk_far ?_ NB103_111.out _; (with_reducible repeat (first | refine blk_drewN ?_ _ | refine blk_drew ?_ | refine blk_alloc ?_ _)); refine blk_far ?_ NB103_111.out _; (with_reducible repeat (first | refine blk_drewN ?_ _ | refine blk_drew ?_ | refine blk_alloc ?_ _)); refine blk_far ?_ NB103_110.out _; (with_reducible repeat (first | refine blk_drewN ?_ _ | refine blk_drew ?_ | refine blk_alloc ?_ _)); refine blk_far ?_ NB103_110.out _; (with_reducible repeat (first | refine blk_drewN ?_ _ | refine blk_drew ?_ | refine blk_alloc ?_ _)); exact BK103.out) hb); have n1_ := Aside0.mk (blk_below (g := gb110) (o := .cells #[.int .i64 t106, .int .i64 t107] 23 (0, 0)) (by (with_reducible repeat (first | refine blk_drewN ?_ _ | refine blk_drew ?_ | refine blk_alloc ?_ _)); refine blk_far ?_ NB110_111.out _; (with_reducible repeat (first | refine blk_drewN ?_ _ | refine blk_drew ?_ | refine blk_alloc ?_ _)); refine blk_far ?_ NB110_111.out _; (with_reducible repeat (first | refine blk_drewN ?_ _ | refine blk_drew ?_ | refine blk_alloc ?_ _)); refine blk_put (cs := #[.int .i64 t106, .int .i64 0]) ?_ 1 _ rfl; (with_reducible repeat (first | refine blk_drewN ?_ _ | refine blk_drew ?_ | refine blk_alloc ?_ _)); refine blk_put (cs := #[.int .i64 0, .int .i64 0]) ?_ 0 _ rfl; (with_reducible repeat (first | refine blk_drewN ?_ _ | refine blk_drew ?_ | refine blk_alloc ?_ _)); exact BK110.out) hb); have n2_ := Aside0.mk (blk_below (g := gb111) (o := .cells #[.int .i64 t108, .int .i64 t109] 23 (0, 0)) (by (with_reducible repeat (first | refine blk_drewN ?_ _ | refine blk_drew ?_ | refine blk_alloc ?_ _)); refine blk_put (cs := #[.int .i64 t108, .int .i64 0]) ?_ 1 _ rfl; (with_reducible repeat (first | refine blk_drewN ?_ _ | refine blk_drew ?_ | refine blk_alloc ?_ _)); refine blk_put (cs := #[.int .i64 0, .int .i64 0]) ?_ 0 _ rfl; (with_reducible repeat (first | refine blk_drewN ?_ _ | refine blk_drew ?_ | refine blk_alloc ?_ _)); refine blk_far ?_ NB111_110.out _; (with_reducible repeat (first | refine blk_drewN ?_ _ | refine blk_drew ?_ | refine blk_alloc ?_ _)); refine blk_far ?_ NB111_110.out _; (with_reducible repeat (first | refine blk_drewN ?_ _ | refine blk_drew ?_ | refine blk_alloc ?_ _)); exact BK111.out) hb); have n3_ := Aside0.mk (below_step (q3_ HB.out GE103.out GE110.out GE111.out) hb); have n4_ := Aside0.mk (hbox); have n5_ := Aside0.mk ((by rw [hg]; exact (below_size (q3_ HB.out GE103.out GE110.out GE111.out)) : w.heap.size ≤ gb112)); have n6_ := Aside0.mk ((by rw [hg]; exact (below_size (q3_ HB.out GE103.out GE110.out GE111.out)) : w.heap.size ≤ gb112)); have n7_ := Aside0.mk ((by rw [hg]; exact Nat.ne_of_lt (blk_lt (g := gb103) (o := .cells #[.int .i64 0, .int .i64 0] 23 (0, 0)) (by (with_reducible repeat (first | refine blk_drewN ?_ _ | refine blk_drew ?_ | refine blk_alloc ?_ _)); refine blk_far ?_ NB103_111.out _; (with_reducible repeat (first | refine blk_drewN ?_ _ | refine blk_drew ?_ | refine blk_alloc ?_ _)); refine blk_far ?_ NB103_111.out _; (with_reducible repeat (first | refine blk_drewN ?_ _ | refine blk_drew ?_ | refine blk_alloc ?_ _)); refine blk_far ?_ NB103_110.out _; (with_reducible repeat (first | refine blk_drewN ?_ _ | refine blk_drew ?_ | refine blk_alloc ?_ _)); refine blk_far ?_ NB103_110.out _; (with_reducible repeat (first | refine blk_drewN ?_ _ | refine blk_drew ?_ | refine blk_alloc ?_ _)); exact BK103.out)) : gb103 ≠ gb112)); have n8_ := Aside0.mk ((by rw [hg]; exact Nat.ne_of_gt (blk_lt (g := gb103) (o := .cells #[.int .i64 0, .int .i64 0] 23 (0, 0)) (by (with_reducible repeat (first | refine blk_drewN ?_ _ | refine blk_drew ?_ | refine blk_alloc ?_ _)); refine blk_far ?_ NB103_111.out _; (with_reducible repeat (first | refine blk_drewN ?_ _ | refine blk_drew ?_ | refine blk_alloc ?_ _)); refine blk_far ?_ NB103_111.out _; (with_reducible repeat (first | refine blk_drewN ?_ _ | refine blk_drew ?_ | refine blk_alloc ?_ _)); refine blk_far ?_ NB103_110.out _; (with_reducible repeat (first | refine blk_drewN ?_ _ | refine blk_drew ?_ | refine blk_alloc ?_ _)); refine blk_far ?_ NB103_110.out _; (with_reducible repeat (first | refine blk_drewN ?_ _ | refine blk_drew ?_ | refine blk_alloc ?_ _)); exact BK103.out)) : gb112 ≠ gb103)); have n9_ := Aside0.mk ((by rw [hg]; exact Nat.ne_of_lt (blk_lt (g := gb110) (o := .cells #[.int .i64 t106, .int .i64 t107] 23 (0, 0)) (by (with_reducible repeat (first | refine blk_drewN ?_ _ | refine blk_drew ?_ | refine blk_alloc ?_ _)); refine blk_far ?_ NB110_111.out _; (with_reducible repeat (first | refine blk_drewN ?_ _ | refine blk_drew ?_ | refine blk_alloc ?_ _)); refine blk_far ?_ NB110_111.out _; (with_reducible repeat (first | refine blk_drewN ?_ _ | refine blk_drew ?_ | refine blk_alloc ?_ _)); refine blk_put (cs := #[.int .i64 t106, .int .i64 0]) ?_ 1 _ rfl; (with_reducible repeat (first | refine blk_drewN ?_ _ | refine blk_drew ?_ | refine blk_alloc ?_ _)); refine blk_put (cs := #[.int .i64 0, .int .i64 0]) ?_ 0 _ rfl; (with_reducible repeat (first | refine blk_drewN ?_ _ | refine blk_drew ?_ | refine blk_alloc ?_ _)); exact BK110.out)) : gb110 ≠ gb112)); have n10_ := Aside0.mk ((by rw [hg]; exact Nat.ne_of_gt (blk_lt (g := gb110) (o := .cells #[.int .i64 t106, .int .i64 t107] 23 (0, 0)) (by (with_reducible repeat (first | refine blk_drewN ?_ _ | refine blk_drew ?_ | refine blk_alloc ?_ _)); refine blk_far ?_ NB110_111.out _; (with_reducible repeat (first | refine blk_drewN ?_ _ | refine blk_drew ?_ | refine blk_alloc ?_ _)); refine blk_far ?_ NB110_111.out _; (with_reducible repeat (first | refine blk_drewN ?_ _ | refine blk_drew ?_ | refine blk_alloc ?_ _)); refine blk_put (cs := #[.int .i64 t106, .int .i64 0]) ?_ 1 _ rfl; (with_reducible repeat (first | refine blk_drewN ?_ _ | refine blk_drew ?_ | refine blk_alloc ?_ _)); refine blk_put (cs := #[.int .i64 0, .int .i64 0]) ?_ 0 _ rfl; (with_reducible repeat (first | refine blk_drewN ?_ _ | refine blk_drew ?_ | refine blk_alloc ?_ _)); exact BK110.out)) : gb112 ≠ gb110)); have n11_ := Aside0.mk ((by rw [hg]; exact Nat.ne_of_lt (blk_lt (g := gb111) (o := .cells #[.int .i64 t108, .int .i64 t109] 23 (0, 0)) (by (with_reducible repeat (first | refine blk_drewN ?_ _ | refine blk_drew ?_ | refine blk_alloc ?_ _)); refine blk_put (cs := #[.int .i64 t108, .int .i64 0]) ?_ 1 _ rfl; (with_reducible repeat (first | refine blk_drewN ?_ _ | refine blk_drew ?_ | refine blk_alloc ?_ _)); refine blk_put (cs := #[.int .i64 0, .int .i64 0]) ?_ 0 _ rfl; (with_reducible repeat (first | refine blk_drewN ?_ _ | refine blk_drew ?_ | refine blk_alloc ?_ _)); refine blk_far ?_ NB111_110.out _; (with_reducible repeat (first | refine blk_drewN ?_ _ | refine blk_drew ?_ | refine blk_alloc ?_ _)); refine blk_far ?_ NB111_110.out _; (with_reducible repeat (first | refine blk_drewN ?_ _ | refine blk_drew ?_ | refine blk_alloc ?_ _)); exact BK111.out)) : gb111 ≠ gb112)); have n12_ := Aside0.mk ((by rw [hg]; exact Nat.ne_of_gt (blk_lt (g := gb111) (o := .cells #[.int .i64 t108, .int .i64 t109] 23 (0, 0)) (by (with_reducible repeat (first | refine blk_drewN ?_ _ | refine blk_drew ?_ | refine blk_alloc ?_ _)); refine blk_put (cs := #[.int .i64 t108, .int .i64 0]) ?_ 1 _ rfl; (with_reducible repeat (first | refine blk_drewN ?_ _ | refine blk_drew ?_ | refine blk_alloc ?_ _)); refine blk_put (cs := #[.int .i64 0, .int .i64 0]) ?_ 0 _ rfl; (with_reducible repeat (first | refine blk_drewN ?_ _ | refine blk_drew ?_ | refine blk_alloc ?_ _)); refine blk_far ?_ NB111_110.out _; (with_reducible repeat (first | refine blk_drewN ?_ _ | refine blk_drew ?_ | refine blk_alloc ?_ _)); refine blk_far ?_ NB111_110.out _; (with_reducible repeat (first | refine blk_drewN ?_ _ | refine blk_drew ?_ | refine blk_alloc ?_ _)); exact BK111.out)) : gb112 ≠ gb111)); clear BK103; clear BK110; clear BK111; clear HB; have BK103 := n0_; have BK110 := n1_; have BK111 := n2_; have HB := n3_; have BK112 := n4_; have GW112 := n5_; have GE112 := n6_; have NB103_112 := n7_; have NB112_103 := n8_; have NB110_112 := n9_; have NB112_110 := n10_; have NB111_112 := n11_; have NB112_111 := n12_; clear n0_ n1_ n2_ n3_ n4_ n5_ n6_ n7_ n8_ n9_ n10_ n11_ n12_; clear hb hbox hg; have hnb25 := NB112_103.out; have hnc25 := NB103_112.out; have hnb26 := NB112_110.out; have hnc26 := NB110_112.out; have hnb27 := NB112_111.out; have hnc27 := NB111_112.out; have hcz28_0 : w24.cell? ⟨gb112, 0, none⟩ = some (.int .i64 0) := (blk_cell BK112.out 0).trans rfl; have hcz28_1 : w24.cell? ⟨gb112, 1, none⟩ = some (.int .i64 0) := (blk_cell BK112.out 1).trans rfl; have hfz28_0 := blk_frozen BK112.out 0; have hfz28_1 := blk_frozen BK112.out 1; have hcz29_0 : w24.cell? ⟨gb111, 0, none⟩ = some (.int .i64 t108) := (blk_cell BK111.out 0).trans rfl; have hcz29_1 : w24.cell? ⟨gb111, 1, none⟩ = some (.int .i64 t109) := (blk_cell BK111.out 1).trans rfl; have hfz29_0 := blk_frozen BK111.out 0; have hfz29_1 := blk_frozen BK111.out 1; have hcz30_0 : w24.cell? ⟨gb103, 0, none⟩ = some (.int .i64 0) := (blk_cell BK103.out 0).trans rfl; have hcz30_1 : w24.cell? ⟨gb103, 1, none⟩ = some (.int .i64 0) := (blk_cell BK103.out 1).trans rfl; have hfz30_0 := blk_frozen BK103.out 0; have hfz30_1 := blk_frozen BK103.out 1))
          have hX_ : ((((w24.setCell ⟨gb112, 0, none⟩ (.int .i64 t106)).setCell ⟨gb112, 1, none⟩ (.int .i64 t107)).setCell ⟨gb112, 0, none⟩ (.int .i64 t108)).setCell ⟨gb112, 1, none⟩ (.int .i64 t109)).heap[gb112]? = some (.cells #[.int .i64 t108, .int .i64 t109] 23 (0, 0)) := blk_put (cs := #[.int .i64 t108, .int .i64 t107]) (blk_put (cs := #[.int .i64 t106, .int .i64 t107]) (blk_put (cs := #[.int .i64 t106, .int .i64 0]) (blk_put (cs := #[.int .i64 0, .int .i64 0]) BK112.out 0 _ rfl) 1 _ rfl) 0 _ rfl) 1 _ rfl
          have hX0_ := (blk_cell hX_ 0).trans rfl
          have hX1_ := (blk_cell hX_ 1).trans rfl
          have hXf0_ := blk_frozen hX_ 0
          have hXf1_ := blk_frozen hX_ 1
          clear hX_
          go_wp2
          refine bodyPost_ret (results_ct rfl _ _ gb103 23 #[.int .i64 (wrap64 (t108 + (wrap64 (t104 * t109)))), .int .i64 t109] (0, 0) _ rfl (by (with_reducible repeat (first | refine blk_drewN ?_ _ | refine blk_drew ?_ | refine blk_alloc ?_ _)); refine blk_put (cs := #[.int .i64 (wrap64 (t108 + (wrap64 (t104 * t109)))), .int .i64 0]) ?_ 1 _ rfl; (with_reducible repeat (first | refine blk_drewN ?_ _ | refine blk_drew ?_ | refine blk_alloc ?_ _)); refine blk_put (cs := #[.int .i64 0, .int .i64 0]) ?_ 0 _ rfl; (with_reducible repeat (first | refine blk_drewN ?_ _ | refine blk_drew ?_ | refine blk_alloc ?_ _)); refine blk_far ?_ NB103_112.out _; (with_reducible repeat (first | refine blk_drewN ?_ _ | refine blk_drew ?_ | refine blk_alloc ?_ _)); refine blk_far ?_ NB103_112.out _; (with_reducible repeat (first | refine blk_drewN ?_ _ | refine blk_drew ?_ | refine blk_alloc ?_ _)); refine blk_far ?_ NB103_112.out _; (with_reducible repeat (first | refine blk_drewN ?_ _ | refine blk_drew ?_ | refine blk_alloc ?_ _)); refine blk_far ?_ NB103_112.out _; (with_reducible repeat (first | refine blk_drewN ?_ _ | refine blk_drew ?_ | refine blk_alloc ?_ _)); refine blk_far ?_ NB103_112.out _; (with_reducible repeat (first | refine blk_drewN ?_ _ | refine blk_drew ?_ | refine blk_alloc ?_ _)); exact BK103.out) Tryd.underlying23 rfl (by kernel_rfl)) rfl ?_
          exact ⟨by first | rfl | (simp [errW_none, errW_some] <;> rfl) | (simp [*, errW_none, errW_some] <;> rfl), (q4_ HB.out GE103.out GE110.out GE111.out GE112.out)⟩
        · rw [if_neg c15] at H
          have c15b0 : decide ((wrap64 ((wrap64 ((wrap64 (t108 * a1)) - (wrap64 (t105 * t109)))) * t107)) < (wrap64 ((wrap64 ((wrap64 (t105 * t107)) - (wrap64 (t106 * a1)))) * t109))) = false := decide_eq_false c15
          clear c15
          by_cases c31 : (wrap64 ((wrap64 ((wrap64 (t108 * a1)) - (wrap64 (t105 * t109)))) * t107)) = (wrap64 ((wrap64 ((wrap64 (t105 * t107)) - (wrap64 (t106 * a1)))) * t109))
          · rw [if_pos c31] at H
            have c31b0 : ((wrap64 ((wrap64 ((wrap64 (t108 * a1)) - (wrap64 (t105 * t109)))) * t107)) == (wrap64 ((wrap64 ((wrap64 (t105 * t107)) - (wrap64 (t106 * a1)))) * t109))) = true := beq_iff_eq.mpr c31
            have c31b1 : ((wrap64 ((wrap64 ((wrap64 (t108 * a1)) - (wrap64 (t105 * t109)))) * t107)) != (wrap64 ((wrap64 ((wrap64 (t105 * t107)) - (wrap64 (t106 * a1)))) * t109))) = false := bne_eq_false_iff_eq.mpr c31
            clear c31
            by_cases c32 : t109 < t107
            · rw [if_pos c32] at H
              have c32b0 : decide (t109 < t107) = true := decide_eq_true c32
              clear c32
              simp only [Option.some.injEq, Prod.mk.injEq] at H
              obtain ⟨rfl, rfl, rfl⟩ := H
              go_upto_region 10 with (first | ((with_reducible refine gate_callee (f := 70) rfl ?_); refine goesL_ (some 41) rfl rfl Tryd.func70 (by kernel_rfl) rfl #[.int .i64 a0, .int .i64 a1] rfl qe_ ?_; (with_reducible refine (num_down.calls a0 a1 t104 t105 _ A13.out).mono ?_); rintro e w' ⟨rfl, ⟨nd, rfl⟩⟩; refine ⟨_, rfl, ?_⟩; (try (rw [drewN_self wc]; generalize hq_ : World.drewN wc _ = wc; have n0_ : Aside0 (wc.heap[gb103]? = some (.cells #[.int .i64 0, .int .i64 0] 23 (0, 0))) := ⟨by rw [← hq_]; exact (qb_ BK103.out)⟩; have n1_ : Aside0 (Below w.heap.size w wc) := ⟨by rw [← hq_]; exact (q1_ HB.out GE103.out)⟩; clear BK103 HB hq_; have BK103 := n0_; have HB := n1_; clear n0_ n1_))) | ((with_reducible refine gate_callee (f := 71) rfl ?_); refine goesL_ (some 48) rfl rfl Tryd.func71 (by kernel_rfl) rfl #[.int .i64 t105, .int .i64 a1, .int .i64 a2] rfl qe_ ?_; (with_reducible refine (num_around.calls kj3 t105 a1 a2 t106 t107 t108 t109 _ A14.out).mono ?_); rintro e w33 ⟨rfl, hb⟩; refine ⟨_, rfl, ?_⟩; have n0_ := Aside0.mk (blk_below (g := gb103) (o := .cells #[.int .i64 0, .int .i64 0] 23 (0, 0)) (qb_ BK103.out) hb); have n1_ := Aside0.mk (below_step (q1_ HB.out GE103.out) hb); clear BK103; clear HB; have BK103 := n0_; have HB := n1_; clear n0_ n1_; (try clear hb); (try clear hb2); (try clear hk); (try clear hi)) | ((with_reducible refine gate_dst (N := 10) rfl ?_); refine box_event ?hg (N := 10) ?hd (cs := #[.int .i64 0, .int .i64 0]) (t := 23) ?hr ?_; (case hd => rfl); (case hg => rfl); (case hr => first | (go_simp; done) | (go_simp; rfl)); intro gb110 hg w34 hbox hb; have n0_ := Aside0.mk (blk_below (g := gb103) (o := .cells #[.int .i64 0, .int .i64 0] 23 (0, 0)) (qb_ BK103.out) hb); have n1_ := Aside0.mk (below_step (q1_ HB.out GE103.out) hb); have n2_ := Aside0.mk (hbox); have n3_ := Aside0.mk ((by rw [hg]; exact (below_size (q1_ HB.out GE103.out)) : w.heap.size ≤ gb110)); have n4_ := Aside0.mk ((by rw [hg]; exact (below_size (q1_ HB.out GE103.out)) : w.heap.size ≤ gb110)); have n5_ := Aside0.mk ((by rw [hg]; exact Nat.ne_of_lt (blk_lt (g := gb103) (o := .cells #[.int .i64 0, .int .i64 0] 23 (0, 0)) (qb_ BK103.out)) : gb103 ≠ gb110)); have n6_ := Aside0.mk ((by rw [hg]; exact Nat.ne_of_gt (blk_lt (g := gb103) (o := .cells #[.int .i64 0, .int .i64 0] 23 (0, 0)) (qb_ BK103.out)) : gb110 ≠ gb103)); clear BK103; clear HB; have BK103 := n0_; have HB := n1_; have BK110 := n2_; have GW110 := n3_; have GE110 := n4_; have NB103_110 := n5_; have NB110_103 := n6_; clear n0_ n1_ n2_ n3_ n4_ n5_ n6_; clear hb hbox hg) | ((with_reducible refine gate_dst (N := 11) rfl ?_); refine box_event ?hg (N := 11) ?hd (cs := #[.int .i64 0, .int .i64 0]) (t := 23) ?hr ?_; (case hd => rfl); (case hg => rfl); (case hr => first | (go_simp; done) | (go_simp; rfl)); intro gb111 hg w35 hbox hb; have n0_ := Aside0.mk (blk_below (g := gb103) (o := .cells #[.int .i64 0, .int .i64 0] 23 (0, 0)) (qb_ BK103.out) hb); have n1_ := Aside0.mk (blk_below (g := gb110) (o := .cells #[.int .i64 0, .int .i64 0] 23 (0, 0)) (qb_ BK110.out) hb); have n2_ := Aside0.mk (below_step (q2_ HB.out GE103.out GE110.out) hb); have n3_ := Aside0.mk (hbox); have n4_ := Aside0.mk ((by rw [hg]; exact (below_size (q2_ HB.out GE103.out GE110.out)) : w.heap.size ≤ gb111)); have n5_ := Aside0.mk ((by rw [hg]; exact (below_size (q2_ HB.out GE103.out GE110.out)) : w.heap.size ≤ gb111)); have n6_ := Aside0.mk ((by rw [hg]; exact Nat.ne_of_lt (blk_lt (g := gb103) (o := .cells #[.int .i64 0, .int .i64 0] 23 (0, 0)) (qb_ BK103.out)) : gb103 ≠ gb111)); have n7_ := Aside0.mk ((by rw [hg]; exact Nat.ne_of_gt (blk_lt (g := gb103) (o := .cells #[.int .i64 0, .int .i64 0] 23 (0, 0)) (qb_ BK103.out)) : gb111 ≠ gb103)); have n8_ := Aside0.mk ((by rw [hg]; exact Nat.ne_of_lt (blk_lt (g := gb110) (o := .cells #[.int .i64 0, .int .i64 0] 23 (0, 0)) (qb_ BK110.out)) : gb110 ≠ gb111)); have n9_ := Aside0.mk ((by rw [hg]; exact Nat.ne_of_gt (blk_lt (g := gb110) (o := .cells #[.int .i64 0, .int .i64 0] 23 (0, 0)) (qb_ BK110.out)) : gb111 ≠ gb110)); clear BK103; clear BK110; clear HB; have BK103 := n0_; have BK110 := n1_; have HB := n2_; have BK111 := n3_; have GW111 := n4_; have GE111 := n5_; have NB103_111 := n6_; have NB111_103 := n7_; have NB110_111 := n8_; have NB111_110 := n9_; clear n0_ n1_ n2_ n3_ n4_ n5_ n6_ n7_ n8_ n9_; clear hb hbox hg; have hnb36 := NB110_103.out; have hnc36 := NB103_110.out; have hnb37 := NB110_111.out; have hnc37 := NB111_110.out; have hcz38_0 : w35.cell? ⟨gb110, 0, none⟩ = some (.int .i64 0) := (blk_cell BK110.out 0).trans rfl; have hcz38_1 : w35.cell? ⟨gb110, 1, none⟩ = some (.int .i64 0) := (blk_cell BK110.out 1).trans rfl; have hfz38_0 := blk_frozen BK110.out 0; have hfz38_1 := blk_frozen BK110.out 1; have hnb39 := NB111_103.out; have hnc39 := NB103_111.out; have hcz40_0 : w35.cell? ⟨gb111, 0, none⟩ = some (.int .i64 0) := (blk_cell BK111.out 0).trans rfl; have hcz40_1 : w35.cell? ⟨gb111, 1, none⟩ = some (.int .i64 0) := (blk_cell BK111.out 1).trans rfl; have hfz40_0 := blk_frozen BK111.out 0; have hfz40_1 := blk_frozen BK111.out 1) | ((with_reducible refine gate_dst (N := 14) rfl ?_); refine box_event ?hg (N := 14) ?hd (cs := #[.int .i64 0, .int .i64 0]) (t := 23) ?hr ?_; (case hd => rfl); (case hg => rfl); (case hr => first | (go_simp; done) | (go_simp; rfl)); intro gb112 hg w41 hbox hb; have n0_ := Aside0.mk (blk_below (g := gb103) (o := .cells #[.int .i64 0, .int .i64 0] 23 (0, 0)) (by (with_reducible repeat (first | refine blk_drewN ?_ _ | refine blk_drew ?_ | refine blk_alloc ?_ _)); refine blk_far ?_ NB103_111.out _; (with_reducible repeat (first | refine blk_drewN ?_ _ | refine blk_drew ?_ | refine blk_alloc ?_ _)); refine blk_far ?_ NB103_111.out _; (with_reducible repeat (first | refine blk_drewN ?_ _ | refine blk_drew ?_ | refine blk_alloc ?_ _)); refine blk_far ?_ NB103_110.out _; (with_reducible repeat (first | refine blk_drewN ?_ _ | refine blk_drew ?_ | refine blk_alloc ?_ _)); refine blk_far ?_ NB103_110.out _; (with_reducible repeat (first | refine blk_drewN ?_ _ | refine blk_drew ?_ | refine blk_alloc ?_ _)); exact BK103.out) hb); have n1_ := Aside0.mk (blk_below (g := gb110) (o := .cells #[.int .i64 t106, .int .i64 t107] 23 (0, 0)) (by (with_reducible repeat (first | refine blk_drewN ?_ _ | refine blk_drew ?_ | refine blk_alloc ?_ _)); refine blk_far ?_ NB110_111.out _; (with_reducible repeat (first | refine blk_drewN ?_ _ | refine blk_drew ?_ | refine blk_alloc ?_ _)); refine blk_far ?_ NB110_111.out _; (with_reducible repeat (first | refine blk_drewN ?_ _ | refine blk_drew ?_ | refine blk_alloc ?_ _)); refine blk_put (cs := #[.int .i64 t106, .int .i64 0]) ?_ 1 _ rfl; (with_reducible repeat (first | refine blk_drewN ?_ _ | refine blk_drew ?_ | refine blk_alloc ?_ _)); refine blk_put (cs := #[.int .i64 0, .int .i64 0]) ?_ 0 _ rfl; (with_reducible repeat (first | refine blk_drewN ?_ _ | refine blk_drew ?_ | refine blk_alloc ?_ _)); exact BK110.out) hb); have n2_ := Aside0.mk (blk_below (g := gb111) (o := .cells #[.int .i64 t108, .int .i64 t109] 23 (0, 0)) (by (with_reducible repeat (first | refine blk_drewN ?_ _ | refine blk_drew ?_ | refine blk_alloc ?_ _)); refine blk_put (cs := #[.int .i64 t108, .int .i64 0]) ?_ 1 _ rfl; (with_reducible repeat (first | refine blk_drewN ?_ _ | refine blk_drew ?_ | refine blk_alloc ?_ _)); refine blk_put (cs := #[.int .i64 0, .int .i64 0]) ?_ 0 _ rfl; (with_reducible repeat (first | refine blk_drewN ?_ _ | refine blk_drew ?_ | refine blk_alloc ?_ _)); refine blk_far ?_ NB111_110.out _; (with_reducible repeat (first | refine blk_drewN ?_ _ | refine blk_drew ?_ | refine blk_alloc ?_ _)); refine blk_far ?_ NB111_110.out _; (with_reducible repeat (first | refine blk_drewN ?_ _ | refine blk_drew ?_ | refine blk_alloc ?_ _)); exact BK111.out) hb); have n3_ := Aside0.mk (below_step (q3_ HB.out GE103.out GE110.out GE111.out) hb); have n4_ := Aside0.mk (hbox); have n5_ := Aside0.mk ((by rw [hg]; exact (below_size (q3_ HB.out GE103.out GE110.out GE111.out)) : w.heap.size ≤ gb112)); have n6_ := Aside0.mk ((by rw [hg]; exact (below_size (q3_ HB.out GE103.out GE110.out GE111.out)) : w.heap.size ≤ gb112)); have n7_ := Aside0.mk ((by rw [hg]; exact Nat.ne_of_lt (blk_lt (g := gb103) (o := .cells #[.int .i64 0, .int .i64 0] 23 (0, 0)) (by (with_reducible repeat (first | refine blk_drewN ?_ _ | refine blk_drew ?_ | refine blk_alloc ?_ _)); refine blk_far ?_ NB103_111.out _; (with_reducible repeat (first | refine blk_drewN ?_ _ | refine blk_drew ?_ | refine blk_alloc ?_ _)); refine blk_far ?_ NB103_111.out _; (with_reducible repeat (first | refine blk_drewN ?_ _ | refine blk_drew ?_ | refine blk_alloc ?_ _)); refine blk_far ?_ NB103_110.out _; (with_reducible repeat (first | refine blk_drewN ?_ _ | refine blk_drew ?_ | refine blk_alloc ?_ _)); refine blk_far ?_ NB103_110.out _; (with_reducible repeat (first | refine blk_drewN ?_ _ | refine blk_drew ?_ | refine blk_alloc ?_ _)); exact BK103.out)) : gb103 ≠ gb112)); have n8_ := Aside0.mk ((by rw [hg]; exact Nat.ne_of_gt (blk_lt (g := gb103) (o := .cells #[.int .i64 0, .int .i64 0] 23 (0, 0)) (by (with_reducible repeat (first | refine blk_drewN ?_ _ | refine blk_drew ?_ | refine blk_alloc ?_ _)); refine blk_far ?_ NB103_111.out _; (with_reducible repeat (first | refine blk_drewN ?_ _ | refine blk_drew ?_ | refine blk_alloc ?_ _)); refine blk_far ?_ NB103_111.out _; (with_reducible repeat (first | refine blk_drewN ?_ _ | refine blk_drew ?_ | refine blk_alloc ?_ _)); refine blk_far ?_ NB103_110.out _; (with_reducible repeat (first | refine blk_drewN ?_ _ | refine blk_drew ?_ | refine blk_alloc ?_ _)); refine blk_far ?_ NB103_110.out _; (with_reducible repeat (first | refine blk_drewN ?_ _ | refine blk_drew ?_ | refine blk_alloc ?_ _)); exact BK103.out)) : gb112 ≠ gb103)); have n9_ := Aside0.mk ((by rw [hg]; exact Nat.ne_of_lt (blk_lt (g := gb110) (o := .cells #[.int .i64 t106, .int .i64 t107] 23 (0, 0)) (by (with_reducible repeat (first | refine blk_drewN ?_ _ | refine blk_drew ?_ | refine blk_alloc ?_ _)); refine blk_far ?_ NB110_111.out _; (with_reducible repeat (first | refine blk_drewN ?_ _ | refine blk_drew ?_ | refine blk_alloc ?_ _)); refine blk_far ?_ NB110_111.out _; (with_reducible repeat (first | refine blk_drewN ?_ _ | refine blk_drew ?_ | refine blk_alloc ?_ _)); refine blk_put (cs := #[.int .i64 t106, .int .i64 0]) ?_ 1 _ rfl; (with_reducible repeat (first | refine blk_drewN ?_ _ | refine blk_drew ?_ | refine blk_alloc ?_ _)); refine blk_put (cs := #[.int .i64 0, .int .i64 0]) ?_ 0 _ rfl; (with_reducible repeat (first | refine blk_drewN ?_ _ | refine blk_drew ?_ | refine blk_alloc ?_ _)); exact BK110.out)) : gb110 ≠ gb112)); have n10_ := Aside0.mk ((by rw [hg]; exact Nat.ne_of_gt (blk_lt (g := gb110) (o := .cells #[.int .i64 t106, .int .i64 t107] 23 (0, 0)) (by (with_reducible repeat (first | refine blk_drewN ?_ _ | refine blk_drew ?_ | refine blk_alloc ?_ _)); refine blk_far ?_ NB110_111.out _; (with_reducible repeat (first | refine blk_drewN ?_ _ | refine blk_drew ?_ | refine blk_alloc ?_ _)); refine blk_far ?_ NB110_111.out _; (with_reducible repeat (first | refine blk_drewN ?_ _ | refine blk_drew ?_ | refine blk_alloc ?_ _)); refine blk_put (cs := #[.int .i64 t106, .int .i64 0]) ?_ 1 _ rfl; (with_reducible repeat (first | refine blk_drewN ?_ _ | refine blk_drew ?_ | refine blk_alloc ?_ _)); refine blk_put (cs := #[.int .i64 0, .int .i64 0]) ?_ 0 _ rfl; (with_reducible repeat (first | refine blk_drewN ?_ _ | refine blk_drew ?_ | refine blk_alloc ?_ _)); exact BK110.out)) : gb112 ≠ gb110)); have n11_ := Aside0.mk ((by rw [hg]; exact Nat.ne_of_lt (blk_lt (g := gb111) (o := .cells #[.int .i64 t108, .int .i64 t109] 23 (0, 0)) (by (with_reducible repeat (first | refine blk_drewN ?_ _ | refine blk_drew ?_ | refine blk_alloc ?_ _)); refine blk_put (cs := #[.int .i64 t108, .int .i64 0]) ?_ 1 _ rfl; (with_reducible repeat (first | refine blk_drewN ?_ _ | refine blk_drew ?_ | refine blk_alloc ?_ _)); refine blk_put (cs := #[.int .i64 0, .int .i64 0]) ?_ 0 _ rfl; (with_reducible repeat (first | refine blk_drewN ?_ _ | refine blk_drew ?_ | refine blk_alloc ?_ _)); refine blk_far ?_ NB111_110.out _; (with_reducible repeat (first | refine blk_drewN ?_ _ | refine blk_drew ?_ | refine blk_alloc ?_ _)); refine blk_far ?_ NB111_110.out _; (with_reducible repeat (first | refine blk_drewN ?_ _ | refine blk_drew ?_ | refine blk_alloc ?_ _)); exact BK111.out)) : gb111 ≠ gb112)); have n12_ := Aside0.mk ((by rw [hg]; exact Nat.ne_of_gt (blk_lt (g := gb111) (o := .cells #[.int .i64 t108, .int .i64 t109] 23 (0, 0)) (by (with_reducible repeat (first | refine blk_drewN ?_ _ | refine blk_drew ?_ | refine blk_alloc ?_ _)); refine blk_put (cs := #[.int .i64 t108, .int .i64 0]) ?_ 1 _ rfl; (with_reducible repeat (first | refine blk_drewN ?_ _ | refine blk_drew ?_ | refine blk_alloc ?_ _)); refine blk_put (cs := #[.int .i64 0, .int .i64 0]) ?_ 0 _ rfl; (with_reducible repeat (first | refine blk_drewN ?_ _ | refine blk_drew ?_ | refine blk_alloc ?_ _)); refine blk_far ?_ NB111_110.out _; (with_reducible repeat (first | refine blk_drewN ?_ _ | refine blk_drew ?_ | refine blk_alloc ?_ _)); refine blk_far ?_ NB111_110.out _; (with_reducible repeat (first | refine blk_drewN ?_ _ | refine blk_drew ?_ | refine blk_alloc ?_ _)); exact BK111.out)) : gb112 ≠ gb111)); clear BK103; clear BK110; clear BK111; clear HB; have BK103 := n0_; have BK110 := n1_; have BK111 := n2_; have HB := n3_; have BK112 := n4_; have GW112 := n5_; have GE112 := n6_; have NB103_112 := n7_; have NB112_103 := n8_; have NB110_112 := n9_; have NB112_110 := n10_; have NB111_112 := n11_; have NB112_111 := n12_; clear n0_ n1_ n2_ n3_ n4_ n5_ n6_ n7_ n8_ n9_ n10_ n11_ n12_; clear hb hbox hg; have hnb42 := NB112_103.out; have hnc42 := NB103_112.out; have hnb43 := NB112_110.out; have hnc43 := NB110_112.out; have hnb44 := NB112_111.out; have hnc44 := NB111_112.out; have hcz45_0 : w41.cell? ⟨gb112, 0, none⟩ = some (.int .i64 0) := (blk_cell BK112.out 0).trans rfl; have hcz45_1 : w41.cell? ⟨gb112, 1, none⟩ = some (.int .i64 0) := (blk_cell BK112.out 1).trans rfl; have hfz45_0 := blk_frozen BK112.out 0; have hfz45_1 := blk_frozen BK112.out 1; have hcz46_0 : w41.cell? ⟨gb111, 0, none⟩ = some (.int .i64 t108) := (blk_cell BK111.out 0).trans rfl; have hcz46_1 : w41.cell? ⟨gb111, 1, none⟩ = some (.int .i64 t109) := (blk_cell BK111.out 1).trans rfl; have hfz46_0 := blk_frozen BK111.out 0; have hfz46_1 := blk_frozen BK111.out 1; have hcz47_0 : w41.cell? ⟨gb110, 0, none⟩ = some (.int .i64 t106) := (blk_cell BK110.out 0).trans rfl; have hcz47_1 : w41.cell? ⟨gb110, 1, none⟩ = some (.int .i64 t107) := (blk_cell BK110.out 1).trans rfl; have hfz47_0 := blk_frozen BK110.out 0; have hfz47_1 := blk_frozen BK110.out 1; have hcz48_0 : w41.cell? ⟨gb103, 0, none⟩ = some (.int .i64 0) := (blk_cell BK103.out 0).trans rfl; have hcz48_1 : w41.cell? ⟨gb103, 1, none⟩ = some (.int .i64 0) := (blk_cell BK103.out 1).trans rfl; have hfz48_0 := blk_frozen BK103.out 0; have hfz48_1 := blk_frozen BK103.out 1))
              have hX_ : ((((w41.setCell ⟨gb112, 0, none⟩ (.int .i64 t106)).setCell ⟨gb112, 1, none⟩ (.int .i64 t107)).setCell ⟨gb112, 0, none⟩ (.int .i64 t108)).setCell ⟨gb112, 1, none⟩ (.int .i64 t109)).heap[gb112]? = some (.cells #[.int .i64 t108, .int .i64 t109] 23 (0, 0)) := blk_put (cs := #[.int .i64 t108, .int .i64 t107]) (blk_put (cs := #[.int .i64 t106, .int .i64 t107]) (blk_put (cs := #[.int .i64 t106, .int .i64 0]) (blk_put (cs := #[.int .i64 0, .int .i64 0]) BK112.out 0 _ rfl) 1 _ rfl) 0 _ rfl) 1 _ rfl
              have hX0_ := (blk_cell hX_ 0).trans rfl
              have hX1_ := (blk_cell hX_ 1).trans rfl
              have hXf0_ := blk_frozen hX_ 0
              have hXf1_ := blk_frozen hX_ 1
              clear hX_
              go_wp2
              refine bodyPost_ret (results_ct rfl _ _ gb103 23 #[.int .i64 (wrap64 (t108 + (wrap64 (t104 * t109)))), .int .i64 t109] (0, 0) _ rfl (by (with_reducible repeat (first | refine blk_drewN ?_ _ | refine blk_drew ?_ | refine blk_alloc ?_ _)); refine blk_put (cs := #[.int .i64 (wrap64 (t108 + (wrap64 (t104 * t109)))), .int .i64 0]) ?_ 1 _ rfl; (with_reducible repeat (first | refine blk_drewN ?_ _ | refine blk_drew ?_ | refine blk_alloc ?_ _)); refine blk_put (cs := #[.int .i64 0, .int .i64 0]) ?_ 0 _ rfl; (with_reducible repeat (first | refine blk_drewN ?_ _ | refine blk_drew ?_ | refine blk_alloc ?_ _)); refine blk_far ?_ NB103_112.out _; (with_reducible repeat (first | refine blk_drewN ?_ _ | refine blk_drew ?_ | refine blk_alloc ?_ _)); refine blk_far ?_ NB103_112.out _; (with_reducible repeat (first | refine blk_drewN ?_ _ | refine blk_drew ?_ | refine blk_alloc ?_ _)); refine blk_far ?_ NB103_112.out _; (with_reducible repeat (first | refine blk_drewN ?_ _ | refine blk_drew ?_ | refine blk_alloc ?_ _)); refine blk_far ?_ NB103_112.out _; (with_reducible repeat (first | refine blk_drewN ?_ _ | refine blk_drew ?_ | refine blk_alloc ?_ _)); refine blk_far ?_ NB103_112.out _; (with_reducible repeat (first | refine blk_drewN ?_ _ | refine blk_drew ?_ | refine blk_alloc ?_ _)); exact BK103.out) Tryd.underlying23 rfl (by kernel_rfl)) rfl ?_
              exact ⟨by first | rfl | (simp [errW_none, errW_some] <;> rfl) | (simp [*, errW_none, errW_some] <;> rfl), (q4_ HB.out GE103.out GE110.out GE111.out GE112.out)⟩
            · rw [if_neg c32] at H
              have c32b0 : decide (t109 < t107) = false := decide_eq_false c32
              clear c32
              simp only [Option.some.injEq, Prod.mk.injEq] at H
              obtain ⟨rfl, rfl, rfl⟩ := H
              go_wp2_with (first | ((with_reducible refine gate_callee (f := 70) rfl ?_); refine goesL_ (some 41) rfl rfl Tryd.func70 (by kernel_rfl) rfl #[.int .i64 a0, .int .i64 a1] rfl qe_ ?_; (with_reducible refine (num_down.calls a0 a1 t104 t105 _ A13.out).mono ?_); rintro e w' ⟨rfl, ⟨nd, rfl⟩⟩; refine ⟨_, rfl, ?_⟩; (try (rw [drewN_self wc]; generalize hq_ : World.drewN wc _ = wc; have n0_ : Aside0 (wc.heap[gb103]? = some (.cells #[.int .i64 0, .int .i64 0] 23 (0, 0))) := ⟨by rw [← hq_]; exact (qb_ BK103.out)⟩; have n1_ : Aside0 (Below w.heap.size w wc) := ⟨by rw [← hq_]; exact (q1_ HB.out GE103.out)⟩; clear BK103 HB hq_; have BK103 := n0_; have HB := n1_; clear n0_ n1_))) | ((with_reducible refine gate_callee (f := 71) rfl ?_); refine goesL_ (some 48) rfl rfl Tryd.func71 (by kernel_rfl) rfl #[.int .i64 t105, .int .i64 a1, .int .i64 a2] rfl qe_ ?_; (with_reducible refine (num_around.calls kj3 t105 a1 a2 t106 t107 t108 t109 _ A14.out).mono ?_); rintro e w49 ⟨rfl, hb⟩; refine ⟨_, rfl, ?_⟩; have n0_ := Aside0.mk (blk_below (g := gb103) (o := .cells #[.int .i64 0, .int .i64 0] 23 (0, 0)) (qb_ BK103.out) hb); have n1_ := Aside0.mk (below_step (q1_ HB.out GE103.out) hb); clear BK103; clear HB; have BK103 := n0_; have HB := n1_; clear n0_ n1_; (try clear hb); (try clear hb2); (try clear hk); (try clear hi)) | ((with_reducible refine gate_dst (N := 10) rfl ?_); refine box_event ?hg (N := 10) ?hd (cs := #[.int .i64 0, .int .i64 0]) (t := 23) ?hr ?_; (case hd => rfl); (case hg => rfl); (case hr => first | (go_simp; done) | (go_simp; rfl)); intro gb110 hg w50 hbox hb; have n0_ := Aside0.mk (blk_below (g := gb103) (o := .cells #[.int .i64 0, .int .i64 0] 23 (0, 0)) (qb_ BK103.out) hb); have n1_ := Aside0.mk (below_step (q1_ HB.out GE103.out) hb); have n2_ := Aside0.mk (hbox); have n3_ := Aside0.mk ((by rw [hg]; exact (below_size (q1_ HB.out GE103.out)) : w.heap.size ≤ gb110)); have n4_ := Aside0.mk ((by rw [hg]; exact (below_size (q1_ HB.out GE103.out)) : w.heap.size ≤ gb110)); have n5_ := Aside0.mk ((by rw [hg]; exact Nat.ne_of_lt (blk_lt (g := gb103) (o := .cells #[.int .i64 0, .int .i64 0] 23 (0, 0)) (qb_ BK103.out)) : gb103 ≠ gb110)); have n6_ := Aside0.mk ((by rw [hg]; exact Nat.ne_of_gt (blk_lt (g := gb103) (o := .cells #[.int .i64 0, .int .i64 0] 23 (0, 0)) (qb_ BK103.out)) : gb110 ≠ gb103)); clear BK103; clear HB; have BK103 := n0_; have HB := n1_; have BK110 := n2_; have GW110 := n3_; have GE110 := n4_; have NB103_110 := n5_; have NB110_103 := n6_; clear n0_ n1_ n2_ n3_ n4_ n5_ n6_; clear hb hbox hg) | ((with_reducible refine gate_dst (N := 11) rfl ?_); refine box_event ?hg (N := 11) ?hd (cs := #[.int .i64 0, .int .i64 0]) (t := 23) ?hr ?_; (case hd => rfl); (case hg => rfl); (case hr => first | (go_simp; done) | (go_simp; rfl)); intro gb111 hg w51 hbox hb; have n0_ := Aside0.mk (blk_below (g := gb103) (o := .cells #[.int .i64 0, .int .i64 0] 23 (0, 0)) (qb_ BK103.out) hb); have n1_ := Aside0.mk (blk_below (g := gb110) (o := .cells #[.int .i64 0, .int .i64 0] 23 (0, 0)) (qb_ BK110.out) hb); have n2_ := Aside0.mk (below_step (q2_ HB.out GE103.out GE110.out) hb); have n3_ := Aside0.mk (hbox); have n4_ := Aside0.mk ((by rw [hg]; exact (below_size (q2_ HB.out GE103.out GE110.out)) : w.heap.size ≤ gb111)); have n5_ := Aside0.mk ((by rw [hg]; exact (below_size (q2_ HB.out GE103.out GE110.out)) : w.heap.size ≤ gb111)); have n6_ := Aside0.mk ((by rw [hg]; exact Nat.ne_of_lt (blk_lt (g := gb103) (o := .cells #[.int .i64 0, .int .i64 0] 23 (0, 0)) (qb_ BK103.out)) : gb103 ≠ gb111)); have n7_ := Aside0.mk ((by rw [hg]; exact Nat.ne_of_gt (blk_lt (g := gb103) (o := .cells #[.int .i64 0, .int .i64 0] 23 (0, 0)) (qb_ BK103.out)) : gb111 ≠ gb103)); have n8_ := Aside0.mk ((by rw [hg]; exact Nat.ne_of_lt (blk_lt (g := gb110) (o := .cells #[.int .i64 0, .int .i64 0] 23 (0, 0)) (qb_ BK110.out)) : gb110 ≠ gb111)); have n9_ := Aside0.mk ((by rw [hg]; exact Nat.ne_of_gt (blk_lt (g := gb110) (o := .cells #[.int .i64 0, .int .i64 0] 23 (0, 0)) (qb_ BK110.out)) : gb111 ≠ gb110)); clear BK103; clear BK110; clear HB; have BK103 := n0_; have BK110 := n1_; have HB := n2_; have BK111 := n3_; have GW111 := n4_; have GE111 := n5_; have NB103_111 := n6_; have NB111_103 := n7_; have NB110_111 := n8_; have NB111_110 := n9_; clear n0_ n1_ n2_ n3_ n4_ n5_ n6_ n7_ n8_ n9_; clear hb hbox hg; have hnb52 := NB110_103.out; have hnc52 := NB103_110.out; have hnb53 := NB110_111.out; have hnc53 := NB111_110.out; have hcz54_0 : w51.cell? ⟨gb110, 0, none⟩ = some (.int .i64 0) := (blk_cell BK110.out 0).trans rfl; have hcz54_1 : w51.cell? ⟨gb110, 1, none⟩ = some (.int .i64 0) := (blk_cell BK110.out 1).trans rfl; have hfz54_0 := blk_frozen BK110.out 0; have hfz54_1 := blk_frozen BK110.out 1; have hnb55 := NB111_103.out; have hnc55 := NB103_111.out; have hcz56_0 : w51.cell? ⟨gb111, 0, none⟩ = some (.int .i64 0) := (blk_cell BK111.out 0).trans rfl; have hcz56_1 : w51.cell? ⟨gb111, 1, none⟩ = some (.int .i64 0) := (blk_cell BK111.out 1).trans rfl; have hfz56_0 := blk_frozen BK111.out 0; have hfz56_1 := blk_frozen BK111.out 1) | ((with_reducible refine gate_dst (N := 14) rfl ?_); refine box_event ?hg (N := 14) ?hd (cs := #[.int .i64 0, .int .i64 0]) (t := 23) ?hr ?_; (case hd => rfl); (case hg => rfl); (case hr => first | (go_simp; done) | (go_simp; rfl)); intro gb112 hg w57 hbox hb; have n0_ := Aside0.mk (blk_below (g := gb103) (o := .cells #[.int .i64 0, .int .i64 0] 23 (0, 0)) (by (with_reducible repeat (first | refine blk_drewN ?_ _ | refine blk_drew ?_ | refine blk_alloc ?_ _)); refine blk_far ?_ NB103_111.out _; (with_reducible repeat (first | refine blk_drewN ?_ _ | refine blk_drew ?_ | refine blk_alloc ?_ _)); refine blk_far ?_ NB103_111.out _; (with_reducible repeat (first | refine blk_drewN ?_ _ | refine blk_drew ?_ | refine blk_alloc ?_ _)); refine blk_far ?_ NB103_110.out _; (with_reducible repeat (first | refine blk_drewN ?_ _ | refine blk_drew ?_ | refine blk_alloc ?_ _)); refine blk_far ?_ NB103_110.out _; (with_reducible repeat (first | refine blk_drewN ?_ _ | refine blk_drew ?_ | refine blk_alloc ?_ _)); exact BK103.out) hb); have n1_ := Aside0.mk (blk_below (g := gb110) (o := .cells #[.int .i64 t106, .int .i64 t107] 23 (0, 0)) (by (with_reducible repeat (first | refine blk_drewN ?_ _ | refine blk_drew ?_ | refine blk_alloc ?_ _)); refine blk_far ?_ NB110_111.out _; (with_reducible repeat (first | refine blk_drewN ?_ _ | refine blk_drew ?_ | refine blk_alloc ?_ _)); refine blk_far ?_ NB110_111.out _; (with_reducible repeat (first | refine blk_drewN ?_ _ | refine blk_drew ?_ | refine blk_alloc ?_ _)); refine blk_put (cs := #[.int .i64 t106, .int .i64 0]) ?_ 1 _ rfl; (with_reducible repeat (first | refine blk_drewN ?_ _ | refine blk_drew ?_ | refine blk_alloc ?_ _)); refine blk_put (cs := #[.int .i64 0, .int .i64 0]) ?_ 0 _ rfl; (with_reducible repeat (first | refine blk_drewN ?_ _ | refine blk_drew ?_ | refine blk_alloc ?_ _)); exact BK110.out) hb); have n2_ := Aside0.mk (blk_below (g := gb111) (o := .cells #[.int .i64 t108, .int .i64 t109] 23 (0, 0)) (by (with_reducible repeat (first | refine blk_drewN ?_ _ | refine blk_drew ?_ | refine blk_alloc ?_ _)); refine blk_put (cs := #[.int .i64 t108, .int .i64 0]) ?_ 1 _ rfl; (with_reducible repeat (first | refine blk_drewN ?_ _ | refine blk_drew ?_ | refine blk_alloc ?_ _)); refine blk_put (cs := #[.int .i64 0, .int .i64 0]) ?_ 0 _ rfl; (with_reducible repeat (first | refine blk_drewN ?_ _ | refine blk_drew ?_ | refine blk_alloc ?_ _)); refine blk_far ?_ NB111_110.out _; (with_reducible repeat (first | refine blk_drewN ?_ _ | refine blk_drew ?_ | refine blk_alloc ?_ _)); refine blk_far ?_ NB111_110.out _; (with_reducible repeat (first | refine blk_drewN ?_ _ | refine blk_drew ?_ | refine blk_alloc ?_ _)); exact BK111.out) hb); have n3_ := Aside0.mk (below_step (q3_ HB.out GE103.out GE110.out GE111.out) hb); have n4_ := Aside0.mk (hbox); have n5_ := Aside0.mk ((by rw [hg]; exact (below_size (q3_ HB.out GE103.out GE110.out GE111.out)) : w.heap.size ≤ gb112)); have n6_ := Aside0.mk ((by rw [hg]; exact (below_size (q3_ HB.out GE103.out GE110.out GE111.out)) : w.heap.size ≤ gb112)); have n7_ := Aside0.mk ((by rw [hg]; exact Nat.ne_of_lt (blk_lt (g := gb103) (o := .cells #[.int .i64 0, .int .i64 0] 23 (0, 0)) (by (with_reducible repeat (first | refine blk_drewN ?_ _ | refine blk_drew ?_ | refine blk_alloc ?_ _)); refine blk_far ?_ NB103_111.out _; (with_reducible repeat (first | refine blk_drewN ?_ _ | refine blk_drew ?_ | refine blk_alloc ?_ _)); refine blk_far ?_ NB103_111.out _; (with_reducible repeat (first | refine blk_drewN ?_ _ | refine blk_drew ?_ | refine blk_alloc ?_ _)); refine blk_far ?_ NB103_110.out _; (with_reducible repeat (first | refine blk_drewN ?_ _ | refine blk_drew ?_ | refine blk_alloc ?_ _)); refine blk_far ?_ NB103_110.out _; (with_reducible repeat (first | refine blk_drewN ?_ _ | refine blk_drew ?_ | refine blk_alloc ?_ _)); exact BK103.out)) : gb103 ≠ gb112)); have n8_ := Aside0.mk ((by rw [hg]; exact Nat.ne_of_gt (blk_lt (g := gb103) (o := .cells #[.int .i64 0, .int .i64 0] 23 (0, 0)) (by (with_reducible repeat (first | refine blk_drewN ?_ _ | refine blk_drew ?_ | refine blk_alloc ?_ _)); refine blk_far ?_ NB103_111.out _; (with_reducible repeat (first | refine blk_drewN ?_ _ | refine blk_drew ?_ | refine blk_alloc ?_ _)); refine blk_far ?_ NB103_111.out _; (with_reducible repeat (first | refine blk_drewN ?_ _ | refine blk_drew ?_ | refine blk_alloc ?_ _)); refine blk_far ?_ NB103_110.out _; (with_reducible repeat (first | refine blk_drewN ?_ _ | refine blk_drew ?_ | refine blk_alloc ?_ _)); refine blk_far ?_ NB103_110.out _; (with_reducible repeat (first | refine blk_drewN ?_ _ | refine blk_drew ?_ | refine blk_alloc ?_ _)); exact BK103.out)) : gb112 ≠ gb103)); have n9_ := Aside0.mk ((by rw [hg]; exact Nat.ne_of_lt (blk_lt (g := gb110) (o := .cells #[.int .i64 t106, .int .i64 t107] 23 (0, 0)) (by (with_reducible repeat (first | refine blk_drewN ?_ _ | refine blk_drew ?_ | refine blk_alloc ?_ _)); refine blk_far ?_ NB110_111.out _; (with_reducible repeat (first | refine blk_drewN ?_ _ | refine blk_drew ?_ | refine blk_alloc ?_ _)); refine blk_far ?_ NB110_111.out _; (with_reducible repeat (first | refine blk_drewN ?_ _ | refine blk_drew ?_ | refine blk_alloc ?_ _)); refine blk_put (cs := #[.int .i64 t106, .int .i64 0]) ?_ 1 _ rfl; (with_reducible repeat (first | refine blk_drewN ?_ _ | refine blk_drew ?_ | refine blk_alloc ?_ _)); refine blk_put (cs := #[.int .i64 0, .int .i64 0]) ?_ 0 _ rfl; (with_reducible repeat (first | refine blk_drewN ?_ _ | refine blk_drew ?_ | refine blk_alloc ?_ _)); exact BK110.out)) : gb110 ≠ gb112)); have n10_ := Aside0.mk ((by rw [hg]; exact Nat.ne_of_gt (blk_lt (g := gb110) (o := .cells #[.int .i64 t106, .int .i64 t107] 23 (0, 0)) (by (with_reducible repeat (first | refine blk_drewN ?_ _ | refine blk_drew ?_ | refine blk_alloc ?_ _)); refine blk_far ?_ NB110_111.out _; (with_reducible repeat (first | refine blk_drewN ?_ _ | refine blk_drew ?_ | refine blk_alloc ?_ _)); refine blk_far ?_ NB110_111.out _; (with_reducible repeat (first | refine blk_drewN ?_ _ | refine blk_drew ?_ | refine blk_alloc ?_ _)); refine blk_put (cs := #[.int .i64 t106, .int .i64 0]) ?_ 1 _ rfl; (with_reducible repeat (first | refine blk_drewN ?_ _ | refine blk_drew ?_ | refine blk_alloc ?_ _)); refine blk_put (cs := #[.int .i64 0, .int .i64 0]) ?_ 0 _ rfl; (with_reducible repeat (first | refine blk_drewN ?_ _ | refine blk_drew ?_ | refine blk_alloc ?_ _)); exact BK110.out)) : gb112 ≠ gb110)); have n11_ := Aside0.mk ((by rw [hg]; exact Nat.ne_of_lt (blk_lt (g := gb111) (o := .cells #[.int .i64 t108, .int .i64 t109] 23 (0, 0)) (by (with_reducible repeat (first | refine blk_drewN ?_ _ | refine blk_drew ?_ | refine blk_alloc ?_ _)); refine blk_put (cs := #[.int .i64 t108, .int .i64 0]) ?_ 1 _ rfl; (with_reducible repeat (first | refine blk_drewN ?_ _ | refine blk_drew ?_ | refine blk_alloc ?_ _)); refine blk_put (cs := #[.int .i64 0, .int .i64 0]) ?_ 0 _ rfl; (with_reducible repeat (first | refine blk_drewN ?_ _ | refine blk_drew ?_ | refine blk_alloc ?_ _)); refine blk_far ?_ NB111_110.out _; (with_reducible repeat (first | refine blk_drewN ?_ _ | refine blk_drew ?_ | refine blk_alloc ?_ _)); refine blk_far ?_ NB111_110.out _; (with_reducible repeat (first | refine blk_drewN ?_ _ | refine blk_drew ?_ | refine blk_alloc ?_ _)); exact BK111.out)) : gb111 ≠ gb112)); have n12_ := Aside0.mk ((by rw [hg]; exact Nat.ne_of_gt (blk_lt (g := gb111) (o := .cells #[.int .i64 t108, .int .i64 t109] 23 (0, 0)) (by (with_reducible repeat (first | refine blk_drewN ?_ _ | refine blk_drew ?_ | refine blk_alloc ?_ _)); refine blk_put (cs := #[.int .i64 t108, .int .i64 0]) ?_ 1 _ rfl; (with_reducible repeat (first | refine blk_drewN ?_ _ | refine blk_drew ?_ | refine blk_alloc ?_ _)); refine blk_put (cs := #[.int .i64 0, .int .i64 0]) ?_ 0 _ rfl; (with_reducible repeat (first | refine blk_drewN ?_ _ | refine blk_drew ?_ | refine blk_alloc ?_ _)); refine blk_far ?_ NB111_110.out _; (with_reducible repeat (first | refine blk_drewN ?_ _ | refine blk_drew ?_ | refine blk_alloc ?_ _)); refine blk_far ?_ NB111_110.out _; (with_reducible repeat (first | refine blk_drewN ?_ _ | refine blk_drew ?_ | refine blk_alloc ?_ _)); exact BK111.out)) : gb112 ≠ gb111)); clear BK103; clear BK110; clear BK111; clear HB; have BK103 := n0_; have BK110 := n1_; have BK111 := n2_; have HB := n3_; have BK112 := n4_; have GW112 := n5_; have GE112 := n6_; have NB103_112 := n7_; have NB112_103 := n8_; have NB110_112 := n9_; have NB112_110 := n10_; have NB111_112 := n11_; have NB112_111 := n12_; clear n0_ n1_ n2_ n3_ n4_ n5_ n6_ n7_ n8_ n9_ n10_ n11_ n12_; clear hb hbox hg; have hnb58 := NB112_103.out; have hnc58 := NB103_112.out; have hnb59 := NB112_110.out; have hnc59 := NB110_112.out; have hnb60 := NB112_111.out; have hnc60 := NB111_112.out; have hcz61_0 : w57.cell? ⟨gb112, 0, none⟩ = some (.int .i64 0) := (blk_cell BK112.out 0).trans rfl; have hcz61_1 : w57.cell? ⟨gb112, 1, none⟩ = some (.int .i64 0) := (blk_cell BK112.out 1).trans rfl; have hfz61_0 := blk_frozen BK112.out 0; have hfz61_1 := blk_frozen BK112.out 1; have hcz62_0 : w57.cell? ⟨gb111, 0, none⟩ = some (.int .i64 t108) := (blk_cell BK111.out 0).trans rfl; have hcz62_1 : w57.cell? ⟨gb111, 1, none⟩ = some (.int .i64 t109) := (blk_cell BK111.out 1).trans rfl; have hfz62_0 := blk_frozen BK111.out 0; have hfz62_1 := blk_frozen BK111.out 1; have hcz63_0 : w57.cell? ⟨gb110, 0, none⟩ = some (.int .i64 t106) := (blk_cell BK110.out 0).trans rfl; have hcz63_1 : w57.cell? ⟨gb110, 1, none⟩ = some (.int .i64 t107) := (blk_cell BK110.out 1).trans rfl; have hfz63_0 := blk_frozen BK110.out 0; have hfz63_1 := blk_frozen BK110.out 1; have hcz64_0 : w57.cell? ⟨gb103, 0, none⟩ = some (.int .i64 0) := (blk_cell BK103.out 0).trans rfl; have hcz64_1 : w57.cell? ⟨gb103, 1, none⟩ = some (.int .i64 0) := (blk_cell BK103.out 1).trans rfl; have hfz64_0 := blk_frozen BK103.out 0; have hfz64_1 := blk_frozen BK103.out 1))
              refine bodyPost_ret (results_ct rfl _ _ gb103 23 #[.int .i64 (wrap64 (t106 + (wrap64 (t104 * t107)))), .int .i64 t107] (0, 0) _ rfl (by (with_reducible repeat (first | refine blk_drewN ?_ _ | refine blk_drew ?_ | refine blk_alloc ?_ _)); refine blk_put (cs := #[.int .i64 (wrap64 (t106 + (wrap64 (t104 * t107)))), .int .i64 0]) ?_ 1 _ rfl; (with_reducible repeat (first | refine blk_drewN ?_ _ | refine blk_drew ?_ | refine blk_alloc ?_ _)); refine blk_put (cs := #[.int .i64 0, .int .i64 0]) ?_ 0 _ rfl; (with_reducible repeat (first | refine blk_drewN ?_ _ | refine blk_drew ?_ | refine blk_alloc ?_ _)); refine blk_far ?_ NB103_112.out _; (with_reducible repeat (first | refine blk_drewN ?_ _ | refine blk_drew ?_ | refine blk_alloc ?_ _)); refine blk_far ?_ NB103_112.out _; (with_reducible repeat (first | refine blk_drewN ?_ _ | refine blk_drew ?_ | refine blk_alloc ?_ _)); refine blk_far ?_ NB103_112.out _; (with_reducible repeat (first | refine blk_drewN ?_ _ | refine blk_drew ?_ | refine blk_alloc ?_ _)); exact BK103.out) Tryd.underlying23 rfl (by kernel_rfl)) rfl ?_
              exact ⟨by first | rfl | (simp [errW_none, errW_some] <;> rfl) | (simp [*, errW_none, errW_some] <;> rfl), (q4_ HB.out GE103.out GE110.out GE111.out GE112.out)⟩
          · rw [if_neg c31] at H
            have c31b0 : ((wrap64 ((wrap64 ((wrap64 (t108 * a1)) - (wrap64 (t105 * t109)))) * t107)) == (wrap64 ((wrap64 ((wrap64 (t105 * t107)) - (wrap64 (t106 * a1)))) * t109))) = false := beq_eq_false_iff_ne.mpr c31
            have c31b1 : ((wrap64 ((wrap64 ((wrap64 (t108 * a1)) - (wrap64 (t105 * t109)))) * t107)) != (wrap64 ((wrap64 ((wrap64 (t105 * t107)) - (wrap64 (t106 * a1)))) * t109))) = true := bne_iff_ne.mpr c31
            simp only [Option.some.injEq, Prod.mk.injEq] at H
            obtain ⟨rfl, rfl, rfl⟩ := H
            go_wp2_with (first | ((with_reducible refine gate_callee (f := 70) rfl ?_); refine goesL_ (some 41) rfl rfl Tryd.func70 (by kernel_rfl) rfl #[.int .i64 a0, .int .i64 a1] rfl qe_ ?_; (with_reducible refine (num_down.calls a0 a1 t104 t105 _ A13.out).mono ?_); rintro e w' ⟨rfl, ⟨nd, rfl⟩⟩; refine ⟨_, rfl, ?_⟩; (try (rw [drewN_self wc]; generalize hq_ : World.drewN wc _ = wc; have n0_ : Aside0 (wc.heap[gb103]? = some (.cells #[.int .i64 0, .int .i64 0] 23 (0, 0))) := ⟨by rw [← hq_]; exact (qb_ BK103.out)⟩; have n1_ : Aside0 (Below w.heap.size w wc) := ⟨by rw [← hq_]; exact (q1_ HB.out GE103.out)⟩; clear BK103 HB hq_; have BK103 := n0_; have HB := n1_; clear n0_ n1_))) | ((with_reducible refine gate_callee (f := 71) rfl ?_); refine goesL_ (some 48) rfl rfl Tryd.func71 (by kernel_rfl) rfl #[.int .i64 t105, .int .i64 a1, .int .i64 a2] rfl qe_ ?_; (with_reducible refine (num_around.calls kj3 t105 a1 a2 t106 t107 t108 t109 _ A14.out).mono ?_); rintro e w65 ⟨rfl, hb⟩; refine ⟨_, rfl, ?_⟩; have n0_ := Aside0.mk (blk_below (g := gb103) (o := .cells #[.int .i64 0, .int .i64 0] 23 (0, 0)) (qb_ BK103.out) hb); have n1_ := Aside0.mk (below_step (q1_ HB.out GE103.out) hb); clear BK103; clear HB; have BK103 := n0_; have HB := n1_; clear n0_ n1_; (try clear hb); (try clear hb2); (try clear hk); (try clear hi)) | ((with_reducible refine gate_dst (N := 10) rfl ?_); refine box_event ?hg (N := 10) ?hd (cs := #[.int .i64 0, .int .i64 0]) (t := 23) ?hr ?_; (case hd => rfl); (case hg => rfl); (case hr => first | (go_simp; done) | (go_simp; rfl)); intro gb110 hg w66 hbox hb; have n0_ := Aside0.mk (blk_below (g := gb103) (o := .cells #[.int .i64 0, .int .i64 0] 23 (0, 0)) (qb_ BK103.out) hb); have n1_ := Aside0.mk (below_step (q1_ HB.out GE103.out) hb); have n2_ := Aside0.mk (hbox); have n3_ := Aside0.mk ((by rw [hg]; exact (below_size (q1_ HB.out GE103.out)) : w.heap.size ≤ gb110)); have n4_ := Aside0.mk ((by rw [hg]; exact (below_size (q1_ HB.out GE103.out)) : w.heap.size ≤ gb110)); have n5_ := Aside0.mk ((by rw [hg]; exact Nat.ne_of_lt (blk_lt (g := gb103) (o := .cells #[.int .i64 0, .int .i64 0] 23 (0, 0)) (qb_ BK103.out)) : gb103 ≠ gb110)); have n6_ := Aside0.mk ((by rw [hg]; exact Nat.ne_of_gt (blk_lt (g := gb103) (o := .cells #[.int .i64 0, .int .i64 0] 23 (0, 0)) (qb_ BK103.out)) : gb110 ≠ gb103)); clear BK103; clear HB; have BK103 := n0_; have HB := n1_; have BK110 := n2_; have GW110 := n3_; have GE110 := n4_; have NB103_110 := n5_; have NB110_103 := n6_; clear n0_ n1_ n2_ n3_ n4_ n5_ n6_; clear hb hbox hg) | ((with_reducible refine gate_dst (N := 11) rfl ?_); refine box_event ?hg (N := 11) ?hd (cs := #[.int .i64 0, .int .i64 0]) (t := 23) ?hr ?_; (case hd => rfl); (case hg => rfl); (case hr => first | (go_simp; done) | (go_simp; rfl)); intro gb111 hg w67 hbox hb; have n0_ := Aside0.mk (blk_below (g := gb103) (o := .cells #[.int .i64 0, .int .i64 0] 23 (0, 0)) (qb_ BK103.out) hb); have n1_ := Aside0.mk (blk_below (g := gb110) (o := .cells #[.int .i64 0, .int .i64 0] 23 (0, 0)) (qb_ BK110.out) hb); have n2_ := Aside0.mk (below_step (q2_ HB.out GE103.out GE110.out) hb); have n3_ := Aside0.mk (hbox); have n4_ := Aside0.mk ((by rw [hg]; exact (below_size (q2_ HB.out GE103.out GE110.out)) : w.heap.size ≤ gb111)); have n5_ := Aside0.mk ((by rw [hg]; exact (below_size (q2_ HB.out GE103.out GE110.out)) : w.heap.size ≤ gb111)); have n6_ := Aside0.mk ((by rw [hg]; exact Nat.ne_of_lt (blk_lt (g := gb103) (o := .cells #[.int .i64 0, .int .i64 0] 23 (0, 0)) (qb_ BK103.out)) : gb103 ≠ gb111)); have n7_ := Aside0.mk ((by rw [hg]; exact Nat.ne_of_gt (blk_lt (g := gb103) (o := .cells #[.int .i64 0, .int .i64 0] 23 (0, 0)) (qb_ BK103.out)) : gb111 ≠ gb103)); have n8_ := Aside0.mk ((by rw [hg]; exact Nat.ne_of_lt (blk_lt (g := gb110) (o := .cells #[.int .i64 0, .int .i64 0] 23 (0, 0)) (qb_ BK110.out)) : gb110 ≠ gb111)); have n9_ := Aside0.mk ((by rw [hg]; exact Nat.ne_of_gt (blk_lt (g := gb110) (o := .cells #[.int .i64 0, .int .i64 0] 23 (0, 0)) (qb_ BK110.out)) : gb111 ≠ gb110)); clear BK103; clear BK110; clear HB; have BK103 := n0_; have BK110 := n1_; have HB := n2_; have BK111 := n3_; have GW111 := n4_; have GE111 := n5_; have NB103_111 := n6_; have NB111_103 := n7_; have NB110_111 := n8_; have NB111_110 := n9_; clear n0_ n1_ n2_ n3_ n4_ n5_ n6_ n7_ n8_ n9_; clear hb hbox hg; have hnb68 := NB110_103.out; have hnc68 := NB103_110.out; have hnb69 := NB110_111.out; have hnc69 := NB111_110.out; have hcz70_0 : w67.cell? ⟨gb110, 0, none⟩ = some (.int .i64 0) := (blk_cell BK110.out 0).trans rfl; have hcz70_1 : w67.cell? ⟨gb110, 1, none⟩ = some (.int .i64 0) := (blk_cell BK110.out 1).trans rfl; have hfz70_0 := blk_frozen BK110.out 0; have hfz70_1 := blk_frozen BK110.out 1; have hnb71 := NB111_103.out; have hnc71 := NB103_111.out; have hcz72_0 : w67.cell? ⟨gb111, 0, none⟩ = some (.int .i64 0) := (blk_cell BK111.out 0).trans rfl; have hcz72_1 : w67.cell? ⟨gb111, 1, none⟩ = some (.int .i64 0) := (blk_cell BK111.out 1).trans rfl; have hfz72_0 := blk_frozen BK111.out 0; have hfz72_1 := blk_frozen BK111.out 1) | ((with_reducible refine gate_dst (N := 14) rfl ?_); refine box_event ?hg (N := 14) ?hd (cs := #[.int .i64 0, .int .i64 0]) (t := 23) ?hr ?_; (case hd => rfl); (case hg => rfl); (case hr => first | (go_simp; done) | (go_simp; rfl)); intro gb112 hg w73 hbox hb; have n0_ := Aside0.mk (blk_below (g := gb103) (o := .cells #[.int .i64 0, .int .i64 0] 23 (0, 0)) (by (with_reducible repeat (first | refine blk_drewN ?_ _ | refine blk_drew ?_ | refine blk_alloc ?_ _)); refine blk_far ?_ NB103_111.out _; (with_reducible repeat (first | refine blk_drewN ?_ _ | refine blk_drew ?_ | refine blk_alloc ?_ _)); refine blk_far ?_ NB103_111.out _; (with_reducible repeat (first | refine blk_drewN ?_ _ | refine blk_drew ?_ | refine blk_alloc ?_ _)); refine blk_far ?_ NB103_110.out _; (with_reducible repeat (first | refine blk_drewN ?_ _ | refine blk_drew ?_ | refine blk_alloc ?_ _)); refine blk_far ?_ NB103_110.out _; (with_reducible repeat (first | refine blk_drewN ?_ _ | refine blk_drew ?_ | refine blk_alloc ?_ _)); exact BK103.out) hb); have n1_ := Aside0.mk (blk_below (g := gb110) (o := .cells #[.int .i64 t106, .int .i64 t107] 23 (0, 0)) (by (with_reducible repeat (first | refine blk_drewN ?_ _ | refine blk_drew ?_ | refine blk_alloc ?_ _)); refine blk_far ?_ NB110_111.out _; (with_reducible repeat (first | refine blk_drewN ?_ _ | refine blk_drew ?_ | refine blk_alloc ?_ _)); refine blk_far ?_ NB110_111.out _; (with_reducible repeat (first | refine blk_drewN ?_ _ | refine blk_drew ?_ | refine blk_alloc ?_ _)); refine blk_put (cs := #[.int .i64 t106, .int .i64 0]) ?_ 1 _ rfl; (with_reducible repeat (first | refine blk_drewN ?_ _ | refine blk_drew ?_ | refine blk_alloc ?_ _)); refine blk_put (cs := #[.int .i64 0, .int .i64 0]) ?_ 0 _ rfl; (with_reducible repeat (first | refine blk_drewN ?_ _ | refine blk_drew ?_ | refine blk_alloc ?_ _)); exact BK110.out) hb); have n2_ := Aside0.mk (blk_below (g := gb111) (o := .cells #[.int .i64 t108, .int .i64 t109] 23 (0, 0)) (by (with_reducible repeat (first | refine blk_drewN ?_ _ | refine blk_drew ?_ | refine blk_alloc ?_ _)); refine blk_put (cs := #[.int .i64 t108, .int .i64 0]) ?_ 1 _ rfl; (with_reducible repeat (first | refine blk_drewN ?_ _ | refine blk_drew ?_ | refine blk_alloc ?_ _)); refine blk_put (cs := #[.int .i64 0, .int .i64 0]) ?_ 0 _ rfl; (with_reducible repeat (first | refine blk_drewN ?_ _ | refine blk_drew ?_ | refine blk_alloc ?_ _)); refine blk_far ?_ NB111_110.out _; (with_reducible repeat (first | refine blk_drewN ?_ _ | refine blk_drew ?_ | refine blk_alloc ?_ _)); refine blk_far ?_ NB111_110.out _; (with_reducible repeat (first | refine blk_drewN ?_ _ | refine blk_drew ?_ | refine blk_alloc ?_ _)); exact BK111.out) hb); have n3_ := Aside0.mk (below_step (q3_ HB.out GE103.out GE110.out GE111.out) hb); have n4_ := Aside0.mk (hbox); have n5_ := Aside0.mk ((by rw [hg]; exact (below_size (q3_ HB.out GE103.out GE110.out GE111.out)) : w.heap.size ≤ gb112)); have n6_ := Aside0.mk ((by rw [hg]; exact (below_size (q3_ HB.out GE103.out GE110.out GE111.out)) : w.heap.size ≤ gb112)); have n7_ := Aside0.mk ((by rw [hg]; exact Nat.ne_of_lt (blk_lt (g := gb103) (o := .cells #[.int .i64 0, .int .i64 0] 23 (0, 0)) (by (with_reducible repeat (first | refine blk_drewN ?_ _ | refine blk_drew ?_ | refine blk_alloc ?_ _)); refine blk_far ?_ NB103_111.out _; (with_reducible repeat (first | refine blk_drewN ?_ _ | refine blk_drew ?_ | refine blk_alloc ?_ _)); refine blk_far ?_ NB103_111.out _; (with_reducible repeat (first | refine blk_drewN ?_ _ | refine blk_drew ?_ | refine blk_alloc ?_ _)); refine blk_far ?_ NB103_110.out _; (with_reducible repeat (first | refine blk_drewN ?_ _ | refine blk_drew ?_ | refine blk_alloc ?_ _)); refine blk_far ?_ NB103_110.out _; (with_reducible repeat (first | refine blk_drewN ?_ _ | refine blk_drew ?_ | refine blk_alloc ?_ _)); exact BK103.out)) : gb103 ≠ gb112)); have n8_ := Aside0.mk ((by rw [hg]; exact Nat.ne_of_gt (blk_lt (g := gb103) (o := .cells #[.int .i64 0, .int .i64 0] 23 (0, 0)) (by (with_reducible repeat (first | refine blk_drewN ?_ _ | refine blk_drew ?_ | refine blk_alloc ?_ _)); refine blk_far ?_ NB103_111.out _; (with_reducible repeat (first | refine blk_drewN ?_ _ | refine blk_drew ?_ | refine blk_alloc ?_ _)); refine blk_far ?_ NB103_111.out _; (with_reducible repeat (first | refine blk_drewN ?_ _ | refine blk_drew ?_ | refine blk_alloc ?_ _)); refine blk_far ?_ NB103_110.out _; (with_reducible repeat (first | refine blk_drewN ?_ _ | refine blk_drew ?_ | refine blk_alloc ?_ _)); refine blk_far ?_ NB103_110.out _; (with_reducible repeat (first | refine blk_drewN ?_ _ | refine blk_drew ?_ | refine blk_alloc ?_ _)); exact BK103.out)) : gb112 ≠ gb103)); have n9_ := Aside0.mk ((by rw [hg]; exact Nat.ne_of_lt (blk_lt (g := gb110) (o := .cells #[.int .i64 t106, .int .i64 t107] 23 (0, 0)) (by (with_reducible repeat (first | refine blk_drewN ?_ _ | refine blk_drew ?_ | refine blk_alloc ?_ _)); refine blk_far ?_ NB110_111.out _; (with_reducible repeat (first | refine blk_drewN ?_ _ | refine blk_drew ?_ | refine blk_alloc ?_ _)); refine blk_far ?_ NB110_111.out _; (with_reducible repeat (first | refine blk_drewN ?_ _ | refine blk_drew ?_ | refine blk_alloc ?_ _)); refine blk_put (cs := #[.int .i64 t106, .int .i64 0]) ?_ 1 _ rfl; (with_reducible repeat (first | refine blk_drewN ?_ _ | refine blk_drew ?_ | refine blk_alloc ?_ _)); refine blk_put (cs := #[.int .i64 0, .int .i64 0]) ?_ 0 _ rfl; (with_reducible repeat (first | refine blk_drewN ?_ _ | refine blk_drew ?_ | refine blk_alloc ?_ _)); exact BK110.out)) : gb110 ≠ gb112)); have n10_ := Aside0.mk ((by rw [hg]; exact Nat.ne_of_gt (blk_lt (g := gb110) (o := .cells #[.int .i64 t106, .int .i64 t107] 23 (0, 0)) (by (with_reducible repeat (first | refine blk_drewN ?_ _ | refine blk_drew ?_ | refine blk_alloc ?_ _)); refine blk_far ?_ NB110_111.out _; (with_reducible repeat (first | refine blk_drewN ?_ _ | refine blk_drew ?_ | refine blk_alloc ?_ _)); refine blk_far ?_ NB110_111.out _; (with_reducible repeat (first | refine blk_drewN ?_ _ | refine blk_drew ?_ | refine blk_alloc ?_ _)); refine blk_put (cs := #[.int .i64 t106, .int .i64 0]) ?_ 1 _ rfl; (with_reducible repeat (first | refine blk_drewN ?_ _ | refine blk_drew ?_ | refine blk_alloc ?_ _)); refine blk_put (cs := #[.int .i64 0, .int .i64 0]) ?_ 0 _ rfl; (with_reducible repeat (first | refine blk_drewN ?_ _ | refine blk_drew ?_ | refine blk_alloc ?_ _)); exact BK110.out)) : gb112 ≠ gb110)); have n11_ := Aside0.mk ((by rw [hg]; exact Nat.ne_of_lt (blk_lt (g := gb111) (o := .cells #[.int .i64 t108, .int .i64 t109] 23 (0, 0)) (by (with_reducible repeat (first | refine blk_drewN ?_ _ | refine blk_drew ?_ | refine blk_alloc ?_ _)); refine blk_put (cs := #[.int .i64 t108, .int .i64 0]) ?_ 1 _ rfl; (with_reducible repeat (first | refine blk_drewN ?_ _ | refine blk_drew ?_ | refine blk_alloc ?_ _)); refine blk_put (cs := #[.int .i64 0, .int .i64 0]) ?_ 0 _ rfl; (with_reducible repeat (first | refine blk_drewN ?_ _ | refine blk_drew ?_ | refine blk_alloc ?_ _)); refine blk_far ?_ NB111_110.out _; (with_reducible repeat (first | refine blk_drewN ?_ _ | refine blk_drew ?_ | refine blk_alloc ?_ _)); refine blk_far ?_ NB111_110.out _; (with_reducible repeat (first | refine blk_drewN ?_ _ | refine blk_drew ?_ | refine blk_alloc ?_ _)); exact BK111.out)) : gb111 ≠ gb112)); have n12_ := Aside0.mk ((by rw [hg]; exact Nat.ne_of_gt (blk_lt (g := gb111) (o := .cells #[.int .i64 t108, .int .i64 t109] 23 (0, 0)) (by (with_reducible repeat (first | refine blk_drewN ?_ _ | refine blk_drew ?_ | refine blk_alloc ?_ _)); refine blk_put (cs := #[.int .i64 t108, .int .i64 0]) ?_ 1 _ rfl; (with_reducible repeat (first | refine blk_drewN ?_ _ | refine blk_drew ?_ | refine blk_alloc ?_ _)); refine blk_put (cs := #[.int .i64 0, .int .i64 0]) ?_ 0 _ rfl; (with_reducible repeat (first | refine blk_drewN ?_ _ | refine blk_drew ?_ | refine blk_alloc ?_ _)); refine blk_far ?_ NB111_110.out _; (with_reducible repeat (first | refine blk_drewN ?_ _ | refine blk_drew ?_ | refine blk_alloc ?_ _)); refine blk_far ?_ NB111_110.out _; (with_reducible repeat (first | refine blk_drewN ?_ _ | refine blk_drew ?_ | refine blk_alloc ?_ _)); exact BK111.out)) : gb112 ≠ gb111)); clear BK103; clear BK110; clear BK111; clear HB; have BK103 := n0_; have BK110 := n1_; have BK111 := n2_; have HB := n3_; have BK112 := n4_; have GW112 := n5_; have GE112 := n6_; have NB103_112 := n7_; have NB112_103 := n8_; have NB110_112 := n9_; have NB112_110 := n10_; have NB111_112 := n11_; have NB112_111 := n12_; clear n0_ n1_ n2_ n3_ n4_ n5_ n6_ n7_ n8_ n9_ n10_ n11_ n12_; clear hb hbox hg; have hnb74 := NB112_103.out; have hnc74 := NB103_112.out; have hnb75 := NB112_110.out; have hnc75 := NB110_112.out; have hnb76 := NB112_111.out; have hnc76 := NB111_112.out; have hcz77_0 : w73.cell? ⟨gb112, 0, none⟩ = some (.int .i64 0) := (blk_cell BK112.out 0).trans rfl; have hcz77_1 : w73.cell? ⟨gb112, 1, none⟩ = some (.int .i64 0) := (blk_cell BK112.out 1).trans rfl; have hfz77_0 := blk_frozen BK112.out 0; have hfz77_1 := blk_frozen BK112.out 1; have hcz78_0 : w73.cell? ⟨gb103, 0, none⟩ = some (.int .i64 0) := (blk_cell BK103.out 0).trans rfl; have hcz78_1 : w73.cell? ⟨gb103, 1, none⟩ = some (.int .i64 0) := (blk_cell BK103.out 1).trans rfl; have hfz78_0 := blk_frozen BK103.out 0; have hfz78_1 := blk_frozen BK103.out 1))
            refine bodyPost_ret (results_ct rfl _ _ gb103 23 #[.int .i64 (wrap64 (t106 + (wrap64 (t104 * t107)))), .int .i64 t107] (0, 0) _ rfl (by (with_reducible repeat (first | refine blk_drewN ?_ _ | refine blk_drew ?_ | refine blk_alloc ?_ _)); refine blk_put (cs := #[.int .i64 (wrap64 (t106 + (wrap64 (t104 * t107)))), .int .i64 0]) ?_ 1 _ rfl; (with_reducible repeat (first | refine blk_drewN ?_ _ | refine blk_drew ?_ | refine blk_alloc ?_ _)); refine blk_put (cs := #[.int .i64 0, .int .i64 0]) ?_ 0 _ rfl; (with_reducible repeat (first | refine blk_drewN ?_ _ | refine blk_drew ?_ | refine blk_alloc ?_ _)); refine blk_far ?_ NB103_112.out _; (with_reducible repeat (first | refine blk_drewN ?_ _ | refine blk_drew ?_ | refine blk_alloc ?_ _)); refine blk_far ?_ NB103_112.out _; (with_reducible repeat (first | refine blk_drewN ?_ _ | refine blk_drew ?_ | refine blk_alloc ?_ _)); refine blk_far ?_ NB103_112.out _; (with_reducible repeat (first | refine blk_drewN ?_ _ | refine blk_drew ?_ | refine blk_alloc ?_ _)); exact BK103.out) Tryd.underlying23 rfl (by kernel_rfl)) rfl ?_
            exact ⟨by first | rfl | (simp [errW_none, errW_some] <;> rfl) | (simp [*, errW_none, errW_some] <;> rfl), (q4_ HB.out GE103.out GE110.out GE111.out GE112.out)⟩
end Go.Proofs.YtdjnneflpkllmaaDoor.Q

namespace Go.Proofs.Num
open Go.RowKit Go.Proofs.YtdjnneflpkllmaaDoorW.PrintWords Go.Proofs.YtdjnneflpkllmaaDoorW.PrintMore Go.Proofs.YtdjnneflpkllmaaDoor.Q
set_option linter.unusedVariables false
set_option linter.unusedSimpArgs false
theorem wr64 {x : Int} (h0 : -9223372036854775808 ≤ x) (h1 : x ≤ 9223372036854775807) : wrap64 x = x := by unfold wrap64; omega
theorem mul_bd {x y X Y : Int} (h0 : 0 ≤ x) (h1 : x ≤ X) (g0 : 0 ≤ y) (g1 : y ≤ Y) : 0 ≤ x * y ∧ x * y ≤ X * Y := ⟨Int.mul_nonneg h0 g0, Int.mul_le_mul h1 g1 g0 (Int.le_trans h0 h1)⟩
theorem down_ok {n d : Int} (hn : -4611686018427387904 ≤ n) (hn' : n ≤ 4611686018427387904) (hd : 0 < d) (hd' : d ≤ 4611686018427387904) : num_down.f n d = some (n / d, n % d) := by
  unfold num_down.f
  have h3 : 0 ≤ n % d := Int.emod_nonneg _ (by omega)
  have h4 : n % d < d := Int.emod_lt_of_pos _ hd
  have h5 : d * (n / d) + n % d = n := Int.mul_ediv_add_emod n d
  have b1 : n / d ≤ 4611686018427387904 := by
    have : n / d ≤ n / d * d ∨ n / d < 0 := by
      rcases Int.lt_or_le (n / d) 0 with h | h
      · exact .inr h
      · left
        have := Int.mul_le_mul_of_nonneg_left (show (1 : Int) ≤ d by omega) h
        omega
    rw [Int.mul_comm] at h5
    omega
  have b2 : -4611686018427387905 ≤ n / d := by
    rcases Int.lt_or_le (n / d) 0 with h | h
    · have := Int.mul_le_mul_of_nonneg_right (show (1 : Int) ≤ d by omega) (show 0 ≤ -(n / d + 1) by omega)
      have e : d * (-(n / d + 1)) = -(d * (n / d)) - d := by grind
      omega
    · omega
  rw [if_neg (by omega)]
  have hs : d.sign = 1 := Int.sign_eq_one_of_pos hd
  have ha : (d.natAbs : Int) = d := by omega
  rw [Int.tmod_eq_emod, Int.tdiv_eq_ediv, hs]
  by_cases hc : 0 ≤ n ∨ d ∣ n
  · simp only [if_pos hc]
    rw [if_neg (by omega), wr64 (by omega) (by omega)]
    simp
  · simp only [if_neg hc, ha]
    have hr : n % d ≠ 0 := fun h => hc (.inr (Int.dvd_of_emod_eq_zero h))
    rw [if_pos (by omega), wr64 (x := n / d + 1) (by omega) (by omega), wr64 (by omega) (by omega), wr64 (by omega) (by omega)]
    congr 2 <;> omega
/-- What the search keeps. -/
structure Ar (r d M a b p q : Int) : Prop where
  hr : 0 ≤ r
  hrd : r < d
  hd : d ≤ 1099511627776
  hM : M ≤ 1048576
  a0 : 0 ≤ a
  ab : a ≤ b
  b1 : 1 ≤ b
  bM : b ≤ M
  p0 : 0 ≤ p
  pq : p ≤ q
  q1 : 1 ≤ q
  qM : q ≤ M
  det : p * b - a * q = 1
  lo : 0 ≤ r * b - a * d
  hi : 0 < p * d - r * q
theorem div_mul_le {x y : Int} (hy : 0 < y) : x / y * y ≤ x := Int.ediv_mul_le _ (by omega)
theorem mn_le (x y : Int) : mn x y ≤ x ∧ mn x y ≤ y := by unfold mn; split <;> omega
theorem mn_cases (x y : Int) : mn x y = x ∨ mn x y = y := by unfold mn; split <;> omega
/-- The lower one moved. -/
theorem Ar.up {r d M a b p q K : Int} (A : Ar r d M a b p q) (hK : 0 ≤ K) (h1 : K * q ≤ M - b) (h2 : K * (p * d - r * q) ≤ r * b - a * d) : Ar r d M (a + K * p) (b + K * q) p q := by
  obtain ⟨hr, hrd, hd, hM, a0, ab, b1, bM, p0, pq, q1, qM, det, lo, hi⟩ := A
  have l1 := Int.mul_nonneg hK p0
  have l2 := Int.mul_le_mul_of_nonneg_left pq hK
  have l3 := Int.mul_nonneg hK (show 0 ≤ q by omega)
  refine ⟨hr, hrd, hd, hM, by omega, by omega, by omega, by omega, p0, pq, q1, qM, by grind, ?_, hi⟩
  have e : r * (b + K * q) - (a + K * p) * d = r * b - a * d - K * (p * d - r * q) := by grind
  omega
theorem Ar.down {r d M a b p q J : Int} (A : Ar r d M a b p q) (hJ : 0 ≤ J) (h1 : J * b ≤ M - q) (h2 : J * (r * b - a * d) ≤ p * d - r * q - 1) : Ar r d M a b (p + J * a) (q + J * b) := by
  obtain ⟨hr, hrd, hd, hM, a0, ab, b1, bM, p0, pq, q1, qM, det, lo, hi⟩ := A
  have l1 := Int.mul_nonneg hJ a0
  have l2 := Int.mul_le_mul_of_nonneg_left ab hJ
  have l3 := Int.mul_nonneg hJ (show 0 ≤ b by omega)
  refine ⟨hr, hrd, hd, hM, a0, ab, b1, bM, by omega, by omega, by omega, by omega, by grind, lo, ?_⟩
  have e : (p + J * a) * d - r * (q + J * b) = p * d - r * q - J * (r * b - a * d) := by grind
  omega
theorem ar_l0 {r d M a b p q : Int} (A : Ar r d M a b p q) (k : Nat) : num_around.l0 (k + 1) r d M a b p q = num_around.j1 k r d M (mn ((M - b) / q) ((r * b - a * d) / (p * d - r * q))) a b p q := by
  obtain ⟨hr, hrd, hd, hM, a0, ab, b1, bM, p0, pq, q1, qM, det, lo, hi⟩ := A
  obtain ⟨m1, m2⟩ := mul_bd p0 (show p ≤ 1048576 by omega) (show 0 ≤ d by omega) hd
  obtain ⟨m3, m4⟩ := mul_bd hr (show r ≤ 1099511627776 by omega) (show 0 ≤ q by omega) (show q ≤ 1048576 by omega)
  obtain ⟨m5, m6⟩ := mul_bd hr (show r ≤ 1099511627776 by omega) (show 0 ≤ b by omega) (show b ≤ 1048576 by omega)
  obtain ⟨m7, m8⟩ := mul_bd a0 (show a ≤ 1048576 by omega) (show 0 ≤ d by omega) hd
  have d1 : (M - b) / q ≤ M - b := Int.ediv_le_self _ (by omega)
  have d2 : 0 ≤ (M - b) / q := Int.ediv_nonneg (by omega) (by omega)
  have d3 : (r * b - a * d) / (p * d - r * q) ≤ r * b - a * d := Int.ediv_le_self _ (by omega)
  have d4 : 0 ≤ (r * b - a * d) / (p * d - r * q) := Int.ediv_nonneg (by omega) (by omega)
  rw [num_around.l0, if_neg (by omega)]
  rw [wr64 (x := p * d) (by omega) (by omega), wr64 (x := r * q) (by omega) (by omega), wr64 (x := p * d - r * q) (by omega) (by omega), if_pos hi, if_neg (by omega),
    wr64 (x := M - b) (by omega) (by omega), wr64 (x := r * b) (by omega) (by omega), wr64 (x := a * d) (by omega) (by omega), wr64 (x := r * b - a * d) (by omega) (by omega),
    Int.tdiv_eq_ediv_of_nonneg (by omega), Int.tdiv_eq_ediv_of_nonneg (by omega), wr64 (x := (M - b) / q) (by omega) (by omega), wr64 (x := (r * b - a * d) / (p * d - r * q)) (by omega) (by omega)]
/-- How far the upper one is moved. -/
def jn (r d M a b p q : Int) : Int := if r * b - a * d > 0 then mn ((M - q) / b) ((p * d - r * q - 1) / (r * b - a * d)) else (M - q) / b
theorem ar_j1 {r d M a b p q K a' b' : Int} (A : Ar r d M a' b' p q) (ea : a' = a + K * p) (eb : b' = b + K * q) (A0 : Ar r d M a b p q) (hK : 0 ≤ K) (k : Nat) :
    num_around.j1 (k + 1) r d M K a b p q = if K = 0 ∧ jn r d M a' b' p q = 0 then some (a', b', p + jn r d M a' b' p q * a', q + jn r d M a' b' p q * b') else num_around.l0 k r d M a' b' (p + jn r d M a' b' p q * a') (q + jn r d M a' b' p q * b') := by
  obtain ⟨hr, hrd, hd, hM, a0, ab, b1, bM, p0, pq, q1, qM, det, lo, hi⟩ := A
  have z1 := Int.mul_nonneg hK p0
  have z2 := Int.mul_nonneg hK (show 0 ≤ q by omega)
  have y1 := A0.a0
  have y2 := A0.b1
  rw [num_around.j1]
  rw [wr64 (x := K * q) (by omega) (by omega), wr64 (x := b + K * q) (by omega) (by omega), wr64 (x := K * p) (by omega) (by omega), wr64 (x := a + K * p) (by omega) (by omega), ← ea, ← eb]
  clear ea eb z1 z2 y1 y2
  obtain ⟨m1, m2⟩ := mul_bd p0 (show p ≤ 1048576 by omega) (show 0 ≤ d by omega) hd
  obtain ⟨m3, m4⟩ := mul_bd hr (show r ≤ 1099511627776 by omega) (show 0 ≤ q by omega) (show q ≤ 1048576 by omega)
  obtain ⟨m5, m6⟩ := mul_bd hr (show r ≤ 1099511627776 by omega) (show 0 ≤ b' by omega) (show b' ≤ 1048576 by omega)
  obtain ⟨m7, m8⟩ := mul_bd a0 (show a' ≤ 1048576 by omega) (show 0 ≤ d by omega) hd
  have d1 : (M - q) / b' ≤ M - q := Int.ediv_le_self _ (by omega)
  have d2 : 0 ≤ (M - q) / b' := Int.ediv_nonneg (by omega) (by omega)
  rw [if_neg (by omega), wr64 (x := r * b') (by omega) (by omega), wr64 (x := a' * d) (by omega) (by omega), wr64 (x := r * b' - a' * d) (by omega) (by omega), wr64 (x := M - q) (by omega) (by omega), Int.tdiv_eq_ediv_of_nonneg (show 0 ≤ M - q by omega), wr64 (x := (M - q) / b') (by omega) (by omega), wr64 (x := p * d) (by omega) (by omega), wr64 (x := r * q) (by omega) (by omega), wr64 (x := p * d - r * q) (by omega) (by omega), wr64 (x := p * d - r * q - 1) (by omega) (by omega), Int.tdiv_eq_ediv_of_nonneg (show 0 ≤ p * d - r * q - 1 by omega)]
  have J0 : 0 ≤ jn r d M a' b' p q ∧ jn r d M a' b' p q ≤ (M - q) / b' := by
    unfold jn
    split
    · have d4 : 0 ≤ (p * d - r * q - 1) / (r * b' - a' * d) := Int.ediv_nonneg (by omega) (by omega)
      have := mn_le ((M - q) / b') ((p * d - r * q - 1) / (r * b' - a' * d))
      rcases mn_cases ((M - q) / b') ((p * d - r * q - 1) / (r * b' - a' * d)) with h | h <;> omega
    · omega
  have JB : jn r d M a' b' p q * b' ≤ M - q := Int.le_trans (Int.mul_le_mul_of_nonneg_right J0.2 (by omega)) (div_mul_le (by omega))
  have JA : jn r d M a' b' p q * a' ≤ jn r d M a' b' p q * b' := Int.mul_le_mul_of_nonneg_left ab J0.1
  have JA0 := Int.mul_nonneg J0.1 a0
  have W : ∀ J : Int, J = jn r d M a' b' p q → wrap64 (p + wrap64 (J * a')) = p + jn r d M a' b' p q * a' ∧ wrap64 (q + wrap64 (J * b')) = q + jn r d M a' b' p q * b' := by
    intro J e
    subst e
    rw [wr64 (x := _ * a') (by omega) (by omega), wr64 (x := _ * b') (by omega) (by omega)]
    exact ⟨wr64 (by omega) (by omega), wr64 (by omega) (by omega)⟩
  by_cases hg : r * b' - a' * d > 0
  · have d3 : (p * d - r * q - 1) / (r * b' - a' * d) ≤ p * d - r * q - 1 := Int.ediv_le_self _ (by omega)
    have d4 : 0 ≤ (p * d - r * q - 1) / (r * b' - a' * d) := Int.ediv_nonneg (by omega) (by omega)
    rw [wr64 (x := (p * d - r * q - 1) / (r * b' - a' * d)) (by omega) (by omega), if_pos hg, if_neg (by omega)]
    have ej : mn ((M - q) / b') ((p * d - r * q - 1) / (r * b' - a' * d)) = jn r d M a' b' p q := by unfold jn; rw [if_pos hg]
    rw [ej, (W _ rfl).1, (W _ rfl).2]
    by_cases hk0 : K = 0
    · by_cases hj0 : jn r d M a' b' p q = 0
      · rw [if_pos hk0, if_pos hj0, if_pos ⟨hk0, hj0⟩]
      · rw [if_pos hk0, if_neg hj0, if_neg (fun h => hj0 h.2)]
    · rw [if_neg hk0, if_neg (fun h => hk0 h.1)]
  · rw [if_neg hg]
    have ej : (M - q) / b' = jn r d M a' b' p q := by unfold jn; rw [if_neg hg]
    rw [ej, (W _ rfl).1, (W _ rfl).2]
    by_cases hk0 : K = 0
    · by_cases hj0 : jn r d M a' b' p q = 0
      · rw [if_pos hk0, if_pos hj0, if_pos ⟨hk0, hj0⟩]
      · rw [if_pos hk0, if_neg hj0, if_neg (fun h => hj0 h.2)]
    · rw [if_neg hk0, if_neg (fun h => hk0 h.1)]
/-- One round of the search. -/
theorem around_step {r d M a b p q : Int} (A : Ar r d M a b p q)
    (ih : ∀ a' b' p' q', Ar r d M a' b' p' q' → b + q < b' + q' → ∃ a2 b2 p2 q2, Ev (fun k => num_around.l0 k r d M a' b' p' q') (a2, b2, p2, q2) ∧ Ar r d M a2 b2 p2 q2 ∧ M < b2 + q2) :
    ∃ a2 b2 p2 q2, Ev (fun k => num_around.l0 k r d M a b p q) (a2, b2, p2, q2) ∧ Ar r d M a2 b2 p2 q2 ∧ M < b2 + q2 := by
  have hb := A.b1
  have hq := A.q1
  have hbM := A.bM
  have hqM := A.qM
  have hlo := A.lo
  have hhi := A.hi
  obtain ⟨K, eK⟩ : ∃ K, K = mn ((M - b) / q) ((r * b - a * d) / (p * d - r * q)) := ⟨_, rfl⟩
  have kl := mn_le ((M - b) / q) ((r * b - a * d) / (p * d - r * q))
  have k0 : 0 ≤ K := by
    have x1 : 0 ≤ (M - b) / q := Int.ediv_nonneg (by omega) (by omega)
    have x2 : 0 ≤ (r * b - a * d) / (p * d - r * q) := Int.ediv_nonneg (by omega) (by omega)
    rcases mn_cases ((M - b) / q) ((r * b - a * d) / (p * d - r * q)) with h | h <;> omega
  have k1 : K * q ≤ M - b := Int.le_trans (Int.mul_le_mul_of_nonneg_right (show K ≤ (M - b) / q by omega) (by omega)) (div_mul_le (by omega))
  have k2 : K * (p * d - r * q) ≤ r * b - a * d := Int.le_trans (Int.mul_le_mul_of_nonneg_right (show K ≤ (r * b - a * d) / (p * d - r * q) by omega) (by omega)) (div_mul_le (by omega))
  have A1 := A.up k0 k1 k2
  obtain ⟨a', ea⟩ : ∃ a', a' = a + K * p := ⟨_, rfl⟩
  obtain ⟨b', eb⟩ : ∃ b', b' = b + K * q := ⟨_, rfl⟩
  rw [← ea, ← eb] at A1
  have hb' := A1.b1
  have hbM' := A1.bM
  have hlo' := A1.lo
  obtain ⟨J, eJ⟩ : ∃ J, J = jn r d M a' b' p q := ⟨_, rfl⟩
  have j0 : 0 ≤ J ∧ J ≤ (M - q) / b' ∧ (r * b' - a' * d > 0 → J ≤ (p * d - r * q - 1) / (r * b' - a' * d)) := by
    have x1 : 0 ≤ (M - q) / b' := Int.ediv_nonneg (by omega) (by omega)
    rw [eJ]
    unfold jn
    split
    · have x2 : 0 ≤ (p * d - r * q - 1) / (r * b' - a' * d) := Int.ediv_nonneg (by omega) (by omega)
      have := mn_le ((M - q) / b') ((p * d - r * q - 1) / (r * b' - a' * d))
      refine ⟨?_, this.1, fun _ => this.2⟩
      rcases mn_cases ((M - q) / b') ((p * d - r * q - 1) / (r * b' - a' * d)) with h | h <;> omega
    · exact ⟨by omega, by omega, fun h => by omega⟩
  have j1 : J * b' ≤ M - q := Int.le_trans (Int.mul_le_mul_of_nonneg_right j0.2.1 (by omega)) (div_mul_le (by omega))
  have j2 : J * (r * b' - a' * d) ≤ p * d - r * q - 1 := by
    rcases Int.lt_or_le 0 (r * b' - a' * d) with h | h
    · exact Int.le_trans (Int.mul_le_mul_of_nonneg_right (j0.2.2 h) (by omega)) (div_mul_le (by omega))
    · have : r * b' - a' * d = 0 := by omega
      rw [this, Int.mul_zero]
      omega
  have A2 := A1.down j0.1 j1 j2
  have S1 := ar_j1 A1 ea eb A k0
  have S0 := ar_l0 A
  rw [← eK] at S0
  rw [← eJ] at S1
  have kq := Int.mul_nonneg k0 (show 0 ≤ q by omega)
  by_cases hz : K = 0 ∧ J = 0
  · obtain ⟨z1, z2⟩ := hz
    rw [z1] at ea eb
    rw [Int.zero_mul, Int.add_zero] at ea eb
    refine ⟨a', b', p + J * a', q + J * b', ?_, A2, ?_⟩
    · refine Ev.step (fun k => S0 k) (Ev.step (f := fun k => some (a', b', p + J * a', q + J * b')) (fun k => ?_) (Ev.now _))
      rw [S1 k, if_pos ⟨z1, z2⟩]
    · subst ea eb
      rw [z2, Int.zero_mul]
      rcases Int.lt_or_le M (a' + 0 * 0 + b' - a' + q) with h | h
      · omega
      · exfalso
        have y1 : 1 ≤ (M - b') / q := by rw [Int.le_ediv_iff_mul_le (by omega)]; omega
        have y2 : 1 ≤ (M - q) / b' := by rw [Int.le_ediv_iff_mul_le (by omega)]; omega
        have y3 : (r * b' - a' * d) / (p * d - r * q) = 0 := by
          rcases mn_cases ((M - b') / q) ((r * b' - a' * d) / (p * d - r * q)) with h | h <;> omega
        have y4 : r * b' - a' * d < p * d - r * q := by
          rcases Int.lt_or_le (r * b' - a' * d) (p * d - r * q) with h | h
          · exact h
          · have : 1 ≤ (r * b' - a' * d) / (p * d - r * q) := by rw [Int.le_ediv_iff_mul_le (by omega)]; omega
            omega
        unfold jn at eJ
        by_cases hg : r * b' - a' * d > 0
        · rw [if_pos hg] at eJ
          have y5 : (p * d - r * q - 1) / (r * b' - a' * d) = 0 := by
            rcases mn_cases ((M - q) / b') ((p * d - r * q - 1) / (r * b' - a' * d)) with h | h <;> omega
          have : 1 ≤ (p * d - r * q - 1) / (r * b' - a' * d) := by rw [Int.le_ediv_iff_mul_le (by omega)]; omega
          omega
        · rw [if_neg hg] at eJ
          omega
  · have hgt : b + q < b' + (q + J * b') := by
      have jb := Int.mul_nonneg j0.1 (show 0 ≤ b' by omega)
      rcases Int.lt_or_le 0 K with h | h
      · have := Int.mul_pos h (show 0 < q by omega)
        omega
      · have : 0 < J := by
          have : K = 0 := by omega
          have : J ≠ 0 := fun h => hz ⟨this, h⟩
          omega
        have := Int.mul_pos this (show 0 < b' by omega)
        omega
    obtain ⟨a2, b2, p2, q2, E, A3, hM⟩ := ih _ _ _ _ A2 hgt
    refine ⟨a2, b2, p2, q2, Ev.step (fun k => S0 k) (Ev.step (f := fun k => num_around.l0 k r d M a' b' (p + J * a') (q + J * b')) (fun k => ?_) E), A3, hM⟩
    rw [S1 k, if_neg hz]
/-- The search ends at neighbours. -/
theorem around_l0 : ∀ (m : Nat) (r d M a b p q : Int), Ar r d M a b p q → 2 * M - b - q ≤ m → ∃ a' b' p' q', Ev (fun k => num_around.l0 k r d M a b p q) (a', b', p', q') ∧ Ar r d M a' b' p' q' ∧ M < b' + q' := by
  intro m
  induction m with
  | zero =>
    intro r d M a b p q A hm
    exact around_step A (fun a' b' p' q' A' h => by have e1 := A'.bM; have e2 := A'.qM; have e3 := A.bM; have e4 := A.qM; omega)
  | succ m ih =>
    intro r d M a b p q A hm
    exact around_step A (fun a' b' p' q' A' h => ih r d M a' b' p' q' A' (by omega))
theorem around_ok {r d M : Int} (hr : 0 ≤ r) (hrd : r < d) (hd : d ≤ 1099511627776) (h1 : 1 ≤ M) (hM : M ≤ 1048576) : ∃ a b p q, Ev (fun k => num_around.f k r d M) (a, b, p, q) ∧ Ar r d M a b p q ∧ M < b + q :=
  around_l0 (2 * M).toNat r d M 0 1 1 1 ⟨hr, hrd, hd, hM, by omega, by omega, by omega, h1, by omega, by omega, by omega, h1, by omega, by omega, by omega⟩ (by omega)
end Go.Proofs.Num

namespace Go.Proofs.YtdjnneflpkllmaaDoor.Q
open Go.RowKit Go.Proofs.YtdjnneflpkllmaaDoorW.PrintWords Go.Proofs.YtdjnneflpkllmaaDoorW.PrintLast Go.Proofs.YtdjnneflpkllmaaDoorW.PrintMore
attribute [local go_sem] max2_int min2_int max_two min_two max_three min_three max_four min_four   -- for this text's walks alone
set_option linter.unusedVariables false
set_option linter.unusedSimpArgs false
mutual
def merinoref01_Best.j0 : Nat → Int → Int → Int → Bool → Option (Int × Int × Int)
  | 0, _, _, _, _ => none
  | k + 1, x0, x1, x2, x35 => if x35 = true then (some (0, 0, 2)) else (merinoref01_Best.l0 k x0 x1 x2 0 1 0 0)
def merinoref01_Best.l0 : Nat → Int → Int → Int → Int → Int → Int → Int → Option (Int × Int × Int)
  | 0, _, _, _, _, _, _, _ => none
  | k + 1, x0, x1, x2, x9, x10, x115000, x115001 => if x10 ≤ x2 then (if x1 = 0 then (none) else (if (Int.tmod (wrap64 (x0 * x10)) x1) < 0 then (merinoref01_Best.j2 k x0 x1 x2 x9 x10 (wrap64 ((wrap64 (Int.tdiv (wrap64 (x0 * x10)) x1)) - 1)) x115000 x115001) else (merinoref01_Best.j2 k x0 x1 x2 x9 x10 (wrap64 (Int.tdiv (wrap64 (x0 * x10)) x1)) x115000 x115001))) else (some (x115000, x115001, 0))
def merinoref01_Best.j2 : Nat → Int → Int → Int → Int → Int → Int → Int → Int → Option (Int × Int × Int)
  | 0, _, _, _, _, _, _, _, _ => none
  | k + 1, x0, x1, x2, x9, x10, x11, x115000, x115001 => merinoref01_Best.l1 k x0 x1 x2 x9 x10 x11 0 x115000 x115001
def merinoref01_Best.l1 : Nat → Int → Int → Int → Int → Int → Int → Int → Int → Int → Option (Int × Int × Int)
  | 0, _, _, _, _, _, _, _, _, _ => none
  | k + 1, x0, x1, x2, x9, x10, x11, x12, x115000, x115001 => if x12 < 2 then (if (wrap64 ((wrap64 (x0 * x10)) - (wrap64 ((wrap64 (x11 + x12)) * x1)))) < 0 then (if x115001 = 0 then (merinoref01_Best.l1 k x0 x1 x2 (wrap64 (-(wrap64 ((wrap64 (x0 * x10)) - (wrap64 ((wrap64 (x11 + x12)) * x1)))))) x10 x11 (wrap64 (x12 + 1)) (wrap64 (x11 + x12)) x10) else (if (wrap64 ((wrap64 (-(wrap64 ((wrap64 (x0 * x10)) - (wrap64 ((wrap64 (x11 + x12)) * x1)))))) * x115001)) < (wrap64 (x9 * x10)) then (merinoref01_Best.l1 k x0 x1 x2 (wrap64 (-(wrap64 ((wrap64 (x0 * x10)) - (wrap64 ((wrap64 (x11 + x12)) * x1)))))) x10 x11 (wrap64 (x12 + 1)) (wrap64 (x11 + x12)) x10) else (merinoref01_Best.l1 k x0 x1 x2 x9 x10 x11 (wrap64 (x12 + 1)) x115000 x115001))) else (if x115001 = 0 then (merinoref01_Best.l1 k x0 x1 x2 (wrap64 ((wrap64 (x0 * x10)) - (wrap64 ((wrap64 (x11 + x12)) * x1)))) x10 x11 (wrap64 (x12 + 1)) (wrap64 (x11 + x12)) x10) else (if (wrap64 ((wrap64 ((wrap64 (x0 * x10)) - (wrap64 ((wrap64 (x11 + x12)) * x1)))) * x115001)) < (wrap64 (x9 * x10)) then (merinoref01_Best.l1 k x0 x1 x2 (wrap64 ((wrap64 (x0 * x10)) - (wrap64 ((wrap64 (x11 + x12)) * x1)))) x10 x11 (wrap64 (x12 + 1)) (wrap64 (x11 + x12)) x10) else (merinoref01_Best.l1 k x0 x1 x2 x9 x10 x11 (wrap64 (x12 + 1)) x115000 x115001)))) else (merinoref01_Best.l0 k x0 x1 x2 x9 (wrap64 (x10 + 1)) x115000 x115001)
end
def merinoref01_Best.f (k : Nat) (a0 : Int) (a1 : Int) (a2 : Int) : Option (Int × Int × Int) := if a0 < (-1099511627776) then (merinoref01_Best.j0 k a0 a1 a2 true) else (if a0 > 1099511627776 then (merinoref01_Best.j0 k a0 a1 a2 true) else (if a1 < 1 then (merinoref01_Best.j0 k a0 a1 a2 true) else (if a1 > 1099511627776 then (merinoref01_Best.j0 k a0 a1 a2 true) else (if a2 < 1 then (merinoref01_Best.j0 k a0 a1 a2 true) else (merinoref01_Best.j0 k a0 a1 a2 (decide (a2 > 1048576)))))))
theorem merinoref01_Best.mono_l : ∀ k, (∀ y0 y1 y2 y3, LeO (merinoref01_Best.j0 k y0 y1 y2 y3) (merinoref01_Best.j0 (k + 1) y0 y1 y2 y3)) ∧ (∀ y0 y1 y2 y3 y4 y5 y6, LeO (merinoref01_Best.l0 k y0 y1 y2 y3 y4 y5 y6) (merinoref01_Best.l0 (k + 1) y0 y1 y2 y3 y4 y5 y6)) ∧ (∀ y0 y1 y2 y3 y4 y5 y6 y7, LeO (merinoref01_Best.j2 k y0 y1 y2 y3 y4 y5 y6 y7) (merinoref01_Best.j2 (k + 1) y0 y1 y2 y3 y4 y5 y6 y7)) ∧ (∀ y0 y1 y2 y3 y4 y5 y6 y7 y8, LeO (merinoref01_Best.l1 k y0 y1 y2 y3 y4 y5 y6 y7 y8) (merinoref01_Best.l1 (k + 1) y0 y1 y2 y3 y4 y5 y6 y7 y8))
  | 0 => ⟨fun _ _ _ _ r h => by simp [merinoref01_Best.j0] at h, fun _ _ _ _ _ _ _ r h => by simp [merinoref01_Best.l0] at h, fun _ _ _ _ _ _ _ _ r h => by simp [merinoref01_Best.j2] at h, fun _ _ _ _ _ _ _ _ _ r h => by simp [merinoref01_Best.l1] at h⟩
  | k + 1 => by
    obtain ⟨ih0, ih1, ih2, ih3⟩ := merinoref01_Best.mono_l k
    refine ⟨?_, ?_, ?_, ?_⟩
    · intro y0 y1 y2 y3
      unfold merinoref01_Best.j0
      repeat' first
      | (with_reducible exact ih0 _ _ _ _)
      | (with_reducible exact ih1 _ _ _ _ _ _ _)
      | (with_reducible exact ih2 _ _ _ _ _ _ _ _)
      | (with_reducible exact ih3 _ _ _ _ _ _ _ _ _)
      | (with_reducible exact LeO.refl _)
      | (with_reducible exact LeO.none _)
      | (with_reducible refine LeO.ite ?_ ?_)
      | (with_reducible refine LeO.bind ?_ (fun _ => ?_))
      | exact ih0 _ _ _ _
      | exact ih1 _ _ _ _ _ _ _
      | exact ih2 _ _ _ _ _ _ _ _
      | exact ih3 _ _ _ _ _ _ _ _ _
      | exact LeO.none _
      | refine LeO.ite ?_ ?_
      | refine LeO.bind ?_ (fun _ => ?_)
    · intro y0 y1 y2 y3 y4 y5 y6
      unfold merinoref01_Best.l0
      repeat' first
      | (with_reducible exact ih0 _ _ _ _)
      | (with_reducible exact ih1 _ _ _ _ _ _ _)
      | (with_reducible exact ih2 _ _ _ _ _ _ _ _)
      | (with_reducible exact ih3 _ _ _ _ _ _ _ _ _)
      | (with_reducible exact LeO.refl _)
      | (with_reducible exact LeO.none _)
      | (with_reducible refine LeO.ite ?_ ?_)
      | (with_reducible refine LeO.bind ?_ (fun _ => ?_))
      | exact ih0 _ _ _ _
      | exact ih1 _ _ _ _ _ _ _
      | exact ih2 _ _ _ _ _ _ _ _
      | exact ih3 _ _ _ _ _ _ _ _ _
      | exact LeO.none _
      | refine LeO.ite ?_ ?_
      | refine LeO.bind ?_ (fun _ => ?_)
    · intro y0 y1 y2 y3 y4 y5 y6 y7
      unfold merinoref01_Best.j2
      repeat' first
      | (with_reducible exact ih0 _ _ _ _)
      | (with_reducible exact ih1 _ _ _ _ _ _ _)
      | (with_reducible exact ih2 _ _ _ _ _ _ _ _)
      | (with_reducible exact ih3 _ _ _ _ _ _ _ _ _)
      | (with_reducible exact LeO.refl _)
      | (with_reducible exact LeO.none _)
      | (with_reducible refine LeO.ite ?_ ?_)
      | (with_reducible refine LeO.bind ?_ (fun _ => ?_))
      | exact ih0 _ _ _ _
      | exact ih1 _ _ _ _ _ _ _
      | exact ih2 _ _ _ _ _ _ _ _
      | exact ih3 _ _ _ _ _ _ _ _ _
      | exact LeO.none _
      | refine LeO.ite ?_ ?_
      | refine LeO.bind ?_ (fun _ => ?_)
    · intro y0 y1 y2 y3 y4 y5 y6 y7 y8
      unfold merinoref01_Best.l1
      repeat' first
      | (with_reducible exact ih0 _ _ _ _)
      | (with_reducible exact ih1 _ _ _ _ _ _ _)
      | (with_reducible exact ih2 _ _ _ _ _ _ _ _)
      | (with_reducible exact ih3 _ _ _ _ _ _ _ _ _)
      | (with_reducible exact LeO.refl _)
      | (with_reducible exact LeO.none _)
      | (with_reducible refine LeO.ite ?_ ?_)
      | (with_reducible refine LeO.bind ?_ (fun _ => ?_))
      | exact ih0 _ _ _ _
      | exact ih1 _ _ _ _ _ _ _
      | exact ih2 _ _ _ _ _ _ _ _
      | exact ih3 _ _ _ _ _ _ _ _ _
      | exact LeO.none _
      | refine LeO.ite ?_ ?_
      | refine LeO.bind ?_ (fun _ => ?_)
theorem merinoref01_Best.mono : ∀ a0 a1 a2 k, LeO (merinoref01_Best.f k a0 a1 a2) (merinoref01_Best.f (k + 1) a0 a1 a2) := by
  intro a0 a1 a2 k
  obtain ⟨ih0, ih1, ih2, ih3⟩ := merinoref01_Best.mono_l k
  unfold merinoref01_Best.f
  repeat' first
      | (with_reducible exact ih0 _ _ _ _)
      | (with_reducible exact ih1 _ _ _ _ _ _ _)
      | (with_reducible exact ih2 _ _ _ _ _ _ _ _)
      | (with_reducible exact ih3 _ _ _ _ _ _ _ _ _)
      | (with_reducible exact LeO.refl _)
      | (with_reducible exact LeO.none _)
      | (with_reducible refine LeO.ite ?_ ?_)
      | (with_reducible refine LeO.bind ?_ (fun _ => ?_))
      | exact ih0 _ _ _ _
      | exact ih1 _ _ _ _ _ _ _
      | exact ih2 _ _ _ _ _ _ _ _
      | exact ih3 _ _ _ _ _ _ _ _ _
      | exact LeO.none _
      | refine LeO.ite ?_ ?_
      | refine LeO.bind ?_ (fun _ => ?_)
end Go.Proofs.YtdjnneflpkllmaaDoor.Q

namespace Go.Proofs.Num
open Go.RowKit Go.Proofs.YtdjnneflpkllmaaDoorW.PrintLast Go.Proofs.YtdjnneflpkllmaaDoorW.PrintWords
set_option linter.unusedVariables false
set_option linter.unusedSimpArgs false
theorem below_draws {B : Nat} {a w : World} (h : Below B a w) (n : Nat) : Below B a (w.drewN n) := h.trans ⟨rfl, rfl, rfl, Nat.le_refl _, fun _ _ => rfl⟩
def cmpv (b1 b2 : Int) : Int := if b2 < b1 then -1 else if b1 < b2 then 1 else 0
theorem cmp_rest0 (a1 b1 a2 b2 : Int) (w : World) : Calls Tryd.prog 95 #[.agg #[.int .i64 a1, .int .i64 b1], .agg #[.int .i64 a2, .int .i64 b2]] w fun e w' => e = .returned (.int .i64 (if b2 < b1 then -1 else if b1 < b2 then 1 else 0)) ∧ Below w.heap.size w w' := by
  have hb := ((Below.refl w.heap.size w).alloc (Nat.le_refl _) (.cells #[.int .i64 a1, .int .i64 b1] 101)).alloc (by simp) (.cells #[.int .i64 a2, .int .i64 b2] 101)
  go_enter Tryd.func95, Tryd.ntmps95
  go_wp2
  all_goals go_ret
  all_goals refine ⟨?_, hb⟩
  all_goals first | rfl | (simp [*]; done) | (rw [if_neg (by omega), if_neg (by omega)])
theorem cmp_rest (a1 b1 a2 b2 : Int) (w : World) : Calls Tryd.prog 95 #[.agg #[.int .i64 a1, .int .i64 b1], .agg #[.int .i64 a2, .int .i64 b2]] w fun e w' => e = .returned (.int .i64 (cmpv b1 b2)) ∧ Below w.heap.size w w' := cmp_rest0 a1 b1 a2 b2 w
theorem cmpv_neg (b1 b2 : Int) : cmpv b1 b2 < 0 ↔ b2 < b1 := by unfold cmpv; split <;> (try split) <;> omega
/-- A row of pairs that is sorted where it lies. -/
def Rst (W : World) (g : Nat) (l : List (Int × Int)) : Prop :=
  ∃ cs ty, W.heap[g]? = some (.cells cs ty (0, 0)) ∧ 2 * l.length ≤ cs.size ∧ ∀ i x, l[i]? = some x → cs[i * 2]? = some (.int .i64 x.1) ∧ cs[i * 2 + 1]? = some (.int .i64 x.2)
theorem Rst.cell {W : World} {g : Nat} {l : List (Int × Int)} (h : Rst W g l) {i : Nat} {x : Int × Int} (hx : l[i]? = some x) : W.cell? ⟨g, i * 2, none⟩ = some (.int .i64 x.1) ∧ W.cell? ⟨g, i * 2 + 1, none⟩ = some (.int .i64 x.2) := by
  obtain ⟨cs, ty, hh, hn, hc⟩ := h
  obtain ⟨h1, h2⟩ := hc i x hx
  exact ⟨by simpa [World.cell?, hh] using h1, by simpa [World.cell?, hh] using h2⟩
theorem Rst.frozen {W : World} {g : Nat} {l : List (Int × Int)} (h : Rst W g l) (k : Nat) : W.frozen? ⟨g, k, none⟩ = false := by
  obtain ⟨cs, ty, hh, -⟩ := h
  simp [World.frozen?, hh]
theorem Rst.later {W W' : World} {g : Nat} {l : List (Int × Int)} (h : Rst W g l) (hg : g < W.heap.size) (hb : Below W.heap.size W W') : Rst W' g l := by
  obtain ⟨cs, ty, hh, r⟩ := h
  exact ⟨cs, ty, (hb.block g hg).trans hh, r⟩
theorem Rst.lt {W : World} {g : Nat} {l : List (Int × Int)} (h : Rst W g l) : g < W.heap.size := by
  obtain ⟨cs, ty, hh, r⟩ := h
  exact (Array.getElem?_eq_some_iff.1 hh).1
/-- Two neighbours change places. -/
def swp (l : List (Int × Int)) (m : Nat) : List (Int × Int) := match l[m]?, l[m + 1]? with
  | some x, some y => (l.set (m + 1) x).set m y
  | _, _ => l
/-- The inner loop. -/
def ins (a : Nat) : Nat → List (Int × Int) → List (Int × Int)
  | 0, l => l
  | m + 1, l => if a < m + 1 then
      match l[m]?, l[m + 1]? with
      | some x, some y => if x.2 < y.2 then ins a m (swp l m) else l
      | _, _ => l
    else l
theorem ins_go {a m : Nat} {l : List (Int × Int)} {x y : Int × Int} (h : a < m + 1) (hx : l[m]? = some x) (hy : l[m + 1]? = some y) (hxy : x.2 < y.2) : ins a (m + 1) l = ins a m (swp l m) := by
  simp [ins, h, hx, hy, hxy]
theorem ins_stop {a m : Nat} {l : List (Int × Int)} {x y : Int × Int} (hx : l[m]? = some x) (hy : l[m + 1]? = some y) (hxy : ¬ x.2 < y.2) : ins a (m + 1) l = l := by
  simp [ins, hx, hy, hxy]
/-- The outer loop: d steps from i on. -/
def outer (a : Nat) : Nat → Nat → List (Int × Int) → List (Int × Int)
  | 0, _, l => l
  | d + 1, i, l => outer a d (i + 1) (ins a i l)
theorem grown_below {W W' : World} {g : Nat} (h : Below W.heap.size W W') : W.grownBy W' (some g) := ⟨h.os, h.tape, h.output, h.size, fun k hk _ => h.block k hk⟩
theorem grown_trans {A B C : World} {g : Nat} (h : A.grownBy B (some g)) (k : B.grownBy C (some g)) : A.grownBy C (some g) :=
  ⟨k.os.trans h.os, k.tape.trans h.tape, k.output.trans h.output, Nat.le_trans h.size k.size, fun i hi hn => (k.block i (Nat.lt_of_lt_of_le hi h.size) hn).trans (h.block i hi hn)⟩
theorem grown_set (W : World) (g o : Nat) (v : Value) : W.grownBy (W.setCell ⟨g, o, none⟩ v) (some g) :=
  ⟨rfl, rfl, rfl, by simp [World.setCell], fun k _ hk => Below.heap_setCell _ _ _ k (fun e => hk (by rw [e]))⟩
theorem Rst.put {W : World} {g : Nat} {l : List (Int × Int)} (h : Rst W g l) (i : Nat) (x : Int × Int) : Rst ((W.setCell ⟨g, i * 2, none⟩ (.int .i64 x.1)).setCell ⟨g, i * 2 + 1, none⟩ (.int .i64 x.2)) g (l.set i x) := by
  obtain ⟨cs, ty, hh, hn, hc⟩ := h
  refine ⟨(cs.setIfInBounds (i * 2) (.int .i64 x.1)).setIfInBounds (i * 2 + 1) (.int .i64 x.2), ty, ?_, by simpa using hn, ?_⟩
  · simp [World.setCell, Array.getElem?_modify, hh]
  · intro j z hz
    have hj : j < l.length := by
      rcases Nat.lt_or_ge j l.length with h | h
      · exact h
      · rw [List.getElem?_eq_none (by simpa using h)] at hz; cases hz
    rw [List.getElem?_set] at hz
    simp only [Array.getElem?_setIfInBounds, Array.size_setIfInBounds]
    by_cases e : i = j
    · subst e
      rw [if_pos rfl, if_pos hj] at hz
      injection hz with hz
      subst hz
      exact ⟨by rw [if_neg (by omega), if_pos rfl, if_pos (by omega)], by rw [if_pos rfl, if_pos (by omega)]⟩
    · rw [if_neg e] at hz
      obtain ⟨h1, h2⟩ := hc j z hz
      exact ⟨by rw [if_neg (by omega), if_neg (by omega)]; exact h1, by rw [if_neg (by omega), if_neg (by omega)]; exact h2⟩
theorem Rst.drew {W : World} {g : Nat} {l : List (Int × Int)} (h : Rst W g l) : Rst W.drew g l := h
set_option maxRecDepth 100000 in
set_option maxHeartbeats 3200000 in
theorem insertion (g a b c : Nat) (l : List (Int × Int)) (W : World) (hR : Rst W g l) (ha : a ≤ b) (hb : b ≤ l.length) (hc : l.length ≤ c) (hl : l.length ≤ 1099511627776) :
    Calls Tryd.prog 128 #[.slice (some ⟨g, 0, none⟩) l.length c, .int .i64 a, .int .i64 b, .func (.func 95) #[] #[]] W fun e w' => e = .returned (.tuple #[]) ∧ W.grownBy w' (some g) ∧ Rst w' g (outer a (b - (a + 1)) (a + 1) l) := by
  obtain ⟨n, hn⟩ : ∃ n, n = l.length := ⟨_, rfl⟩
  rw [← hn] at hb hc hl ⊢
  have HN := Lib.hid hn
  clear hn
  have e0 : IntKind.i64.wrap ((a : Int) + 1) = ((a + 1 : Nat) : Int) := by rw [IntKind.wrap_i64]; omega
  go_enter Tryd.func128, Tryd.ntmps128
  go_wp2
  clear e0
  go_loopg [8] (b - a) (fun k x8 wr => ∃ (i : Nat) (l' : List (Int × Int)), x8 = .int .i64 i ∧ a + 1 ≤ i ∧ Rst wr g l' ∧ l'.length = n ∧ W.grownBy wr (some g) ∧ Hid (outer a (b - i) i l' = outer a (b - (a + 1)) (a + 1) l) ∧ Hid (b + 1 - i = k))
  case atStart => exact ⟨a + 1, l, rfl, Nat.le_refl _, hR, HN.out.symm, ⟨rfl, rfl, rfl, Nat.le_refl _, fun _ _ _ => rfl⟩, rfl, (show b + 1 - (a + 1) = b - a by omega)⟩
  case round =>
    obtain ⟨i, l', rfl, hi, hR', hl', hg', HO, HK⟩ := hrel
    by_cases hlt : i < b
    · have z0 : (i : Int) < (b : Int) := by omega
      go_wp2
      go_loopg [9] i (fun k x9 wx => ∃ (j : Nat) (l'' : List (Int × Int)), x9 = .int .i64 j ∧ j ≤ i ∧ Rst wx g l'' ∧ l''.length = n ∧ W.grownBy wx (some g) ∧ Hid (ins a j l'' = ins a i l') ∧ Hid (j = k))
      case atStart => exact ⟨i, l', rfl, Nat.le_refl _, hR', hl', hg', rfl, rfl⟩
      case round =>
        obtain ⟨j, l'', rfl, hji, hRx, hlx, hgx, HI, HJ⟩ := hrel
        by_cases hj : a < j
        · obtain ⟨m, rfl⟩ : ∃ m, j = m + 1 := ⟨j - 1, by omega⟩
          have y0 : decide ((a : Int) < (m : Int) + 1) = true := decide_eq_true (by omega)
          have e1 : IntKind.i64.wrap ((m : Int) + 1 - 1) = (m : Int) := by rw [IntKind.wrap_i64]; omega
          have e2 : ((m : Int) + 1).toNat = m + 1 := by omega
          obtain ⟨⟨xk, xv⟩, hx⟩ : ∃ x, l''[m]? = some x := ⟨_, List.getElem?_eq_getElem (by omega)⟩
          obtain ⟨⟨yk, yv⟩, hy⟩ : ∃ y, l''[m + 1]? = some y := ⟨_, List.getElem?_eq_getElem (by omega)⟩
          have hglt := hRx.lt
          have f0 : ∀ y, Below wr.heap.size wr y → y.cell? ⟨g, m * 2, none⟩ = some (.int .i64 xk) := fun y h => ((hRx.later hglt h).cell hx).1
          have f1 : ∀ y, Below wr.heap.size wr y → y.cell? ⟨g, m * 2 + 1, none⟩ = some (.int .i64 xv) := fun y h => ((hRx.later hglt h).cell hx).2
          have f2 : ∀ y, Below wr.heap.size wr y → y.cell? ⟨g, (m + 1) * 2, none⟩ = some (.int .i64 yk) := fun y h => ((hRx.later hglt h).cell hy).1
          have f3 : ∀ y, Below wr.heap.size wr y → y.cell? ⟨g, (m + 1) * 2 + 1, none⟩ = some (.int .i64 yv) := fun y h => ((hRx.later hglt h).cell hy).2
          have i0 : (m : Int) < (n : Int) := by omega
          have i1 : (m : Int) + 1 < (n : Int) := by omega
          have i2 : (0 : Int) ≤ (m : Int) + 1 := by omega
          have i3 : m < n := by omega
          have i4 : m + 1 < n := by omega
          have i5 : (0 : Int) ≤ (m : Int) := by omega
          have e3 : IntKind.i64.wrap (m : Int) = (m : Int) := by rw [IntKind.wrap_i64]; omega
          by_cases hxy : xv < yv
          · have y1 : decide (cmpv yv xv < 0) = true := decide_eq_true ((cmpv_neg yv xv).2 hxy)
            go_upto_region 4 with fail
            go_region_held3 (fun w' => Below wr.heap.size wr w') (repeat (first | assumption | exact Below.refl _ _ | apply Below.drew)) (first
              | (go_at_call 95; refine (cmp_rest _ _ _ _ _).mono ?_; rintro e y ⟨rfl, hy1⟩; have hk1 : Below wr.heap.size wr y := Below.trans (by assumption) (hy1.mono (Below.size (by assumption)))))
            clear f0 f1 f2 f3
            go_upto_region 6 with fail
            have hRy := hRx.later hglt hk1
            have c0 := (hRy.cell hx).1
            have c1 := (hRy.cell hx).2
            have c2 := (hRy.cell hy).1
            have c3 := (hRy.cell hy).2
            have d0 := hRy.frozen (m * 2)
            have d1 := hRy.frozen (m * 2 + 1)
            have d2 := hRy.frozen ((m + 1) * 2)
            have d3 := hRy.frozen ((m + 1) * 2 + 1)
            simp only at c0 c1 c2 c3
            refine start_ (n := 18) (S := fun w' => w' = y.drew) (ds := [15, 17]) #[false, false, false, false, false, false, false, false, false, false, false, false, false, false, false, false, false, false] (by kernel_rfl) rfl rfl rfl (fun hHeld => ?_)
            refine pure_ (i := 0) (N := some 37) (v := ?_) (a' := ?_) #[true, false, false, false, false, false, false, false, false, false, false, false, false, false, false, false, false, false] rfl rfl (by kernel_rfl) (fun _ _ _ h => h) (Or.inl ⟨by rfl, ?_⟩) ?_ ?_
            rotate_left
            · intro w'
              go_simp
              with_reducible rfl
            rotate_left
            · simp only [Act.put, List.setIfInBounds_toArray, List.set_cons_zero, List.set_cons_succ, i64_w, i32_w]
              rfl
            refine pure_ (i := 1) (N := some 38) (v := ?_) (a' := ?_) #[true, true, false, false, false, false, false, false, false, false, false, false, false, false, false, false, false, false] rfl rfl (by kernel_rfl) (fun _ _ _ h => h) (Or.inl ⟨by rfl, ?_⟩) ?_ ?_
            rotate_left
            · intro w'
              go_simp
              with_reducible rfl
            rotate_left
            · simp only [Act.put, List.setIfInBounds_toArray, List.set_cons_zero, List.set_cons_succ, i64_w, i32_w]
              rfl
            refine pure_ (i := 2) (N := some 39) (v := ?_) (a' := ?_) #[true, true, true, false, false, false, false, false, false, false, false, false, false, false, false, false, false, false] rfl rfl (by kernel_rfl) (fun _ _ _ h => h) (Or.inl ⟨by rfl, ?_⟩) ?_ ?_
            rotate_left
            · intro w'
              go_simp
              with_reducible rfl
            rotate_left
            · simp only [Act.put, List.setIfInBounds_toArray, List.set_cons_zero, List.set_cons_succ, i64_w, i32_w]
              rfl
            refine pure_ (i := 3) (N := some 40) (v := ?_) (a' := ?_) #[true, true, true, true, false, false, false, false, false, false, false, false, false, false, false, false, false, false] rfl rfl (by kernel_rfl) (fun _ _ _ h => h) (Or.inl ⟨by rfl, ?_⟩) ?_ ?_
            rotate_left
            · intro w'
              go_simp
              with_reducible rfl
            rotate_left
            · simp only [Act.put, List.setIfInBounds_toArray, List.set_cons_zero, List.set_cons_succ, i64_w, i32_w]
              rfl
            refine pure_ (i := 4) (N := some 41) (v := ?_) (a' := ?_) #[true, true, true, true, true, false, false, false, false, false, false, false, false, false, false, false, false, false] rfl rfl (by kernel_rfl) (fun _ _ _ h => h) (Or.inl ⟨by rfl, ?_⟩) ?_ ?_
            rotate_left
            · intro w'
              go_simp
              with_reducible rfl
            rotate_left
            · simp only [Act.put, List.setIfInBounds_toArray, List.set_cons_zero, List.set_cons_succ, i64_w, i32_w]
              rfl
            refine pure_ (i := 5) (N := some 42) (v := ?_) (a' := ?_) #[true, true, true, true, true, true, false, false, false, false, false, false, false, false, false, false, false, false] rfl rfl (by kernel_rfl) (fun _ _ _ h => h) (Or.inl ⟨by rfl, ?_⟩) ?_ ?_
            rotate_left
            · intro w'
              go_simp
              with_reducible rfl
            rotate_left
            · simp only [Act.put, List.setIfInBounds_toArray, List.set_cons_zero, List.set_cons_succ, i64_w, i32_w]
              rfl
            refine pure_ (i := 6) (N := some 43) (v := ?_) (a' := ?_) #[true, true, true, true, true, true, true, false, false, false, false, false, false, false, false, false, false, false] rfl rfl (by kernel_rfl) (fun _ _ _ h => h) (Or.inl ⟨by rfl, ?_⟩) ?_ ?_
            rotate_left
            · intro w'
              go_simp
              with_reducible rfl
            rotate_left
            · simp only [Act.put, List.setIfInBounds_toArray, List.set_cons_zero, List.set_cons_succ, i64_w, i32_w]
              rfl
            refine pure_ (i := 7) (N := some 44) (v := ?_) (a' := ?_) #[true, true, true, true, true, true, true, true, false, false, false, false, false, false, false, false, false, false] rfl rfl (by kernel_rfl) (fun _ _ _ h => h) (Or.inl ⟨by rfl, ?_⟩) ?_ ?_
            rotate_left
            · intro w'
              go_simp
              with_reducible rfl
            rotate_left
            · simp only [Act.put, List.setIfInBounds_toArray, List.set_cons_zero, List.set_cons_succ, i64_w, i32_w]
              rfl
            refine pure_ (i := 8) (N := some 45) (v := ?_) (a' := ?_) #[true, true, true, true, true, true, true, true, true, false, false, false, false, false, false, false, false, false] rfl rfl (by kernel_rfl) (fun _ _ _ h => h) (Or.inl ⟨by rfl, ?_⟩) ?_ ?_
            rotate_left
            · intro w'
              go_simp
              with_reducible rfl
            rotate_left
            · simp only [Act.put, List.setIfInBounds_toArray, List.set_cons_zero, List.set_cons_succ, i64_w, i32_w]
              rfl
            refine take_ (i := 9) (N := some 46) (v := ?_) (a' := ?_) #[true, true, true, true, true, true, true, true, true, true, false, false, false, false, false, false, false, false] rfl rfl (by kernel_rfl) (fun _ _ _ h => h) (Or.inl ⟨by rfl, ?_⟩) hHeld ?_ ?_
            rotate_left
            · rintro w' rfl
              go_simp
              with_reducible rfl
            rotate_left
            · simp only [Act.put, List.setIfInBounds_toArray, List.set_cons_zero, List.set_cons_succ, i64_w, i32_w]
              rfl
            refine pure_ (i := 10) (N := some 47) (v := ?_) (a' := ?_) #[true, true, true, true, true, true, true, true, true, true, true, false, false, false, false, false, false, false] rfl rfl (by kernel_rfl) (fun _ _ _ h => h) (Or.inl ⟨by rfl, ?_⟩) ?_ ?_
            rotate_left
            · intro w'
              go_simp
              with_reducible rfl
            rotate_left
            · simp only [Act.put, List.setIfInBounds_toArray, List.set_cons_zero, List.set_cons_succ, i64_w, i32_w]
              rfl
            refine pure_ (i := 11) (N := some 48) (v := ?_) (a' := ?_) #[true, true, true, true, true, true, true, true, true, true, true, true, false, false, false, false, false, false] rfl rfl (by kernel_rfl) (fun _ _ _ h => h) (Or.inl ⟨by rfl, ?_⟩) ?_ ?_
            rotate_left
            · intro w'
              go_simp
              with_reducible rfl
            rotate_left
            · simp only [Act.put, List.setIfInBounds_toArray, List.set_cons_zero, List.set_cons_succ, i64_w, i32_w]
              rfl
            refine pure_ (i := 12) (N := some 49) (v := ?_) (a' := ?_) #[true, true, true, true, true, true, true, true, true, true, true, true, true, false, false, false, false, false] rfl rfl (by kernel_rfl) (fun _ _ _ h => h) (Or.inl ⟨by rfl, ?_⟩) ?_ ?_
            rotate_left
            · intro w'
              go_simp
              with_reducible rfl
            rotate_left
            · simp only [Act.put, List.setIfInBounds_toArray, List.set_cons_zero, List.set_cons_succ, i64_w, i32_w]
              rfl
            refine take_ (i := 13) (N := some 50) (v := ?_) (a' := ?_) #[true, true, true, true, true, true, true, true, true, true, true, true, true, true, false, false, false, false] rfl rfl (by kernel_rfl) (fun _ _ _ h => h) (Or.inl ⟨by rfl, ?_⟩) hHeld ?_ ?_
            rotate_left
            · rintro w' rfl
              go_simp
              with_reducible rfl
            rotate_left
            · simp only [Act.put, List.setIfInBounds_toArray, List.set_cons_zero, List.set_cons_succ, i64_w, i32_w]
              rfl
            refine pure_ (i := 14) (N := some 51) (v := ?_) (a' := ?_) #[true, true, true, true, true, true, true, true, true, true, true, true, true, true, true, false, false, false] rfl rfl (by kernel_rfl) (fun _ _ _ h => h) (Or.inl ⟨by rfl, ?_⟩) ?_ ?_
            rotate_left
            · intro w'
              go_simp
              with_reducible rfl
            rotate_left
            · simp only [Act.put, List.setIfInBounds_toArray, List.set_cons_zero, List.set_cons_succ, i64_w, i32_w]
              rfl
            refine last_ (i := 15) (N := none) #[true, true, true, true, true, true, true, true, true, true, true, true, true, true, true, true, false, false] rfl rfl (by kernel_rfl) (by decide) (fun K hK => ?_)
            refine skip_ (w1 := ?_) (by rfl) rfl ?_ ?_
            rotate_left
            · go_simp
              with_reducible rfl
            refine hK.out _ _ ?_
            clear hK K
            refine pure_ (i := 16) (N := some 52) (v := ?_) (a' := ?_) #[true, true, true, true, true, true, true, true, true, true, true, true, true, true, true, true, true, false] rfl rfl (by kernel_rfl) (fun _ _ _ h => h) (Or.inl ⟨by rfl, ?_⟩) ?_ ?_
            rotate_left
            · intro w'
              go_simp
              with_reducible rfl
            rotate_left
            · simp only [Act.put, List.setIfInBounds_toArray, List.set_cons_zero, List.set_cons_succ, i64_w, i32_w]
              rfl
            refine last_ (i := 17) (N := none) #[true, true, true, true, true, true, true, true, true, true, true, true, true, true, true, true, true, true] rfl rfl (by kernel_rfl) (by decide) (fun K hK => ?_)
            refine skip_ (w1 := ?_) (by rfl) rfl ?_ ?_
            rotate_left
            · go_simp
              with_reducible rfl
            refine hK.out _ _ ?_
            clear hK K
            refine done_ (by kernel_rfl) ?_
            go_wp2
            go_roundg m
            case measure => have := HJ.out; omega
            case rel => exact ⟨m, _, rfl, by omega, (hRy.drew.put (m + 1) (xk, xv)).put m (yk, yv), by simp; exact hlx, grown_trans hgx (grown_trans (grown_below hk1) (grown_trans (B := y.drew) ⟨rfl, rfl, rfl, Nat.le_refl _, fun _ _ _ => rfl⟩ (grown_trans (grown_set _ _ _ _) (grown_trans (grown_set _ _ _ _) (grown_trans (grown_set _ _ _ _) (grown_set _ _ _ _)))))), (by
              have := HI.out
              rw [ins_go hj hx hy hxy] at this
              simp only [swp, hx, hy] at this
              exact this), rfl⟩
          · have y1 : decide (cmpv yv xv < 0) = false := decide_eq_false (fun h => hxy ((cmpv_neg yv xv).1 h))
            go_upto_region 4 with fail
            go_region_held3 (fun w' => Below wr.heap.size wr w') (repeat (first | assumption | exact Below.refl _ _ | apply Below.drew)) (first
              | (go_at_call 95; refine (cmp_rest _ _ _ _ _).mono ?_; rintro e y ⟨rfl, hy1⟩; have hk1 : Below wr.heap.size wr y := Below.trans (by assumption) (hy1.mono (Below.size (by assumption)))))
            go_wp2
            go_roundg (b - i)
            case measure => have := HK.out; omega
            case rel => exact ⟨i + 1, l'', by go_num, by omega, hRx.later hglt hk1, hlx, grown_trans hgx (grown_below hk1), (by
              have h1 := HO.out
              have h2 := HI.out
              rw [ins_stop hx hy (show ¬ xv < yv by omega)] at h2
              rw [show b - i = (b - (i + 1)) + 1 from by omega, outer, ← h2] at h1
              exact h1), (show b + 1 - (i + 1) = b - i by omega)⟩
        · have y0 : decide ((a : Int) < (j : Int)) = false := decide_eq_false (by omega)
          go_upto_region 4 with fail
          go_quiet (fail)
          go_wp2
          go_roundg (b - i)
          case measure => have := HK.out; omega
          case rel => exact ⟨i + 1, l'', by go_num, by omega, hRx, hlx, grown_trans hgx ⟨rfl, rfl, rfl, Nat.le_refl _, fun _ _ _ => rfl⟩, (by
              have h1 := HO.out
              have h2 := HI.out
              have h3 : ins a j l'' = l'' := by
                cases j with
                | zero => rfl
                | succ m => unfold ins; rw [if_neg (by omega)]
              rw [h3] at h2
              rw [show b - i = (b - (i + 1)) + 1 from by omega, outer, ← h2] at h1
              exact h1), (show b + 1 - (i + 1) = b - i by omega)⟩
    · have z0 : ¬ (i : Int) < (b : Int) := by omega
      go_wp2
      go_end0
      refine ⟨rfl, hg', ?_⟩
      have := HO.out
      rw [show b - i = 0 from by omega] at this
      rw [← this]
      exact hR'
end Go.Proofs.Num

namespace Go.Proofs.Num
open Go.RowKit Go.Proofs.YtdjnneflpkllmaaDoorW.PrintLast Go.Proofs.YtdjnneflpkllmaaDoorW.PrintWords
set_option linter.unusedVariables false
set_option linter.unusedSimpArgs false
set_option maxRecDepth 100000 in
theorem div4 (w : World) : Calls Tryd.prog 112 #[.int .u64 0, .int .u64 30, .int .u64 7] w fun e w' => e = .returned (.tuple #[.int .u64 4, .int .u64 2]) ∧ ∃ n, w' = w.drewN n := by
  go_enter Tryd.func112, Tryd.ntmps112
  go_wp2
  go_quiet (fail)
  go_wp2
  go_ret2
  exact ⟨by rfl, _, rfl⟩
set_option maxRecDepth 100000 in
theorem div1 (w : World) : Calls Tryd.prog 112 #[.int .u64 0, .int .u64 10, .int .u64 7] w fun e w' => e = .returned (.tuple #[.int .u64 1, .int .u64 3]) ∧ ∃ n, w' = w.drewN n := by
  go_enter Tryd.func112, Tryd.ntmps112
  go_wp2
  go_quiet (fail)
  go_wp2
  go_ret2
  exact ⟨by rfl, _, rfl⟩
set_option maxRecDepth 100000 in
theorem mul3 (w : World) : Calls Tryd.prog 114 #[.int .u64 10, .int .u64 3] w fun e w' => e = .returned (.tuple #[.int .u64 0, .int .u64 30]) ∧ w' = w := by
  go_enter Tryd.func114, Tryd.ntmps114
  go_wp2
  go_ret2
  exact ⟨by rfl, rfl⟩
set_option maxRecDepth 100000 in
theorem mul1 (w : World) : Calls Tryd.prog 114 #[.int .u64 10, .int .u64 1] w fun e w' => e = .returned (.tuple #[.int .u64 0, .int .u64 10]) ∧ w' = w := by
  go_enter Tryd.func114, Tryd.ntmps114
  go_wp2
  go_ret2
  exact ⟨by rfl, rfl⟩
theorem share4 (w : World) : Calls Tryd.prog 93 #[.int .i64 10, .int .i64 3, .int .i64 7] w fun e w' => e = .returned (.tuple #[.int .i64 4, .int .i64 2]) ∧ ∃ n, w' = w.drewN n := by
  go_enter Tryd.func93, Tryd.ntmps93
  go_wp2_with (first
    | (go_at_call 114; refine (mul3 _).mono ?_; rintro e w1 ⟨rfl, rfl⟩)
    | (go_at_call 112; refine (div4 _).mono ?_; rintro e w1 ⟨rfl, n, rfl⟩))
  go_ret2
  exact ⟨by rfl, _, rfl⟩
theorem share1 (w : World) : Calls Tryd.prog 93 #[.int .i64 10, .int .i64 1, .int .i64 7] w fun e w' => e = .returned (.tuple #[.int .i64 1, .int .i64 3]) ∧ ∃ n, w' = w.drewN n := by
  go_enter Tryd.func93, Tryd.ntmps93
  go_wp2_with (first
    | (go_at_call 114; refine (mul1 _).mono ?_; rintro e w1 ⟨rfl, rfl⟩)
    | (go_at_call 112; refine (div1 _).mono ?_; rintro e w1 ⟨rfl, n, rfl⟩))
  go_ret2
  exact ⟨by rfl, _, rfl⟩
theorem stable_small (g c : Nat) (l : List (Int × Int)) (W : World) (hR : Rst W g l) (hl : l.length < 20) (hc : l.length ≤ c) :
    Calls Tryd.prog 117 #[.slice (some ⟨g, 0, none⟩) l.length c, .int .i64 l.length, .func (.func 95) #[] #[]] W fun e w' => e = .returned (.tuple #[]) ∧ W.grownBy w' (some g) ∧ Rst w' g (outer 0 (l.length - 1) 1 l) := by
  have hi := insertion g 0 l.length c l W hR (Nat.zero_le _) (Nat.le_refl _) hc (by omega)
  obtain ⟨n, hn⟩ : ∃ n, n = l.length := ⟨_, rfl⟩
  rw [← hn] at hl hc hi ⊢
  have HI := Lib.hid hi
  clear hi hn hR
  have z0 : ¬ (20 : Int) ≤ (n : Int) := by omega
  have z1 : ¬ (20 : Int) < (n : Int) := by omega
  go_enter Tryd.func117, Tryd.ntmps117
  go_wp2
  refine wp_loop_once ?_
  go_wp2_with (go_at_call 128; refine HI.out.mono ?_; rintro e w1 ⟨rfl, hg, hR1⟩)
  refine wp_loop_once ?_
  go_wp2
  go_end0
  exact ⟨rfl, hg, hR1⟩
theorem weighed_alive (b : Nat) (w : World) (c0 : w.cell? ⟨b, 0, none⟩ = some (.int .i64 3)) (c1 : w.cell? ⟨b, 1, none⟩ = some (.int .i64 3)) (c2 : w.cell? ⟨b, 2, none⟩ = some (.int .i64 1)) :
    Calls Tryd.prog 92 #[.int .i64 10, .slice (some ⟨b, 0, none⟩) 3 3] w fun e w' => e = .returned (.tuple #[.int .i64 7, .int .i64 0]) ∧ ∃ n, w' = w.drewN n := by
  go_enter Tryd.func92, Tryd.ntmps92
  go_wp2
  refine wp_loop_rounds 4 ?_
  change Code.wp _ _ _ _ _
  go_wp2
  change Code.wp _ _ _ _ _
  go_wp2
  change Code.wp _ _ _ _ _
  go_wp2
  change Code.wp _ _ _ _ _
  go_wp2
  go_ret2
  exact ⟨rfl, 0, rfl⟩
theorem cell_two (w : World) (a b : Value) (t : TypeId) : ∀ j u, ([a, b] : List Value)[j]? = some u → (w.alloc (.cells #[a, b] t)).cell? ((⟨w.heap.size, 0, none⟩ : Addr).add j) = some u := by
  intro j u h
  have hh : (w.alloc (.cells #[a, b] t)).heap[w.heap.size]? = some (.cells #[a, b] t) := by show (w.heap.push _)[w.heap.size]? = _; simp
  match j, h with
  | 0, h => injection h with h; subst h; rw [show (⟨w.heap.size, 0, none⟩ : Addr).add 0 = ⟨w.heap.size, 0, none⟩ from rfl]; simp only [World.cell?, hh]; rfl
  | 1, h => injection h with h; subst h; rw [show (⟨w.heap.size, 0, none⟩ : Addr).add 1 = ⟨w.heap.size, 1, none⟩ from rfl]; simp only [World.cell?, hh]; rfl
  | n + 2, h => simp at h
theorem cell_two' (w : World) (s : Nat) (hs : w.heap.size = s) (a b : Value) (t : TypeId) : ∀ j u, ([a, b] : List Value)[j]? = some u → (w.alloc (.cells #[a, b] t)).cell? ((⟨s, 0, none⟩ : Addr).add j) = some u := by
  subst hs
  exact cell_two w a b t
theorem size_set' (W : World) (m p o : Nat) (v : Value) : ((W.drewN m).setCell ⟨p, o, none⟩ v).heap.size = W.heap.size := by simp [World.setCell, World.drewN]
theorem info101 : (Tryd.prog.info? 101).map (fun i => (i.zero, i.size, i.bytes)) = some (some (.agg #[.int .i64 0, .int .i64 0]), 2, 16) := by kernel_rfl
theorem sort3 (g c : Nat) (x y z : Int × Int) (W : World) (hR : Rst W g [x, y, z]) (hc : 3 ≤ c) :
    Calls Tryd.prog 94 #[.slice (some ⟨g, 0, none⟩) 3 c, .func (.func 95) #[] #[]] W fun e w' => e = .returned (.tuple #[]) ∧ W.grownBy w' (some g) ∧ Rst w' g (outer 0 2 1 [x, y, z]) := by
  have hs : Calls Tryd.prog 117 #[.slice (some ⟨g, 0, none⟩) 3 c, .int .i64 3, .func (.func 95) #[] #[]] W fun e w' => e = .returned (.tuple #[]) ∧ W.grownBy w' (some g) ∧ Rst w' g (outer 0 2 1 [x, y, z]) :=
    stable_small g c [x, y, z] W hR (show 3 < 20 by decide) hc
  go_enter Tryd.func94, Tryd.ntmps94
  go_wp2_with (go_at_call 117; refine hs.mono ?_; rintro e w1 ⟨rfl, hg, hR1⟩)
  go_end0
  exact ⟨rfl, hg, hR1⟩
theorem rst_own {W : World} {base e n c g : Nat} {l : List (Int × Int)} (h : W.ownsRow base e 2 (.slice (some ⟨g, 0, none⟩) n c) n (l.flatMap fun x => [.int .i64 x.1, .int .i64 x.2])) (hn : l.length = n) : Rst W g l ∧ n ≤ c ∧ base ≤ g := by
  obtain ⟨_, ⟨h0, _⟩ | ⟨g', cap, cur, e', hg, hh, hc, hm, hs, ht⟩⟩ := h
  · cases h0
  · injection e' with e1 _ e2
    injection e1 with e1
    injection e1 with e1
    subst e1 e2
    refine ⟨⟨cur, e, hh, by rw [hs]; omega, ?_⟩, hc, hg⟩
    have fl : ∀ (l : List (Int × Int)) (i : Nat) (x : Int × Int), l[i]? = some x → (l.flatMap fun x => [Value.int .i64 x.1, .int .i64 x.2])[i * 2]? = some (.int .i64 x.1) ∧ (l.flatMap fun x => [Value.int .i64 x.1, .int .i64 x.2])[i * 2 + 1]? = some (.int .i64 x.2) := by
      intro l
      induction l with
      | nil => intro i x h; cases h
      | cons y ys ih =>
        intro i x h
        cases i with
        | zero => injection h with h; subst h; exact ⟨rfl, rfl⟩
        | succ i =>
          have := ih i x h
          rw [show (i + 1) * 2 = i * 2 + 1 + 1 from by omega]
          exact this
    intro i x hx
    have hi : i < n := by
      rcases Nat.lt_or_ge i l.length with h | h
      · omega
      · rw [List.getElem?_eq_none h] at hx; cases hx
    obtain ⟨h0, h1⟩ := fl l i x hx
    rw [← ht, List.getElem?_take, if_pos (by omega), Array.getElem?_toList] at h0 h1
    exact ⟨h0, h1⟩
/-- The state between two rounds. -/
structure Ap (w W : World) (q0 q1 q2 : Int) (v : Value) (k : Nat) (xs : List Value) : Prop where
  below : Below w.heap.size w W
  parts : W.heap[w.heap.size]? = some (.cells #[.int .i64 q0, .int .i64 q1, .int .i64 q2] 3 (0, 0))
  rests : W.ownsRow (w.heap.size + 1) 101 2 v k xs
  size : w.heap.size + 1 ≤ W.heap.size
theorem Ap.cell {w W : World} {q0 q1 q2 : Int} {v : Value} {k : Nat} {xs : List Value} (h : Ap w W q0 q1 q2 v k xs) :
    W.cell? ⟨w.heap.size, 0, none⟩ = some (.int .i64 q0) ∧ W.cell? ⟨w.heap.size, 1, none⟩ = some (.int .i64 q1) ∧ W.cell? ⟨w.heap.size, 2, none⟩ = some (.int .i64 q2) ∧ ∀ i, W.frozen? ⟨w.heap.size, i, none⟩ = false := by
  have hh := h.parts
  exact ⟨by simp [World.cell?, hh], by simp [World.cell?, hh], by simp [World.cell?, hh], fun i => by simp [World.frozen?, hh]⟩
theorem own_ne {W : World} {base e size n p : Nat} {v : Value} {xs : List Value} (h : W.ownsRow base e size v n xs) (hp : p < base) : v.ownBlock ≠ some p := by
  rcases h.2 with ⟨rfl, _⟩ | ⟨g, cap, cur, rfl, hg, _⟩
  · simp [Value.ownBlock]
  · simp [Value.ownBlock]; omega
theorem Ap.set {w W : World} {q0 q1 q2 : Int} {v : Value} {k : Nat} {xs : List Value} (h : Ap w W q0 q1 q2 v k xs) (m o : Nat) (x : Int) :
    ((W.drewN m).setCell ⟨w.heap.size, o, none⟩ (.int .i64 x)).ownsRow (w.heap.size + 1) 101 2 v k xs :=
  h.rests.kept (row := some w.heap.size) ⟨rfl, rfl, rfl, by simp [World.setCell, World.drewN], fun j _ hj => Below.heap_setCell _ _ _ _ (fun e => hj (by rw [e]))⟩ (.inr (own_ne h.rests (by omega)))
theorem Ap.next {w W w2 : World} {q0 q1 q2 : Int} {v v' : Value} {k k' : Nat} {xs xs' : List Value} (h : Ap w W q0 q1 q2 v k xs) (m o : Nat) (x : Int) (ob : Obj) (r0 r1 r2 : Int)
    (hq : (#[.int .i64 q0, .int .i64 q1, .int .i64 q2] : Array Value).setIfInBounds o (.int .i64 x) = #[.int .i64 r0, .int .i64 r1, .int .i64 r2])
    (ho : w2.ownsRow (w.heap.size + 1) 101 2 v' k' xs') (hg : (((W.drewN m).setCell ⟨w.heap.size, o, none⟩ (.int .i64 x)).alloc ob).grownBy w2 v.ownBlock) : Ap w w2 r0 r1 r2 v' k' xs' := by
  have hs := h.size
  have hs1 : (((W.drewN m).setCell ⟨w.heap.size, o, none⟩ (.int .i64 x)).alloc ob).heap.size = W.heap.size + 1 := by simp [World.setCell, World.drewN, World.alloc]
  have hb : Below w.heap.size w (((W.drewN m).setCell ⟨w.heap.size, o, none⟩ (.int .i64 x)).alloc ob) := ((below_draws h.below m).setCell (Nat.le_refl _) _).alloc (by simp [World.setCell, World.drewN]; omega) _
  refine ⟨hb.grown hg (by rw [hs1]; omega) (fun j e => ?_), ?_, ho, ?_⟩
  · rcases h.rests.2 with ⟨rfl, _⟩ | ⟨g, cap, cur, rfl, hgg, _⟩
    · cases e
    · simp [Value.ownBlock] at e; omega
  · have e : (((W.drewN m).setCell ⟨w.heap.size, o, none⟩ (.int .i64 x)).alloc ob).heap[w.heap.size]? = some (.cells #[.int .i64 r0, .int .i64 r1, .int .i64 r2] 3 (0, 0)) := by
      rw [Below.heap_alloc _ _ _ (by simp [World.setCell, World.drewN]; omega)]
      simp only [World.setCell]
      rw [Array.getElem?_modify, if_pos rfl, show (W.drewN m).heap[w.heap.size]? = _ from h.parts]
      simp [hq]
    rw [← e]
    exact hg.block _ (by rw [hs1]; omega) (own_ne h.rests (by omega)).symm
  · have := hg.size
    rw [hs1] at this
    omega
set_option maxRecDepth 100000 in
set_option maxHeartbeats 3200000 in
theorem apportion_alive (b : Nat) (w : World) (hb : b < w.heap.size) (c0 : w.cell? ⟨b, 0, none⟩ = some (.int .i64 3)) (c1 : w.cell? ⟨b, 1, none⟩ = some (.int .i64 3)) (c2 : w.cell? ⟨b, 2, none⟩ = some (.int .i64 1)) :
    Calls Tryd.prog 47 #[.int .i64 10, .slice (some ⟨b, 0, none⟩) 3 3] w fun e w' => ∃ p, e = .returned (.tuple #[.slice (some ⟨p, 0, none⟩) 3 3, .int .i64 0]) ∧ p < w'.heap.size ∧ w'.cell? ⟨p, 0, none⟩ = some (.int .i64 4) ∧ w'.cell? ⟨p, 1, none⟩ = some (.int .i64 4) ∧ w'.cell? ⟨p, 2, none⟩ = some (.int .i64 2) ∧ Below w.heap.size w w' := by
  obtain ⟨i0, hi, hz0, hz1, hz2⟩ := info_parts info101
  have C0 := Lib.hid c0
  have C1 := Lib.hid c1
  have C2 := Lib.hid c2
  have hmk : ∀ w, (Instr.makeSlice 29 (.int .i64 3) (.int .i64 3)).run Tryd.prog w = .ok (.slice (some ⟨w.heap.size, 0, none⟩) 3 3) (w.alloc (.cells #[.int .i64 0, .int .i64 0, .int .i64 0] 3)) := fun _ => by kernel_rfl
  go_enter Tryd.func47, Tryd.ntmps47
  go_wp2_with (first
    | (go_at_call 92; refine (weighed_alive b _ C0.out C1.out C2.out).mono ?_; rintro e w1 ⟨rfl, n, rfl⟩))
  clear hmk
  have hb1 : Below w.heap.size w ((w.drewN n).alloc (.cells #[.int .i64 0, .int .i64 0, .int .i64 0] 3)) := (below_draws (Below.refl _ _) n).alloc (Nat.le_refl _) _
  have hp1 : ((w.drewN n).alloc (.cells #[.int .i64 0, .int .i64 0, .int .i64 0] 3)).heap[w.heap.size]? = some (.cells #[.int .i64 0, .int .i64 0, .int .i64 0] 3 (0, 0)) := by simp [World.alloc]
  have hs1 : w.heap.size < ((w.drewN n).alloc (.cells #[.int .i64 0, .int .i64 0, .int .i64 0] 3)).heap.size := by simp
  generalize ((w.drewN n).alloc (.cells #[.int .i64 0, .int .i64 0, .int .i64 0] 3)) = W1 at hb1 hp1 hs1 ⊢
  have HB1 := Lib.hid hb1
  have HS1 := Lib.hid hs1
  have b0 : W1.cell? ⟨b, 0, none⟩ = some (.int .i64 3) := (hb1.cell (p := ⟨b, 0, none⟩) hb).trans c0
  have q0 : W1.cell? ⟨w.heap.size, 0, none⟩ = some (.int .i64 0) := by simp [World.cell?, hp1]
  have q1 : W1.frozen? ⟨w.heap.size, 0, none⟩ = false := by simp [World.frozen?, hp1]
  have A0 : Ap w W1 0 0 0 (.slice none 0 0) 0 [] := ⟨hb1, hp1, World.ownsRow_nil _ _ _ _, hs1⟩
  clear hb1 hp1 hs1 HB1 HS1 b0 q0 q1 c0 c1 c2
  refine wp_loop_rounds 4 ?_
  change Code.wp _ _ _ _ _
  obtain ⟨p0, p1, p2, pf⟩ := A0.cell
  have pf0 := pf 0
  have b0 : W1.cell? ⟨b, 0, none⟩ = some (.int .i64 3) := (A0.below.cell (p := ⟨b, 0, none⟩) hb).trans C0.out
  clear pf
  have hA0 := Lib.hid A0
  clear A0
  go_wp2_with (first
    | (go_at_call 93; refine (share4 _).mono ?_; rintro e w1 ⟨rfl, n1, rfl⟩)
    | (at_builtin; refine wpList_append_own _ rfl _ _ 98 rfl (w.heap.size + 1) 101 i0 (.agg #[.int .i64 0, .int .i64 0]) 2 16 Tryd.underlying98 hi hz0 hz1 hz2 rfl (by decide) _ _ _ rfl ((hA0.out.set n1 0 4).alloc _) ⟨W1.heap.size, 0, none⟩ 1 1 [.int .i64 0, .int .i64 2] rfl rfl (cell_two' _ _ (size_set' _ _ _ _ _) _ _ _) (by simp [Value.oneCell']) (by unfold maxLen; omega) (by omega) (by have := hA0.out.size; simp; omega) ?_; intro v1 W2 hown1 hgrow1 _; have A1 := hA0.out.next n1 0 4 _ 4 0 0 rfl hown1 hgrow1))
  clear b0 pf0 p0 p1 p2
  change Code.wp _ _ _ _ _
  obtain ⟨g1, k1, rfl⟩ := ownsRow_succ hown1
  obtain ⟨p0, p1, p2, pf⟩ := A1.cell
  have pf0 := pf 1
  have b0 : W2.cell? ⟨b, 1, none⟩ = some (.int .i64 3) := (A1.below.cell (p := ⟨b, 1, none⟩) hb).trans C1.out
  clear pf hown1 hgrow1
  have hA1 := Lib.hid A1
  clear A1
  go_wp2_with (first
    | (go_at_call 93; refine (share4 _).mono ?_; rintro e w1 ⟨rfl, n2, rfl⟩)
    | (at_builtin; refine wpList_append_own _ rfl _ _ 98 rfl (w.heap.size + 1) 101 i0 (.agg #[.int .i64 0, .int .i64 0]) 2 16 Tryd.underlying98 hi hz0 hz1 hz2 rfl (by decide) _ _ _ rfl ((hA1.out.set n2 1 4).alloc _) ⟨W2.heap.size, 0, none⟩ 1 1 [.int .i64 1, .int .i64 2] rfl rfl (cell_two' _ _ (size_set' _ _ _ _ _) _ _ _) (by simp [Value.oneCell']) (by unfold maxLen; omega) (by omega) (by have := hA1.out.size; simp; omega) ?_; intro v2 W3 hown2 hgrow2 _; have A2 := hA1.out.next n2 1 4 _ 4 4 0 rfl hown2 hgrow2))
  clear b0 pf0 p0 p1 p2
  change Code.wp _ _ _ _ _
  obtain ⟨g2, k2, rfl⟩ := ownsRow_succ hown2
  obtain ⟨p0, p1, p2, pf⟩ := A2.cell
  have pf0 := pf 2
  have b0 : W3.cell? ⟨b, 2, none⟩ = some (.int .i64 1) := (A2.below.cell (p := ⟨b, 2, none⟩) hb).trans C2.out
  clear pf hown2 hgrow2
  have hA2 := Lib.hid A2
  clear A2
  go_wp2_with (first
    | (go_at_call 93; refine (share1 _).mono ?_; rintro e w1 ⟨rfl, n3, rfl⟩)
    | (at_builtin; refine wpList_append_own _ rfl _ _ 98 rfl (w.heap.size + 1) 101 i0 (.agg #[.int .i64 0, .int .i64 0]) 2 16 Tryd.underlying98 hi hz0 hz1 hz2 rfl (by decide) _ _ _ rfl ((hA2.out.set n3 2 1).alloc _) ⟨W3.heap.size, 0, none⟩ 1 1 [.int .i64 2, .int .i64 3] rfl rfl (cell_two' _ _ (size_set' _ _ _ _ _) _ _ _) (by simp [Value.oneCell']) (by unfold maxLen; omega) (by omega) (by have := hA2.out.size; simp; omega) ?_; intro v3 W4 hown3 hgrow3 _; have A3 := hA2.out.next n3 2 1 _ 4 4 1 rfl hown3 hgrow3))
  clear b0 pf0 p0 p1 p2
  obtain ⟨g3, k3, rfl⟩ := ownsRow_succ hown3
  obtain ⟨hR, hk3, hg3⟩ := rst_own (l := [(0, 2), (1, 2), (2, 3)]) hown3 rfl
  have hR' := Lib.hid hR
  have hA3 := Lib.hid A3
  have hglt := hR.lt
  clear hown3 hgrow3 A3 hR
  change Code.wp _ _ _ _ _
  go_upto_region 18 with (first
    | (go_at_call 94; refine (sort3 g3 k3 _ _ _ _ hR'.out hk3).mono ?_; rintro e W5 ⟨rfl, hg5, hR5⟩))
  obtain ⟨p0, p1, p2, pf⟩ := hA3.out.cell
  have ne3 : w.heap.size ≠ g3 := by omega
  have eP : W5.heap[w.heap.size]? = W4.heap[w.heap.size]? := hg5.block _ (by have := hA3.out.size; omega) (by simpa using ne3)
  have P := eP.trans hA3.out.parts
  have hb5 : Below w.heap.size w W5 := hA3.out.below.grown hg5 (by have := hA3.out.size; omega) (fun k e => by cases e; omega)
  have hR5' : Rst W5 g3 [(2, 3), (0, 2), (1, 2)] := hR5
  have z0 := (hR5'.cell (i := 0) rfl).1
  have z1 := (hR5'.cell (i := 0) rfl).2
  have hs5 := hR5'.lt
  simp only [Nat.zero_mul, Nat.zero_add] at z0 z1
  have y2 : W5.cell? ⟨w.heap.size, 2, none⟩ = some (.int .i64 1) := by simp [World.cell?, P]
  have y3 : W5.frozen? ⟨w.heap.size, 2, none⟩ = false := by simp [World.frozen?, P]
  have P' := Lib.hid P
  have hb5' := Lib.hid hb5
  have hs5p : w.heap.size < W5.heap.size := by omega
  clear P eP hR5 hR5' hb5 p0 p1 p2 pf hg5 hA0 hA1 hA2 hA3 hR'
  go_wp2
  refine wp_loop_rounds 2 ?_
  change Code.wp _ _ _ _ _
  go_wp2
  change Code.wp _ _ _ _ _
  go_wp2
  have F : ((W5.setCell ⟨w.heap.size, 2, none⟩ (.int .i64 2)).alloc (.cells #[.int .i64 2, .int .i64 3] 101)).heap[w.heap.size]? = some (.cells #[.int .i64 4, .int .i64 4, .int .i64 2] 3 (0, 0)) := by
    rw [Below.heap_alloc _ _ _ (by simp [World.setCell]; omega)]
    simp only [World.setCell]
    rw [Array.getElem?_modify, if_pos rfl, P'.out]
    rfl
  have hbF : Below w.heap.size w ((W5.setCell ⟨w.heap.size, 2, none⟩ (.int .i64 2)).alloc (.cells #[.int .i64 2, .int .i64 3] 101)) := (hb5'.out.setCell (Nat.le_refl _) _).alloc (by simp [World.setCell]; omega) _
  have F' := Lib.hid F
  clear F
  go_ret2
  have F := F'.out
  exact ⟨w.heap.size, rfl, (Array.getElem?_eq_some_iff.1 F).1, by simp [World.cell?, F], by simp [World.cell?, F], by simp [World.cell?, F], hbF⟩
/-- Two lists of three are the same. -/
theorem same_alive (b p : Nat) (w : World) (c0 : w.cell? ⟨p, 0, none⟩ = some (.int .i64 4)) (c1 : w.cell? ⟨p, 1, none⟩ = some (.int .i64 4)) (c2 : w.cell? ⟨p, 2, none⟩ = some (.int .i64 2))
    (d0 : w.cell? ⟨b, 0, none⟩ = some (.int .i64 4)) (d1 : w.cell? ⟨b, 1, none⟩ = some (.int .i64 4)) (d2 : w.cell? ⟨b, 2, none⟩ = some (.int .i64 2)) :
    Calls Tryd.prog 41 #[.slice (some ⟨p, 0, none⟩) 3 3, .slice (some ⟨b, 0, none⟩) 3 3] w fun e w' => e = .returned (.bool true) ∧ ∃ n, w' = w.drewN n := by
  go_enter Tryd.func41, Tryd.ntmps41
  go_wp2
  refine wp_loop_rounds 4 ?_
  change Code.wp _ _ _ _ _
  go_wp2
  go_quiet (fail)
  go_wp2
  change Code.wp _ _ _ _ _
  go_wp2
  go_quiet (fail)
  go_wp2
  change Code.wp _ _ _ _ _
  go_wp2
  go_quiet (fail)
  go_wp2
  change Code.wp _ _ _ _ _
  go_wp2
  go_ret
  exact ⟨rfl, _, rfl⟩
end Go.Proofs.Num

namespace Go.Proofs
open Go.Shelf
def Tryd.lays105_ren : Go.Shelf.Ren := ⟨fun | 105 => 109 | 212 => 120 | 99 => 121 | 165 => 122 | 166 => 123 | 170 => 124 | 169 => 125 | 263 => 134 | 264 => 114 | 206 => 135 | 240 => 136 | 241 => 137 | 276 => 144 | 277 => 145 | n => n, fun | 9 => 9 | 3 => 3 | 4 => 4 | 20 => 20 | 0 => 0 | 46 => 119 | 109 => 120 | 5 => 5 | 72 => 126 | 76 => 130 | 51 => 143 | 146 => 144 | 53 => 81 | 148 => 112 | 70 => 123 | 37 => 124 | 75 => 129 | 127 => 146 | 164 => 151 | 80 => 133 | n => n, fun | n => n⟩
theorem Tryd.lays105 : Go.Proofs.Lays.n105 Tryd.prog Tryd.lays105_ren := {
  mixed := by kernel_rfl
  f99 := Tryd.func121.trans (congrArg some (by kernel_rfl))
  f105 := Tryd.func109.trans (congrArg some (by kernel_rfl))
  f165 := Tryd.func122.trans (congrArg some (by kernel_rfl))
  f166 := Tryd.func123.trans (congrArg some (by kernel_rfl))
  f169 := Tryd.func125.trans (congrArg some (by kernel_rfl))
  f170 := Tryd.func124.trans (congrArg some (by kernel_rfl))
  f206 := Tryd.func135.trans (congrArg some (by kernel_rfl))
  f212 := Tryd.func120.trans (congrArg some (by kernel_rfl))
  f240 := Tryd.func136.trans (congrArg some (by kernel_rfl))
  f241 := Tryd.func137.trans (congrArg some (by kernel_rfl))
  f263 := Tryd.func134.trans (congrArg some (by kernel_rfl))
  f264 := Tryd.func114.trans (congrArg some (by kernel_rfl))
  f276 := Tryd.func144.trans (congrArg some (by kernel_rfl))
  f277 := Tryd.func145.trans (congrArg some (by kernel_rfl))
  t0 := Tryd.underlying0
  a0 := Tryd.isAgg0
  z0 := Tryd.sizeOf0
  v0 := Tryd.zeroValue0
  t3 := Tryd.underlying3
  a3 := Tryd.isAgg3
  z3 := Tryd.sizeOf3
  v3 := Tryd.zeroValue3
  t4 := Tryd.underlying4
  a4 := Tryd.isAgg4
  z4 := Tryd.sizeOf4
  v4 := Tryd.zeroValue4
  t5 := Tryd.underlying5
  a5 := Tryd.isAgg5
  z5 := Tryd.sizeOf5
  v5 := Tryd.zeroValue5
  t9 := Tryd.underlying9
  a9 := Tryd.isAgg9
  z9 := Tryd.sizeOf9
  v9 := Tryd.zeroValue9
  t20 := Tryd.underlying20
  a20 := Tryd.isAgg20
  z20 := Tryd.sizeOf20
  v20 := Tryd.zeroValue20
  t37 := Tryd.underlying124
  a37 := Tryd.isAgg124
  z37 := Tryd.sizeOf124
  v37 := Tryd.zeroValue124
  t46 := Tryd.underlying119
  a46 := Tryd.isAgg119
  z46 := Tryd.sizeOf119
  v46 := Tryd.zeroValue119
  t51 := Tryd.underlying143
  a51 := Tryd.isAgg143
  z51 := Tryd.sizeOf143
  v51 := Tryd.zeroValue143
  t53 := Tryd.underlying81
  a53 := Tryd.isAgg81
  z53 := Tryd.sizeOf81
  v53 := Tryd.zeroValue81
  t70 := Tryd.underlying123
  a70 := Tryd.isAgg123
  z70 := Tryd.sizeOf123
  v70 := Tryd.zeroValue123
  t72 := Tryd.underlying126
  a72 := Tryd.isAgg126
  z72 := Tryd.sizeOf126
  v72 := Tryd.zeroValue126
  t75 := Tryd.underlying129
  a75 := Tryd.isAgg129
  z75 := Tryd.sizeOf129
  v75 := Tryd.zeroValue129
  t76 := Tryd.underlying130
  a76 := Tryd.isAgg130
  z76 := Tryd.sizeOf130
  v76 := Tryd.zeroValue130
  t109 := Tryd.underlying120
  a109 := Tryd.isAgg120
  z109 := Tryd.sizeOf120
  v109 := Tryd.zeroValue120
  t127 := Tryd.underlying146
  a127 := Tryd.isAgg146
  z127 := Tryd.sizeOf146
  v127 := Tryd.zeroValue146
  t146 := Tryd.underlying144
  a146 := Tryd.isAgg144
  z146 := Tryd.sizeOf144
  v146 := Tryd.zeroValue144
  t148 := Tryd.underlying112
  a148 := Tryd.isAgg112
  z148 := Tryd.sizeOf112
  v148 := Tryd.zeroValue112
  t164 := Tryd.underlying151
  a164 := Tryd.isAgg151
  z164 := Tryd.sizeOf151
  v164 := Tryd.zeroValue151 }
theorem Tryd.Builder_Extra_105 : Builder.Extra Tryd.prog Tryd.lays105_ren := {
  sizeBuilder := by kernel_rfl
  liesBuilder := by kernel_rfl
  t5 := Tryd.underlying5
  a5 := Tryd.isAgg5
  z5 := Tryd.sizeOf5
  v5 := Tryd.zeroValue5
  infoByte := by kernel_rfl
  cellsByte := by kernel_rfl
  sizeByte := by kernel_rfl
  neB5 := by decide }
open Go.RowKit Go.Lib in
open Go.RowKit Go.Lib in
open Go.RowKit Go.Lib in
open Go.RowKit Go.Lib in
open Go.RowKit Go.Lib in
open Go.RowKit Go.Lib in
open Go.RowKit Go.Lib in
/-- **strings.Repeat: count ≥ 0, the result within one allocation: count copies of s.** (LAID: no walk: one application.) -/
theorem Tryd.strings_Repeat (s : ByteArray) (c : Nat) (w : World) (hc : c ≤ 9223372036854775807) (hlen : s.size * c ≤ 140737488355328) :
    Calls Tryd.prog 109 #[.string s, .int .i64 c] w fun e w' => e = .returned (.string ⟨(Lib.repeatL s.data.toList c).toArray⟩) ∧ Below w.heap.size w w' := Any.strings_Repeat Tryd.lays105 Tryd.Builder_Extra_105 s c w hc hlen
end Go.Proofs

namespace Go.Proofs.Num
open Go.RowKit
set_option linter.unusedVariables false
set_option linter.unusedSimpArgs false
theorem size_alive (w : World) : Calls Tryd.prog 78 #[.int .i64 (-5)] w fun e w' => e = .returned (.int .u64 5) ∧ w' = w := by
  go_enter Tryd.func78, Tryd.ntmps78
  go_wp2
  go_ret
  exact ⟨by rfl, rfl⟩
set_option maxRecDepth 100000 in
theorem small_alive (w : World) : Calls Tryd.prog 130 #[.int .i64 5] w fun e w' => e = .returned (.string ⟨#[53]⟩) ∧ w' = w := by
  go_enter Tryd.func130, Tryd.ntmps130
  go_wp2
  go_ret
  exact ⟨by rfl, rfl⟩
set_option maxRecDepth 100000 in
theorem format_alive (w : World) : Calls Tryd.prog 108 #[.int .u64 5, .int .i64 10] w fun e w' => e = .returned (.string ⟨#[53]⟩) ∧ w' = w := by
  go_enter Tryd.func108, Tryd.ntmps108
  go_wp2_with (first
    | (go_at_call 130; refine (small_alive _).mono ?_; rintro e w1 ⟨rfl, rfl⟩)
    | go_in)
  go_ret
  exact ⟨by rfl, rfl⟩
theorem repeat_alive (w : World) : Calls Tryd.prog 109 #[.string ⟨#[48]⟩, .int .i64 2] w fun e w' => e = .returned (.string ⟨#[48, 48]⟩) ∧ Below w.heap.size w w' :=
  (Tryd.strings_Repeat ⟨#[48]⟩ 2 w (by decide) (by decide)).mono fun _ _ ⟨h1, h2⟩ => ⟨h1.trans (by rfl), h2⟩
set_option maxRecDepth 100000 in
set_option maxHeartbeats 1600000 in
theorem decimal_alive (w : World) : Calls Tryd.prog 72 #[.int .i64 (-5), .int .i64 2] w fun e w' => e = .returned (.tuple #[.string ⟨#[45, 48, 46, 48, 53]⟩, .int .i64 0]) ∧ Below w.heap.size w w' := by
  have e0 : (⟨#[48, 48]⟩ : ByteArray) ++ ⟨#[53]⟩ = ⟨#[48, 48, 53]⟩ := by decide
  go_enter Tryd.func72, Tryd.ntmps72
  go_upto_region 7 with (first
    | (go_at_call 78; refine (size_alive _).mono ?_; rintro e w1 ⟨rfl, rfl⟩)
    | (go_at_call 108; refine (format_alive _).mono ?_; rintro e w1 ⟨rfl, rfl⟩)
    | (go_at_call 109; refine (repeat_alive _).mono ?_; rintro e w1 ⟨rfl, hb⟩))
  go_quiet (fail)
  go_wp2
  go_ret2
  refine ⟨?_, hb.trans ⟨rfl, rfl, rfl, Nat.le_refl _, fun _ _ => rfl⟩⟩
  have e1 : (⟨#[45]⟩ : ByteArray) ++ ((⟨#[48, 48, 53]⟩ : ByteArray).extract 0 1 ++ ⟨#[46]⟩ ++ (⟨#[48, 48, 53]⟩ : ByteArray).extract 1 3) = ⟨#[45, 48, 46, 48, 53]⟩ := by decide
  exact congrArg (fun x => Ending.returned (.tuple #[.string x, .int .i64 0])) e1
end Go.Proofs.Num

namespace Go.Proofs.YtdjnneflpkllmaaDoor.Q
open Go.RowKit Go.Proofs.YtdjnneflpkllmaaDoorW.PrintWords Go.Proofs.YtdjnneflpkllmaaDoorW.PrintLast Go.Proofs.YtdjnneflpkllmaaDoorW.PrintMore
attribute [local go_sem] max2_int min2_int max_two min_two max_three min_three max_four min_four   -- for this text's walks alone
set_option linter.unusedVariables false
set_option linter.unusedSimpArgs false
def num_size.f (a0 : Int) : Option (Int) := if a0 < 0 then (some (IntKind.u64.wrap (-(IntKind.u64.wrap (a0))))) else (some (IntKind.u64.wrap (a0)))
set_option maxHeartbeats 8000000 in
set_option maxRecDepth 100000 in
theorem num_size.calls (a0 : Int) (r : Int) (w : World) (h : num_size.f a0 = some r) :
    Calls Tryd.prog 78 #[.int .i64 a0] w fun e w' => e = .returned (.int .u64 r) ∧ Drawn0 w w' := by
  have H : (if a0 < 0 then (some (IntKind.u64.wrap (-(IntKind.u64.wrap (a0))))) else (some (IntKind.u64.wrap (a0)))) = some r := h
  clear h
  by_cases c2 : a0 < 0
  · rw [if_pos c2] at H
    have c2b0 : decide (a0 < 0) = true := decide_eq_true c2
    clear c2
    obtain rfl := Option.some.inj H
    go_enter Tryd.func78, Tryd.ntmps78
    go_wp2
    go_ret
    exact ⟨by first | rfl | (simp; done) | (simp [*]; done), by repeat (first | exact Drawn0.refl _ | apply Drawn0.step)⟩
  · rw [if_neg c2] at H
    have c2b0 : decide (a0 < 0) = false := decide_eq_false c2
    clear c2
    obtain rfl := Option.some.inj H
    go_enter Tryd.func78, Tryd.ntmps78
    go_wp2
    go_ret
    exact ⟨by first | rfl | (simp; done) | (simp [*]; done), by repeat (first | exact Drawn0.refl _ | apply Drawn0.step)⟩
end Go.Proofs.YtdjnneflpkllmaaDoor.Q

namespace Go.Proofs.YtdjnneflpkllmaaDoor.Q
open Go.RowKit Go.Proofs.YtdjnneflpkllmaaDoorW.PrintWords Go.Proofs.YtdjnneflpkllmaaDoorW.PrintLast Go.Proofs.YtdjnneflpkllmaaDoorW.PrintMore
attribute [local go_sem] max2_int min2_int max_two min_two max_three min_three max_four min_four   -- for this text's walks alone
set_option linter.unusedVariables false
set_option linter.unusedSimpArgs false
def num_gcd.l0 : Nat → Int → Int → Option (Int)
  | 0, _, _ => none
  | k + 1, x0, x1 => if x1 = 0 then (some x0) else (num_gcd.l0 k x1 (Int.tmod x0 x1))
def num_gcd.f (k : Nat) (a0 : Int) (a1 : Int) : Option (Int) := num_gcd.l0 k a0 a1
theorem num_gcd.mono_l : ∀ k, (∀ y0 y1, LeO (num_gcd.l0 k y0 y1) (num_gcd.l0 (k + 1) y0 y1))
  | 0 => fun _ _ r h => by simp [num_gcd.l0] at h
  | k + 1 => by
    have ih0 := num_gcd.mono_l k
    · intro y0 y1
      unfold num_gcd.l0
      repeat' first
      | (with_reducible exact ih0 _ _)
      | (with_reducible exact LeO.refl _)
      | (with_reducible exact LeO.none _)
      | (with_reducible refine LeO.ite ?_ ?_)
      | (with_reducible refine LeO.bind ?_ (fun _ => ?_))
      | exact ih0 _ _
      | exact LeO.none _
      | refine LeO.ite ?_ ?_
      | refine LeO.bind ?_ (fun _ => ?_)
theorem num_gcd.mono : ∀ a0 a1 k, LeO (num_gcd.f k a0 a1) (num_gcd.f (k + 1) a0 a1) := by
  intro a0 a1 k
  have ih0 := num_gcd.mono_l k
  unfold num_gcd.f
  repeat' first
      | (with_reducible exact ih0 _ _)
      | (with_reducible exact LeO.refl _)
      | (with_reducible exact LeO.none _)
      | (with_reducible refine LeO.ite ?_ ?_)
      | (with_reducible refine LeO.bind ?_ (fun _ => ?_))
      | exact ih0 _ _
      | exact LeO.none _
      | refine LeO.ite ?_ ?_
      | refine LeO.bind ?_ (fun _ => ?_)
set_option maxHeartbeats 8000000 in
set_option maxRecDepth 100000 in
theorem num_gcd.calls (k : Nat) (a0 : Int) (a1 : Int) (r : Int) (w : World) (h : num_gcd.f k a0 a1 = some r) :
    Calls Tryd.prog 77 #[.int .u64 a0, .int .u64 a1] w fun e w' => e = .returned (.int .u64 r) ∧ Drawn0 w w' := by
  have H : (num_gcd.l0 k a0 a1) = some r := h
  clear h
  have H' := Aside0.mk H
  clear H
  go_enter Tryd.func77, Tryd.ntmps77
  go_wp2
  repeat (go_quiet (fail); try go_wp2)
  go_loopg [0, 1] k (fun kq v0 v1 w' => ∃ (x0_1 : Int) (x1_1 : Int), v0 = .int .u64 x0_1 ∧ v1 = .int .u64 x1_1 ∧ Aside0 (num_gcd.l0 kq x0_1 x1_1 = some r) ∧ Aside0 (kq ≤ k) ∧ Drawn0 w w')
  case atStart => exact ⟨(a0), (a1), (by first | rfl | (simp; done) | (simp [*]; done)), (by first | rfl | (simp; done) | (simp [*]; done)), H', ⟨Nat.le_refl _⟩, by repeat (first | exact Drawn0.refl _ | apply Drawn0.step)⟩
  case round =>
    clear H'
    try clear p2
    obtain ⟨x0_1, x1_1, rfl, rfl, HA, HK1, ⟨m1, rfl⟩⟩ := hrel
    cases gk with
    | zero => exact absurd HA.out (by simp [num_gcd.l0])
    | succ k1 =>
      have H := HA.out
      clear HA
      simp only [num_gcd.l0] at H
      by_cases c3 : x1_1 = 0
      · rw [if_pos c3] at H
        have c3b0 : (x1_1 == 0) = true := beq_iff_eq.mpr c3
        have c3b1 : (x1_1 != 0) = false := bne_eq_false_iff_eq.mpr c3
        clear c3
        obtain rfl := Option.some.inj H
        go_wp2
        repeat (go_quiet (fail); try go_wp2)
        go_ret
        exact ⟨by first | rfl | (simp; done) | (simp [*]; done), by repeat (first | exact Drawn0.refl _ | apply Drawn0.step)⟩
      · rw [if_neg c3] at H
        have c3b0 : (x1_1 == 0) = false := beq_eq_false_iff_ne.mpr c3
        have c3b1 : (x1_1 != 0) = true := bne_iff_ne.mpr c3
        have H' := Aside0.mk H
        clear H
        go_wp2
        repeat (go_quiet (fail); try go_wp2)
        go_roundg k1
        case measure => have := HK1.out; omega
        case rel => exact ⟨(x1_1), (Int.tmod x0_1 x1_1), (by first | rfl | (simp; done) | (simp [*]; done)), (by first | rfl | (simp; done) | (simp [*]; done)), H', ⟨by have := HK1.out; omega⟩, by repeat (first | exact Drawn0.refl _ | apply Drawn0.step)⟩
def num_Valid.f (k : Nat) (a0_0 : Int) (a0_1 : Int) : Option (Bool) := if a0_1 ≥ 1 then (if a0_1 ≤ 1048576 then (if a0_0 ≥ (-1099511627776) then (if a0_0 ≤ 1099511627776 then ((num_size.f a0_0).bind fun t116 => ((num_gcd.f k t116 (IntKind.u64.wrap (a0_1))).bind fun t117 => (some (t117 == 1)))) else (some false)) else (some false)) else (some false)) else (some false)
theorem num_Valid.mono : ∀ a0 a1 k, LeO (num_Valid.f k a0 a1) (num_Valid.f (k + 1) a0 a1) := by
  intro a0 a1 k
  unfold num_Valid.f
  repeat' first
      | (with_reducible exact num_gcd.mono _ _ _)
      | (with_reducible exact LeO.refl _)
      | (with_reducible exact LeO.none _)
      | (with_reducible refine LeO.ite ?_ ?_)
      | (with_reducible refine LeO.bind ?_ (fun _ => ?_))
      | exact num_gcd.mono _ _ _
      | exact LeO.none _
      | refine LeO.ite ?_ ?_
      | refine LeO.bind ?_ (fun _ => ?_)
set_option maxHeartbeats 8000000 in
set_option maxRecDepth 100000 in
theorem num_Valid.calls (k : Nat) (a0_0 : Int) (a0_1 : Int) (r : Bool) (w : World) (h : num_Valid.f k a0_0 a0_1 = some r) :
    Calls Tryd.prog 26 #[.agg #[.int .i64 a0_0, .int .i64 a0_1]] w fun e w' => e = .returned (.bool r) ∧ Below w.heap.size w w' := by
  have hu23 := Tryd.underlying23
  have HB := Aside0.mk (Below.refl w.heap.size w)
  have H : (if a0_1 ≥ 1 then (if a0_1 ≤ 1048576 then (if a0_0 ≥ (-1099511627776) then (if a0_0 ≤ 1099511627776 then ((num_size.f a0_0).bind fun t116 => ((num_gcd.f k t116 (IntKind.u64.wrap (a0_1))).bind fun t117 => (some (t117 == 1)))) else (some false)) else (some false)) else (some false)) else (some false)) = some r := h
  clear h
  by_cases c2 : a0_1 ≥ 1
  · rw [if_pos c2] at H
    have c2b0 : decide (1 ≤ a0_1) = true := decide_eq_true c2
    clear c2
    by_cases c3 : a0_1 ≤ 1048576
    · rw [if_pos c3] at H
      have c3b0 : decide (a0_1 ≤ 1048576) = true := decide_eq_true c3
      clear c3
      by_cases c4 : a0_0 ≥ (-1099511627776)
      · rw [if_pos c4] at H
        have c4b0 : decide ((-1099511627776) ≤ a0_0) = true := decide_eq_true c4
        clear c4
        by_cases c5 : a0_0 ≤ 1099511627776
        · rw [if_pos c5] at H
          have c5b0 : decide (a0_0 ≤ 1099511627776) = true := decide_eq_true c5
          clear c5
          replace H := Option.bind_eq_some_iff.mp H
          obtain ⟨t116, A60, H⟩ := H
          replace H : ((num_gcd.f k t116 (IntKind.u64.wrap (a0_1))).bind fun t117 => (some (t117 == 1))) = some r := H
          have A6 := Aside0.mk A60
          clear A60
          replace H := Option.bind_eq_some_iff.mp H
          obtain ⟨t117, A70, H⟩ := H
          replace H : (some (t117 == 1)) = some r := H
          have A7 := Aside0.mk A70
          clear A70
          obtain rfl := Option.some.inj H
          go_enter Tryd.func26, Tryd.ntmps26
          go_wp2_with (first | ((with_reducible refine gate_dst (N := 1) rfl ?_); refine box_event ?hg (N := 1) ?hd (cs := #[.int .i64 a0_0, .int .i64 a0_1]) (t := 23) ?hr ?_; (case hd => rfl); (case hg => rfl); (case hr => first | (go_simp; done) | (go_simp; rfl)); intro gb115 hg w8 hbox hb; have n0_ := Aside0.mk (below_step (q0_ HB.out) hb); have n1_ := Aside0.mk (hbox); have n2_ := Aside0.mk ((by rw [hg]; exact (below_size (q0_ HB.out)) : w.heap.size ≤ gb115)); have n3_ := Aside0.mk ((by rw [hg]; exact (below_size (q0_ HB.out)) : w.heap.size ≤ gb115)); clear HB; have HB := n0_; have BK115 := n1_; have GW115 := n2_; have GE115 := n3_; clear n0_ n1_ n2_ n3_; clear hb hbox hg; have hcz9_0 : w8.cell? ⟨gb115, 0, none⟩ = some (.int .i64 a0_0) := (blk_cell BK115.out 0).trans rfl; have hcz9_1 : w8.cell? ⟨gb115, 1, none⟩ = some (.int .i64 a0_1) := (blk_cell BK115.out 1).trans rfl; have hfz9_0 := blk_frozen BK115.out 0; have hfz9_1 := blk_frozen BK115.out 1) | (go_at_call 78; (with_reducible refine (num_size.calls a0_0 t116 _ A6.out).mono ?_); rintro e w' ⟨rfl, ⟨nd, rfl⟩⟩; (try first | exact ⟨rfl, _, World.drewN_drewN _ _ _⟩ | exact ⟨rfl, _, Eq.trans (World.drewN_drewN _ _ _) (congrArg (World.drewN _) (Nat.add_assoc _ _ _))⟩)) | (go_at_call 77; (with_reducible refine (num_gcd.calls k t116 (IntKind.u64.wrap (a0_1)) t117 _ A7.out).mono ?_); rintro e w' ⟨rfl, ⟨nd, rfl⟩⟩; (try first | exact ⟨rfl, _, World.drewN_drewN _ _ _⟩ | exact ⟨rfl, _, Eq.trans (World.drewN_drewN _ _ _) (congrArg (World.drewN _) (Nat.add_assoc _ _ _))⟩)))
          repeat (go_quiet (first | ((with_reducible refine gate_dst (N := 1) rfl ?_); refine box_event ?hg (N := 1) ?hd (cs := #[.int .i64 a0_0, .int .i64 a0_1]) (t := 23) ?hr ?_; (case hd => rfl); (case hg => rfl); (case hr => first | (go_simp; done) | (go_simp; rfl)); intro gb115 hg w8 hbox hb; have n0_ := Aside0.mk (below_step (q0_ HB.out) hb); have n1_ := Aside0.mk (hbox); have n2_ := Aside0.mk ((by rw [hg]; exact (below_size (q0_ HB.out)) : w.heap.size ≤ gb115)); have n3_ := Aside0.mk ((by rw [hg]; exact (below_size (q0_ HB.out)) : w.heap.size ≤ gb115)); clear HB; have HB := n0_; have BK115 := n1_; have GW115 := n2_; have GE115 := n3_; clear n0_ n1_ n2_ n3_; clear hb hbox hg; have hcz9_0 : w8.cell? ⟨gb115, 0, none⟩ = some (.int .i64 a0_0) := (blk_cell BK115.out 0).trans rfl; have hcz9_1 : w8.cell? ⟨gb115, 1, none⟩ = some (.int .i64 a0_1) := (blk_cell BK115.out 1).trans rfl; have hfz9_0 := blk_frozen BK115.out 0; have hfz9_1 := blk_frozen BK115.out 1) | (go_at_call 78; (with_reducible refine (num_size.calls a0_0 t116 _ A6.out).mono ?_); rintro e w' ⟨rfl, ⟨nd, rfl⟩⟩; (try first | exact ⟨rfl, _, World.drewN_drewN _ _ _⟩ | exact ⟨rfl, _, Eq.trans (World.drewN_drewN _ _ _) (congrArg (World.drewN _) (Nat.add_assoc _ _ _))⟩)) | (go_at_call 77; (with_reducible refine (num_gcd.calls k t116 (IntKind.u64.wrap (a0_1)) t117 _ A7.out).mono ?_); rintro e w' ⟨rfl, ⟨nd, rfl⟩⟩; (try first | exact ⟨rfl, _, World.drewN_drewN _ _ _⟩ | exact ⟨rfl, _, Eq.trans (World.drewN_drewN _ _ _) (congrArg (World.drewN _) (Nat.add_assoc _ _ _))⟩))); try go_wp2_with (first | ((with_reducible refine gate_dst (N := 1) rfl ?_); refine box_event ?hg (N := 1) ?hd (cs := #[.int .i64 a0_0, .int .i64 a0_1]) (t := 23) ?hr ?_; (case hd => rfl); (case hg => rfl); (case hr => first | (go_simp; done) | (go_simp; rfl)); intro gb115 hg w8 hbox hb; have n0_ := Aside0.mk (below_step (q0_ HB.out) hb); have n1_ := Aside0.mk (hbox); have n2_ := Aside0.mk ((by rw [hg]; exact (below_size (q0_ HB.out)) : w.heap.size ≤ gb115)); have n3_ := Aside0.mk ((by rw [hg]; exact (below_size (q0_ HB.out)) : w.heap.size ≤ gb115)); clear HB; have HB := n0_; have BK115 := n1_; have GW115 := n2_; have GE115 := n3_; clear n0_ n1_ n2_ n3_; clear hb hbox hg; have hcz9_0 : w8.cell? ⟨gb115, 0, none⟩ = some (.int .i64 a0_0) := (blk_cell BK115.out 0).trans rfl; have hcz9_1 : w8.cell? ⟨gb115, 1, none⟩ = some (.int .i64 a0_1) := (blk_cell BK115.out 1).trans rfl; have hfz9_0 := blk_frozen BK115.out 0; have hfz9_1 := blk_frozen BK115.out 1) | (go_at_call 78; (with_reducible refine (num_size.calls a0_0 t116 _ A6.out).mono ?_); rintro e w' ⟨rfl, ⟨nd, rfl⟩⟩; (try first | exact ⟨rfl, _, World.drewN_drewN _ _ _⟩ | exact ⟨rfl, _, Eq.trans (World.drewN_drewN _ _ _) (congrArg (World.drewN _) (Nat.add_assoc _ _ _))⟩)) | (go_at_call 77; (with_reducible refine (num_gcd.calls k t116 (IntKind.u64.wrap (a0_1)) t117 _ A7.out).mono ?_); rintro e w' ⟨rfl, ⟨nd, rfl⟩⟩; (try first | exact ⟨rfl, _, World.drewN_drewN _ _ _⟩ | exact ⟨rfl, _, Eq.trans (World.drewN_drewN _ _ _) (congrArg (World.drewN _) (Nat.add_assoc _ _ _))⟩))))
          go_ret
          exact ⟨by first | rfl | (simp [errW_none, errW_some] <;> rfl) | (simp [*, errW_none, errW_some] <;> rfl), (q1_ HB.out GE115.out)⟩
        · rw [if_neg c5] at H
          have c5b0 : decide (a0_0 ≤ 1099511627776) = false := decide_eq_false c5
          clear c5
          obtain rfl := Option.some.inj H
          go_enter Tryd.func26, Tryd.ntmps26
          go_wp2_with (first | ((with_reducible refine gate_dst (N := 1) rfl ?_); refine box_event ?hg (N := 1) ?hd (cs := #[.int .i64 a0_0, .int .i64 a0_1]) (t := 23) ?hr ?_; (case hd => rfl); (case hg => rfl); (case hr => first | (go_simp; done) | (go_simp; rfl)); intro gb115 hg w10 hbox hb; have n0_ := Aside0.mk (below_step (q0_ HB.out) hb); have n1_ := Aside0.mk (hbox); have n2_ := Aside0.mk ((by rw [hg]; exact (below_size (q0_ HB.out)) : w.heap.size ≤ gb115)); have n3_ := Aside0.mk ((by rw [hg]; exact (below_size (q0_ HB.out)) : w.heap.size ≤ gb115)); clear HB; have HB := n0_; have BK115 := n1_; have GW115 := n2_; have GE115 := n3_; clear n0_ n1_ n2_ n3_; clear hb hbox hg; have hcz11_0 : w10.cell? ⟨gb115, 0, none⟩ = some (.int .i64 a0_0) := (blk_cell BK115.out 0).trans rfl; have hcz11_1 : w10.cell? ⟨gb115, 1, none⟩ = some (.int .i64 a0_1) := (blk_cell BK115.out 1).trans rfl; have hfz11_0 := blk_frozen BK115.out 0; have hfz11_1 := blk_frozen BK115.out 1))
          repeat (go_quiet (first | ((with_reducible refine gate_dst (N := 1) rfl ?_); refine box_event ?hg (N := 1) ?hd (cs := #[.int .i64 a0_0, .int .i64 a0_1]) (t := 23) ?hr ?_; (case hd => rfl); (case hg => rfl); (case hr => first | (go_simp; done) | (go_simp; rfl)); intro gb115 hg w10 hbox hb; have n0_ := Aside0.mk (below_step (q0_ HB.out) hb); have n1_ := Aside0.mk (hbox); have n2_ := Aside0.mk ((by rw [hg]; exact (below_size (q0_ HB.out)) : w.heap.size ≤ gb115)); have n3_ := Aside0.mk ((by rw [hg]; exact (below_size (q0_ HB.out)) : w.heap.size ≤ gb115)); clear HB; have HB := n0_; have BK115 := n1_; have GW115 := n2_; have GE115 := n3_; clear n0_ n1_ n2_ n3_; clear hb hbox hg; have hcz11_0 : w10.cell? ⟨gb115, 0, none⟩ = some (.int .i64 a0_0) := (blk_cell BK115.out 0).trans rfl; have hcz11_1 : w10.cell? ⟨gb115, 1, none⟩ = some (.int .i64 a0_1) := (blk_cell BK115.out 1).trans rfl; have hfz11_0 := blk_frozen BK115.out 0; have hfz11_1 := blk_frozen BK115.out 1)); try go_wp2_with (first | ((with_reducible refine gate_dst (N := 1) rfl ?_); refine box_event ?hg (N := 1) ?hd (cs := #[.int .i64 a0_0, .int .i64 a0_1]) (t := 23) ?hr ?_; (case hd => rfl); (case hg => rfl); (case hr => first | (go_simp; done) | (go_simp; rfl)); intro gb115 hg w10 hbox hb; have n0_ := Aside0.mk (below_step (q0_ HB.out) hb); have n1_ := Aside0.mk (hbox); have n2_ := Aside0.mk ((by rw [hg]; exact (below_size (q0_ HB.out)) : w.heap.size ≤ gb115)); have n3_ := Aside0.mk ((by rw [hg]; exact (below_size (q0_ HB.out)) : w.heap.size ≤ gb115)); clear HB; have HB := n0_; have BK115 := n1_; have GW115 := n2_; have GE115 := n3_; clear n0_ n1_ n2_ n3_; clear hb hbox hg; have hcz11_0 : w10.cell? ⟨gb115, 0, none⟩ = some (.int .i64 a0_0) := (blk_cell BK115.out 0).trans rfl; have hcz11_1 : w10.cell? ⟨gb115, 1, none⟩ = some (.int .i64 a0_1) := (blk_cell BK115.out 1).trans rfl; have hfz11_0 := blk_frozen BK115.out 0; have hfz11_1 := blk_frozen BK115.out 1)))
          go_ret
          exact ⟨by first | rfl | (simp [errW_none, errW_some] <;> rfl) | (simp [*, errW_none, errW_some] <;> rfl), (q1_ HB.out GE115.out)⟩
      · rw [if_neg c4] at H
        have c4b0 : decide ((-1099511627776) ≤ a0_0) = false := decide_eq_false c4
        clear c4
        obtain rfl := Option.some.inj H
        go_enter Tryd.func26, Tryd.ntmps26
        go_wp2_with (first | ((with_reducible refine gate_dst (N := 1) rfl ?_); refine box_event ?hg (N := 1) ?hd (cs := #[.int .i64 a0_0, .int .i64 a0_1]) (t := 23) ?hr ?_; (case hd => rfl); (case hg => rfl); (case hr => first | (go_simp; done) | (go_simp; rfl)); intro gb115 hg w12 hbox hb; have n0_ := Aside0.mk (below_step (q0_ HB.out) hb); have n1_ := Aside0.mk (hbox); have n2_ := Aside0.mk ((by rw [hg]; exact (below_size (q0_ HB.out)) : w.heap.size ≤ gb115)); have n3_ := Aside0.mk ((by rw [hg]; exact (below_size (q0_ HB.out)) : w.heap.size ≤ gb115)); clear HB; have HB := n0_; have BK115 := n1_; have GW115 := n2_; have GE115 := n3_; clear n0_ n1_ n2_ n3_; clear hb hbox hg; have hcz13_0 : w12.cell? ⟨gb115, 0, none⟩ = some (.int .i64 a0_0) := (blk_cell BK115.out 0).trans rfl; have hcz13_1 : w12.cell? ⟨gb115, 1, none⟩ = some (.int .i64 a0_1) := (blk_cell BK115.out 1).trans rfl; have hfz13_0 := blk_frozen BK115.out 0; have hfz13_1 := blk_frozen BK115.out 1))
        repeat (go_quiet (first | ((with_reducible refine gate_dst (N := 1) rfl ?_); refine box_event ?hg (N := 1) ?hd (cs := #[.int .i64 a0_0, .int .i64 a0_1]) (t := 23) ?hr ?_; (case hd => rfl); (case hg => rfl); (case hr => first | (go_simp; done) | (go_simp; rfl)); intro gb115 hg w12 hbox hb; have n0_ := Aside0.mk (below_step (q0_ HB.out) hb); have n1_ := Aside0.mk (hbox); have n2_ := Aside0.mk ((by rw [hg]; exact (below_size (q0_ HB.out)) : w.heap.size ≤ gb115)); have n3_ := Aside0.mk ((by rw [hg]; exact (below_size (q0_ HB.out)) : w.heap.size ≤ gb115)); clear HB; have HB := n0_; have BK115 := n1_; have GW115 := n2_; have GE115 := n3_; clear n0_ n1_ n2_ n3_; clear hb hbox hg; have hcz13_0 : w12.cell? ⟨gb115, 0, none⟩ = some (.int .i64 a0_0) := (blk_cell BK115.out 0).trans rfl; have hcz13_1 : w12.cell? ⟨gb115, 1, none⟩ = some (.int .i64 a0_1) := (blk_cell BK115.out 1).trans rfl; have hfz13_0 := blk_frozen BK115.out 0; have hfz13_1 := blk_frozen BK115.out 1)); try go_wp2_with (first | ((with_reducible refine gate_dst (N := 1) rfl ?_); refine box_event ?hg (N := 1) ?hd (cs := #[.int .i64 a0_0, .int .i64 a0_1]) (t := 23) ?hr ?_; (case hd => rfl); (case hg => rfl); (case hr => first | (go_simp; done) | (go_simp; rfl)); intro gb115 hg w12 hbox hb; have n0_ := Aside0.mk (below_step (q0_ HB.out) hb); have n1_ := Aside0.mk (hbox); have n2_ := Aside0.mk ((by rw [hg]; exact (below_size (q0_ HB.out)) : w.heap.size ≤ gb115)); have n3_ := Aside0.mk ((by rw [hg]; exact (below_size (q0_ HB.out)) : w.heap.size ≤ gb115)); clear HB; have HB := n0_; have BK115 := n1_; have GW115 := n2_; have GE115 := n3_; clear n0_ n1_ n2_ n3_; clear hb hbox hg; have hcz13_0 : w12.cell? ⟨gb115, 0, none⟩ = some (.int .i64 a0_0) := (blk_cell BK115.out 0).trans rfl; have hcz13_1 : w12.cell? ⟨gb115, 1, none⟩ = some (.int .i64 a0_1) := (blk_cell BK115.out 1).trans rfl; have hfz13_0 := blk_frozen BK115.out 0; have hfz13_1 := blk_frozen BK115.out 1)))
        go_ret
        exact ⟨by first | rfl | (simp [errW_none, errW_some] <;> rfl) | (simp [*, errW_none, errW_some] <;> rfl), (q1_ HB.out GE115.out)⟩
    · rw [if_neg c3] at H
      have c3b0 : decide (a0_1 ≤ 1048576) = false := decide_eq_false c3
      clear c3
      obtain rfl := Option.some.inj H
      go_enter Tryd.func26, Tryd.ntmps26
      go_wp2_with (first | ((with_reducible refine gate_dst (N := 1) rfl ?_); refine box_event ?hg (N := 1) ?hd (cs := #[.int .i64 a0_0, .int .i64 a0_1]) (t := 23) ?hr ?_; (case hd => rfl); (case hg => rfl); (case hr => first | (go_simp; done) | (go_simp; rfl)); intro gb115 hg w14 hbox hb; have n0_ := Aside0.mk (below_step (q0_ HB.out) hb); have n1_ := Aside0.mk (hbox); have n2_ := Aside0.mk ((by rw [hg]; exact (below_size (q0_ HB.out)) : w.heap.size ≤ gb115)); have n3_ := Aside0.mk ((by rw [hg]; exact (below_size (q0_ HB.out)) : w.heap.size ≤ gb115)); clear HB; have HB := n0_; have BK115 := n1_; have GW115 := n2_; have GE115 := n3_; clear n0_ n1_ n2_ n3_; clear hb hbox hg; have hcz15_0 : w14.cell? ⟨gb115, 0, none⟩ = some (.int .i64 a0_0) := (blk_cell BK115.out 0).trans rfl; have hcz15_1 : w14.cell? ⟨gb115, 1, none⟩ = some (.int .i64 a0_1) := (blk_cell BK115.out 1).trans rfl; have hfz15_0 := blk_frozen BK115.out 0; have hfz15_1 := blk_frozen BK115.out 1))
      repeat (go_quiet (first | ((with_reducible refine gate_dst (N := 1) rfl ?_); refine box_event ?hg (N := 1) ?hd (cs := #[.int .i64 a0_0, .int .i64 a0_1]) (t := 23) ?hr ?_; (case hd => rfl); (case hg => rfl); (case hr => first | (go_simp; done) | (go_simp; rfl)); intro gb115 hg w14 hbox hb; have n0_ := Aside0.mk (below_step (q0_ HB.out) hb); have n1_ := Aside0.mk (hbox); have n2_ := Aside0.mk ((by rw [hg]; exact (below_size (q0_ HB.out)) : w.heap.size ≤ gb115)); have n3_ := Aside0.mk ((by rw [hg]; exact (below_size (q0_ HB.out)) : w.heap.size ≤ gb115)); clear HB; have HB := n0_; have BK115 := n1_; have GW115 := n2_; have GE115 := n3_; clear n0_ n1_ n2_ n3_; clear hb hbox hg; have hcz15_0 : w14.cell? ⟨gb115, 0, none⟩ = some (.int .i64 a0_0) := (blk_cell BK115.out 0).trans rfl; have hcz15_1 : w14.cell? ⟨gb115, 1, none⟩ = some (.int .i64 a0_1) := (blk_cell BK115.out 1).trans rfl; have hfz15_0 := blk_frozen BK115.out 0; have hfz15_1 := blk_frozen BK115.out 1)); try go_wp2_with (first | ((with_reducible refine gate_dst (N := 1) rfl ?_); refine box_event ?hg (N := 1) ?hd (cs := #[.int .i64 a0_0, .int .i64 a0_1]) (t := 23) ?hr ?_; (case hd => rfl); (case hg => rfl); (case hr => first | (go_simp; done) | (go_simp; rfl)); intro gb115 hg w14 hbox hb; have n0_ := Aside0.mk (below_step (q0_ HB.out) hb); have n1_ := Aside0.mk (hbox); have n2_ := Aside0.mk ((by rw [hg]; exact (below_size (q0_ HB.out)) : w.heap.size ≤ gb115)); have n3_ := Aside0.mk ((by rw [hg]; exact (below_size (q0_ HB.out)) : w.heap.size ≤ gb115)); clear HB; have HB := n0_; have BK115 := n1_; have GW115 := n2_; have GE115 := n3_; clear n0_ n1_ n2_ n3_; clear hb hbox hg; have hcz15_0 : w14.cell? ⟨gb115, 0, none⟩ = some (.int .i64 a0_0) := (blk_cell BK115.out 0).trans rfl; have hcz15_1 : w14.cell? ⟨gb115, 1, none⟩ = some (.int .i64 a0_1) := (blk_cell BK115.out 1).trans rfl; have hfz15_0 := blk_frozen BK115.out 0; have hfz15_1 := blk_frozen BK115.out 1)))
      go_ret
      exact ⟨by first | rfl | (simp [errW_none, errW_some] <;> rfl) | (simp [*, errW_none, errW_some] <;> rfl), (q1_ HB.out GE115.out)⟩
  · rw [if_neg c2] at H
    have c2b0 : decide (1 ≤ a0_1) = false := decide_eq_false c2
    clear c2
    obtain rfl := Option.some.inj H
    go_enter Tryd.func26, Tryd.ntmps26
    go_wp2_with (first | ((with_reducible refine gate_dst (N := 1) rfl ?_); refine box_event ?hg (N := 1) ?hd (cs := #[.int .i64 a0_0, .int .i64 a0_1]) (t := 23) ?hr ?_; (case hd => rfl); (case hg => rfl); (case hr => first | (go_simp; done) | (go_simp; rfl)); intro gb115 hg w16 hbox hb; have n0_ := Aside0.mk (below_step (q0_ HB.out) hb); have n1_ := Aside0.mk (hbox); have n2_ := Aside0.mk ((by rw [hg]; exact (below_size (q0_ HB.out)) : w.heap.size ≤ gb115)); have n3_ := Aside0.mk ((by rw [hg]; exact (below_size (q0_ HB.out)) : w.heap.size ≤ gb115)); clear HB; have HB := n0_; have BK115 := n1_; have GW115 := n2_; have GE115 := n3_; clear n0_ n1_ n2_ n3_; clear hb hbox hg; have hcz17_0 : w16.cell? ⟨gb115, 0, none⟩ = some (.int .i64 a0_0) := (blk_cell BK115.out 0).trans rfl; have hcz17_1 : w16.cell? ⟨gb115, 1, none⟩ = some (.int .i64 a0_1) := (blk_cell BK115.out 1).trans rfl; have hfz17_0 := blk_frozen BK115.out 0; have hfz17_1 := blk_frozen BK115.out 1))
    repeat (go_quiet (first | ((with_reducible refine gate_dst (N := 1) rfl ?_); refine box_event ?hg (N := 1) ?hd (cs := #[.int .i64 a0_0, .int .i64 a0_1]) (t := 23) ?hr ?_; (case hd => rfl); (case hg => rfl); (case hr => first | (go_simp; done) | (go_simp; rfl)); intro gb115 hg w16 hbox hb; have n0_ := Aside0.mk (below_step (q0_ HB.out) hb); have n1_ := Aside0.mk (hbox); have n2_ := Aside0.mk ((by rw [hg]; exact (below_size (q0_ HB.out)) : w.heap.size ≤ gb115)); have n3_ := Aside0.mk ((by rw [hg]; exact (below_size (q0_ HB.out)) : w.heap.size ≤ gb115)); clear HB; have HB := n0_; have BK115 := n1_; have GW115 := n2_; have GE115 := n3_; clear n0_ n1_ n2_ n3_; clear hb hbox hg; have hcz17_0 : w16.cell? ⟨gb115, 0, none⟩ = some (.int .i64 a0_0) := (blk_cell BK115.out 0).trans rfl; have hcz17_1 : w16.cell? ⟨gb115, 1, none⟩ = some (.int .i64 a0_1) := (blk_cell BK115.out 1).trans rfl; have hfz17_0 := blk_frozen BK115.out 0; have hfz17_1 := blk_frozen BK115.out 1)); try go_wp2_with (first | ((with_reducible refine gate_dst (N := 1) rfl ?_); refine box_event ?hg (N := 1) ?hd (cs := #[.int .i64 a0_0, .int .i64 a0_1]) (t := 23) ?hr ?_; (case hd => rfl); (case hg => rfl); (case hr => first | (go_simp; done) | (go_simp; rfl)); intro gb115 hg w16 hbox hb; have n0_ := Aside0.mk (below_step (q0_ HB.out) hb); have n1_ := Aside0.mk (hbox); have n2_ := Aside0.mk ((by rw [hg]; exact (below_size (q0_ HB.out)) : w.heap.size ≤ gb115)); have n3_ := Aside0.mk ((by rw [hg]; exact (below_size (q0_ HB.out)) : w.heap.size ≤ gb115)); clear HB; have HB := n0_; have BK115 := n1_; have GW115 := n2_; have GE115 := n3_; clear n0_ n1_ n2_ n3_; clear hb hbox hg; have hcz17_0 : w16.cell? ⟨gb115, 0, none⟩ = some (.int .i64 a0_0) := (blk_cell BK115.out 0).trans rfl; have hcz17_1 : w16.cell? ⟨gb115, 1, none⟩ = some (.int .i64 a0_1) := (blk_cell BK115.out 1).trans rfl; have hfz17_0 := blk_frozen BK115.out 0; have hfz17_1 := blk_frozen BK115.out 1)))
    go_ret
    exact ⟨by first | rfl | (simp [errW_none, errW_some] <;> rfl) | (simp [*, errW_none, errW_some] <;> rfl), (q1_ HB.out GE115.out)⟩
end Go.Proofs.YtdjnneflpkllmaaDoor.Q


