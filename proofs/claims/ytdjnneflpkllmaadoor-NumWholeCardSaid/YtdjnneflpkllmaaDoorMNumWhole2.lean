/- Part 2 of the proof of NumWhole. -/
import Derived.Test.YtdjnneflpkllmaaDoorMNumWhole1
import Derived.Test.YtdjnneflpkllmaaDoorRows
import Derived.ProofKit
import Derived.LaidMore
import Derived.OpenShut
import Derived.ChangeOld
import Derived.SizedLaws
import Derived.Lib.SmallJoins
import Derived.Stop.Joined
import Derived.Test.YtdjnneflpkllmaaDoorProg
import Derived.Lib.Mul64
import Derived.Laws.Bits64b

namespace Go.Proofs.YtdjnneflpkllmaaDoor.Num
open Go.ChangeShapes Go.WideShapes Go.ChangeAt Go.RowKit Go.Joins Go.Deep
theorem own : ownKnob Tryd.prog.godebug = none := by kernel_rfl
theorem laidOut : laidOutB Tryd.prog = true := by kernel_rfl
def laid3 : List (String × DataW Unit) := [("math/bits.deBruijn32tab", Rows.laid_math_bits_deBruijn32tab), ("math/bits.deBruijn64tab", Rows.laid_math_bits_deBruijn64tab), ("internal/strconv.uint64pow10", Rows.laid_internal_strconv_uint64pow10)]
set_option maxRecDepth 100000 in
theorem door_met (os : Os) (args : Array Value) : laidMetH Tryd.prog laid3 ((World.doorLaid Tryd.prog 400 os).forCall (fun _ _ => 0) ⟨#[], args, []⟩).memory :=
  laidMetH_of_parts3 (fuel := 8) (laidMet_of_run' 8 (by kernel_rfl) (by kernel_rfl)) (by kernel_rfl) (by kernel_rfl)
theorem door_shaped (os : Os) (args : Array Value) : ((World.doorLaid Tryd.prog 400 os).forCall (fun _ _ => 0) ⟨#[], args, []⟩).Shaped Tryd.prog := World.shaped_of_RefB (by kernel_rfl) (by kernel_rfl)
theorem i64_bounds {x : Int} (h : (Lit.int .i64 x).wf) : -9223372036854775808 ≤ x ∧ x ≤ 9223372036854775807 := by
  have m0 : IntKind.i64.min = -9223372036854775808 := by decide
  have m1 : IntKind.i64.max = 9223372036854775807 := by decide
  simp [Lit.wf] at h
  omega
set_option linter.unusedVariables false
section
variable {H : Type} {enc : TypeId × Value → H} {W : World} {base : Nat} {spare : Nat → Bool} {held : Bool}
end
end Go.Proofs.YtdjnneflpkllmaaDoor.Num

namespace Go.Proofs.Num
set_option linter.unusedVariables false
def valD : List Int → Int
  | [] => 0
  | x :: t => x + 10000 * valD t
def Dig (l : List Int) : Prop := ∀ x ∈ l, 0 ≤ x ∧ x < 10000
def at_ (l : List Int) (i : Nat) : Int := l.getD i 0
def vt (l : List Int) (i : Nat) : Int := valD (l.take i)
def pw (i : Nat) : Int := 10000 ^ i
theorem pw_zero : pw 0 = 1 := rfl
theorem pw_succ (i : Nat) : pw (i + 1) = 10000 * pw i := by unfold pw; rw [Int.pow_succ, Int.mul_comm]
theorem pw_pos (i : Nat) : 0 < pw i := Int.pow_pos (by omega)
theorem pw_add (i j : Nat) : pw (i + j) = pw i * pw j := by unfold pw; rw [Int.pow_add]
theorem pw_mono {i j : Nat} (h : i ≤ j) : pw i ≤ pw j := by
  induction j with
  | zero => obtain rfl : i = 0 := by omega
            omega
  | succ j ih =>
    rcases Nat.lt_or_ge j i with h1 | h1
    · obtain rfl : i = j + 1 := by omega
      omega
    · have := ih h1
      have := pw_pos j
      rw [pw_succ]
      omega
theorem at_cons_zero (x : Int) (t : List Int) : at_ (x :: t) 0 = x := rfl
theorem at_cons_succ (x : Int) (t : List Int) (i : Nat) : at_ (x :: t) (i + 1) = at_ t i := by simp [at_]
theorem Dig.at_ {l : List Int} (h : Dig l) (i : Nat) : 0 ≤ at_ l i ∧ at_ l i < 10000 := by
  unfold Num.at_
  rcases Nat.lt_or_ge i l.length with hi | hi
  · rw [List.getD_eq_getElem?_getD, List.getElem?_eq_getElem hi]
    exact h _ (List.getElem_mem hi)
  · rw [List.getD_eq_getElem?_getD, List.getElem?_eq_none hi]
    decide
theorem Dig.set {l : List Int} (h : Dig l) (i : Nat) {v : Int} (h0 : 0 ≤ v) (h1 : v < 10000) : Dig (l.set i v) := fun x hx => by
  rcases List.mem_or_eq_of_mem_set hx with hx | rfl
  · exact h x hx
  · exact ⟨h0, h1⟩
theorem Dig.take {l : List Int} (h : Dig l) (i : Nat) : Dig (l.take i) := fun x hx => h x (List.mem_of_mem_take hx)
theorem valD_set : ∀ (l : List Int) (i : Nat) (v : Int), i < l.length → valD (l.set i v) = valD l + (v - at_ l i) * pw i
  | x :: t, 0, v, _ => by simp [valD, at_cons_zero, pw_zero]; omega
  | x :: t, i + 1, v, h => by
    simp only [List.set_cons_succ, valD, at_cons_succ]
    rw [valD_set t i v (by simpa using h), pw_succ]
    grind
theorem vt_zero (l : List Int) : vt l 0 = 0 := by simp [vt, valD]
theorem vt_succ : ∀ (l : List Int) (i : Nat), vt l (i + 1) = vt l i + at_ l i * pw i
  | [], i => by simp [vt, valD, at_]
  | x :: t, 0 => by simp [vt, valD, at_cons_zero, pw_zero]
  | x :: t, i + 1 => by
    have := vt_succ t i
    simp only [vt, List.take_succ_cons, valD, at_cons_succ, pw_succ] at this ⊢
    rw [this]
    grind
theorem vt_all (l : List Int) {i : Nat} (h : l.length ≤ i) : vt l i = valD l := by unfold vt; rw [List.take_of_length_le h]
theorem vt_bd {l : List Int} (h : Dig l) : ∀ i, 0 ≤ vt l i ∧ vt l i < pw i
  | 0 => by rw [vt_zero, pw_zero]; omega
  | i + 1 => by
    have b := vt_bd h i
    have d := h.at_ i
    rw [vt_succ, pw_succ]
    have l1 : 0 ≤ at_ l i * pw i := Int.mul_nonneg d.1 (Int.le_of_lt (pw_pos i))
    have l2 : at_ l i * pw i ≤ 9999 * pw i := Int.mul_le_mul_of_nonneg_right (by omega) (Int.le_of_lt (pw_pos i))
    omega
theorem valD_bd {l : List Int} (h : Dig l) : 0 ≤ valD l ∧ valD l < pw l.length := by
  rw [← vt_all l (Nat.le_refl _)]
  exact vt_bd h _
def Norm (l : List Int) : Prop := l = [] ∨ at_ l (l.length - 1) ≠ 0
theorem norm_ge {l : List Int} (h : Dig l) (hn : Norm l) (h0 : l ≠ []) : pw (l.length - 1) ≤ valD l := by
  rcases hn with hn | hn
  · exact (h0 hn).elim
  · have hl : 0 < l.length := by cases l with | nil => exact (h0 rfl).elim | cons => simp
    obtain ⟨m, hm⟩ : ∃ m, l.length = m + 1 := ⟨l.length - 1, by omega⟩
    rw [← vt_all l (Nat.le_refl _)]
    rw [hm] at hn ⊢
    rw [Nat.add_sub_cancel] at hn ⊢
    rw [vt_succ]
    have b := vt_bd h m
    have d := h.at_ m
    have : 1 * pw m ≤ at_ l m * pw m := Int.mul_le_mul_of_nonneg_right (by omega) (Int.le_of_lt (pw_pos m))
    omega
theorem vt_zeros {l : List Int} {m : Nat} : ∀ j, (∀ i, m ≤ i → i < m + j → at_ l i = 0) → vt l (m + j) = vt l m
  | 0, _ => rfl
  | j + 1, h => by
    rw [← Nat.add_assoc, vt_succ, vt_zeros j (fun i h1 h2 => h i h1 (by omega)), h (m + j) (by omega) (by omega)]
    simp
structure Good (l : List Int) (x : Int) : Prop where
  dig : Dig l
  norm : Norm l
  val : valD l = x
theorem Good.nil : Good [] 0 := ⟨fun x h => (by cases h), .inl rfl, rfl⟩
theorem Good.zero_iff {l : List Int} {x : Int} (g : Good l x) : l = [] ↔ x = 0 := by
  constructor
  · intro h; subst h; exact g.val.symm
  · intro h
    rcases List.eq_nil_or_concat l with h0 | ⟨_, _, h0⟩
    · exact h0
    · have := norm_ge g.dig g.norm (by rw [h0]; simp)
      have := pw_pos (l.length - 1)
      have := g.val
      omega
theorem Good.len {l : List Int} {x : Int} (g : Good l x) {m : Nat} (h : x < pw m) : l.length ≤ m := by
  rcases Nat.lt_or_ge m l.length with h1 | h1
  · have h2 := norm_ge g.dig g.norm (fun e => by subst e; simp at h1)
    have h3 := pw_mono (show m ≤ l.length - 1 by omega)
    have := g.val
    omega
  · exact h1
theorem at_take {l : List Int} {m i : Nat} (h : i < m) : at_ (l.take m) i = at_ l i := by
  unfold at_
  rw [List.getD_eq_getElem?_getD, List.getD_eq_getElem?_getD, List.getElem?_take_of_lt h]
theorem good_take {l : List Int} {m : Nat} (h : Dig l) (hm : m ≤ l.length) (h0 : m = 0 ∨ at_ l (m - 1) ≠ 0) (hz : ∀ i, m ≤ i → i < l.length → at_ l i = 0) : Good (l.take m) (valD l) := by
  have hl : (l.take m).length = m := by simp; omega
  refine ⟨h.take m, ?_, ?_⟩
  · rcases h0 with rfl | h0
    · exact .inl (by simp)
    · right
      rw [hl]
      rcases Nat.eq_zero_or_pos m with rfl | hp
      · simp at hz h0 ⊢
        rcases Nat.eq_zero_or_pos l.length with e | e
        · have : l = [] := List.eq_nil_of_length_eq_zero e
          subst this
          exact (h0 rfl).elim
        · exact (h0 (hz 0 e)).elim
      · rw [at_take (by omega)]
        exact h0
  · show vt l m = valD l
    have := vt_zeros (l := l) (m := m) (l.length - m) (fun i h1 h2 => hz i h1 (by omega))
    rw [show m + (l.length - m) = l.length by omega, vt_all l (Nat.le_refl _)] at this
    exact this.symm
def cmpI (x y : Int) : Int := if x < y then -1 else if y < x then 1 else 0
theorem valD_replicate (n : Nat) : valD (List.replicate n 0) = 0 := by
  induction n with
  | zero => rfl
  | succ n ih => rw [List.replicate_succ]; simp [valD, ih]
theorem at_replicate (n i : Nat) : at_ (List.replicate n 0) i = 0 := by
  unfold at_
  rw [List.getD_eq_getElem?_getD, List.getElem?_replicate]
  split <;> rfl
theorem at_set_ne {l : List Int} {i j : Nat} {v : Int} (h : i ≠ j) : at_ (l.set i v) j = at_ l j := by
  unfold at_
  rw [List.getD_eq_getElem?_getD, List.getD_eq_getElem?_getD, List.getElem?_set_ne h]
end Go.Proofs.Num

namespace Go.Proofs.Num
set_option linter.unusedVariables false
set_option linter.unusedSimpArgs false
def Ahead (a v : Int) (i : Nat) (b w : Int) (j : Nat) : Prop := a * w < b * v ∨ (a * w = b * v ∧ i < j)
theorem Ahead.le {a v : Int} {i : Nat} {b w : Int} {j : Nat} (h : Ahead a v i b w j) : a * w ≤ b * v := by
  rcases h with h | h <;> omega
theorem mul_le_r {a b c : Int} (h : a ≤ b) (hc : 0 ≤ c) : a * c ≤ b * c := Int.mul_le_mul_of_nonneg_right h hc
theorem mul_lt_r {a b c : Int} (h : a < b) (hc : 0 < c) : a * c < b * c := Int.mul_lt_mul_of_pos_right h hc
theorem lt_of_mul_r {a b c : Int} (h : a * c < b * c) (hc : 0 ≤ c) : a < b := Int.lt_of_mul_lt_mul_right h hc
theorem le_of_mul_r {a b c : Int} (h : a * c ≤ b * c) (hc : 0 < c) : a ≤ b := Int.le_of_mul_le_mul_right h hc
theorem Ahead.trans {a v : Int} {i : Nat} {b w : Int} {j : Nat} {c u : Int} {k : Nat} (h : Ahead a v i b w j) (g : Ahead b w j c u k) (hv : 0 < v) (hw : 0 < w) (hu : 0 < u) : Ahead a v i c u k := by
  have e1 : a * w * u = a * u * w := by grind
  have e2 : b * v * u = b * u * v := by grind
  have e3 : c * w * v = c * v * w := by grind
  have h1 := mul_le_r h.le (show 0 ≤ u by omega)
  have g1 := mul_le_r g.le (show 0 ≤ v by omega)
  have r := le_of_mul_r (show a * u * w ≤ c * v * w by omega) hw
  rcases h with h | ⟨h, hi⟩
  · have h2 := mul_lt_r h hu
    exact Or.inl (lt_of_mul_r (show a * u * w < c * v * w by omega) (by omega))
  · rcases g with g | ⟨g, gi⟩
    · have g2 := mul_lt_r g hv
      exact Or.inl (lt_of_mul_r (show a * u * w < c * v * w by omega) (by omega))
    · rcases Int.lt_or_eq_of_le r with r | r
      · exact Or.inl r
      · exact Or.inr ⟨r, by omega⟩
structure Stable (n : Nat) (p w : Nat → Int) : Prop where
  nn : ∀ i, i < n → 0 ≤ p i
  ww : ∀ i, i < n → 0 ≤ w i
  none : ∀ i, i < n → w i = 0 → p i = 0
  ah : ∀ i j, i < n → j < n → 0 < p i → 0 < w j → i ≠ j → Ahead (2 * p i - 1) (w i) i (2 * p j + 1) (w j) j
def sumTo (p : Nat → Int) : Nat → Int
  | 0 => 0
  | n + 1 => sumTo p n + p n
theorem sumTo_congr {p q : Nat → Int} : ∀ {n : Nat}, (∀ i, i < n → p i = q i) → sumTo p n = sumTo q n
  | 0, _ => rfl
  | n + 1, h => by
    simp only [sumTo]
    rw [sumTo_congr (n := n) (fun i hi => h i (by omega)), h n (by omega)]
theorem sumTo_pos {p : Nat → Int} : ∀ {n : Nat}, (∀ i, i < n → 0 ≤ p i) → 0 < sumTo p n → ∃ i, i < n ∧ 0 < p i
  | 0, _, h => by simp [sumTo] at h
  | n + 1, h, g => by
    by_cases c : 0 < p n
    · exact ⟨n, by omega, c⟩
    · obtain ⟨i, hi, e⟩ := sumTo_pos (n := n) (fun i hi => h i (by omega)) (by have := h n (by omega); simp only [sumTo] at g; omega)
      exact ⟨i, by omega, e⟩
theorem sumTo_nonneg {p : Nat → Int} : ∀ {n : Nat}, (∀ i, i < n → 0 ≤ p i) → 0 ≤ sumTo p n
  | 0, _ => by simp [sumTo]
  | n + 1, h => by
    have := sumTo_nonneg (n := n) (fun i hi => h i (by omega))
    have := h n (by omega)
    simp only [sumTo]; omega
theorem le_sumTo {p : Nat → Int} : ∀ {n : Nat}, (∀ i, i < n → 0 ≤ p i) → ∀ i, i < n → p i ≤ sumTo p n
  | 0, _ => fun i hi => by omega
  | n + 1, h => fun i hi => by
    have a := sumTo_nonneg (n := n) (fun i hi => h i (by omega))
    have b := h n (by omega)
    simp only [sumTo]
    rcases Nat.lt_or_ge i n with c | c
    · have := le_sumTo (n := n) (fun i hi => h i (by omega)) i c
      omega
    · obtain rfl : i = n := by omega
      omega
def Next (n : Nat) (p w : Nat → Int) (b : Nat) : Prop := b < n ∧ 0 < w b ∧ ∀ j, j < n → 0 < w j → j ≠ b → Ahead (2 * p b + 1) (w b) b (2 * p j + 1) (w j) j
def Latest (n : Nat) (p w : Nat → Int) (b : Nat) : Prop := b < n ∧ 0 < w b ∧ 0 < p b ∧ ∀ j, j < n → 0 < w j → 0 < p j → j ≠ b → Ahead (2 * p j - 1) (w j) j (2 * p b - 1) (w b) b
def bump (p : Nat → Int) (b : Nat) (d : Int) : Nat → Int := fun i => if i = b then p i + d else p i
theorem Stable.pos {n : Nat} {p w : Nat → Int} (P : Stable n p w) {i : Nat} (hi : i < n) (h : 0 < p i) : 0 < w i := by
  rcases Int.lt_or_eq_of_le (P.ww i hi) with c | c
  · exact c
  · have := P.none i hi c.symm
    omega
theorem Stable.up {n : Nat} {p w : Nat → Int} {b : Nat} (P : Stable n p w) (B : Next n p w b) : Stable n (bump p b 1) w := by
  obtain ⟨hb, wb, ah⟩ := B
  have pb := P.nn b hb
  refine ⟨fun i hi => ?_, P.ww, fun i hi h => ?_, fun i j hi hj h1 h2 ij => ?_⟩
  · have := P.nn i hi
    unfold bump; split <;> omega
  · have := P.none i hi h
    unfold bump; split
    · subst_vars; omega
    · exact this
  · by_cases c : i = b
    · subst c
      have e : bump p i 1 i = p i + 1 := by simp [bump]
      have e2 : bump p i 1 j = p j := by simp [bump, Ne.symm ij]
      rw [e, e2, show 2 * (p i + 1) - 1 = 2 * p i + 1 by omega]
      exact ah j hj h2 (Ne.symm ij)
    · have e : bump p b 1 i = p i := by simp [bump, c]
      rw [e] at h1 ⊢
      have wi := P.pos hi h1
      by_cases d : j = b
      · subst d
        have e2 : bump p j 1 j = p j + 1 := by simp [bump]
        rw [e2]
        have := (P.ah i j hi hj h1 h2 ij).le
        have m : (2 * p j + 1) * w i < (2 * (p j + 1) + 1) * w i := mul_lt_r (by omega) wi
        exact Or.inl (by omega)
      · have e2 : bump p b 1 j = p j := by simp [bump, d]
        rw [e2]
        exact P.ah i j hi hj h1 h2 ij
theorem Stable.down {n : Nat} {p w : Nat → Int} {b : Nat} (P : Stable n p w) (B : Latest n p w b) : Stable n (bump p b (-1)) w := by
  obtain ⟨hb, wb, pb, ah⟩ := B
  refine ⟨fun i hi => ?_, P.ww, fun i hi h => ?_, fun i j hi hj h1 h2 ij => ?_⟩
  · have := P.nn i hi
    unfold bump; split
    · subst_vars; omega
    · exact this
  · have := P.none i hi h
    unfold bump; split
    · subst_vars; omega
    · exact this
  · by_cases c : i = b
    · subst c
      have e : bump p i (-1) i = p i - 1 := by simp [bump]; omega
      have e2 : bump p i (-1) j = p j := by simp [bump, Ne.symm ij]
      rw [e] at h1
      rw [e, e2]
      have := (P.ah i j hi hj pb h2 ij).le
      have m : (2 * (p i - 1) - 1) * w j < (2 * p i - 1) * w j := mul_lt_r (by omega) h2
      exact Or.inl (by omega)
    · have e : bump p b (-1) i = p i := by simp [bump, c]
      rw [e] at h1 ⊢
      have wi := P.pos hi h1
      by_cases d : j = b
      · subst d
        have e2 : bump p j (-1) j = p j - 1 := by simp [bump]; omega
        rw [e2, show 2 * (p j - 1) + 1 = 2 * p j - 1 by omega]
        exact ah i hi wi h1 ij
      · have e2 : bump p b (-1) j = p j := by simp [bump, d]
        rw [e2]
        exact P.ah i j hi hj h1 h2 ij
theorem sumTo_bump (p : Nat → Int) (b : Nat) (d : Int) : ∀ n, b < n → sumTo (bump p b d) n = sumTo p n + d
  | 0, h => by omega
  | n + 1, h => by
    simp only [sumTo]
    by_cases c : b = n
    · subst c
      have : sumTo (bump p b d) b = sumTo p b := sumTo_congr (fun i hi => by simp [bump, show i ≠ b by omega])
      rw [this]
      simp [bump]; omega
    · rw [sumTo_bump p b d n (by omega), show bump p b d n = p n by simp [bump, show n ≠ b by omega]]
      omega
theorem stable_of {n : Nat} {p w : Nat → Int} {S T : Int} (hS : 0 < S) (nn : ∀ i, i < n → 0 ≤ p i) (ww : ∀ i, i < n → 0 ≤ w i) (none : ∀ i, i < n → w i = 0 → p i = 0)
    (lo : ∀ i, i < n → (2 * p i - 1) * S ≤ T * w i) (hi : ∀ i, i < n → T * w i < (2 * p i + 1) * S) : Stable n p w := by
  refine ⟨nn, ww, none, fun i j hi' hj h1 h2 ij => Or.inl ?_⟩
  have wi : 0 < w i := by
    rcases Int.lt_or_eq_of_le (ww i hi') with c | c
    · exact c
    · have := none i hi' c.symm
      omega
  have a := mul_le_r (lo i hi') (show 0 ≤ w j by omega)
  have b := mul_lt_r (hi j hj) wi
  have e1 : (2 * p i - 1) * S * w j = (2 * p i - 1) * w j * S := by grind
  have e2 : T * w i * w j = T * w j * w i := by grind
  have e3 : (2 * p j + 1) * S * w i = (2 * p j + 1) * w i * S := by grind
  exact lt_of_mul_r (show (2 * p i - 1) * w j * S < (2 * p j + 1) * w i * S by omega) (by omega)
end Go.Proofs.Num

namespace Go.Proofs.YtdjnneflpkllmaaDoor.Q
open Go.RowKit Go.Proofs.YtdjnneflpkllmaaDoorW.PrintWords Go.Proofs.YtdjnneflpkllmaaDoorW.PrintLast Go.Proofs.YtdjnneflpkllmaaDoorW.PrintMore
set_option linter.unusedVariables false in
theorem qb_ {X Y : Prop} (h : X) (f : X → Y := by intro h; (with_reducible repeat (first | refine blk_drewN ?_ _ | refine blk_drew ?_ | refine blk_alloc ?_ _)); exact h) : Y := f h
theorem qr_ {X Y : Prop} (h : X) (f : X → Y := by intro h; (with_reducible repeat (first | apply Kd.R_alloc | apply Kd.R_drewN | apply Kd.R_drew)); exact h) : Y := f h
theorem qv_ {X Y : Prop} (h : X) (f : X → Y := by intro h; (with_reducible repeat (first | apply Kd.V_alloc | apply Kd.V_drewN | apply Kd.V_drew)); exact h) : Y := f h
theorem qc_ {X Y : Prop} (h : X) (f : X → Y := by intro h; repeat (first | exact h | (with_reducible refine Kd.C_alloc ?_ _) | (with_reducible refine Kd.C_drewN ?_ _) | (with_reducible refine Kd.C_drew ?_))) : Y := f h
theorem qk_ {g : Nat} {o : Obj} {w w' w'' : World} (h : w.heap[g]? = some o) (hb : Below w'.heap.size w' w'') (f : w.heap[g]? = some o → w'.heap[g]? = some o := by intro h; (with_reducible repeat (first | refine blk_drewN ?_ _ | refine blk_drew ?_ | refine blk_alloc ?_ _)); exact h) : w''.heap[g]? = some o := blk_below (f h) hb
theorem qn_ {g g' : Nat} {o : Obj} {w w' : World} (hg : g' = w'.heap.size) (h : w.heap[g]? = some o) (f : w.heap[g]? = some o → w'.heap[g]? = some o := by intro h; (with_reducible repeat (first | refine blk_drewN ?_ _ | refine blk_drew ?_ | refine blk_alloc ?_ _)); exact h) : g ≠ g' := by rw [hg]; exact Nat.ne_of_lt (blk_lt (f h))
theorem qs_ {g : Nat} {w w' : World} (hg : g = w'.heap.size) (h : Below w.heap.size w w') : w.heap.size ≤ g := by rw [hg]; exact below_size h
theorem qx_ {P : Program} {ops : Array Oper} {Q : Exit → Act → World → Prop} {o : Oper} {rest : List Oper} {a : Act} {W : World} (N : Tmp) (cs : Array Value) (t : TypeId)
  (hrun : (execOp a.eval o).run P W = .ok (.value (.pointer (some ⟨W.heap.size, 0, none⟩))) (W.alloc (.cells cs t (0, 0))))
  (h : ∀ g, g = W.heap.size → ∀ w1, w1.heap[g]? = some (.cells cs t (0, 0)) → Below W.heap.size W w1 → wpList P ops Q rest (a.put o.dst (.pointer (some ⟨g, 0, none⟩))) w1) (hd : o.dst = some N := by rfl) (hg : o.guard = none := by rfl) : wpList P ops Q (o :: rest) a W := box_event hg hd hrun h
def lb_ (n c : Nat) : Array Bool := ((List.range n).map fun i => c / 2 ^ i % 2 == 1).toArray
section
variable {P : Program} {ops : Array Oper} {Q : Exit → Act → World → Prop} {md : Region.Mode} {S : World → Prop} {ds : List Nat} {T : Bool × List (List Nat × List Nat)} {oi : Oper} {v : Value} {fuel : Nat} {l : Array Bool} {a a' : Act} {w : World}
theorem pu_ (i t n c : Nat) (hT : rtab md ops = T) (h : wpAnyLast P md ops Q S ds fuel (lb_ n c) a' w) (hi : ops[i]? = some oi := by rfl) (hN : oi.dst = some t := by rfl) (hy : Yields P ops oi v a := by exact Or.inl ⟨by rfl, by intro w'; go_simp; with_reducible rfl⟩) (ha : a.put (some t) v = a' := by simp only [Act.put, List.setIfInBounds_toArray, List.set_cons_zero, List.set_cons_succ, i64_w, i32_w]; rfl) (hc : anyT T l.toList (lb_ n c).toList i = true := by kernel_rfl) (hQ : ∀ c a w, Q (.panic c) (a.put oi.dst v) w → Q (.panic c) a w := by exact fun _ _ _ h => h) : wpAnyLast P md ops Q S ds (fuel + 1) l a w := pure_ (lb_ n c) hi hN (any_of hT hc) hQ hy ha h
theorem pn_ (i t n c : Nat) (hT : rtab md ops = T) (h : wpAnyLast P md ops Q S ds fuel (lb_ n c) a' w) (hi : ops[i]? = some oi := by rfl) (hN : oi.dst = some t := by rfl) (hy : Yields P ops oi undef a := by exact Or.inr ⟨by rfl, rfl⟩) (ha : a.put (some t) undef = a' := by simp only [Act.put, List.setIfInBounds_toArray, List.set_cons_zero, List.set_cons_succ, i64_w, i32_w]; rfl) (hc : anyT T l.toList (lb_ n c).toList i = true := by kernel_rfl) (hQ : ∀ c a w, Q (.panic c) (a.put oi.dst undef) w → Q (.panic c) a w := by exact fun _ _ _ h => h) : wpAnyLast P md ops Q S ds (fuel + 1) l a w := pure_ (lb_ n c) hi hN (any_of hT hc) hQ hy ha h
theorem ta_ {B : List Nat} (i t n c : Nat) (hi : ops[i]? = some oi) (hN : oi.dst = some t) (hT : rtab md ops = T) (hB : waitsOk T.2 B = true) (hS : S w) (hy : YieldsIf P ops S oi v a) (h : wpAnyLast P md ops Q S ds fuel (lb_ n c) a' w) (ha : a.put (some t) v = a' := by simp only [Act.put, List.setIfInBounds_toArray, List.set_cons_zero, List.set_cons_succ, i64_w, i32_w]; rfl) (hc : takeW T B ds l.toList (lb_ n c).toList i = true := by kernel_rfl) (hQ : ∀ c a w, Q (.panic c) (a.put oi.dst v) w → Q (.panic c) a w := by exact fun _ _ _ h => h) : wpAnyLast P md ops Q S ds (fuel + 1) l a w := take_ (lb_ n c) hi hN (take_ofW hT hB hc) hQ hy hS ha h
end
theorem od_ {p : Prop} [Decidable p] (h : decide p = true := by first | (with_reducible assumption) | assumption) : p := of_decide_eq_true h
theorem qe_ {Y : Prop} (f : Y := by ((try simp only [List.map_toArray, List.map_cons, List.map_nil]); first | done | rfl | (simp only [List.length_drop, List.length_take]; rfl))) : Y := f
theorem q0_ {X Y : Prop} (h : X) (f : X → Y := by intro h; repeat (first | (with_reducible first | exact h | apply below_alloc | apply pw_below_drewN | apply below_drew1) | exact h)) : Y := f h
theorem q1_ {X Y Z0 : Prop} (h : X) (g0 : Z0) (f : X → Z0 → Y := by intro h g0; repeat (first | (with_reducible first | exact h | apply below_alloc | apply pw_below_drewN | apply below_drew1 | refine below_set ?_ g0) | exact h)) : Y := f h g0
theorem q2_ {X Y Z0 Z1 : Prop} (h : X) (g0 : Z0) (g1 : Z1) (f : X → Z0 → Z1 → Y := by intro h g0 g1; repeat (first | (with_reducible first | exact h | apply below_alloc | apply pw_below_drewN | apply below_drew1 | refine below_set ?_ g0 | refine below_set ?_ g1) | exact h)) : Y := f h g0 g1
theorem q3_ {X Y Z0 Z1 Z2 : Prop} (h : X) (g0 : Z0) (g1 : Z1) (g2 : Z2) (f : X → Z0 → Z1 → Z2 → Y := by intro h g0 g1 g2; repeat (first | (with_reducible first | exact h | apply below_alloc | apply pw_below_drewN | apply below_drew1 | refine below_set ?_ g0 | refine below_set ?_ g1 | refine below_set ?_ g2) | exact h)) : Y := f h g0 g1 g2
theorem q4_ {X Y Z0 Z1 Z2 Z3 : Prop} (h : X) (g0 : Z0) (g1 : Z1) (g2 : Z2) (g3 : Z3) (f : X → Z0 → Z1 → Z2 → Z3 → Y := by intro h g0 g1 g2 g3; repeat (first | (with_reducible first | exact h | apply below_alloc | apply pw_below_drewN | apply below_drew1 | refine below_set ?_ g0 | refine below_set ?_ g1 | refine below_set ?_ g2 | refine below_set ?_ g3) | exact h)) : Y := f h g0 g1 g2 g3
theorem q5_ {X Y Z0 Z1 Z2 Z3 Z4 : Prop} (h : X) (g0 : Z0) (g1 : Z1) (g2 : Z2) (g3 : Z3) (g4 : Z4) (f : X → Z0 → Z1 → Z2 → Z3 → Z4 → Y := by intro h g0 g1 g2 g3 g4; repeat (first | (with_reducible first | exact h | apply below_alloc | apply pw_below_drewN | apply below_drew1 | refine below_set ?_ g0 | refine below_set ?_ g1 | refine below_set ?_ g2 | refine below_set ?_ g3 | refine below_set ?_ g4) | exact h)) : Y := f h g0 g1 g2 g3 g4
theorem q6_ {X Y Z0 Z1 Z2 Z3 Z4 Z5 : Prop} (h : X) (g0 : Z0) (g1 : Z1) (g2 : Z2) (g3 : Z3) (g4 : Z4) (g5 : Z5) (f : X → Z0 → Z1 → Z2 → Z3 → Z4 → Z5 → Y := by intro h g0 g1 g2 g3 g4 g5; repeat (first | (with_reducible first | exact h | apply below_alloc | apply pw_below_drewN | apply below_drew1 | refine below_set ?_ g0 | refine below_set ?_ g1 | refine below_set ?_ g2 | refine below_set ?_ g3 | refine below_set ?_ g4 | refine below_set ?_ g5) | exact h)) : Y := f h g0 g1 g2 g3 g4 g5
theorem q7_ {X Y Z0 Z1 Z2 Z3 Z4 Z5 Z6 : Prop} (h : X) (g0 : Z0) (g1 : Z1) (g2 : Z2) (g3 : Z3) (g4 : Z4) (g5 : Z5) (g6 : Z6) (f : X → Z0 → Z1 → Z2 → Z3 → Z4 → Z5 → Z6 → Y := by intro h g0 g1 g2 g3 g4 g5 g6; repeat (first | (with_reducible first | exact h | apply below_alloc | apply pw_below_drewN | apply below_drew1 | refine below_set ?_ g0 | refine below_set ?_ g1 | refine below_set ?_ g2 | refine below_set ?_ g3 | refine below_set ?_ g4 | refine below_set ?_ g5 | refine below_set ?_ g6) | exact h)) : Y := f h g0 g1 g2 g3 g4 g5 g6
theorem q8_ {X Y Z0 Z1 Z2 Z3 Z4 Z5 Z6 Z7 : Prop} (h : X) (g0 : Z0) (g1 : Z1) (g2 : Z2) (g3 : Z3) (g4 : Z4) (g5 : Z5) (g6 : Z6) (g7 : Z7) (f : X → Z0 → Z1 → Z2 → Z3 → Z4 → Z5 → Z6 → Z7 → Y := by intro h g0 g1 g2 g3 g4 g5 g6 g7; repeat (first | (with_reducible first | exact h | apply below_alloc | apply pw_below_drewN | apply below_drew1 | refine below_set ?_ g0 | refine below_set ?_ g1 | refine below_set ?_ g2 | refine below_set ?_ g3 | refine below_set ?_ g4 | refine below_set ?_ g5 | refine below_set ?_ g6 | refine below_set ?_ g7) | exact h)) : Y := f h g0 g1 g2 g3 g4 g5 g6 g7
end Go.Proofs.YtdjnneflpkllmaaDoor.Q
namespace Go.Proofs.YtdjnneflpkllmaaDoor.Q
open Go.RowKit Go.Proofs.YtdjnneflpkllmaaDoorW.PrintWords Go.Proofs.YtdjnneflpkllmaaDoorW.PrintLast Go.Proofs.YtdjnneflpkllmaaDoorW.PrintMore
attribute [local go_sem] max2_int min2_int max_two min_two max_three min_three max_four min_four
set_option linter.unusedVariables false
set_option linter.unusedSimpArgs false
theorem info3 : (Tryd.prog.info? 3).map (fun i => (i.zero, i.size, i.bytes)) = some (some (.int .i64 0), 1, 8) := by kernel_rfl
end Go.Proofs.YtdjnneflpkllmaaDoor.Q

namespace Go.Proofs.YtdjnneflpkllmaaDoor.Q
open Go.RowKit Go.Proofs.YtdjnneflpkllmaaDoorW.PrintWords Go.Proofs.YtdjnneflpkllmaaDoorW.PrintLast Go.Proofs.YtdjnneflpkllmaaDoorW.PrintMore
attribute [local go_sem] max2_int min2_int max_two min_two max_three min_three max_four min_four
set_option linter.unusedVariables false
set_option linter.unusedSimpArgs false
def bits_Len64.j0 : Nat → Int → Int → Option (Int)
 | 0, _, _ => none
 | k + 1, x0, x2 => if x0 ≥ 65536 then (if (x0 / 65536) ≥ 256 then (if 0 ≤ (((x0 / 65536) / 256) % 256) then (if (((x0 / 65536) / 256) % 256) < 256 then (some (wrap64 ((wrap64 ((wrap64 (x2 + 16)) + 8)) + (wrap64 (bt (⟨#[0, 1, 2, 2, 3, 3, 3, 3, 4, 4, 4, 4, 4, 4, 4, 4, 5, 5, 5, 5, 5, 5, 5, 5, 5, 5, 5, 5, 5, 5, 5, 5, 6, 6, 6, 6, 6, 6, 6, 6, 6, 6, 6, 6, 6, 6, 6, 6, 6, 6, 6, 6, 6, 6, 6, 6, 6, 6, 6, 6, 6, 6, 6, 6, 7, 7, 7, 7, 7, 7, 7, 7, 7, 7, 7, 7, 7, 7, 7, 7, 7, 7, 7, 7, 7, 7, 7, 7, 7, 7, 7, 7, 7, 7, 7, 7, 7, 7, 7, 7, 7, 7, 7, 7, 7, 7, 7, 7, 7, 7, 7, 7, 7, 7, 7, 7, 7, 7, 7, 7, 7, 7, 7, 7, 7, 7, 7, 7, 8, 8, 8, 8, 8, 8, 8, 8, 8, 8, 8, 8, 8, 8, 8, 8, 8, 8, 8, 8, 8, 8, 8, 8, 8, 8, 8, 8, 8, 8, 8, 8, 8, 8, 8, 8, 8, 8, 8, 8, 8, 8, 8, 8, 8, 8, 8, 8, 8, 8, 8, 8, 8, 8, 8, 8, 8, 8, 8, 8, 8, 8, 8, 8, 8, 8, 8, 8, 8, 8, 8, 8, 8, 8, 8, 8, 8, 8, 8, 8, 8, 8, 8, 8, 8, 8, 8, 8, 8, 8, 8, 8, 8, 8, 8, 8, 8, 8, 8, 8, 8, 8, 8, 8, 8, 8, 8, 8, 8, 8, 8, 8, 8, 8, 8, 8, 8, 8, 8, 8, 8, 8, 8, 8, 8, 8, 8, 8]⟩ : ByteArray) (((x0 / 65536) / 256) % 256)))))) else (none)) else (none)) else (if 0 ≤ ((x0 / 65536) % 256) then (if ((x0 / 65536) % 256) < 256 then (some (wrap64 ((wrap64 (x2 + 16)) + (wrap64 (bt (⟨#[0, 1, 2, 2, 3, 3, 3, 3, 4, 4, 4, 4, 4, 4, 4, 4, 5, 5, 5, 5, 5, 5, 5, 5, 5, 5, 5, 5, 5, 5, 5, 5, 6, 6, 6, 6, 6, 6, 6, 6, 6, 6, 6, 6, 6, 6, 6, 6, 6, 6, 6, 6, 6, 6, 6, 6, 6, 6, 6, 6, 6, 6, 6, 6, 7, 7, 7, 7, 7, 7, 7, 7, 7, 7, 7, 7, 7, 7, 7, 7, 7, 7, 7, 7, 7, 7, 7, 7, 7, 7, 7, 7, 7, 7, 7, 7, 7, 7, 7, 7, 7, 7, 7, 7, 7, 7, 7, 7, 7, 7, 7, 7, 7, 7, 7, 7, 7, 7, 7, 7, 7, 7, 7, 7, 7, 7, 7, 7, 8, 8, 8, 8, 8, 8, 8, 8, 8, 8, 8, 8, 8, 8, 8, 8, 8, 8, 8, 8, 8, 8, 8, 8, 8, 8, 8, 8, 8, 8, 8, 8, 8, 8, 8, 8, 8, 8, 8, 8, 8, 8, 8, 8, 8, 8, 8, 8, 8, 8, 8, 8, 8, 8, 8, 8, 8, 8, 8, 8, 8, 8, 8, 8, 8, 8, 8, 8, 8, 8, 8, 8, 8, 8, 8, 8, 8, 8, 8, 8, 8, 8, 8, 8, 8, 8, 8, 8, 8, 8, 8, 8, 8, 8, 8, 8, 8, 8, 8, 8, 8, 8, 8, 8, 8, 8, 8, 8, 8, 8, 8, 8, 8, 8, 8, 8, 8, 8, 8, 8, 8, 8, 8, 8, 8, 8, 8, 8]⟩ : ByteArray) ((x0 / 65536) % 256)))))) else (none)) else (none))) else (if x0 ≥ 256 then (if 0 ≤ ((x0 / 256) % 256) then (if ((x0 / 256) % 256) < 256 then (some (wrap64 ((wrap64 (x2 + 8)) + (wrap64 (bt (⟨#[0, 1, 2, 2, 3, 3, 3, 3, 4, 4, 4, 4, 4, 4, 4, 4, 5, 5, 5, 5, 5, 5, 5, 5, 5, 5, 5, 5, 5, 5, 5, 5, 6, 6, 6, 6, 6, 6, 6, 6, 6, 6, 6, 6, 6, 6, 6, 6, 6, 6, 6, 6, 6, 6, 6, 6, 6, 6, 6, 6, 6, 6, 6, 6, 7, 7, 7, 7, 7, 7, 7, 7, 7, 7, 7, 7, 7, 7, 7, 7, 7, 7, 7, 7, 7, 7, 7, 7, 7, 7, 7, 7, 7, 7, 7, 7, 7, 7, 7, 7, 7, 7, 7, 7, 7, 7, 7, 7, 7, 7, 7, 7, 7, 7, 7, 7, 7, 7, 7, 7, 7, 7, 7, 7, 7, 7, 7, 7, 8, 8, 8, 8, 8, 8, 8, 8, 8, 8, 8, 8, 8, 8, 8, 8, 8, 8, 8, 8, 8, 8, 8, 8, 8, 8, 8, 8, 8, 8, 8, 8, 8, 8, 8, 8, 8, 8, 8, 8, 8, 8, 8, 8, 8, 8, 8, 8, 8, 8, 8, 8, 8, 8, 8, 8, 8, 8, 8, 8, 8, 8, 8, 8, 8, 8, 8, 8, 8, 8, 8, 8, 8, 8, 8, 8, 8, 8, 8, 8, 8, 8, 8, 8, 8, 8, 8, 8, 8, 8, 8, 8, 8, 8, 8, 8, 8, 8, 8, 8, 8, 8, 8, 8, 8, 8, 8, 8, 8, 8, 8, 8, 8, 8, 8, 8, 8, 8, 8, 8, 8, 8, 8, 8, 8, 8, 8, 8]⟩ : ByteArray) ((x0 / 256) % 256)))))) else (none)) else (none)) else (if 0 ≤ ((x0) % 256) then (if ((x0) % 256) < 256 then (some (wrap64 (x2 + (wrap64 (bt (⟨#[0, 1, 2, 2, 3, 3, 3, 3, 4, 4, 4, 4, 4, 4, 4, 4, 5, 5, 5, 5, 5, 5, 5, 5, 5, 5, 5, 5, 5, 5, 5, 5, 6, 6, 6, 6, 6, 6, 6, 6, 6, 6, 6, 6, 6, 6, 6, 6, 6, 6, 6, 6, 6, 6, 6, 6, 6, 6, 6, 6, 6, 6, 6, 6, 7, 7, 7, 7, 7, 7, 7, 7, 7, 7, 7, 7, 7, 7, 7, 7, 7, 7, 7, 7, 7, 7, 7, 7, 7, 7, 7, 7, 7, 7, 7, 7, 7, 7, 7, 7, 7, 7, 7, 7, 7, 7, 7, 7, 7, 7, 7, 7, 7, 7, 7, 7, 7, 7, 7, 7, 7, 7, 7, 7, 7, 7, 7, 7, 8, 8, 8, 8, 8, 8, 8, 8, 8, 8, 8, 8, 8, 8, 8, 8, 8, 8, 8, 8, 8, 8, 8, 8, 8, 8, 8, 8, 8, 8, 8, 8, 8, 8, 8, 8, 8, 8, 8, 8, 8, 8, 8, 8, 8, 8, 8, 8, 8, 8, 8, 8, 8, 8, 8, 8, 8, 8, 8, 8, 8, 8, 8, 8, 8, 8, 8, 8, 8, 8, 8, 8, 8, 8, 8, 8, 8, 8, 8, 8, 8, 8, 8, 8, 8, 8, 8, 8, 8, 8, 8, 8, 8, 8, 8, 8, 8, 8, 8, 8, 8, 8, 8, 8, 8, 8, 8, 8, 8, 8, 8, 8, 8, 8, 8, 8, 8, 8, 8, 8, 8, 8, 8, 8, 8, 8, 8, 8]⟩ : ByteArray) ((x0) % 256)))))) else (none)) else (none)))
def bits_Len64.f (k : Nat) (a0 : Int) : Option (Int) := if a0 ≥ 4294967296 then (bits_Len64.j0 k (a0 / 4294967296) 32) else (bits_Len64.j0 k a0 0)
set_option maxHeartbeats 8000000 in
set_option maxRecDepth 100000 in
theorem bits_Len64.calls (k : Nat) (a0 : Int) (r : Int) (w : World) (h : bits_Len64.f k a0 = some r) :
  Calls Tryd.prog 138 #[.int .u64 a0] w fun e w' => e = .returned (.int .i64 r) ∧ Drawn0 w w' := by
 have H : (if a0 ≥ 4294967296 then (bits_Len64.j0 k (a0 / 4294967296) 32) else (bits_Len64.j0 k a0 0)) = some r := h
 clear h
 have HC2 := Aside0.mk H
 clear H
 go_enter Tryd.func138, Tryd.ntmps138
 go_upto_if 4 with (fail)
 go_cut [0, 2] (fun v0 v2 wc => ∃ (kq : Nat) (x0_1 : Int) (x2_1 : Int), v0 = .int .u64 x0_1 ∧ v2 = .int .i64 x2_1 ∧ Aside0 (bits_Len64.j0 kq x0_1 x2_1 = some r) ∧ Aside0 (kq ≤ k) ∧ Drawn0 w wc)
 case first =>
  have H := HC2.out
  clear HC2
  by_cases c3 : a0 ≥ 4294967296
  ·rw [if_pos c3] at H
   have c3b0 : decide (4294967296 ≤ a0) = true := decide_eq_true c3
   clear c3
   (first | rw [c3b0] | (simp only [i64_w, i32_w]; rw [c3b0]) | skip)
   have H' := Aside0.mk H
   clear H
   go_wp2
   go_meet
   case rel => exact ⟨_, (a0 / 4294967296), (32), (by first | rfl | (simp; done) | (simp [*]; done)), (by first | rfl | (simp; done) | (simp [*]; done)), H', ⟨by first | omega | exact Nat.le_refl _⟩, by repeat (first | exact Drawn0.refl _ | apply Drawn0.step)⟩
  ·rw [if_neg c3] at H
   have c3b0 : decide (4294967296 ≤ a0) = false := decide_eq_false c3
   clear c3
   (first | rw [c3b0] | (simp only [i64_w, i32_w]; rw [c3b0]) | skip)
   have H' := Aside0.mk H
   clear H
   go_wp2
   go_meet
   case rel => exact ⟨_, (a0), (0), (by first | rfl | (simp; done) | (simp [*]; done)), (by first | rfl | (simp; done) | (simp [*]; done)), H', ⟨by first | omega | exact Nat.le_refl _⟩, by repeat (first | exact Drawn0.refl _ | apply Drawn0.step)⟩
 case rest =>
  clear HC2
  try clear c1
  try clear p2
  try clear c3
  try clear c3b0
  obtain ⟨kq, x0_1, x2_1, rfl, rfl, HA, HJ1, ⟨mc1, rfl⟩⟩ := hcut
  cases kq with
  | zero => exact absurd HA.out (by simp [bits_Len64.j0])
  | succ kj1 =>
   have H := HA.out
   clear HA
   simp only [bits_Len64.j0] at H
   by_cases c4 : x0_1 ≥ 65536
   ·rw [if_pos c4] at H
    have c4b0 : decide (65536 ≤ x0_1) = true := decide_eq_true c4
    clear c4
    by_cases c5 : (x0_1 / 65536) ≥ 256
    ·rw [if_pos c5] at H
     have c5b0 : decide (256 ≤ (x0_1 / 65536)) = true := decide_eq_true c5
     clear c5
     obtain ⟨ji6, hji6⟩ : ∃ j_ : Int, (((x0_1 / 65536) / 256) % 256) = j_ := ⟨_, rfl⟩
     replace H : (if 0 ≤ (ji6) then (if (ji6) < 256 then (some (wrap64 ((wrap64 ((wrap64 (x2_1 + 16)) + 8)) + (wrap64 (bt (⟨#[0, 1, 2, 2, 3, 3, 3, 3, 4, 4, 4, 4, 4, 4, 4, 4, 5, 5, 5, 5, 5, 5, 5, 5, 5, 5, 5, 5, 5, 5, 5, 5, 6, 6, 6, 6, 6, 6, 6, 6, 6, 6, 6, 6, 6, 6, 6, 6, 6, 6, 6, 6, 6, 6, 6, 6, 6, 6, 6, 6, 6, 6, 6, 6, 7, 7, 7, 7, 7, 7, 7, 7, 7, 7, 7, 7, 7, 7, 7, 7, 7, 7, 7, 7, 7, 7, 7, 7, 7, 7, 7, 7, 7, 7, 7, 7, 7, 7, 7, 7, 7, 7, 7, 7, 7, 7, 7, 7, 7, 7, 7, 7, 7, 7, 7, 7, 7, 7, 7, 7, 7, 7, 7, 7, 7, 7, 7, 7, 8, 8, 8, 8, 8, 8, 8, 8, 8, 8, 8, 8, 8, 8, 8, 8, 8, 8, 8, 8, 8, 8, 8, 8, 8, 8, 8, 8, 8, 8, 8, 8, 8, 8, 8, 8, 8, 8, 8, 8, 8, 8, 8, 8, 8, 8, 8, 8, 8, 8, 8, 8, 8, 8, 8, 8, 8, 8, 8, 8, 8, 8, 8, 8, 8, 8, 8, 8, 8, 8, 8, 8, 8, 8, 8, 8, 8, 8, 8, 8, 8, 8, 8, 8, 8, 8, 8, 8, 8, 8, 8, 8, 8, 8, 8, 8, 8, 8, 8, 8, 8, 8, 8, 8, 8, 8, 8, 8, 8, 8, 8, 8, 8, 8, 8, 8, 8, 8, 8, 8, 8, 8, 8, 8, 8, 8, 8, 8]⟩ : ByteArray) (ji6)))))) else (none)) else (none)) = some r := by first | (rw [hji6] at H; exact H) | (simp only [hji6] at H ⊢; exact H)
     by_cases c7 : 0 ≤ (ji6)
     ·rw [if_pos c7] at H
      have c7b0 : decide (0 ≤ (ji6)) = true := decide_eq_true c7
      clear c7
      by_cases c8 : (ji6) < 256
      ·rw [if_pos c8] at H
       have c8b0 : decide ((ji6) < 256) = true := decide_eq_true c8
       clear c8
       obtain rfl := Option.some.inj H
       have p9 : 0 ≤ ((ji6) : Int) := od_
       have q9 : (ji6) < (256 : Int) := od_
       have hx9 := bt_at (⟨#[0, 1, 2, 2, 3, 3, 3, 3, 4, 4, 4, 4, 4, 4, 4, 4, 5, 5, 5, 5, 5, 5, 5, 5, 5, 5, 5, 5, 5, 5, 5, 5, 6, 6, 6, 6, 6, 6, 6, 6, 6, 6, 6, 6, 6, 6, 6, 6, 6, 6, 6, 6, 6, 6, 6, 6, 6, 6, 6, 6, 6, 6, 6, 6, 7, 7, 7, 7, 7, 7, 7, 7, 7, 7, 7, 7, 7, 7, 7, 7, 7, 7, 7, 7, 7, 7, 7, 7, 7, 7, 7, 7, 7, 7, 7, 7, 7, 7, 7, 7, 7, 7, 7, 7, 7, 7, 7, 7, 7, 7, 7, 7, 7, 7, 7, 7, 7, 7, 7, 7, 7, 7, 7, 7, 7, 7, 7, 7, 8, 8, 8, 8, 8, 8, 8, 8, 8, 8, 8, 8, 8, 8, 8, 8, 8, 8, 8, 8, 8, 8, 8, 8, 8, 8, 8, 8, 8, 8, 8, 8, 8, 8, 8, 8, 8, 8, 8, 8, 8, 8, 8, 8, 8, 8, 8, 8, 8, 8, 8, 8, 8, 8, 8, 8, 8, 8, 8, 8, 8, 8, 8, 8, 8, 8, 8, 8, 8, 8, 8, 8, 8, 8, 8, 8, 8, 8, 8, 8, 8, 8, 8, 8, 8, 8, 8, 8, 8, 8, 8, 8, 8, 8, 8, 8, 8, 8, 8, 8, 8, 8, 8, 8, 8, 8, 8, 8, 8, 8, 8, 8, 8, 8, 8, 8, 8, 8, 8, 8, 8, 8, 8, 8, 8, 8, 8, 8]⟩ : ByteArray) (ji6)
       replace p9 := eq_true p9
       replace q9 := eq_true q9
       go_wp2
       go_ret
       exact ⟨by first | rfl | (simp; done) | (simp only [← hji6] <;> (first | rfl | simp)) | (simp [*]; done), by repeat (first | exact Drawn0.refl _ | apply Drawn0.step)⟩
      ·rw [if_neg c8] at H
       exact absurd H (by simp)
     ·rw [if_neg c7] at H
      exact absurd H (by simp)
    ·rw [if_neg c5] at H
     have c5b0 : decide (256 ≤ (x0_1 / 65536)) = false := decide_eq_false c5
     clear c5
     obtain ⟨ji10, hji10⟩ : ∃ j_ : Int, ((x0_1 / 65536) % 256) = j_ := ⟨_, rfl⟩
     replace H : (if 0 ≤ (ji10) then (if (ji10) < 256 then (some (wrap64 ((wrap64 (x2_1 + 16)) + (wrap64 (bt (⟨#[0, 1, 2, 2, 3, 3, 3, 3, 4, 4, 4, 4, 4, 4, 4, 4, 5, 5, 5, 5, 5, 5, 5, 5, 5, 5, 5, 5, 5, 5, 5, 5, 6, 6, 6, 6, 6, 6, 6, 6, 6, 6, 6, 6, 6, 6, 6, 6, 6, 6, 6, 6, 6, 6, 6, 6, 6, 6, 6, 6, 6, 6, 6, 6, 7, 7, 7, 7, 7, 7, 7, 7, 7, 7, 7, 7, 7, 7, 7, 7, 7, 7, 7, 7, 7, 7, 7, 7, 7, 7, 7, 7, 7, 7, 7, 7, 7, 7, 7, 7, 7, 7, 7, 7, 7, 7, 7, 7, 7, 7, 7, 7, 7, 7, 7, 7, 7, 7, 7, 7, 7, 7, 7, 7, 7, 7, 7, 7, 8, 8, 8, 8, 8, 8, 8, 8, 8, 8, 8, 8, 8, 8, 8, 8, 8, 8, 8, 8, 8, 8, 8, 8, 8, 8, 8, 8, 8, 8, 8, 8, 8, 8, 8, 8, 8, 8, 8, 8, 8, 8, 8, 8, 8, 8, 8, 8, 8, 8, 8, 8, 8, 8, 8, 8, 8, 8, 8, 8, 8, 8, 8, 8, 8, 8, 8, 8, 8, 8, 8, 8, 8, 8, 8, 8, 8, 8, 8, 8, 8, 8, 8, 8, 8, 8, 8, 8, 8, 8, 8, 8, 8, 8, 8, 8, 8, 8, 8, 8, 8, 8, 8, 8, 8, 8, 8, 8, 8, 8, 8, 8, 8, 8, 8, 8, 8, 8, 8, 8, 8, 8, 8, 8, 8, 8, 8, 8]⟩ : ByteArray) (ji10)))))) else (none)) else (none)) = some r := by first | (rw [hji10] at H; exact H) | (simp only [hji10] at H ⊢; exact H)
     by_cases c11 : 0 ≤ (ji10)
     ·rw [if_pos c11] at H
      have c11b0 : decide (0 ≤ (ji10)) = true := decide_eq_true c11
      clear c11
      by_cases c12 : (ji10) < 256
      ·rw [if_pos c12] at H
       have c12b0 : decide ((ji10) < 256) = true := decide_eq_true c12
       clear c12
       obtain rfl := Option.some.inj H
       have p13 : 0 ≤ ((ji10) : Int) := od_
       have q13 : (ji10) < (256 : Int) := od_
       have hx13 := bt_at (⟨#[0, 1, 2, 2, 3, 3, 3, 3, 4, 4, 4, 4, 4, 4, 4, 4, 5, 5, 5, 5, 5, 5, 5, 5, 5, 5, 5, 5, 5, 5, 5, 5, 6, 6, 6, 6, 6, 6, 6, 6, 6, 6, 6, 6, 6, 6, 6, 6, 6, 6, 6, 6, 6, 6, 6, 6, 6, 6, 6, 6, 6, 6, 6, 6, 7, 7, 7, 7, 7, 7, 7, 7, 7, 7, 7, 7, 7, 7, 7, 7, 7, 7, 7, 7, 7, 7, 7, 7, 7, 7, 7, 7, 7, 7, 7, 7, 7, 7, 7, 7, 7, 7, 7, 7, 7, 7, 7, 7, 7, 7, 7, 7, 7, 7, 7, 7, 7, 7, 7, 7, 7, 7, 7, 7, 7, 7, 7, 7, 8, 8, 8, 8, 8, 8, 8, 8, 8, 8, 8, 8, 8, 8, 8, 8, 8, 8, 8, 8, 8, 8, 8, 8, 8, 8, 8, 8, 8, 8, 8, 8, 8, 8, 8, 8, 8, 8, 8, 8, 8, 8, 8, 8, 8, 8, 8, 8, 8, 8, 8, 8, 8, 8, 8, 8, 8, 8, 8, 8, 8, 8, 8, 8, 8, 8, 8, 8, 8, 8, 8, 8, 8, 8, 8, 8, 8, 8, 8, 8, 8, 8, 8, 8, 8, 8, 8, 8, 8, 8, 8, 8, 8, 8, 8, 8, 8, 8, 8, 8, 8, 8, 8, 8, 8, 8, 8, 8, 8, 8, 8, 8, 8, 8, 8, 8, 8, 8, 8, 8, 8, 8, 8, 8, 8, 8, 8, 8]⟩ : ByteArray) (ji10)
       replace p13 := eq_true p13
       replace q13 := eq_true q13
       go_wp2
       go_ret
       exact ⟨by first | rfl | (simp; done) | (simp only [← hji10] <;> (first | rfl | simp)) | (simp [*]; done), by repeat (first | exact Drawn0.refl _ | apply Drawn0.step)⟩
      ·rw [if_neg c12] at H
       exact absurd H (by simp)
     ·rw [if_neg c11] at H
      exact absurd H (by simp)
   ·rw [if_neg c4] at H
    have c4b0 : decide (65536 ≤ x0_1) = false := decide_eq_false c4
    clear c4
    by_cases c14 : x0_1 ≥ 256
    ·rw [if_pos c14] at H
     have c14b0 : decide (256 ≤ x0_1) = true := decide_eq_true c14
     clear c14
     obtain ⟨ji15, hji15⟩ : ∃ j_ : Int, ((x0_1 / 256) % 256) = j_ := ⟨_, rfl⟩
     replace H : (if 0 ≤ (ji15) then (if (ji15) < 256 then (some (wrap64 ((wrap64 (x2_1 + 8)) + (wrap64 (bt (⟨#[0, 1, 2, 2, 3, 3, 3, 3, 4, 4, 4, 4, 4, 4, 4, 4, 5, 5, 5, 5, 5, 5, 5, 5, 5, 5, 5, 5, 5, 5, 5, 5, 6, 6, 6, 6, 6, 6, 6, 6, 6, 6, 6, 6, 6, 6, 6, 6, 6, 6, 6, 6, 6, 6, 6, 6, 6, 6, 6, 6, 6, 6, 6, 6, 7, 7, 7, 7, 7, 7, 7, 7, 7, 7, 7, 7, 7, 7, 7, 7, 7, 7, 7, 7, 7, 7, 7, 7, 7, 7, 7, 7, 7, 7, 7, 7, 7, 7, 7, 7, 7, 7, 7, 7, 7, 7, 7, 7, 7, 7, 7, 7, 7, 7, 7, 7, 7, 7, 7, 7, 7, 7, 7, 7, 7, 7, 7, 7, 8, 8, 8, 8, 8, 8, 8, 8, 8, 8, 8, 8, 8, 8, 8, 8, 8, 8, 8, 8, 8, 8, 8, 8, 8, 8, 8, 8, 8, 8, 8, 8, 8, 8, 8, 8, 8, 8, 8, 8, 8, 8, 8, 8, 8, 8, 8, 8, 8, 8, 8, 8, 8, 8, 8, 8, 8, 8, 8, 8, 8, 8, 8, 8, 8, 8, 8, 8, 8, 8, 8, 8, 8, 8, 8, 8, 8, 8, 8, 8, 8, 8, 8, 8, 8, 8, 8, 8, 8, 8, 8, 8, 8, 8, 8, 8, 8, 8, 8, 8, 8, 8, 8, 8, 8, 8, 8, 8, 8, 8, 8, 8, 8, 8, 8, 8, 8, 8, 8, 8, 8, 8, 8, 8, 8, 8, 8, 8]⟩ : ByteArray) (ji15)))))) else (none)) else (none)) = some r := by first | (rw [hji15] at H; exact H) | (simp only [hji15] at H ⊢; exact H)
     by_cases c16 : 0 ≤ (ji15)
     ·rw [if_pos c16] at H
      have c16b0 : decide (0 ≤ (ji15)) = true := decide_eq_true c16
      clear c16
      by_cases c17 : (ji15) < 256
      ·rw [if_pos c17] at H
       have c17b0 : decide ((ji15) < 256) = true := decide_eq_true c17
       clear c17
       obtain rfl := Option.some.inj H
       have p18 : 0 ≤ ((ji15) : Int) := od_
       have q18 : (ji15) < (256 : Int) := od_
       have hx18 := bt_at (⟨#[0, 1, 2, 2, 3, 3, 3, 3, 4, 4, 4, 4, 4, 4, 4, 4, 5, 5, 5, 5, 5, 5, 5, 5, 5, 5, 5, 5, 5, 5, 5, 5, 6, 6, 6, 6, 6, 6, 6, 6, 6, 6, 6, 6, 6, 6, 6, 6, 6, 6, 6, 6, 6, 6, 6, 6, 6, 6, 6, 6, 6, 6, 6, 6, 7, 7, 7, 7, 7, 7, 7, 7, 7, 7, 7, 7, 7, 7, 7, 7, 7, 7, 7, 7, 7, 7, 7, 7, 7, 7, 7, 7, 7, 7, 7, 7, 7, 7, 7, 7, 7, 7, 7, 7, 7, 7, 7, 7, 7, 7, 7, 7, 7, 7, 7, 7, 7, 7, 7, 7, 7, 7, 7, 7, 7, 7, 7, 7, 8, 8, 8, 8, 8, 8, 8, 8, 8, 8, 8, 8, 8, 8, 8, 8, 8, 8, 8, 8, 8, 8, 8, 8, 8, 8, 8, 8, 8, 8, 8, 8, 8, 8, 8, 8, 8, 8, 8, 8, 8, 8, 8, 8, 8, 8, 8, 8, 8, 8, 8, 8, 8, 8, 8, 8, 8, 8, 8, 8, 8, 8, 8, 8, 8, 8, 8, 8, 8, 8, 8, 8, 8, 8, 8, 8, 8, 8, 8, 8, 8, 8, 8, 8, 8, 8, 8, 8, 8, 8, 8, 8, 8, 8, 8, 8, 8, 8, 8, 8, 8, 8, 8, 8, 8, 8, 8, 8, 8, 8, 8, 8, 8, 8, 8, 8, 8, 8, 8, 8, 8, 8, 8, 8, 8, 8, 8, 8]⟩ : ByteArray) (ji15)
       replace p18 := eq_true p18
       replace q18 := eq_true q18
       go_wp2
       go_ret
       exact ⟨by first | rfl | (simp; done) | (simp only [← hji15] <;> (first | rfl | simp)) | (simp [*]; done), by repeat (first | exact Drawn0.refl _ | apply Drawn0.step)⟩
      ·rw [if_neg c17] at H
       exact absurd H (by simp)
     ·rw [if_neg c16] at H
      exact absurd H (by simp)
    ·rw [if_neg c14] at H
     have c14b0 : decide (256 ≤ x0_1) = false := decide_eq_false c14
     clear c14
     obtain ⟨ji19, hji19⟩ : ∃ j_ : Int, ((x0_1) % 256) = j_ := ⟨_, rfl⟩
     replace H : (if 0 ≤ (ji19) then (if (ji19) < 256 then (some (wrap64 (x2_1 + (wrap64 (bt (⟨#[0, 1, 2, 2, 3, 3, 3, 3, 4, 4, 4, 4, 4, 4, 4, 4, 5, 5, 5, 5, 5, 5, 5, 5, 5, 5, 5, 5, 5, 5, 5, 5, 6, 6, 6, 6, 6, 6, 6, 6, 6, 6, 6, 6, 6, 6, 6, 6, 6, 6, 6, 6, 6, 6, 6, 6, 6, 6, 6, 6, 6, 6, 6, 6, 7, 7, 7, 7, 7, 7, 7, 7, 7, 7, 7, 7, 7, 7, 7, 7, 7, 7, 7, 7, 7, 7, 7, 7, 7, 7, 7, 7, 7, 7, 7, 7, 7, 7, 7, 7, 7, 7, 7, 7, 7, 7, 7, 7, 7, 7, 7, 7, 7, 7, 7, 7, 7, 7, 7, 7, 7, 7, 7, 7, 7, 7, 7, 7, 8, 8, 8, 8, 8, 8, 8, 8, 8, 8, 8, 8, 8, 8, 8, 8, 8, 8, 8, 8, 8, 8, 8, 8, 8, 8, 8, 8, 8, 8, 8, 8, 8, 8, 8, 8, 8, 8, 8, 8, 8, 8, 8, 8, 8, 8, 8, 8, 8, 8, 8, 8, 8, 8, 8, 8, 8, 8, 8, 8, 8, 8, 8, 8, 8, 8, 8, 8, 8, 8, 8, 8, 8, 8, 8, 8, 8, 8, 8, 8, 8, 8, 8, 8, 8, 8, 8, 8, 8, 8, 8, 8, 8, 8, 8, 8, 8, 8, 8, 8, 8, 8, 8, 8, 8, 8, 8, 8, 8, 8, 8, 8, 8, 8, 8, 8, 8, 8, 8, 8, 8, 8, 8, 8, 8, 8, 8, 8]⟩ : ByteArray) (ji19)))))) else (none)) else (none)) = some r := by first | (rw [hji19] at H; exact H) | (simp only [hji19] at H ⊢; exact H)
     by_cases c20 : 0 ≤ (ji19)
     ·rw [if_pos c20] at H
      have c20b0 : decide (0 ≤ (ji19)) = true := decide_eq_true c20
      clear c20
      by_cases c21 : (ji19) < 256
      ·rw [if_pos c21] at H
       have c21b0 : decide ((ji19) < 256) = true := decide_eq_true c21
       clear c21
       obtain rfl := Option.some.inj H
       have p22 : 0 ≤ ((ji19) : Int) := od_
       have q22 : (ji19) < (256 : Int) := od_
       have hx22 := bt_at (⟨#[0, 1, 2, 2, 3, 3, 3, 3, 4, 4, 4, 4, 4, 4, 4, 4, 5, 5, 5, 5, 5, 5, 5, 5, 5, 5, 5, 5, 5, 5, 5, 5, 6, 6, 6, 6, 6, 6, 6, 6, 6, 6, 6, 6, 6, 6, 6, 6, 6, 6, 6, 6, 6, 6, 6, 6, 6, 6, 6, 6, 6, 6, 6, 6, 7, 7, 7, 7, 7, 7, 7, 7, 7, 7, 7, 7, 7, 7, 7, 7, 7, 7, 7, 7, 7, 7, 7, 7, 7, 7, 7, 7, 7, 7, 7, 7, 7, 7, 7, 7, 7, 7, 7, 7, 7, 7, 7, 7, 7, 7, 7, 7, 7, 7, 7, 7, 7, 7, 7, 7, 7, 7, 7, 7, 7, 7, 7, 7, 8, 8, 8, 8, 8, 8, 8, 8, 8, 8, 8, 8, 8, 8, 8, 8, 8, 8, 8, 8, 8, 8, 8, 8, 8, 8, 8, 8, 8, 8, 8, 8, 8, 8, 8, 8, 8, 8, 8, 8, 8, 8, 8, 8, 8, 8, 8, 8, 8, 8, 8, 8, 8, 8, 8, 8, 8, 8, 8, 8, 8, 8, 8, 8, 8, 8, 8, 8, 8, 8, 8, 8, 8, 8, 8, 8, 8, 8, 8, 8, 8, 8, 8, 8, 8, 8, 8, 8, 8, 8, 8, 8, 8, 8, 8, 8, 8, 8, 8, 8, 8, 8, 8, 8, 8, 8, 8, 8, 8, 8, 8, 8, 8, 8, 8, 8, 8, 8, 8, 8, 8, 8, 8, 8, 8, 8, 8, 8]⟩ : ByteArray) (ji19)
       replace p22 := eq_true p22
       replace q22 := eq_true q22
       go_wp2
       go_ret
       exact ⟨by first | rfl | (simp; done) | (simp only [← hji19] <;> (first | rfl | simp)) | (simp [*]; done), by repeat (first | exact Drawn0.refl _ | apply Drawn0.step)⟩
      ·rw [if_neg c21] at H
       exact absurd H (by simp)
     ·rw [if_neg c20] at H
      exact absurd H (by simp)
def bits_LeadingZeros64.f (k : Nat) (a0 : Int) : Option (Int) := (bits_Len64.f k a0).bind fun t121 => (some (wrap64 (64 - t121)))
set_option maxHeartbeats 8000000 in
set_option maxRecDepth 100000 in
theorem bits_LeadingZeros64.calls (k : Nat) (a0 : Int) (r : Int) (w : World) (h : bits_LeadingZeros64.f k a0 = some r) :
  Calls Tryd.prog 126 #[.int .u64 a0] w fun e w' => e = .returned (.int .i64 r) ∧ Drawn0 w w' := by
 have H : ((bits_Len64.f k a0).bind fun t121 => (some (wrap64 (64 - t121)))) = some r := h
 clear h
 replace H := Option.bind_eq_some_iff.mp H
 obtain ⟨t121, A20, H⟩ := H
 replace H : (some (wrap64 (64 - t121))) = some r := H
 have A2 := Aside0.mk A20
 clear A20
 obtain rfl := Option.some.inj H
 go_enter Tryd.func126, Tryd.ntmps126
 go_wp2_with (first | ((with_reducible refine gate_callee (f := 138) rfl ?_); refine goesL_ (some 4) rfl rfl Tryd.func138 (by kernel_rfl) rfl #[.int .u64 a0] rfl qe_ ?_; (with_reducible refine (bits_Len64.calls k a0 t121 _ A2.out).mono ?_); rintro e w' ⟨rfl, ⟨nd, rfl⟩⟩; refine ⟨_, rfl, ?_⟩))
 go_ret
 exact ⟨by first | rfl | (simp; done) | (simp [*]; done), by repeat (first | exact Drawn0.refl _ | apply Drawn0.step)⟩
mutual
def bits_Div64_g.j2 : Nat → Int → Int → Int → Int → Int → Int → Int → Int → Option (Int × Int)
 | 0, _, _, _, _, _, _, _, _ => none
 | k + 1, x2, x8, x9, x10, x11, x13, x14, x15 => if x9 = 0 then (none) else (bits_Div64_g.l1 k x2 x8 x9 x10 x14 x15 (IntKind.u64.wrap ((IntKind.u64.wrap ((IntKind.u64.wrap ((IntKind.u64.wrap (x11 * 4294967296)) + x13)) - (IntKind.u64.wrap (x15 * x2)))) - (IntKind.u64.wrap ((IntKind.u64.wrap (Int.tdiv (IntKind.u64.wrap ((IntKind.u64.wrap ((IntKind.u64.wrap (x11 * 4294967296)) + x13)) - (IntKind.u64.wrap (x15 * x2)))) x9)) * x9)))) (IntKind.u64.wrap ((IntKind.u64.wrap ((IntKind.u64.wrap (x11 * 4294967296)) + x13)) - (IntKind.u64.wrap (x15 * x2)))) (IntKind.u64.wrap (Int.tdiv (IntKind.u64.wrap ((IntKind.u64.wrap ((IntKind.u64.wrap (x11 * 4294967296)) + x13)) - (IntKind.u64.wrap (x15 * x2)))) x9)))
def bits_Div64_g.l1 : Nat → Int → Int → Int → Int → Int → Int → Int → Int → Int → Option (Int × Int)
 | 0, _, _, _, _, _, _, _, _, _ => none
 | k + 1, x2, x8, x9, x10, x14, x15, x16, x17, x18 => if x18 ≥ 4294967296 then (bits_Div64_g.j4 k x2 x8 x9 x10 x14 x15 x16 x17 x18 true) else (bits_Div64_g.j4 k x2 x8 x9 x10 x14 x15 x16 x17 x18 (decide ((IntKind.u64.wrap (x18 * x10)) > (IntKind.u64.wrap ((IntKind.u64.wrap (4294967296 * x16)) + x14)))))
def bits_Div64_g.j4 : Nat → Int → Int → Int → Int → Int → Int → Int → Int → Int → Bool → Option (Int × Int)
 | 0, _, _, _, _, _, _, _, _, _, _ => none
 | k + 1, x2, x8, x9, x10, x14, x15, x16, x17, x18, x113 => if x113 = true then (if (IntKind.u64.wrap (x16 + x9)) ≥ 4294967296 then (if 0 ≤ x8 then (some (IntKind.u64.wrap ((IntKind.u64.wrap (x15 * 4294967296)) + (IntKind.u64.wrap (x18 - 1))), shr .u64 (IntKind.u64.wrap ((IntKind.u64.wrap ((IntKind.u64.wrap (x17 * 4294967296)) + x14)) - (IntKind.u64.wrap ((IntKind.u64.wrap (x18 - 1)) * x2)))) x8)) else (none)) else (bits_Div64_g.l1 k x2 x8 x9 x10 x14 x15 (IntKind.u64.wrap (x16 + x9)) x17 (IntKind.u64.wrap (x18 - 1)))) else (if 0 ≤ x8 then (some (IntKind.u64.wrap ((IntKind.u64.wrap (x15 * 4294967296)) + x18), shr .u64 (IntKind.u64.wrap ((IntKind.u64.wrap ((IntKind.u64.wrap (x17 * 4294967296)) + x14)) - (IntKind.u64.wrap (x18 * x2)))) x8)) else (none))
def bits_Div64_g.l0 : Nat → Int → Int → Int → Int → Int → Int → Int → Int → Int → Option (Int × Int)
 | 0, _, _, _, _, _, _, _, _, _ => none
 | k + 1, x2, x8, x9, x10, x11, x13, x14, x15, x16 => if x15 ≥ 4294967296 then (bits_Div64_g.j1 k x2 x8 x9 x10 x11 x13 x14 x15 x16 true) else (bits_Div64_g.j1 k x2 x8 x9 x10 x11 x13 x14 x15 x16 (decide ((IntKind.u64.wrap (x15 * x10)) > (IntKind.u64.wrap ((IntKind.u64.wrap (4294967296 * x16)) + x13)))))
def bits_Div64_g.j1 : Nat → Int → Int → Int → Int → Int → Int → Int → Int → Int → Bool → Option (Int × Int)
 | 0, _, _, _, _, _, _, _, _, _, _ => none
 | k + 1, x2, x8, x9, x10, x11, x13, x14, x15, x16, x78 => if x78 = true then (if (IntKind.u64.wrap (x16 + x9)) ≥ 4294967296 then (bits_Div64_g.j2 k x2 x8 x9 x10 x11 x13 x14 (IntKind.u64.wrap (x15 - 1))) else (bits_Div64_g.l0 k x2 x8 x9 x10 x11 x13 x14 (IntKind.u64.wrap (x15 - 1)) (IntKind.u64.wrap (x16 + x9)))) else (bits_Div64_g.j2 k x2 x8 x9 x10 x11 x13 x14 x15)
end
def bits_Div64_g.f (k : Nat) (a0 : Int) (a1 : Int) (a2 : Int) : Option (Int × Int) := if a0 = 0 then (if a2 = 0 then (none) else (some (IntKind.u64.wrap (Int.tdiv a1 a2), Int.tmod a1 a2))) else ((bits_LeadingZeros64.f k a2).bind fun t122 => (if 0 ≤ (IntKind.u64.wrap (t122)) then (if 0 ≤ (IntKind.u64.wrap (64 - (IntKind.u64.wrap (t122)))) then (if ((shl .u64 a2 (IntKind.u64.wrap (t122))) / 4294967296) = 0 then (none) else (bits_Div64_g.l0 k (shl .u64 a2 (IntKind.u64.wrap (t122))) (IntKind.u64.wrap (t122)) ((shl .u64 a2 (IntKind.u64.wrap (t122))) / 4294967296) (Go.bits .and .u64 (shl .u64 a2 (IntKind.u64.wrap (t122))) 4294967295) (Go.bits .or .u64 (shl .u64 a0 (IntKind.u64.wrap (t122))) (shr .u64 a1 (IntKind.u64.wrap (64 - (IntKind.u64.wrap (t122)))))) ((shl .u64 a1 (IntKind.u64.wrap (t122))) / 4294967296) (Go.bits .and .u64 (shl .u64 a1 (IntKind.u64.wrap (t122))) 4294967295) (IntKind.u64.wrap (Int.tdiv (Go.bits .or .u64 (shl .u64 a0 (IntKind.u64.wrap (t122))) (shr .u64 a1 (IntKind.u64.wrap (64 - (IntKind.u64.wrap (t122)))))) ((shl .u64 a2 (IntKind.u64.wrap (t122))) / 4294967296))) (IntKind.u64.wrap ((Go.bits .or .u64 (shl .u64 a0 (IntKind.u64.wrap (t122))) (shr .u64 a1 (IntKind.u64.wrap (64 - (IntKind.u64.wrap (t122)))))) - (IntKind.u64.wrap ((IntKind.u64.wrap (Int.tdiv (Go.bits .or .u64 (shl .u64 a0 (IntKind.u64.wrap (t122))) (shr .u64 a1 (IntKind.u64.wrap (64 - (IntKind.u64.wrap (t122)))))) ((shl .u64 a2 (IntKind.u64.wrap (t122))) / 4294967296))) * ((shl .u64 a2 (IntKind.u64.wrap (t122))) / 4294967296))))))) else (none)) else (none)))
set_option maxHeartbeats 8000000 in
set_option maxRecDepth 100000 in
theorem bits_Div64_g.calls (k : Nat) (a0 : Int) (a1 : Int) (a2 : Int) (r1 : Int) (r2 : Int) (w : World) (g0 : (a2 == 0) = false) (g1 : decide (a2 ≤ a0) = false) (h : bits_Div64_g.f k a0 a1 a2 = some (r1, r2)) :
  Calls Tryd.prog 112 #[.int .u64 a0, .int .u64 a1, .int .u64 a2] w fun e w' => e = .returned (.tuple #[.int .u64 r1, .int .u64 r2]) ∧ Drawn0 w w' := by
 have H : (if a0 = 0 then (if a2 = 0 then (none) else (some (IntKind.u64.wrap (Int.tdiv a1 a2), Int.tmod a1 a2))) else ((bits_LeadingZeros64.f k a2).bind fun t122 => (if 0 ≤ (IntKind.u64.wrap (t122)) then (if 0 ≤ (IntKind.u64.wrap (64 - (IntKind.u64.wrap (t122)))) then (if ((shl .u64 a2 (IntKind.u64.wrap (t122))) / 4294967296) = 0 then (none) else (bits_Div64_g.l0 k (shl .u64 a2 (IntKind.u64.wrap (t122))) (IntKind.u64.wrap (t122)) ((shl .u64 a2 (IntKind.u64.wrap (t122))) / 4294967296) (Go.bits .and .u64 (shl .u64 a2 (IntKind.u64.wrap (t122))) 4294967295) (Go.bits .or .u64 (shl .u64 a0 (IntKind.u64.wrap (t122))) (shr .u64 a1 (IntKind.u64.wrap (64 - (IntKind.u64.wrap (t122)))))) ((shl .u64 a1 (IntKind.u64.wrap (t122))) / 4294967296) (Go.bits .and .u64 (shl .u64 a1 (IntKind.u64.wrap (t122))) 4294967295) (IntKind.u64.wrap (Int.tdiv (Go.bits .or .u64 (shl .u64 a0 (IntKind.u64.wrap (t122))) (shr .u64 a1 (IntKind.u64.wrap (64 - (IntKind.u64.wrap (t122)))))) ((shl .u64 a2 (IntKind.u64.wrap (t122))) / 4294967296))) (IntKind.u64.wrap ((Go.bits .or .u64 (shl .u64 a0 (IntKind.u64.wrap (t122))) (shr .u64 a1 (IntKind.u64.wrap (64 - (IntKind.u64.wrap (t122)))))) - (IntKind.u64.wrap ((IntKind.u64.wrap (Int.tdiv (Go.bits .or .u64 (shl .u64 a0 (IntKind.u64.wrap (t122))) (shr .u64 a1 (IntKind.u64.wrap (64 - (IntKind.u64.wrap (t122)))))) ((shl .u64 a2 (IntKind.u64.wrap (t122))) / 4294967296))) * ((shl .u64 a2 (IntKind.u64.wrap (t122))) / 4294967296))))))) else (none)) else (none)))) = some (r1, r2) := h
 clear h
 by_cases c4 : a0 = 0
 ·rw [if_pos c4] at H
  have c4b0 : (a0 == 0) = true := beq_iff_eq.mpr c4
  have c4b1 : (a0 != 0) = false := bne_eq_false_iff_eq.mpr c4
  clear c4
  by_cases c5 : a2 = 0
  ·rw [if_pos c5] at H
   exact absurd H (by simp)
  ·rw [if_neg c5] at H
   have c5b0 : (a2 == 0) = false := beq_eq_false_iff_ne.mpr c5
   have c5b1 : (a2 != 0) = true := bne_iff_ne.mpr c5
   simp only [Option.some.injEq, Prod.mk.injEq] at H
   obtain ⟨rfl, rfl⟩ := H
   go_enter Tryd.func112, Tryd.ntmps112
   go_wp2
   repeat (go_quiet (fail); try go_wp2)
   go_ret2
   exact ⟨by first | rfl | (simp; done) | (simp [*]; done), by repeat (first | exact Drawn0.refl _ | apply Drawn0.step)⟩
 ·rw [if_neg c4] at H
  have c4b0 : (a0 == 0) = false := beq_eq_false_iff_ne.mpr c4
  have c4b1 : (a0 != 0) = true := bne_iff_ne.mpr c4
  replace H := Option.bind_eq_some_iff.mp H
  obtain ⟨t122, A60, H⟩ := H
  replace H : (if 0 ≤ (IntKind.u64.wrap (t122)) then (if 0 ≤ (IntKind.u64.wrap (64 - (IntKind.u64.wrap (t122)))) then (if ((shl .u64 a2 (IntKind.u64.wrap (t122))) / 4294967296) = 0 then (none) else (bits_Div64_g.l0 k (shl .u64 a2 (IntKind.u64.wrap (t122))) (IntKind.u64.wrap (t122)) ((shl .u64 a2 (IntKind.u64.wrap (t122))) / 4294967296) (Go.bits .and .u64 (shl .u64 a2 (IntKind.u64.wrap (t122))) 4294967295) (Go.bits .or .u64 (shl .u64 a0 (IntKind.u64.wrap (t122))) (shr .u64 a1 (IntKind.u64.wrap (64 - (IntKind.u64.wrap (t122)))))) ((shl .u64 a1 (IntKind.u64.wrap (t122))) / 4294967296) (Go.bits .and .u64 (shl .u64 a1 (IntKind.u64.wrap (t122))) 4294967295) (IntKind.u64.wrap (Int.tdiv (Go.bits .or .u64 (shl .u64 a0 (IntKind.u64.wrap (t122))) (shr .u64 a1 (IntKind.u64.wrap (64 - (IntKind.u64.wrap (t122)))))) ((shl .u64 a2 (IntKind.u64.wrap (t122))) / 4294967296))) (IntKind.u64.wrap ((Go.bits .or .u64 (shl .u64 a0 (IntKind.u64.wrap (t122))) (shr .u64 a1 (IntKind.u64.wrap (64 - (IntKind.u64.wrap (t122)))))) - (IntKind.u64.wrap ((IntKind.u64.wrap (Int.tdiv (Go.bits .or .u64 (shl .u64 a0 (IntKind.u64.wrap (t122))) (shr .u64 a1 (IntKind.u64.wrap (64 - (IntKind.u64.wrap (t122)))))) ((shl .u64 a2 (IntKind.u64.wrap (t122))) / 4294967296))) * ((shl .u64 a2 (IntKind.u64.wrap (t122))) / 4294967296))))))) else (none)) else (none)) = some (r1, r2) := H
  have A6 := Aside0.mk A60
  clear A60
  obtain ⟨ji7, hji7⟩ : ∃ j_ : Int, (IntKind.u64.wrap (t122)) = j_ := ⟨_, rfl⟩
  replace H : (if 0 ≤ (ji7) then (if 0 ≤ (IntKind.u64.wrap (64 - (ji7))) then (if ((shl .u64 a2 (ji7)) / 4294967296) = 0 then (none) else (bits_Div64_g.l0 k (shl .u64 a2 (ji7)) ji7 ((shl .u64 a2 (ji7)) / 4294967296) (Go.bits .and .u64 (shl .u64 a2 (ji7)) 4294967295) (Go.bits .or .u64 (shl .u64 a0 (ji7)) (shr .u64 a1 (IntKind.u64.wrap (64 - (ji7))))) ((shl .u64 a1 (ji7)) / 4294967296) (Go.bits .and .u64 (shl .u64 a1 (ji7)) 4294967295) (IntKind.u64.wrap (Int.tdiv (Go.bits .or .u64 (shl .u64 a0 (ji7)) (shr .u64 a1 (IntKind.u64.wrap (64 - (ji7))))) ((shl .u64 a2 (ji7)) / 4294967296))) (IntKind.u64.wrap ((Go.bits .or .u64 (shl .u64 a0 (ji7)) (shr .u64 a1 (IntKind.u64.wrap (64 - (ji7))))) - (IntKind.u64.wrap ((IntKind.u64.wrap (Int.tdiv (Go.bits .or .u64 (shl .u64 a0 (ji7)) (shr .u64 a1 (IntKind.u64.wrap (64 - (ji7))))) ((shl .u64 a2 (ji7)) / 4294967296))) * ((shl .u64 a2 (ji7)) / 4294967296))))))) else (none)) else (none)) = some (r1, r2) := by first | (rw [hji7] at H; exact H) | (simp only [hji7] at H ⊢; exact H)
  (try rw [hji7] at A6)
  by_cases c8 : 0 ≤ (ji7)
  ·rw [if_pos c8] at H
   have c8b0 := eq_true c8
   have c8b1 : decide (0 ≤ (ji7)) = true := decide_eq_true c8
   clear c8
   obtain ⟨ji9, hji9⟩ : ∃ j_ : Int, (shl .u64 a2 (ji7)) = j_ := ⟨_, rfl⟩
   replace H : (if 0 ≤ (IntKind.u64.wrap (64 - (ji7))) then (if ((ji9) / 4294967296) = 0 then (none) else (bits_Div64_g.l0 k ji9 ji7 ((ji9) / 4294967296) (Go.bits .and .u64 (ji9) 4294967295) (Go.bits .or .u64 (shl .u64 a0 (ji7)) (shr .u64 a1 (IntKind.u64.wrap (64 - (ji7))))) ((shl .u64 a1 (ji7)) / 4294967296) (Go.bits .and .u64 (shl .u64 a1 (ji7)) 4294967295) (IntKind.u64.wrap (Int.tdiv (Go.bits .or .u64 (shl .u64 a0 (ji7)) (shr .u64 a1 (IntKind.u64.wrap (64 - (ji7))))) ((ji9) / 4294967296))) (IntKind.u64.wrap ((Go.bits .or .u64 (shl .u64 a0 (ji7)) (shr .u64 a1 (IntKind.u64.wrap (64 - (ji7))))) - (IntKind.u64.wrap ((IntKind.u64.wrap (Int.tdiv (Go.bits .or .u64 (shl .u64 a0 (ji7)) (shr .u64 a1 (IntKind.u64.wrap (64 - (ji7))))) ((ji9) / 4294967296))) * ((ji9) / 4294967296))))))) else (none)) = some (r1, r2) := by first | (rw [hji9] at H; exact H) | (simp only [hji9] at H ⊢; exact H)
   (try rw [hji9] at A6)
   have hji9_ : (IntKind.u64.wrap (a2 * 2 ^ min (ji7).toNat 64)) = ji9 := hji9
   have hji9z : (ji7) ≤ 64 → (IntKind.u64.wrap (a2 * 2 ^ (ji7).toNat)) = ji9 := shl_small hji9
   have c10b0 := eq_true (od_ : 0 ≤ (ji7))
   obtain ⟨ji11, hji11⟩ : ∃ j_ : Int, (shl .u64 a0 (ji7)) = j_ := ⟨_, rfl⟩
   replace H : (if 0 ≤ (IntKind.u64.wrap (64 - (ji7))) then (if ((ji9) / 4294967296) = 0 then (none) else (bits_Div64_g.l0 k ji9 ji7 ((ji9) / 4294967296) (Go.bits .and .u64 (ji9) 4294967295) (Go.bits .or .u64 (ji11) (shr .u64 a1 (IntKind.u64.wrap (64 - (ji7))))) ((shl .u64 a1 (ji7)) / 4294967296) (Go.bits .and .u64 (shl .u64 a1 (ji7)) 4294967295) (IntKind.u64.wrap (Int.tdiv (Go.bits .or .u64 (ji11) (shr .u64 a1 (IntKind.u64.wrap (64 - (ji7))))) ((ji9) / 4294967296))) (IntKind.u64.wrap ((Go.bits .or .u64 (ji11) (shr .u64 a1 (IntKind.u64.wrap (64 - (ji7))))) - (IntKind.u64.wrap ((IntKind.u64.wrap (Int.tdiv (Go.bits .or .u64 (ji11) (shr .u64 a1 (IntKind.u64.wrap (64 - (ji7))))) ((ji9) / 4294967296))) * ((ji9) / 4294967296))))))) else (none)) = some (r1, r2) := by first | (rw [hji11] at H; exact H) | (simp only [hji11] at H ⊢; exact H)
   (try rw [hji11] at A6)
   have hji11_ : (IntKind.u64.wrap (a0 * 2 ^ min (ji7).toNat 64)) = ji11 := hji11
   have hji11z : (ji7) ≤ 64 → (IntKind.u64.wrap (a0 * 2 ^ (ji7).toNat)) = ji11 := shl_small hji11
   obtain ⟨ji12, hji12⟩ : ∃ j_ : Int, (IntKind.u64.wrap (64 - (ji7))) = j_ := ⟨_, rfl⟩
   replace H : (if 0 ≤ (ji12) then (if ((ji9) / 4294967296) = 0 then (none) else (bits_Div64_g.l0 k ji9 ji7 ((ji9) / 4294967296) (Go.bits .and .u64 (ji9) 4294967295) (Go.bits .or .u64 (ji11) (shr .u64 a1 (ji12))) ((shl .u64 a1 (ji7)) / 4294967296) (Go.bits .and .u64 (shl .u64 a1 (ji7)) 4294967295) (IntKind.u64.wrap (Int.tdiv (Go.bits .or .u64 (ji11) (shr .u64 a1 (ji12))) ((ji9) / 4294967296))) (IntKind.u64.wrap ((Go.bits .or .u64 (ji11) (shr .u64 a1 (ji12))) - (IntKind.u64.wrap ((IntKind.u64.wrap (Int.tdiv (Go.bits .or .u64 (ji11) (shr .u64 a1 (ji12))) ((ji9) / 4294967296))) * ((ji9) / 4294967296))))))) else (none)) = some (r1, r2) := by first | (rw [hji12] at H; exact H) | (simp only [hji12] at H ⊢; exact H)
   (try rw [hji12] at A6)
   by_cases c13 : 0 ≤ (ji12)
   ·rw [if_pos c13] at H
    have c13b0 := eq_true c13
    have c13b1 : decide (0 ≤ (ji12)) = true := decide_eq_true c13
    clear c13
    obtain ⟨ji14, hji14⟩ : ∃ j_ : Int, (shr .u64 a1 (ji12)) = j_ := ⟨_, rfl⟩
    replace H : (if ((ji9) / 4294967296) = 0 then (none) else (bits_Div64_g.l0 k ji9 ji7 ((ji9) / 4294967296) (Go.bits .and .u64 (ji9) 4294967295) (Go.bits .or .u64 (ji11) (ji14)) ((shl .u64 a1 (ji7)) / 4294967296) (Go.bits .and .u64 (shl .u64 a1 (ji7)) 4294967295) (IntKind.u64.wrap (Int.tdiv (Go.bits .or .u64 (ji11) (ji14)) ((ji9) / 4294967296))) (IntKind.u64.wrap ((Go.bits .or .u64 (ji11) (ji14)) - (IntKind.u64.wrap ((IntKind.u64.wrap (Int.tdiv (Go.bits .or .u64 (ji11) (ji14)) ((ji9) / 4294967296))) * ((ji9) / 4294967296))))))) = some (r1, r2) := by first | (rw [hji14] at H; exact H) | (simp only [hji14] at H ⊢; exact H)
    (try rw [hji14] at A6)
    have hji14_ : (a1 / 2 ^ min (ji12).toNat 64) = ji14 := hji14
    have hji14z : (ji12) ≤ 64 → (a1 / 2 ^ (ji12).toNat) = ji14 := shr_small hji14
    have c15b0 := eq_true (od_ : 0 ≤ (ji7))
    obtain ⟨ji16, hji16⟩ : ∃ j_ : Int, (shl .u64 a1 (ji7)) = j_ := ⟨_, rfl⟩
    replace H : (if ((ji9) / 4294967296) = 0 then (none) else (bits_Div64_g.l0 k ji9 ji7 ((ji9) / 4294967296) (Go.bits .and .u64 (ji9) 4294967295) (Go.bits .or .u64 (ji11) (ji14)) ((ji16) / 4294967296) (Go.bits .and .u64 (ji16) 4294967295) (IntKind.u64.wrap (Int.tdiv (Go.bits .or .u64 (ji11) (ji14)) ((ji9) / 4294967296))) (IntKind.u64.wrap ((Go.bits .or .u64 (ji11) (ji14)) - (IntKind.u64.wrap ((IntKind.u64.wrap (Int.tdiv (Go.bits .or .u64 (ji11) (ji14)) ((ji9) / 4294967296))) * ((ji9) / 4294967296))))))) = some (r1, r2) := by first | (rw [hji16] at H; exact H) | (simp only [hji16] at H ⊢; exact H)
    (try rw [hji16] at A6)
    have hji16_ : (IntKind.u64.wrap (a1 * 2 ^ min (ji7).toNat 64)) = ji16 := hji16
    have hji16z : (ji7) ≤ 64 → (IntKind.u64.wrap (a1 * 2 ^ (ji7).toNat)) = ji16 := shl_small hji16
    by_cases c17 : ((ji9) / 4294967296) = 0
    ·rw [if_pos c17] at H
     exact absurd H (by simp)
    ·rw [if_neg c17] at H
     have c17b0 : (((ji9) / 4294967296) == 0) = false := beq_eq_false_iff_ne.mpr c17
     have c17b1 : (((ji9) / 4294967296) != 0) = true := bne_iff_ne.mpr c17
     have HC18 := Aside0.mk H
     clear H
     go_enter Tryd.func112, Tryd.ntmps112
     go_upto_block 0 with (first | (go_at_call 126; (with_reducible refine (bits_LeadingZeros64.calls k a2 t122 _ A6.out).mono ?_); rintro e w' ⟨rfl, ⟨nd, rfl⟩⟩; (try first | exact ⟨rfl, _, World.drewN_drewN _ _ _⟩ | exact ⟨rfl, _, Eq.trans (World.drewN_drewN _ _ _) (congrArg (World.drewN _) (Nat.add_assoc _ _ _))⟩)))
     repeat (go_quiet (first | (go_at_call 126; (with_reducible refine (bits_LeadingZeros64.calls k a2 t122 _ A6.out).mono ?_); rintro e w' ⟨rfl, ⟨nd, rfl⟩⟩; (try first | exact ⟨rfl, _, World.drewN_drewN _ _ _⟩ | exact ⟨rfl, _, Eq.trans (World.drewN_drewN _ _ _) (congrArg (World.drewN _) (Nat.add_assoc _ _ _))⟩))); go_upto_block 0 with (first | (go_at_call 126; (with_reducible refine (bits_LeadingZeros64.calls k a2 t122 _ A6.out).mono ?_); rintro e w' ⟨rfl, ⟨nd, rfl⟩⟩; (try first | exact ⟨rfl, _, World.drewN_drewN _ _ _⟩ | exact ⟨rfl, _, Eq.trans (World.drewN_drewN _ _ _) (congrArg (World.drewN _) (Nat.add_assoc _ _ _))⟩))))
     (try simp only [Act.put, List.setIfInBounds_toArray, List.set_cons_zero, List.set_cons_succ])
     go_cut [15] (fun v15 wc => ∃ (kq : Nat) (x15_17 : Int), v15 = .int .u64 x15_17 ∧ Aside0 (bits_Div64_g.j2 kq ji9 ji7 ((ji9) / 4294967296) (Go.bits .and .u64 (ji9) 4294967295) (Go.bits .or .u64 (ji11) (ji14)) ((ji16) / 4294967296) (Go.bits .and .u64 (ji16) 4294967295) x15_17 = some (r1, r2)) ∧ Aside0 (kq ≤ k) ∧ Drawn0 w wc)
     case first =>
      have H := HC18.out
      clear HC18
      have H' := Aside0.mk H
      clear H
      go_wp2
      repeat (go_quiet (fail); try go_wp2)
      go_loopg [15, 16] k (fun kq v15 v16 w' => ∃ (x15_1 : Int) (x16_1 : Int), v15 = .int .u64 x15_1 ∧ v16 = .int .u64 x16_1 ∧ Aside0 (bits_Div64_g.l0 kq ji9 ji7 ((ji9) / 4294967296) (Go.bits .and .u64 (ji9) 4294967295) (Go.bits .or .u64 (ji11) (ji14)) ((ji16) / 4294967296) (Go.bits .and .u64 (ji16) 4294967295) x15_1 x16_1 = some (r1, r2)) ∧ Aside0 (kq ≤ k) ∧ Drawn0 w w')
      case atStart => exact ⟨(IntKind.u64.wrap (Int.tdiv (Go.bits .or .u64 (ji11) (ji14)) ((ji9) / 4294967296))), (IntKind.u64.wrap ((Go.bits .or .u64 (ji11) (ji14)) - (IntKind.u64.wrap ((IntKind.u64.wrap (Int.tdiv (Go.bits .or .u64 (ji11) (ji14)) ((ji9) / 4294967296))) * ((ji9) / 4294967296))))), (by first | rfl | (simp; done) | (simp only [← hji9, ← hji11, ← hji14] <;> (first | rfl | simp)) | (simp [*]; done)), (by first | rfl | (simp; done) | (simp only [← hji9, ← hji11, ← hji14] <;> (first | rfl | simp)) | (simp [*]; done)), H', ⟨Nat.le_refl _⟩, by repeat (first | exact Drawn0.refl _ | apply Drawn0.step)⟩
      case round =>
       clear H'
       try clear c1
       try clear p2
       try clear c4
       try clear c4b0
       try clear c4b1
       try clear c5
       try clear c5b0
       try clear c5b1
       try clear c8
       try clear c8b0
       try clear c8b1
       try clear c10
       try clear c10b0
       try clear c11
       try clear c13
       try clear c13b0
       try clear c13b1
       try clear c15
       try clear c15b0
       try clear c17
       try clear c17b0
       try clear c17b1
       obtain ⟨x15_1, x16_1, rfl, rfl, HA, HK1, ⟨m1, rfl⟩⟩ := hrel
       cases gk with
       | zero => exact absurd HA.out (by simp [bits_Div64_g.l0])
       | succ k1 =>
        have H := HA.out
        clear HA
        simp only [bits_Div64_g.l0] at H
        have HC19 := Aside0.mk H
        clear H
        go_upto_region 17 with (fail)
        repeat (go_quiet (fail); go_upto_region 17 with (fail))
        go_cut [78] (fun v78 wc => ∃ (kq : Nat) (x78_18 : Bool), v78 = .bool x78_18 ∧ Aside0 (bits_Div64_g.j1 kq ji9 ji7 ((ji9) / 4294967296) (Go.bits .and .u64 (ji9) 4294967295) (Go.bits .or .u64 (ji11) (ji14)) ((ji16) / 4294967296) (Go.bits .and .u64 (ji16) 4294967295) x15_1 x16_1 x78_18 = some (r1, r2)) ∧ Aside0 (kq ≤ k1) ∧ Drawn0 w wc)
        case first =>
         have H := HC19.out
         clear HC19
         by_cases c20 : x15_1 ≥ 4294967296
         ·rw [if_pos c20] at H
          have c20b0 : decide (4294967296 ≤ x15_1) = true := decide_eq_true c20
          clear c20
          (first | rw [c20b0] | (simp only [i64_w, i32_w]; rw [c20b0]) | skip)
          have H' := Aside0.mk H
          clear H
          go_wp2
          repeat (go_quiet (fail); try go_wp2)
          go_meet
          case rel => exact ⟨_, (true), (by first | rfl | (simp; done) | (simp [*]; done)), H', ⟨by have := HK1.out; first | omega | exact Nat.le_refl _⟩, by repeat (first | exact Drawn0.refl _ | apply Drawn0.step)⟩
         ·rw [if_neg c20] at H
          have c20b0 : decide (4294967296 ≤ x15_1) = false := decide_eq_false c20
          clear c20
          (first | rw [c20b0] | (simp only [i64_w, i32_w]; rw [c20b0]) | skip)
          have H' := Aside0.mk H
          clear H
          go_wp2
          repeat (go_quiet (fail); try go_wp2)
          go_meet
          case rel => exact ⟨_, (decide ((IntKind.u64.wrap (x15_1 * (Go.bits .and .u64 (ji9) 4294967295))) > (IntKind.u64.wrap ((IntKind.u64.wrap (4294967296 * x16_1)) + ((ji16) / 4294967296))))), (by first | rfl | (simp; done) | (simp only [← hji9, ← hji16] <;> (first | rfl | simp)) | (simp [*]; done)), H', ⟨by have := HK1.out; first | omega | exact Nat.le_refl _⟩, by repeat (first | exact Drawn0.refl _ | apply Drawn0.step)⟩
        case rest =>
         clear HC19
         try clear c1
         try clear c2
         try clear p2
         try clear c4
         try clear c4b0
         try clear c4b1
         try clear c5
         try clear c5b0
         try clear c5b1
         try clear c8
         try clear c8b0
         try clear c8b1
         try clear c10
         try clear c10b0
         try clear c11
         try clear c13
         try clear c13b0
         try clear c13b1
         try clear c15
         try clear c15b0
         try clear c17
         try clear c17b0
         try clear c17b1
         try clear c20
         try clear c20b0
         try clear p2
         obtain ⟨kq, x78_18, rfl, HA, HJ18, ⟨mc18, rfl⟩⟩ := hcut
         cases kq with
         | zero => exact absurd HA.out (by simp [bits_Div64_g.j1])
         | succ kj18 =>
          have H := HA.out
          clear HA
          simp only [bits_Div64_g.j1] at H
          by_cases c21 : x78_18 = true
          ·subst c21
           have H1 : (if (IntKind.u64.wrap (x16_1 + ((ji9) / 4294967296))) ≥ 4294967296 then (bits_Div64_g.j2 kj18 ji9 ji7 ((ji9) / 4294967296) (Go.bits .and .u64 (ji9) 4294967295) (Go.bits .or .u64 (ji11) (ji14)) ((ji16) / 4294967296) (Go.bits .and .u64 (ji16) 4294967295) (IntKind.u64.wrap (x15_1 - 1))) else (bits_Div64_g.l0 kj18 ji9 ji7 ((ji9) / 4294967296) (Go.bits .and .u64 (ji9) 4294967295) (Go.bits .or .u64 (ji11) (ji14)) ((ji16) / 4294967296) (Go.bits .and .u64 (ji16) 4294967295) (IntKind.u64.wrap (x15_1 - 1)) (IntKind.u64.wrap (x16_1 + ((ji9) / 4294967296))))) = some (r1, r2) := by rw [if_pos rfl] at H; exact H
           clear H
           have H := H1
           clear H1
           by_cases c22 : (IntKind.u64.wrap (x16_1 + ((ji9) / 4294967296))) ≥ 4294967296
           ·rw [if_pos c22] at H
            have c22b0 : decide (4294967296 ≤ (IntKind.u64.wrap (x16_1 + ((ji9) / 4294967296)))) = true := decide_eq_true c22
            clear c22
            have H' := Aside0.mk H
            clear H
            go_wp2
            repeat (go_quiet (fail); try go_wp2)
            go_meet
            case rel => exact ⟨_, (IntKind.u64.wrap (x15_1 - 1)), (by first | rfl | (simp; done) | (simp [*]; done)), H', ⟨by have := HK1.out; have := HJ18.out; first | omega | exact Nat.le_refl _⟩, by repeat (first | exact Drawn0.refl _ | apply Drawn0.step)⟩
           ·rw [if_neg c22] at H
            have c22b0 : decide (4294967296 ≤ (IntKind.u64.wrap (x16_1 + ((ji9) / 4294967296)))) = false := decide_eq_false c22
            clear c22
            have H' := Aside0.mk H
            clear H
            go_wp2
            repeat (go_quiet (fail); try go_wp2)
            go_roundg kj18
            case measure => have := HK1.out; have := HJ18.out; omega
            case rel => exact ⟨(IntKind.u64.wrap (x15_1 - 1)), (IntKind.u64.wrap (x16_1 + ((ji9) / 4294967296))), (by first | rfl | (simp; done) | (simp [*]; done)), (by first | rfl | (simp; done) | (simp only [← hji9] <;> (first | rfl | simp)) | (simp [*]; done)), H', ⟨by have := HK1.out; have := HJ18.out; omega⟩, by repeat (first | exact Drawn0.refl _ | apply Drawn0.step)⟩
          ·replace c21 := Bool.eq_false_iff.mpr c21
           subst c21
           have H1 : (bits_Div64_g.j2 kj18 ji9 ji7 ((ji9) / 4294967296) (Go.bits .and .u64 (ji9) 4294967295) (Go.bits .or .u64 (ji11) (ji14)) ((ji16) / 4294967296) (Go.bits .and .u64 (ji16) 4294967295) x15_1) = some (r1, r2) := by rw [if_neg (show ¬ (false = true) by decide)] at H; exact H
           clear H
           have H := H1
           clear H1
           have H' := Aside0.mk H
           clear H
           go_wp2
           repeat (go_quiet (fail); try go_wp2)
           go_meet
           case rel => exact ⟨_, (x15_1), (by first | rfl | (simp; done) | (simp [*]; done)), H', ⟨by have := HK1.out; have := HJ18.out; first | omega | exact Nat.le_refl _⟩, by repeat (first | exact Drawn0.refl _ | apply Drawn0.step)⟩
     case rest =>
      clear HC18
      try clear c1
      try clear c2
      try clear p2
      try clear c4
      try clear c4b0
      try clear c4b1
      try clear c5
      try clear c5b0
      try clear c5b1
      try clear c8
      try clear c8b0
      try clear c8b1
      try clear c10
      try clear c10b0
      try clear c11
      try clear c13
      try clear c13b0
      try clear c13b1
      try clear c15
      try clear c15b0
      try clear c17
      try clear c17b0
      try clear c17b1
      try clear c18
      try clear c20
      try clear c20b0
      try clear c21
      try clear c22
      try clear c22b0
      try clear p2
      obtain ⟨kq, x15_17, rfl, HA, HJ17, ⟨mc17, rfl⟩⟩ := hcut
      cases kq with
      | zero => exact absurd HA.out (by simp [bits_Div64_g.j2])
      | succ kj17 =>
       have H := HA.out
       clear HA
       simp only [bits_Div64_g.j2] at H
       by_cases c23 : ((ji9) / 4294967296) = 0
       ·rw [if_pos c23] at H
        exact absurd H (by simp)
       ·rw [if_neg c23] at H
        have c23b0 : (((ji9) / 4294967296) == 0) = false := beq_eq_false_iff_ne.mpr c23
        have c23b1 : (((ji9) / 4294967296) != 0) = true := bne_iff_ne.mpr c23
        have H' := Aside0.mk H
        clear H
        go_wp2
        repeat (go_quiet (fail); try go_wp2)
        go_loopg [16, 18] kj17 (fun kq v16 v18 w' => ∃ (x16_2 : Int) (x18_2 : Int), v16 = .int .u64 x16_2 ∧ v18 = .int .u64 x18_2 ∧ Aside0 (bits_Div64_g.l1 kq ji9 ji7 ((ji9) / 4294967296) (Go.bits .and .u64 (ji9) 4294967295) (Go.bits .and .u64 (ji16) 4294967295) x15_17 x16_2 (IntKind.u64.wrap ((IntKind.u64.wrap ((IntKind.u64.wrap ((Go.bits .or .u64 (ji11) (ji14)) * 4294967296)) + ((ji16) / 4294967296))) - (IntKind.u64.wrap (x15_17 * ji9)))) x18_2 = some (r1, r2)) ∧ Aside0 (kq ≤ kj17) ∧ Drawn0 w w')
        case atStart => exact ⟨(IntKind.u64.wrap ((IntKind.u64.wrap ((IntKind.u64.wrap ((IntKind.u64.wrap ((Go.bits .or .u64 (ji11) (ji14)) * 4294967296)) + ((ji16) / 4294967296))) - (IntKind.u64.wrap (x15_17 * ji9)))) - (IntKind.u64.wrap ((IntKind.u64.wrap (Int.tdiv (IntKind.u64.wrap ((IntKind.u64.wrap ((IntKind.u64.wrap ((Go.bits .or .u64 (ji11) (ji14)) * 4294967296)) + ((ji16) / 4294967296))) - (IntKind.u64.wrap (x15_17 * ji9)))) ((ji9) / 4294967296))) * ((ji9) / 4294967296))))), (IntKind.u64.wrap (Int.tdiv (IntKind.u64.wrap ((IntKind.u64.wrap ((IntKind.u64.wrap ((Go.bits .or .u64 (ji11) (ji14)) * 4294967296)) + ((ji16) / 4294967296))) - (IntKind.u64.wrap (x15_17 * ji9)))) ((ji9) / 4294967296))), (by first | rfl | (simp; done) | (simp only [← hji9, ← hji11, ← hji14, ← hji16] <;> (first | rfl | simp)) | (simp [*]; done)), (by first | rfl | (simp; done) | (simp only [← hji9, ← hji11, ← hji14, ← hji16] <;> (first | rfl | simp)) | (simp [*]; done)), H', ⟨Nat.le_refl _⟩, by repeat (first | exact Drawn0.refl _ | apply Drawn0.step)⟩
        case round =>
         clear H'
         try clear c1
         try clear c2
         try clear p2
         try clear c4
         try clear c4b0
         try clear c4b1
         try clear c5
         try clear c5b0
         try clear c5b1
         try clear c8
         try clear c8b0
         try clear c8b1
         try clear c10
         try clear c10b0
         try clear c11
         try clear c13
         try clear c13b0
         try clear c13b1
         try clear c15
         try clear c15b0
         try clear c17
         try clear c17b0
         try clear c17b1
         try clear c18
         try clear c20
         try clear c20b0
         try clear c21
         try clear c22
         try clear c22b0
         try clear c23
         try clear c23b0
         try clear c23b1
         try clear p2
         obtain ⟨x16_2, x18_2, rfl, rfl, HA, HK2, ⟨m2, rfl⟩⟩ := hrel
         cases gk with
         | zero => exact absurd HA.out (by simp [bits_Div64_g.l1])
         | succ k2 =>
          have H := HA.out
          clear HA
          simp only [bits_Div64_g.l1] at H
          have HC24 := Aside0.mk H
          clear H
          go_upto_region 24 with (fail)
          repeat (go_quiet (fail); go_upto_region 24 with (fail))
          go_cut [113] (fun v113 wc => ∃ (kq : Nat) (x113_23 : Bool), v113 = .bool x113_23 ∧ Aside0 (bits_Div64_g.j4 kq ji9 ji7 ((ji9) / 4294967296) (Go.bits .and .u64 (ji9) 4294967295) (Go.bits .and .u64 (ji16) 4294967295) x15_17 x16_2 (IntKind.u64.wrap ((IntKind.u64.wrap ((IntKind.u64.wrap ((Go.bits .or .u64 (ji11) (ji14)) * 4294967296)) + ((ji16) / 4294967296))) - (IntKind.u64.wrap (x15_17 * ji9)))) x18_2 x113_23 = some (r1, r2)) ∧ Aside0 (kq ≤ k2) ∧ Drawn0 w wc)
          case first =>
           have H := HC24.out
           clear HC24
           by_cases c25 : x18_2 ≥ 4294967296
           ·rw [if_pos c25] at H
            have c25b0 : decide (4294967296 ≤ x18_2) = true := decide_eq_true c25
            clear c25
            (first | rw [c25b0] | (simp only [i64_w, i32_w]; rw [c25b0]) | skip)
            have H' := Aside0.mk H
            clear H
            go_wp2
            repeat (go_quiet (fail); try go_wp2)
            go_meet
            case rel => exact ⟨_, (true), (by first | rfl | (simp; done) | (simp [*]; done)), H', ⟨by have := HJ17.out; have := HK2.out; first | omega | exact Nat.le_refl _⟩, by repeat (first | exact Drawn0.refl _ | apply Drawn0.step)⟩
           ·rw [if_neg c25] at H
            have c25b0 : decide (4294967296 ≤ x18_2) = false := decide_eq_false c25
            clear c25
            (first | rw [c25b0] | (simp only [i64_w, i32_w]; rw [c25b0]) | skip)
            have H' := Aside0.mk H
            clear H
            go_wp2
            repeat (go_quiet (fail); try go_wp2)
            go_meet
            case rel => exact ⟨_, (decide ((IntKind.u64.wrap (x18_2 * (Go.bits .and .u64 (ji9) 4294967295))) > (IntKind.u64.wrap ((IntKind.u64.wrap (4294967296 * x16_2)) + (Go.bits .and .u64 (ji16) 4294967295))))), (by first | rfl | (simp; done) | (simp only [← hji9, ← hji16] <;> (first | rfl | simp)) | (simp [*]; done)), H', ⟨by have := HJ17.out; have := HK2.out; first | omega | exact Nat.le_refl _⟩, by repeat (first | exact Drawn0.refl _ | apply Drawn0.step)⟩
          case rest =>
           clear HC24
           try clear c1
           try clear c2
           try clear p2
           try clear c4
           try clear c4b0
           try clear c4b1
           try clear c5
           try clear c5b0
           try clear c5b1
           try clear c8
           try clear c8b0
           try clear c8b1
           try clear c10
           try clear c10b0
           try clear c11
           try clear c13
           try clear c13b0
           try clear c13b1
           try clear c15
           try clear c15b0
           try clear c17
           try clear c17b0
           try clear c17b1
           try clear c18
           try clear c20
           try clear c20b0
           try clear c21
           try clear c22
           try clear c22b0
           try clear c23
           try clear c23b0
           try clear c23b1
           try clear c25
           try clear c25b0
           try clear p2
           obtain ⟨kq, x113_23, rfl, HA, HJ23, ⟨mc23, rfl⟩⟩ := hcut
           cases kq with
           | zero => exact absurd HA.out (by simp [bits_Div64_g.j4])
           | succ kj23 =>
            have H := HA.out
            clear HA
            simp only [bits_Div64_g.j4] at H
            by_cases c26 : x113_23 = true
            ·subst c26
             have H1 : (if (IntKind.u64.wrap (x16_2 + ((ji9) / 4294967296))) ≥ 4294967296 then (if 0 ≤ ji7 then (some (IntKind.u64.wrap ((IntKind.u64.wrap (x15_17 * 4294967296)) + (IntKind.u64.wrap (x18_2 - 1))), shr .u64 (IntKind.u64.wrap ((IntKind.u64.wrap ((IntKind.u64.wrap ((IntKind.u64.wrap ((IntKind.u64.wrap ((IntKind.u64.wrap ((Go.bits .or .u64 (ji11) (ji14)) * 4294967296)) + ((ji16) / 4294967296))) - (IntKind.u64.wrap (x15_17 * ji9)))) * 4294967296)) + (Go.bits .and .u64 (ji16) 4294967295))) - (IntKind.u64.wrap ((IntKind.u64.wrap (x18_2 - 1)) * ji9)))) ji7)) else (none)) else (bits_Div64_g.l1 kj23 ji9 ji7 ((ji9) / 4294967296) (Go.bits .and .u64 (ji9) 4294967295) (Go.bits .and .u64 (ji16) 4294967295) x15_17 (IntKind.u64.wrap (x16_2 + ((ji9) / 4294967296))) (IntKind.u64.wrap ((IntKind.u64.wrap ((IntKind.u64.wrap ((Go.bits .or .u64 (ji11) (ji14)) * 4294967296)) + ((ji16) / 4294967296))) - (IntKind.u64.wrap (x15_17 * ji9)))) (IntKind.u64.wrap (x18_2 - 1)))) = some (r1, r2) := by rw [if_pos rfl] at H; exact H
             clear H
             have H := H1
             clear H1
             by_cases c27 : (IntKind.u64.wrap (x16_2 + ((ji9) / 4294967296))) ≥ 4294967296
             ·rw [if_pos c27] at H
              have c27b0 : decide (4294967296 ≤ (IntKind.u64.wrap (x16_2 + ((ji9) / 4294967296)))) = true := decide_eq_true c27
              clear c27
              by_cases c28 : 0 ≤ ji7
              ·rw [if_pos c28] at H
               have c28b0 := eq_true c28
               have c28b1 : decide (0 ≤ ji7) = true := decide_eq_true c28
               clear c28
               obtain ⟨ji29, hji29⟩ : ∃ j_ : Int, (shr .u64 (IntKind.u64.wrap ((IntKind.u64.wrap ((IntKind.u64.wrap ((IntKind.u64.wrap ((IntKind.u64.wrap ((IntKind.u64.wrap ((Go.bits .or .u64 (ji11) (ji14)) * 4294967296)) + ((ji16) / 4294967296))) - (IntKind.u64.wrap (x15_17 * ji9)))) * 4294967296)) + (Go.bits .and .u64 (ji16) 4294967295))) - (IntKind.u64.wrap ((IntKind.u64.wrap (x18_2 - 1)) * ji9)))) ji7) = j_ := ⟨_, rfl⟩
               replace H : (some (IntKind.u64.wrap ((IntKind.u64.wrap (x15_17 * 4294967296)) + (IntKind.u64.wrap (x18_2 - 1))), ji29)) = some (r1, r2) := by first | (rw [hji29] at H; exact H) | (simp only [hji29] at H ⊢; exact H)
               have hji29_ : ((IntKind.u64.wrap ((IntKind.u64.wrap ((IntKind.u64.wrap ((IntKind.u64.wrap ((IntKind.u64.wrap ((IntKind.u64.wrap ((Go.bits .or .u64 (ji11) (ji14)) * 4294967296)) + ((ji16) / 4294967296))) - (IntKind.u64.wrap (x15_17 * ji9)))) * 4294967296)) + (Go.bits .and .u64 (ji16) 4294967295))) - (IntKind.u64.wrap ((IntKind.u64.wrap (x18_2 - 1)) * ji9)))) / 2 ^ min ji7.toNat 64) = ji29 := hji29
               have hji29z : ji7 ≤ 64 → ((IntKind.u64.wrap ((IntKind.u64.wrap ((IntKind.u64.wrap ((IntKind.u64.wrap ((IntKind.u64.wrap ((IntKind.u64.wrap ((Go.bits .or .u64 (ji11) (ji14)) * 4294967296)) + ((ji16) / 4294967296))) - (IntKind.u64.wrap (x15_17 * ji9)))) * 4294967296)) + (Go.bits .and .u64 (ji16) 4294967295))) - (IntKind.u64.wrap ((IntKind.u64.wrap (x18_2 - 1)) * ji9)))) / 2 ^ ji7.toNat) = ji29 := shr_small hji29
               simp only [Option.some.injEq, Prod.mk.injEq] at H
               obtain ⟨rfl, rfl⟩ := H
               go_wp2
               repeat (go_quiet (fail); try go_wp2)
               go_ret2
               exact ⟨by first | rfl | (simp; done) | (simp only [← hji7, ← hji9, ← hji11, ← hji12, ← hji14, ← hji16, ← hji29] <;> (first | rfl | simp)) | (simp [*]; done), by repeat (first | exact Drawn0.refl _ | apply Drawn0.step)⟩
              ·rw [if_neg c28] at H
               exact absurd H (by simp)
             ·rw [if_neg c27] at H
              have c27b0 : decide (4294967296 ≤ (IntKind.u64.wrap (x16_2 + ((ji9) / 4294967296)))) = false := decide_eq_false c27
              clear c27
              have H' := Aside0.mk H
              clear H
              go_wp2
              repeat (go_quiet (fail); try go_wp2)
              go_roundg kj23
              case measure => have := HJ17.out; have := HK2.out; have := HJ23.out; omega
              case rel => exact ⟨(IntKind.u64.wrap (x16_2 + ((ji9) / 4294967296))), (IntKind.u64.wrap (x18_2 - 1)), (by first | rfl | (simp; done) | (simp only [← hji9] <;> (first | rfl | simp)) | (simp [*]; done)), (by first | rfl | (simp; done) | (simp [*]; done)), H', ⟨by have := HJ17.out; have := HK2.out; have := HJ23.out; omega⟩, by repeat (first | exact Drawn0.refl _ | apply Drawn0.step)⟩
            ·replace c26 := Bool.eq_false_iff.mpr c26
             subst c26
             have H1 : (if 0 ≤ ji7 then (some (IntKind.u64.wrap ((IntKind.u64.wrap (x15_17 * 4294967296)) + x18_2), shr .u64 (IntKind.u64.wrap ((IntKind.u64.wrap ((IntKind.u64.wrap ((IntKind.u64.wrap ((IntKind.u64.wrap ((IntKind.u64.wrap ((Go.bits .or .u64 (ji11) (ji14)) * 4294967296)) + ((ji16) / 4294967296))) - (IntKind.u64.wrap (x15_17 * ji9)))) * 4294967296)) + (Go.bits .and .u64 (ji16) 4294967295))) - (IntKind.u64.wrap (x18_2 * ji9)))) ji7)) else (none)) = some (r1, r2) := by rw [if_neg (show ¬ (false = true) by decide)] at H; exact H
             clear H
             have H := H1
             clear H1
             by_cases c30 : 0 ≤ ji7
             ·rw [if_pos c30] at H
              have c30b0 := eq_true c30
              have c30b1 : decide (0 ≤ ji7) = true := decide_eq_true c30
              clear c30
              obtain ⟨ji31, hji31⟩ : ∃ j_ : Int, (shr .u64 (IntKind.u64.wrap ((IntKind.u64.wrap ((IntKind.u64.wrap ((IntKind.u64.wrap ((IntKind.u64.wrap ((IntKind.u64.wrap ((Go.bits .or .u64 (ji11) (ji14)) * 4294967296)) + ((ji16) / 4294967296))) - (IntKind.u64.wrap (x15_17 * ji9)))) * 4294967296)) + (Go.bits .and .u64 (ji16) 4294967295))) - (IntKind.u64.wrap (x18_2 * ji9)))) ji7) = j_ := ⟨_, rfl⟩
              replace H : (some (IntKind.u64.wrap ((IntKind.u64.wrap (x15_17 * 4294967296)) + x18_2), ji31)) = some (r1, r2) := by first | (rw [hji31] at H; exact H) | (simp only [hji31] at H ⊢; exact H)
              have hji31_ : ((IntKind.u64.wrap ((IntKind.u64.wrap ((IntKind.u64.wrap ((IntKind.u64.wrap ((IntKind.u64.wrap ((IntKind.u64.wrap ((Go.bits .or .u64 (ji11) (ji14)) * 4294967296)) + ((ji16) / 4294967296))) - (IntKind.u64.wrap (x15_17 * ji9)))) * 4294967296)) + (Go.bits .and .u64 (ji16) 4294967295))) - (IntKind.u64.wrap (x18_2 * ji9)))) / 2 ^ min ji7.toNat 64) = ji31 := hji31
              have hji31z : ji7 ≤ 64 → ((IntKind.u64.wrap ((IntKind.u64.wrap ((IntKind.u64.wrap ((IntKind.u64.wrap ((IntKind.u64.wrap ((IntKind.u64.wrap ((Go.bits .or .u64 (ji11) (ji14)) * 4294967296)) + ((ji16) / 4294967296))) - (IntKind.u64.wrap (x15_17 * ji9)))) * 4294967296)) + (Go.bits .and .u64 (ji16) 4294967295))) - (IntKind.u64.wrap (x18_2 * ji9)))) / 2 ^ ji7.toNat) = ji31 := shr_small hji31
              simp only [Option.some.injEq, Prod.mk.injEq] at H
              obtain ⟨rfl, rfl⟩ := H
              go_wp2
              repeat (go_quiet (fail); try go_wp2)
              go_ret2
              exact ⟨by first | rfl | (simp; done) | (simp only [← hji7, ← hji9, ← hji11, ← hji12, ← hji14, ← hji16, ← hji31] <;> (first | rfl | simp)) | (simp [*]; done), by repeat (first | exact Drawn0.refl _ | apply Drawn0.step)⟩
             ·rw [if_neg c30] at H
              exact absurd H (by simp)
   ·rw [if_neg c13] at H
    exact absurd H (by simp)
  ·rw [if_neg c8] at H
   exact absurd H (by simp)
def bits_Div64.f (k : Nat) (a0 a1 a2 : Int) : Option (Int × Int) := if a2 = 0 then none else if a2 ≤ a0 then none else bits_Div64_g.f k a0 a1 a2
theorem bits_Div64.calls (k : Nat) (a0 a1 a2 r1 r2 : Int) (w : World) (h : bits_Div64.f k a0 a1 a2 = some (r1, r2)) :
  Calls Tryd.prog 112 #[.int .u64 a0, .int .u64 a1, .int .u64 a2] w fun e w' => e = .returned (.tuple #[.int .u64 r1, .int .u64 r2]) ∧ Drawn0 w w' := by
 unfold bits_Div64.f at h
 by_cases h0 : a2 = 0
 ·rw [if_pos h0] at h; cases h
 ·rw [if_neg h0] at h
  by_cases h1 : a2 ≤ a0
  ·rw [if_pos h1] at h; cases h
  ·rw [if_neg h1] at h
   exact bits_Div64_g.calls k a0 a1 a2 r1 r2 w (beq_eq_false_iff_ne.mpr h0) (decide_eq_false h1) h
def bits_Mul64.f (a0 : Int) (a1 : Int) : Option (Int × Int) := some (IntKind.u64.wrap ((IntKind.u64.wrap ((IntKind.u64.wrap ((a0 / 4294967296) * (a1 / 4294967296))) + ((IntKind.u64.wrap ((IntKind.u64.wrap ((a0 / 4294967296) * (Go.bits .and .u64 a1 4294967295))) + ((IntKind.u64.wrap ((Go.bits .and .u64 a0 4294967295) * (Go.bits .and .u64 a1 4294967295))) / 4294967296))) / 4294967296))) + ((IntKind.u64.wrap ((Go.bits .and .u64 (IntKind.u64.wrap ((IntKind.u64.wrap ((a0 / 4294967296) * (Go.bits .and .u64 a1 4294967295))) + ((IntKind.u64.wrap ((Go.bits .and .u64 a0 4294967295) * (Go.bits .and .u64 a1 4294967295))) / 4294967296))) 4294967295) + (IntKind.u64.wrap ((Go.bits .and .u64 a0 4294967295) * (a1 / 4294967296))))) / 4294967296)), IntKind.u64.wrap (a0 * a1))
set_option maxHeartbeats 8000000 in
set_option maxRecDepth 100000 in
theorem bits_Mul64.calls (a0 : Int) (a1 : Int) (r1 : Int) (r2 : Int) (w : World) (h : bits_Mul64.f a0 a1 = some (r1, r2)) :
  Calls Tryd.prog 114 #[.int .u64 a0, .int .u64 a1] w fun e w' => e = .returned (.tuple #[.int .u64 r1, .int .u64 r2]) ∧ Drawn0 w w' := by
 have H : (some (IntKind.u64.wrap ((IntKind.u64.wrap ((IntKind.u64.wrap ((a0 / 4294967296) * (a1 / 4294967296))) + ((IntKind.u64.wrap ((IntKind.u64.wrap ((a0 / 4294967296) * (Go.bits .and .u64 a1 4294967295))) + ((IntKind.u64.wrap ((Go.bits .and .u64 a0 4294967295) * (Go.bits .and .u64 a1 4294967295))) / 4294967296))) / 4294967296))) + ((IntKind.u64.wrap ((Go.bits .and .u64 (IntKind.u64.wrap ((IntKind.u64.wrap ((a0 / 4294967296) * (Go.bits .and .u64 a1 4294967295))) + ((IntKind.u64.wrap ((Go.bits .and .u64 a0 4294967295) * (Go.bits .and .u64 a1 4294967295))) / 4294967296))) 4294967295) + (IntKind.u64.wrap ((Go.bits .and .u64 a0 4294967295) * (a1 / 4294967296))))) / 4294967296)), IntKind.u64.wrap (a0 * a1))) = some (r1, r2) := h
 clear h
 simp only [Option.some.injEq, Prod.mk.injEq] at H
 obtain ⟨rfl, rfl⟩ := H
 go_enter Tryd.func114, Tryd.ntmps114
 go_wp2
 go_ret2
 exact ⟨by first | rfl | (simp; done) | (simp [*]; done), by repeat (first | exact Drawn0.refl _ | apply Drawn0.step)⟩
end Go.Proofs.YtdjnneflpkllmaaDoor.Q

namespace Go.Proofs.Num
open Go.RowKit Go.Proofs.YtdjnneflpkllmaaDoorW.PrintWords Go.Proofs.YtdjnneflpkllmaaDoorW.PrintMore Go.Proofs.YtdjnneflpkllmaaDoor.Q
set_option linter.unusedVariables false
set_option linter.unusedSimpArgs false
theorem uw (n : Int) : IntKind.u64.wrap n = n % 18446744073709551616 := by simp [IntKind.wrap, IntKind.bits, IntKind.signed]
theorem uw_in {x : Int} (h0 : 0 ≤ x) (h1 : x ≤ 18446744073709551615) : IntKind.u64.wrap x = x := by rw [uw]; omega
theorem and32 {x : Int} (h0 : 0 ≤ x) (h1 : x < 18446744073709551616) : Go.bits .and .u64 x 4294967295 = x % 4294967296 := by
  obtain ⟨a, rfl⟩ := Int.eq_ofNat_of_zero_le h0
  have h := Go.bits_and_u64_nat a 4294967295 (by omega) (by omega)
  have e : a &&& 4294967295 = a % 4294967296 := Nat.and_two_pow_sub_one_eq_mod a 32
  rw [e] at h
  exact h.trans (by omega)
theorem mul64_ok {x y : Int} (x0 : 0 ≤ x) (x1 : x < 18446744073709551616) (y0 : 0 ≤ y) (y1 : y < 18446744073709551616) :
    bits_Mul64.f x y = some (x * y / 18446744073709551616, x * y % 18446744073709551616) := by
  obtain ⟨a, rfl⟩ := Int.eq_ofNat_of_zero_le x0
  obtain ⟨b, rfl⟩ := Int.eq_ofNat_of_zero_le y0
  obtain ⟨h1, h2, h3, h4⟩ := Go.Lib.mul64_hi a b (by omega) (by omega)
  have g1 := Go.Lib.half_mul_le (a := a / 4294967296) (b := b / 4294967296) (by omega) (by omega)
  have g2 := Go.Lib.half_mul_le (a := a / 4294967296) (b := b % 4294967296) (by omega) (by omega)
  have g3 := Go.Lib.half_mul_le (a := a % 4294967296) (b := b / 4294967296) (by omega) (by omega)
  have hm : a * b < 18446744073709551616 * 18446744073709551616 := Nat.mul_lt_mul_of_lt_of_le (by omega) (by omega) (by omega)
  have k1 : (a : Int) / 4294967296 * ((b : Int) / 4294967296) = ((a / 4294967296 * (b / 4294967296) : Nat) : Int) := by simp
  have k2 : (a : Int) / 4294967296 * ((b : Int) % 4294967296) = ((a / 4294967296 * (b % 4294967296) : Nat) : Int) := by simp
  have k3 : (a : Int) % 4294967296 * ((b : Int) / 4294967296) = ((a % 4294967296 * (b / 4294967296) : Nat) : Int) := by simp
  have k4 : (a : Int) % 4294967296 * ((b : Int) % 4294967296) = ((a % 4294967296 * (b % 4294967296) : Nat) : Int) := by simp
  have k5 : (a : Int) * (b : Int) = ((a * b : Nat) : Int) := by simp
  unfold bits_Mul64.f
  rw [and32 x0 x1, and32 y0 y1, k1, k2, k3, k4, k5]
  generalize a / 4294967296 * (b / 4294967296) = A at *
  generalize a / 4294967296 * (b % 4294967296) = B at *
  generalize a % 4294967296 * (b / 4294967296) = C at *
  generalize a % 4294967296 * (b % 4294967296) = D at *
  generalize a * b = M at *
  rw [uw_in (x := (A : Int)) (by omega) (by omega), uw_in (x := (B : Int)) (by omega) (by omega), uw_in (x := (C : Int)) (by omega) (by omega), uw_in (x := (D : Int)) (by omega) (by omega)]
  rw [uw_in (x := (B : Int) + (D : Int) / 4294967296) (by omega) (by omega), and32 (by omega) (by omega)]
  rw [uw_in (x := ((B : Int) + (D : Int) / 4294967296) % 4294967296 + (C : Int)) (by omega) (by omega)]
  rw [uw_in (x := (A : Int) + ((B : Int) + (D : Int) / 4294967296) / 4294967296) (by omega) (by omega), uw, uw]
  congr 2
  omega
structure Guess (y1 y0 U u q r : Int) : Prop where
  cut : U = q * y1 + r
  up : U * 4294967296 + u < (q + 1) * (y1 * 4294967296 + y0)
  r0 : 0 ≤ r
theorem guess_start {y1 y0 U u : Int} (h1 : 0 < y1) (h0 : 0 ≤ y0) (hU : 0 ≤ U) (hu : u < 4294967296) : Guess y1 y0 U u (U / y1) (U % y1) := by
  have e := Int.mul_ediv_add_emod U y1
  have r0 := Int.emod_nonneg U (show y1 ≠ 0 by omega)
  have r1 := Int.emod_lt_of_pos U h1
  have q0 : 0 ≤ U / y1 := Int.ediv_nonneg hU (by omega)
  generalize U / y1 = q at *
  generalize U % y1 = r at *
  have m : y1 * q = q * y1 := Int.mul_comm _ _
  refine ⟨by omega, ?_, r0⟩
  have e1 : (q + 1) * (y1 * 4294967296 + y0) = (q * y1 + y1) * 4294967296 + (q + 1) * y0 := by grind
  have e2 : 0 ≤ (q + 1) * y0 := Int.mul_nonneg (by omega) h0
  omega
theorem guess_step {y1 y0 U u q r : Int} (G : Guess y1 y0 U u q r) (h1 : 0 < y1) (h0 : 0 ≤ y0) (hU : U < y1 * 4294967296 + y0) (hu : u < 4294967296) (h : 4294967296 ≤ q ∨ 4294967296 * r + u < q * y0) : Guess y1 y0 U u (q - 1) (r + y1) := by
  obtain ⟨c, up, r0⟩ := G
  refine ⟨by rw [c]; grind, ?_, by omega⟩
  have e : (q - 1 + 1) * (y1 * 4294967296 + y0) = q * y1 * 4294967296 + q * y0 := by grind
  rw [e]
  rcases h with h | h
  · have m := Int.mul_le_mul_of_nonneg_right h (show 0 ≤ y1 * 4294967296 + y0 by omega)
    have e2 : q * (y1 * 4294967296 + y0) = q * y1 * 4294967296 + q * y0 := by grind
    omega
  · omega
theorem guess_end {y1 y0 U u q r : Int} (G : Guess y1 y0 U u q r) (h : q * y0 ≤ 4294967296 * r + u) : q * (y1 * 4294967296 + y0) ≤ U * 4294967296 + u := by
  have e : q * (y1 * 4294967296 + y0) = q * y1 * 4294967296 + q * y0 := by grind
  have := G.cut
  omega
theorem guess_far {y1 y0 U u q r : Int} (G : Guess y1 y0 U u q r) (hq : q ≤ 4294967296) (h0 : 0 ≤ y0) (hy : y0 < 4294967296) (hu : 0 ≤ u) (hr : 4294967296 ≤ r) : q * y0 ≤ 4294967296 * r + u := by
  have m := Int.mul_le_mul_of_nonneg_right hq h0
  omega
theorem div_of {N y q : Int} (hy : 0 < y) (h1 : q * y ≤ N) (h2 : N < (q + 1) * y) : q = N / y ∧ N - q * y = N % y := by
  have e := Int.mul_ediv_add_emod N y
  have r0 := Int.emod_nonneg N (show y ≠ 0 by omega)
  have r1 := Int.emod_lt_of_pos N hy
  have a : q < N / y + 1 := by
    refine Int.lt_of_mul_lt_mul_right (a := y) ?_ (by omega)
    have : (N / y + 1) * y = y * (N / y) + y := by grind
    omega
  have b : N / y < q + 1 := by
    refine Int.lt_of_mul_lt_mul_right (a := y) ?_ (by omega)
    have : N / y * y = y * (N / y) := Int.mul_comm _ _
    omega
  have c : q = N / y := by omega
  subst c
  have : N / y * y = y * (N / y) := Int.mul_comm _ _
  exact ⟨rfl, by omega⟩
theorem guess_loop {α : Type} {y1 y0 U u : Int} {R : α} (h1 : 2147483648 ≤ y1) (h1' : y1 < 4294967296) (h0 : 0 ≤ y0) (h0' : y0 < 4294967296) (hU : 0 ≤ U) (hU' : U < y1 * 4294967296 + y0) (hu : 0 ≤ u) (hu' : u < 4294967296)
    (L E : Nat → Int → Int → Option α) (J : Nat → Int → Int → Bool → Option α)
    (hL : ∀ k q r, L (k + 1) q r = if q ≥ 4294967296 then J k q r true else J k q r (decide (IntKind.u64.wrap (q * y0) > IntKind.u64.wrap (IntKind.u64.wrap (4294967296 * r) + u))))
    (hJ : ∀ k q r b, J (k + 1) q r b = if b = true then (if IntKind.u64.wrap (r + y1) ≥ 4294967296 then E k (IntKind.u64.wrap (q - 1)) (IntKind.u64.wrap (r + y1)) else L k (IntKind.u64.wrap (q - 1)) (IntKind.u64.wrap (r + y1))) else E k q r)
    (hE : ∀ r, Ev (fun k => E k ((U * 4294967296 + u) / (y1 * 4294967296 + y0)) r) R) :
    ∀ (n : Nat) (q r : Int), q.toNat = n → Guess y1 y0 U u q r → q ≤ 4294967297 → r < 4294967296 → Ev (fun k => L k q r) R := by
  intro n
  induction n using Nat.strongRecOn with
  | ind n ih =>
    intro q r hn G hq hr
    have hy : 0 < y1 * 4294967296 + y0 := by omega
    have q0 : 0 ≤ q := by
      rcases Int.lt_or_le q 0 with c | c
      · exfalso
        have m := Int.mul_le_mul_of_nonneg_right (show q + 1 ≤ 0 by omega) (show 0 ≤ y1 * 4294967296 + y0 by omega)
        have := G.up
        omega
      · exact c
    have r0 := G.r0
    have ex : ∀ q r, Guess y1 y0 U u q r → q * y0 ≤ 4294967296 * r + u → Ev (fun k => E k q r) R := fun q r G h => by
      have e := (div_of hy (guess_end G h) G.up).1
      rw [e]
      exact hE r
    have dn : (4294967296 ≤ q ∨ 4294967296 * r + u < q * y0) → 0 < q → Ev (fun k => J k q r true) R := fun h hp => by
      have G2 := guess_step G (by omega) h0 hU' hu' h
      by_cases c : r + y1 ≥ 4294967296
      · refine Ev.step (f := fun k => E k (q - 1) (r + y1)) (fun k => ?_) (ex _ _ G2 (guess_far G2 (by omega) h0 h0' hu c))
        rw [hJ, if_pos rfl, uw_in (x := r + y1) (by omega) (by omega), uw_in (x := q - 1) (by omega) (by omega), if_pos c]
      · refine Ev.step (f := fun k => L k (q - 1) (r + y1)) (fun k => ?_) (ih (q - 1).toNat (by omega) (q - 1) (r + y1) rfl G2 (by omega) (by omega))
        rw [hJ, if_pos rfl, uw_in (x := r + y1) (by omega) (by omega), uw_in (x := q - 1) (by omega) (by omega), if_neg c]
    by_cases c : q ≥ 4294967296
    · refine Ev.step (f := fun k => J k q r true) (fun k => ?_) (dn (Or.inl c) (by omega))
      rw [hL, if_pos c]
    · have m := Int.mul_nonneg q0 h0
      have m2 : q * y0 ≤ 4294967295 * 4294967295 := Int.mul_le_mul (by omega) (by omega) h0 (by omega)
      have st : ∀ k, L (k + 1) q r = J k q r (decide (q * y0 > 4294967296 * r + u)) := fun k => by
        rw [hL, if_neg c, uw_in (x := q * y0) m (by omega), uw_in (x := 4294967296 * r) (by omega) (by omega), uw_in (x := 4294967296 * r + u) (by omega) (by omega)]
      by_cases d : q * y0 > 4294967296 * r + u
      · have hp : 0 < q := by
          rcases Int.lt_or_eq_of_le q0 with c | c
          · exact c
          · subst c; omega
        refine Ev.step (f := fun k => J k q r true) (fun k => ?_) (dn (Or.inr (by omega)) hp)
        rw [st, decide_eq_true d]
      · refine Ev.step (f := fun k => J k q r false) (fun k => by rw [st, decide_eq_false d]) ?_
        refine Ev.step (f := fun k => E k q r) (fun k => by rw [hJ]; simp) (ex _ _ G (by omega))
def lenTab : ByteArray := ⟨#[0, 1, 2, 2, 3, 3, 3, 3, 4, 4, 4, 4, 4, 4, 4, 4, 5, 5, 5, 5, 5, 5, 5, 5, 5, 5, 5, 5, 5, 5, 5, 5, 6, 6, 6, 6, 6, 6, 6, 6, 6, 6, 6, 6, 6, 6, 6, 6, 6, 6, 6, 6, 6, 6, 6, 6, 6, 6, 6, 6, 6, 6, 6, 6, 7, 7, 7, 7, 7, 7, 7, 7, 7, 7, 7, 7, 7, 7, 7, 7, 7, 7, 7, 7, 7, 7, 7, 7, 7, 7, 7, 7, 7, 7, 7, 7, 7, 7, 7, 7, 7, 7, 7, 7, 7, 7, 7, 7, 7, 7, 7, 7, 7, 7, 7, 7, 7, 7, 7, 7, 7, 7, 7, 7, 7, 7, 7, 7, 8, 8, 8, 8, 8, 8, 8, 8, 8, 8, 8, 8, 8, 8, 8, 8, 8, 8, 8, 8, 8, 8, 8, 8, 8, 8, 8, 8, 8, 8, 8, 8, 8, 8, 8, 8, 8, 8, 8, 8, 8, 8, 8, 8, 8, 8, 8, 8, 8, 8, 8, 8, 8, 8, 8, 8, 8, 8, 8, 8, 8, 8, 8, 8, 8, 8, 8, 8, 8, 8, 8, 8, 8, 8, 8, 8, 8, 8, 8, 8, 8, 8, 8, 8, 8, 8, 8, 8, 8, 8, 8, 8, 8, 8, 8, 8, 8, 8, 8, 8, 8, 8, 8, 8, 8, 8, 8, 8, 8, 8, 8, 8, 8, 8, 8, 8, 8, 8, 8, 8, 8, 8, 8, 8, 8, 8, 8, 8]⟩
def IsLen (x : Int) (r : Nat) : Prop := x < 2 ^ r ∧ (0 < x → 1 ≤ r ∧ 2 ^ (r - 1) ≤ x)
instance (x : Int) (r : Nat) : Decidable (IsLen x r) := inferInstanceAs (Decidable (_ ∧ _))
theorem lenTab_all : ∀ n : Fin 256, (bt lenTab ((n.val : Nat) : Int)).toNat ≤ 8 ∧ ((bt lenTab ((n.val : Nat) : Int)).toNat : Int) = bt lenTab ((n.val : Nat) : Int) ∧ IsLen ((n.val : Nat) : Int) (bt lenTab ((n.val : Nat) : Int)).toNat := by decide +kernel
theorem lenTab_ok {x : Int} (h0 : 0 ≤ x) (h1 : x < 256) : ∃ r : Nat, bt lenTab x = r ∧ r ≤ 8 ∧ IsLen x r := by
  have h := lenTab_all ⟨x.toNat, by omega⟩
  have e : (((⟨x.toNat, by omega⟩ : Fin 256).val : Nat) : Int) = x := by show ((x.toNat : Nat) : Int) = x; omega
  rw [e] at h
  exact ⟨_, h.2.1.symm, h.1, h.2.2⟩
theorem isLen_up {x : Int} {r : Nat} (c : Nat) (x0 : 0 ≤ x) (h : IsLen (x / 2 ^ c) r) (hp : 0 < x / 2 ^ c) : IsLen x (c + r) := by
  obtain ⟨h1, h2⟩ := h
  obtain ⟨h3, h4⟩ := h2 hp
  have C : (0 : Int) < 2 ^ c := Int.pow_pos (by omega)
  have e := Int.mul_ediv_add_emod x (2 ^ c)
  have e1 := Int.emod_nonneg x (show (2 : Int) ^ c ≠ 0 by omega)
  have e2 := Int.emod_lt_of_pos x C
  refine ⟨?_, fun _ => ⟨by omega, ?_⟩⟩
  · rw [Int.pow_add]
    have := Int.mul_le_mul_of_nonneg_left (show x / 2 ^ c + 1 ≤ 2 ^ r by omega) (show (0 : Int) ≤ 2 ^ c by omega)
    rw [Int.mul_add] at this
    omega
  · rw [show c + r - 1 = c + (r - 1) by omega, Int.pow_add]
    have := Int.mul_le_mul_of_nonneg_left h4 (show (0 : Int) ≤ 2 ^ c by omega)
    omega
set_option maxRecDepth 100000 in
theorem len_j0 {x : Int} (x0 : 0 ≤ x) (x1 : x < 4294967296) (n : Int) (n0 : 0 ≤ n) (n1 : n ≤ 32) : ∃ r : Nat, r ≤ 32 ∧ IsLen x r ∧ ∀ k, bits_Len64.j0 (k + 1) x n = some (n + r) := by
  by_cases a : x ≥ 65536
  · by_cases b : x / 65536 ≥ 256
    · obtain ⟨r, e, h8, h⟩ := lenTab_ok (x := x / 65536 / 256 % 256) (by omega) (by omega)
      refine ⟨24 + r, by omega, isLen_up 24 x0 ?_ ?_, fun k => ?_⟩
      · rw [show x / 2 ^ 24 = x / 65536 / 256 % 256 by omega]; exact h
      · omega
      · rw [bits_Len64.j0, if_pos a, if_pos b, if_pos (by omega), if_pos (by omega)]
        show some (wrap64 (wrap64 (wrap64 (n + 16) + 8) + wrap64 (bt lenTab (x / 65536 / 256 % 256)))) = _
        rw [e]
        unfold wrap64
        congr 1; omega
    · obtain ⟨r, e, h8, h⟩ := lenTab_ok (x := x / 65536 % 256) (by omega) (by omega)
      refine ⟨16 + r, by omega, isLen_up 16 x0 ?_ ?_, fun k => ?_⟩
      · rw [show x / 2 ^ 16 = x / 65536 % 256 by omega]; exact h
      · omega
      · rw [bits_Len64.j0, if_pos a, if_neg b, if_pos (by omega), if_pos (by omega)]
        show some (wrap64 (wrap64 (n + 16) + wrap64 (bt lenTab (x / 65536 % 256)))) = _
        rw [e]
        unfold wrap64
        congr 1; omega
  · by_cases b : x ≥ 256
    · obtain ⟨r, e, h8, h⟩ := lenTab_ok (x := x / 256 % 256) (by omega) (by omega)
      refine ⟨8 + r, by omega, isLen_up 8 x0 ?_ ?_, fun k => ?_⟩
      · rw [show x / 2 ^ 8 = x / 256 % 256 by omega]; exact h
      · omega
      · rw [bits_Len64.j0, if_neg a, if_pos b, if_pos (by omega), if_pos (by omega)]
        show some (wrap64 (wrap64 (n + 8) + wrap64 (bt lenTab (x / 256 % 256)))) = _
        rw [e]
        unfold wrap64
        congr 1; omega
    · obtain ⟨r, e, h8, h⟩ := lenTab_ok (x := x % 256) (by omega) (by omega)
      refine ⟨r, by omega, ?_, fun k => ?_⟩
      · rw [show x % 256 = x by omega] at h; exact h
      · rw [bits_Len64.j0, if_neg a, if_neg b, if_pos (by omega), if_pos (by omega)]
        show some (wrap64 (n + wrap64 (bt lenTab (x % 256)))) = _
        rw [e]
        unfold wrap64
        congr 1; omega
theorem len64_ok {x : Int} (x0 : 0 ≤ x) (x1 : x < 18446744073709551616) : ∃ r : Nat, r ≤ 64 ∧ IsLen x r ∧ Ev (fun k => bits_Len64.f k x) (r : Int) := by
  by_cases a : x ≥ 4294967296
  · obtain ⟨r, h1, h2, h3⟩ := len_j0 (x := x / 4294967296) (by omega) (by omega) 32 (by omega) (by omega)
    refine ⟨32 + r, by omega, isLen_up 32 x0 ?_ ?_, ?_⟩
    · rw [show x / 2 ^ 32 = x / 4294967296 by omega]; exact h2
    · omega
    · unfold bits_Len64.f
      simp only [if_pos a]
      exact Ev.step (f := fun _ => some ((32 + r : Nat) : Int)) (fun k => by rw [h3]; rfl) (Ev.now _)
  · obtain ⟨r, h1, h2, h3⟩ := len_j0 (x := x) (by omega) (by omega) 0 (by omega) (by omega)
    refine ⟨r, by omega, h2, ?_⟩
    unfold bits_Len64.f
    simp only [if_neg a]
    exact Ev.step (f := fun _ => some ((r : Nat) : Int)) (fun k => by rw [h3, Int.zero_add]) (Ev.now _)
theorem zeros_ok {y : Int} (y0 : 0 < y) (y1 : y < 18446744073709551616) : ∃ s : Nat, s ≤ 63 ∧ Ev (fun k => bits_LeadingZeros64.f k y) (s : Int) ∧ 9223372036854775808 ≤ y * 2 ^ s ∧ y * 2 ^ s < 18446744073709551616 := by
  obtain ⟨r, h1, ⟨h2, h3⟩, E⟩ := len64_ok (x := y) (by omega) y1
  obtain ⟨h4, h5⟩ := h3 y0
  refine ⟨64 - r, by omega, ?_, ?_, ?_⟩
  · unfold bits_LeadingZeros64.f
    refine Ev.bind E ?_
    simp only [show wrap64 (64 - (r : Int)) = ((64 - r : Nat) : Int) by unfold wrap64; omega]
    exact Ev.now _
  · have := Int.mul_le_mul_of_nonneg_right h5 (show (0 : Int) ≤ 2 ^ (64 - r) by exact Int.le_of_lt (Int.pow_pos (by omega)))
    rw [← Int.pow_add, show r - 1 + (64 - r) = 63 by omega] at this
    exact this
  · have := Int.mul_lt_mul_of_pos_right h2 (show (0 : Int) < 2 ^ (64 - r) by exact Int.pow_pos (by omega))
    rw [← Int.pow_add, show r + (64 - r) = 64 by omega] at this
    exact this
theorem or_words {a b : Int} {s : Nat} (a0 : 0 ≤ a) (b0 : 0 ≤ b) (hb : b < 2 ^ s) (h : a * 2 ^ s + b < 18446744073709551616) : Go.bits .or .u64 (a * 2 ^ s) b = a * 2 ^ s + b := by
  obtain ⟨x, rfl⟩ := Int.eq_ofNat_of_zero_le a0
  obtain ⟨y, rfl⟩ := Int.eq_ofNat_of_zero_le b0
  have hy : y < 2 ^ s := by exact_mod_cast hb
  have e : (x : Int) * 2 ^ s = ((x * 2 ^ s : Nat) : Int) := by simp
  rw [e] at h ⊢
  rw [Go.bits_or_u64_nat _ _ (by omega) (by omega)]
  have := Nat.shiftLeft_add_eq_or_of_lt hy x
  rw [Nat.shiftLeft_eq] at this
  rw [← this]
  omega
theorem div64_ok {hi lo y : Int} (h0 : 0 ≤ hi) (hy : hi < y) (y1 : y < 18446744073709551616) (l0 : 0 ≤ lo) (l1 : lo < 18446744073709551616) :
    Ev (fun k => bits_Div64.f k hi lo y) ((hi * 18446744073709551616 + lo) / y, (hi * 18446744073709551616 + lo) % y) := by
  unfold bits_Div64.f
  simp only [if_neg (show ¬ y = 0 by omega), if_neg (show ¬ y ≤ hi by omega)]
  unfold bits_Div64_g.f
  by_cases hz : hi = 0
  · subst hz
    have q0 : 0 ≤ lo / y := Int.ediv_nonneg l0 (by omega)
    have q1 : lo / y ≤ lo := Int.ediv_le_self _ l0
    simp only [if_true, if_neg (show ¬ y = 0 by omega), Int.tdiv_eq_ediv_of_nonneg l0, Int.tmod_eq_emod_of_nonneg l0, uw_in (x := lo / y) q0 (by omega), Int.zero_mul, Int.zero_add]
    exact Ev.now _
  simp only [if_neg hz]
  obtain ⟨s, hs, Es, Y0, Y1⟩ := zeros_ok (y := y) (by omega) y1
  refine Ev.bind Es ?_
  have S0 : (0 : Int) < 2 ^ s := Int.pow_pos (by omega)
  have D0 : (0 : Int) < 2 ^ (64 - s) := Int.pow_pos (by omega)
  have SD : (2 : Int) ^ s * 2 ^ (64 - s) = 18446744073709551616 := by rw [← Int.pow_add, show s + (64 - s) = 64 by omega]; rfl
  have ws : IntKind.u64.wrap (s : Int) = (s : Int) := uw_in (by omega) (by omega)
  have ws2 : IntKind.u64.wrap (64 - (s : Int)) = ((64 - s : Nat) : Int) := by rw [uw]; omega
  have bb : IntKind.u64.bits = 64 := rfl
  have sh : ∀ x : Int, shl .u64 x (s : Int) = IntKind.u64.wrap (x * 2 ^ s) := fun x => by unfold shl; rw [bb, Int.toNat_natCast, Nat.min_eq_left (by omega)]
  have sr : ∀ x : Int, shr .u64 x (s : Int) = x / 2 ^ s := fun x => by unfold shr; rw [bb, Int.toNat_natCast, Nat.min_eq_left (by omega)]
  have sr2 : ∀ x : Int, shr .u64 x ((64 - s : Nat) : Int) = x / 2 ^ (64 - s) := fun x => by unfold shr; rw [bb, Int.toNat_natCast, Nat.min_eq_left (by omega)]
  have m1 : hi * 2 ^ s < y * 2 ^ s := Int.mul_lt_mul_of_pos_right hy S0
  have m0 : 0 ≤ hi * 2 ^ s := Int.mul_nonneg h0 (by omega)
  have m2 : (hi + 1) * 2 ^ s ≤ y * 2 ^ s := Int.mul_le_mul_of_nonneg_right (by omega) (by omega)
  rw [Int.add_mul] at m2
  -- what the low word gives
  have L0 := Int.mul_ediv_add_emod lo (2 ^ (64 - s))
  have L1 := Int.emod_nonneg lo (show (2 : Int) ^ (64 - s) ≠ 0 by omega)
  have L2 := Int.emod_lt_of_pos lo D0
  have L3 : 0 ≤ lo / 2 ^ (64 - s) := Int.ediv_nonneg l0 (by omega)
  have L4 : lo / 2 ^ (64 - s) < 2 ^ s := by
    refine Int.ediv_lt_of_lt_mul D0 ?_
    rw [SD]; exact l1
  have V0 : 0 ≤ lo % 2 ^ (64 - s) * 2 ^ s := Int.mul_nonneg L1 (by omega)
  have V1 : lo % 2 ^ (64 - s) * 2 ^ s < 18446744073709551616 := by
    have := Int.mul_lt_mul_of_pos_right L2 S0
    rw [Int.mul_comm (2 ^ (64 - s)) (2 ^ s), SD] at this
    exact this
  have lS : lo * 2 ^ s = lo / 2 ^ (64 - s) * 18446744073709551616 + lo % 2 ^ (64 - s) * 2 ^ s := by
    conv => lhs; rw [← L0]
    rw [← SD]; grind
  have orr : Go.bits .or .u64 (IntKind.u64.wrap (hi * 2 ^ s)) (lo / 2 ^ (64 - s)) = hi * 2 ^ s + lo / 2 ^ (64 - s) := by
    rw [uw_in (x := hi * 2 ^ s) m0 (by omega)]
    exact or_words h0 L3 L4 (by omega)
  have wl : IntKind.u64.wrap (lo * 2 ^ s) = lo % 2 ^ (64 - s) * 2 ^ s := by rw [uw, lS]; omega
  have wy : IntKind.u64.wrap (y * 2 ^ s) = y * 2 ^ s := uw_in (by omega) (by omega)
  simp only [ws, ws2, sh, sr, sr2, orr, wl, wy, and32 (x := y * 2 ^ s) (by omega) (by omega), and32 V0 V1, if_pos (show 0 ≤ (s : Int) by omega), if_pos (show 0 ≤ ((64 - s : Nat) : Int) by omega), if_neg (show ¬ y * 2 ^ s / 4294967296 = 0 by omega)]
  obtain ⟨N, hN⟩ : ∃ N : Int, N = hi * 18446744073709551616 + lo := ⟨_, rfl⟩
  have NS : N * 2 ^ s = (hi * 2 ^ s + lo / 2 ^ (64 - s)) * 18446744073709551616 + lo % 2 ^ (64 - s) * 2 ^ s := by
    rw [hN, Int.add_mul, lS]; grind
  rw [← hN]
  have U1 : hi * 2 ^ s + lo / 2 ^ (64 - s) < y * 2 ^ s := by omega
  have U0 : 0 ≤ hi * 2 ^ s + lo / 2 ^ (64 - s) := by omega
  have Yy : y * 2 ^ s / 4294967296 * 4294967296 + y * 2 ^ s % 4294967296 = y * 2 ^ s := by omega
  clear L0 L1 L2 L3 L4 m0 m1 m2 lS orr wl wy hN Es sh sr sr2
  have sr : ∀ x : Int, shr .u64 x (s : Int) = x / 2 ^ s := fun x => by unfold shr; rw [bb, Int.toNat_natCast, Nat.min_eq_left (by omega)]
  generalize hU : hi * 2 ^ s + lo / 2 ^ (64 - s) = U at *
  generalize hV : lo % 2 ^ (64 - s) * 2 ^ s = V at *
  generalize hY : y * 2 ^ s = Y at *
  have R1 := div_of (N := U * 4294967296 + V / 4294967296) (y := Y) (q := (U * 4294967296 + V / 4294967296) / Y) (by omega)
  obtain ⟨A, hA⟩ : ∃ A : Int, A = U * 4294967296 + V / 4294967296 := ⟨_, rfl⟩
  have a1 := Int.mul_ediv_add_emod A Y
  have a2 := Int.emod_nonneg A (show Y ≠ 0 by omega)
  have a3 := Int.emod_lt_of_pos A (show 0 < Y by omega)
  have a4 : 0 ≤ A / Y := Int.ediv_nonneg (by omega) (by omega)
  have a5 : A / Y < 4294967296 := Int.ediv_lt_of_lt_mul (by omega) (by omega)
  obtain ⟨C, hC⟩ : ∃ C : Int, C = A % Y * 4294967296 + V % 4294967296 := ⟨_, rfl⟩
  have c1 := Int.mul_ediv_add_emod C Y
  have c2 := Int.emod_nonneg C (show Y ≠ 0 by omega)
  have c3 := Int.emod_lt_of_pos C (show 0 < Y by omega)
  have c4 : 0 ≤ C / Y := Int.ediv_nonneg (by omega) (by omega)
  have c5 : C / Y < 4294967296 := Int.ediv_lt_of_lt_mul (by omega) (by omega)
  -- the result
  have key : N * 2 ^ s = (A / Y * 4294967296 + C / Y) * y * 2 ^ s + C % Y := by
    have e : (A / Y * 4294967296 + C / Y) * y * 2 ^ s = A / Y * 4294967296 * Y + C / Y * Y := by rw [← hY]; grind
    have e2 : A / Y * 4294967296 * Y = Y * (A / Y) * 4294967296 := by grind
    have e3 : C / Y * Y = Y * (C / Y) := Int.mul_comm _ _
    rw [NS, e, e2, e3]
    omega
  obtain ⟨T, hT⟩ : ∃ T : Int, T = N - (A / Y * 4294967296 + C / Y) * y := ⟨_, rfl⟩
  have TS : T * 2 ^ s = C % Y := by rw [hT, Int.sub_mul]; omega
  have T0 : 0 ≤ T := by
    refine Int.le_of_mul_le_mul_right (a := 2 ^ s) ?_ S0
    omega
  have T1 : T < y := by
    refine Int.lt_of_mul_lt_mul_right (a := 2 ^ s) ?_ (by omega)
    omega
  have res := div_of (N := N) (y := y) (q := A / Y * 4294967296 + C / Y) (by omega) (by omega) (by rw [Int.add_mul, Int.one_mul]; omega)
  have CT : C % Y / 2 ^ s = T := by rw [← TS]; exact Int.mul_ediv_cancel _ (by omega)
  rw [← res.1, ← res.2, ← hT, ← CT]
  have q0 : 0 ≤ U / (Y / 4294967296) := Int.ediv_nonneg U0 (by omega)
  have qm := Int.mul_ediv_add_emod U (Y / 4294967296)
  have qr := Int.emod_nonneg U (show Y / 4294967296 ≠ 0 by omega)
  have qr2 := Int.emod_lt_of_pos U (show 0 < Y / 4294967296 by omega)
  have small : ∀ W : Int, 0 ≤ W → W < Y → W / (Y / 4294967296) ≤ 4294967297 := fun W w0 w1 => by
    have : W / (Y / 4294967296) < 4294967298 := by
      refine Int.ediv_lt_of_lt_mul (by omega) ?_
      omega
    omega
  have q1 := small U U0 U1
  have wq : IntKind.u64.wrap (Int.tdiv U (Y / 4294967296)) = U / (Y / 4294967296) := by
    rw [Int.tdiv_eq_ediv_of_nonneg U0]; exact uw_in q0 (by omega)
  have wr : IntKind.u64.wrap (U - IntKind.u64.wrap (U / (Y / 4294967296) * (Y / 4294967296))) = U % (Y / 4294967296) := by
    have : U / (Y / 4294967296) * (Y / 4294967296) = Y / 4294967296 * (U / (Y / 4294967296)) := Int.mul_comm _ _
    have m0 : 0 ≤ Y / 4294967296 * (U / (Y / 4294967296)) := Int.mul_nonneg (by omega) q0
    rw [this, uw, uw]; omega
  simp only [wq, wr]
  have G := guess_start (y1 := Y / 4294967296) (y0 := Y % 4294967296) (U := U) (u := V / 4294967296) (by omega) (by omega) U0 (by omega)
  refine guess_loop (y1 := Y / 4294967296) (y0 := Y % 4294967296) (U := U) (u := V / 4294967296) (by omega) (by omega) (by omega) (by omega) U0 (by omega) (by omega) (by omega)
    (fun k q r => bits_Div64_g.l0 k Y s (Y / 4294967296) (Y % 4294967296) U (V / 4294967296) (V % 4294967296) q r)
    (fun k q _ => bits_Div64_g.j2 k Y s (Y / 4294967296) (Y % 4294967296) U (V / 4294967296) (V % 4294967296) q)
    (fun k q r b => bits_Div64_g.j1 k Y s (Y / 4294967296) (Y % 4294967296) U (V / 4294967296) (V % 4294967296) q r b)
    (fun k q r => by rw [bits_Div64_g.l0]) (fun k q r b => by rw [bits_Div64_g.j1]) (fun r => ?_) _ _ _ rfl G q1 (by omega)
  rw [Yy, ← hA]
  have w21 : IntKind.u64.wrap (IntKind.u64.wrap (IntKind.u64.wrap (U * 4294967296) + V / 4294967296) - IntKind.u64.wrap (A / Y * Y)) = A % Y := by
    have : A / Y * Y = Y * (A / Y) := Int.mul_comm _ _
    rw [this, uw, uw, uw, uw]
    omega
  have p0 : 0 ≤ A % Y / (Y / 4294967296) := Int.ediv_nonneg a2 (by omega)
  have p1 := small (A % Y) a2 a3
  have pm := Int.mul_ediv_add_emod (A % Y) (Y / 4294967296)
  have pr := Int.emod_nonneg (A % Y) (show Y / 4294967296 ≠ 0 by omega)
  have pr2 := Int.emod_lt_of_pos (A % Y) (show 0 < Y / 4294967296 by omega)
  have wp : IntKind.u64.wrap (Int.tdiv (A % Y) (Y / 4294967296)) = A % Y / (Y / 4294967296) := by
    rw [Int.tdiv_eq_ediv_of_nonneg a2]; exact uw_in p0 (by omega)
  have wpr : IntKind.u64.wrap (A % Y - IntKind.u64.wrap (A % Y / (Y / 4294967296) * (Y / 4294967296))) = A % Y % (Y / 4294967296) := by
    have : A % Y / (Y / 4294967296) * (Y / 4294967296) = Y / 4294967296 * (A % Y / (Y / 4294967296)) := Int.mul_comm _ _
    have m0 : 0 ≤ Y / 4294967296 * (A % Y / (Y / 4294967296)) := Int.mul_nonneg (by omega) p0
    rw [this, uw, uw]; omega
  refine Ev.step (f := fun k => bits_Div64_g.l1 k Y s (Y / 4294967296) (Y % 4294967296) (V % 4294967296) (A / Y) (A % Y % (Y / 4294967296)) (A % Y) (A % Y / (Y / 4294967296))) (fun k => by
    rw [bits_Div64_g.j2, if_neg (by omega), w21, wp, wpr]) ?_
  have G2 := guess_start (y1 := Y / 4294967296) (y0 := Y % 4294967296) (U := A % Y) (u := V % 4294967296) (by omega) (by omega) a2 (by omega)
  refine guess_loop (y1 := Y / 4294967296) (y0 := Y % 4294967296) (U := A % Y) (u := V % 4294967296) (by omega) (by omega) (by omega) (by omega) a2 (by omega) (by omega) (by omega)
    (fun k q r => bits_Div64_g.l1 k Y s (Y / 4294967296) (Y % 4294967296) (V % 4294967296) (A / Y) r (A % Y) q)
    (fun k q _ => if 0 ≤ (s : Int) then some (IntKind.u64.wrap (IntKind.u64.wrap (A / Y * 4294967296) + q), shr .u64 (IntKind.u64.wrap (IntKind.u64.wrap (IntKind.u64.wrap (A % Y * 4294967296) + V % 4294967296) - IntKind.u64.wrap (q * Y))) s) else none)
    (fun k q r b => bits_Div64_g.j4 k Y s (Y / 4294967296) (Y % 4294967296) (V % 4294967296) (A / Y) r (A % Y) q b)
    (fun k q r => by rw [bits_Div64_g.l1]) (fun k q r b => by rw [bits_Div64_g.j4]) (fun r => ?_) _ _ _ rfl G2 p1 (by omega)
  rw [Yy, ← hC]
  have w0 : IntKind.u64.wrap (IntKind.u64.wrap (A / Y * 4294967296) + C / Y) = A / Y * 4294967296 + C / Y := by rw [uw_in (x := A / Y * 4294967296) (by omega) (by omega), uw_in (by omega) (by omega)]
  have w1 : IntKind.u64.wrap (IntKind.u64.wrap (IntKind.u64.wrap (A % Y * 4294967296) + V % 4294967296) - IntKind.u64.wrap (C / Y * Y)) = C % Y := by
    have : C / Y * Y = Y * (C / Y) := Int.mul_comm _ _
    rw [this, uw, uw, uw, uw]
    omega
  simp only [if_pos (show 0 ≤ (s : Int) by omega), w0, w1, sr]
  exact Ev.now _
end Go.Proofs.Num

namespace Go.Proofs.YtdjnneflpkllmaaDoor.Q
open Go.RowKit Go.Proofs.YtdjnneflpkllmaaDoorW.PrintWords Go.Proofs.YtdjnneflpkllmaaDoorW.PrintLast Go.Proofs.YtdjnneflpkllmaaDoorW.PrintMore
attribute [local go_sem] max2_int min2_int max_two min_two max_three min_three max_four min_four
set_option linter.unusedVariables false
set_option linter.unusedSimpArgs false
mutual
def merinoref01_trim.j1 : Nat → List Int → Int → Option (List Int)
 | 0, _, _ => none
 | k + 1, x0, x3 => merinoref01_trim.l1 k x0 x3 ([] : List Int) 0
def merinoref01_trim.l1 : Nat → List Int → Int → List Int → Int → Option (List Int)
 | 0, _, _, _, _ => none
 | k + 1, x0, x3, x4, x5 => if x5 < x3 then (if 0 ≤ x5 then (if x5 < (x0.length : Int) then (if x4.length < 17592186044416 then (merinoref01_trim.l1 k x0 x3 (x4 ++ [rd x0 x5]) (wrap64 (x5 + 1))) else (none)) else (none)) else (none)) else (some x4)
def merinoref01_trim.l0 : Nat → List Int → Int → Option (List Int)
 | 0, _, _ => none
 | k + 1, x0, x3 => if x3 > 0 then (if 0 ≤ (wrap64 (x3 - 1)) then (if (wrap64 (x3 - 1)) < (x0.length : Int) then (if (rd x0 (wrap64 (x3 - 1))) = 0 then (merinoref01_trim.l0 k x0 (wrap64 (x3 - 1))) else (merinoref01_trim.j1 k x0 x3)) else (none)) else (none)) else (merinoref01_trim.j1 k x0 x3)
end
def merinoref01_trim.f (k : Nat) (l0 : List Int) : Option (List Int) := merinoref01_trim.l0 k l0 (l0.length : Int)
set_option maxHeartbeats 8000000 in
set_option maxRecDepth 100000 in
theorem merinoref01_trim.calls (k : Nat) (A0 : Option Addr) (c0 : Nat) (l0 : List Int) (r : List Int) (w : World) (hr0 : Kd.C (Kd.int .i64) w A0 l0.length l0) (hc0 : l0.length ≤ c0) (h : merinoref01_trim.f k l0 = some r) :
  Calls Tryd.prog 110 #[.slice A0 l0.length c0] w fun e w' => ∃ v0_ : Value, e = .returned (v0_) ∧ Kd.R (Kd.int .i64) 3 w' w.heap.size (fun _ => True) v0_ r ∧ Below w.heap.size w w' := by
 have HR0 := Aside0.mk hr0
 have HC0 := Aside0.mk hc0
 clear hr0 hc0
 have HB := Aside0.mk (Below.refl w.heap.size w)
 have H : (merinoref01_trim.l0 k l0 (l0.length : Int)) = some r := h
 clear h
 have HC2 := Aside0.mk H
 clear H
 go_enter Tryd.func110, Tryd.ntmps110
 go_upto_block 0 with (fail)
 go_cut [3] (fun v3 wc => ∃ (kq : Nat) (x3_1 : Int), v3 = .int .i64 x3_1 ∧ Aside0 (merinoref01_trim.j1 kq l0 x3_1 = some r) ∧ Aside0 (kq ≤ k) ∧ Aside0 (Below w.heap.size w wc))
 case first =>
  have H := HC2.out
  clear HC2
  have H' := Aside0.mk H
  clear H
  go_wp2
  go_loopg [3] k (fun kq v3 w' => ∃ (x3_1 : Int), v3 = .int .i64 x3_1 ∧ Aside0 (merinoref01_trim.l0 kq l0 x3_1 = some r) ∧ Aside0 (kq ≤ k) ∧ Aside0 (Below w.heap.size w w'))
  case atStart => exact ⟨((l0.length : Int)), (by first | rfl | (simp; done) | (simp [*]; done)), H', ⟨Nat.le_refl _⟩, ⟨(q0_ HB.out)⟩⟩
  case round =>
   clear H'
   try clear c1
   try clear p2
   obtain ⟨x3_1, rfl, HA, HK1, HB⟩ := hrel
   cases gk with
   | zero => exact absurd HA.out (by simp [merinoref01_trim.l0])
   | succ k1 =>
    have H := HA.out
    clear HA
    simp only [merinoref01_trim.l0] at H
    by_cases c3 : x3_1 > 0
    ·rw [if_pos c3] at H
     have c3b0 : decide (0 < x3_1) = true := decide_eq_true c3
     clear c3
     (first | rw [c3b0] | (simp only [i64_w, i32_w]; rw [c3b0]) | skip)
     obtain ⟨ji4, hji4⟩ : ∃ j_ : Int, (wrap64 (x3_1 - 1)) = j_ := ⟨_, rfl⟩
     replace H : (if 0 ≤ (ji4) then (if (ji4) < (l0.length : Int) then (if (rd l0 (ji4)) = 0 then (merinoref01_trim.l0 k1 l0 ji4) else (merinoref01_trim.j1 k1 l0 x3_1)) else (none)) else (none)) = some r := by first | (rw [hji4] at H; exact H) | (simp only [hji4] at H ⊢; exact H)
     have hji4w : (IntKind.i64.wrap (x3_1 - 1)) = ji4 := (i64_w _).trans hji4
     by_cases c5 : 0 ≤ (ji4)
     ·rw [if_pos c5] at H
      have c5b0 : decide (0 ≤ (ji4)) = true := decide_eq_true c5
      clear c5
      by_cases c6 : (ji4) < (l0.length : Int)
      ·rw [if_pos c6] at H
       have c6b0 : decide ((ji4) < (l0.length : Int)) = true := decide_eq_true c6
       clear c6
       by_cases c7 : (rd l0 (ji4)) = 0
       ·rw [if_pos c7] at H
        have c7b0 : ((rd l0 (ji4)) == 0) = true := beq_iff_eq.mpr c7
        have c7b1 : ((rd l0 (ji4)) != 0) = false := bne_eq_false_iff_eq.mpr c7
        clear c7
        have H' := Aside0.mk H
        clear H
        have p172 : 0 ≤ ((ji4) : Int) := od_
        have q172 : (ji4) < (l0.length : Int) := od_
        obtain ⟨ad172, e172, hx172_0⟩ := Kd.at_int HR0.out (ji4) p172 q172
        cases e172
        replace hx172_0 := (HB.out.cell (World.block_lt_of_cell? w _ hx172_0)).trans hx172_0
        replace p172 := eq_true p172
        replace q172 := eq_true q172
        go_wp2
        go_roundg k1
        case measure => have := HK1.out; omega
        case rel => exact ⟨(ji4), (by first | rfl | (simp; done) | (simp only [← hji4] <;> (first | rfl | simp)) | (simp [*]; done)), H', ⟨by have := HK1.out; omega⟩, ⟨(q0_ HB.out)⟩⟩
       ·rw [if_neg c7] at H
        have c7b0 : ((rd l0 (ji4)) == 0) = false := beq_eq_false_iff_ne.mpr c7
        have c7b1 : ((rd l0 (ji4)) != 0) = true := bne_iff_ne.mpr c7
        have H' := Aside0.mk H
        clear H
        have p172 : 0 ≤ ((ji4) : Int) := od_
        have q172 : (ji4) < (l0.length : Int) := od_
        obtain ⟨ad172, e172, hx172_0⟩ := Kd.at_int HR0.out (ji4) p172 q172
        cases e172
        replace hx172_0 := (HB.out.cell (World.block_lt_of_cell? w _ hx172_0)).trans hx172_0
        replace p172 := eq_true p172
        replace q172 := eq_true q172
        go_wp2
        go_meet
        case rel => exact ⟨_, (x3_1), (by first | rfl | (simp; done) | (simp [*]; done)), H', ⟨by have := HK1.out; first | omega | exact Nat.le_refl _⟩, ⟨(q0_ HB.out)⟩⟩
      ·rw [if_neg c6] at H
       exact absurd H (by simp)
     ·rw [if_neg c5] at H
      exact absurd H (by simp)
    ·rw [if_neg c3] at H
     have c3b0 : decide (0 < x3_1) = false := decide_eq_false c3
     clear c3
     (first | rw [c3b0] | (simp only [i64_w, i32_w]; rw [c3b0]) | skip)
     have H' := Aside0.mk H
     clear H
     go_wp2
     go_meet
     case rel => exact ⟨_, (x3_1), (by first | rfl | (simp; done) | (simp [*]; done)), H', ⟨by have := HK1.out; first | omega | exact Nat.le_refl _⟩, ⟨(q0_ HB.out)⟩⟩
 case rest =>
  clear HC2
  try clear c1
  try clear p1
  try clear q1
  try clear hx1
  try clear p2
  try clear c3
  try clear c3b0
  try clear c5
  try clear c5b0
  try clear c6
  try clear c6b0
  try clear p6
  try clear c7
  try clear c7b0
  try clear c7b1
  try clear hx172_0
  try clear p172
  try clear p2
  try clear q172
  obtain ⟨kq, x3_1, rfl, HA, HJ1, HB⟩ := hcut
  cases kq with
  | zero => exact absurd HA.out (by simp [merinoref01_trim.j1])
  | succ kj1 =>
   have H := HA.out
   clear HA
   simp only [merinoref01_trim.j1] at H
   have H' := Aside0.mk H
   clear H
   go_wp2
   go_loopg [4, 5] kj1 (fun kq v4 v5 w' => ∃ (x4_2 : List Int) (x5_2 : Int), v5 = .int .i64 x5_2 ∧ Aside0 (merinoref01_trim.l1 kq l0 x3_1 x4_2 x5_2 = some r) ∧ Aside0 (kq ≤ kj1) ∧ Aside0 (Kd.R (Kd.int .i64) 3 w' w.heap.size (fun _ => True) v4 x4_2) ∧ Aside0 (Below w.heap.size w w'))
   case atStart => exact ⟨(([] : List Int)), (0), (by first | rfl | (simp; done) | (simp [*]; done)), H', ⟨Nat.le_refl _⟩, ⟨by first | exact Kd.R_nil _ _ _ _ _ | exact Kd.N_nil _ _ _ _ _ | exact Kd.V_nil _ _ _ _ _ | exact Kd.Q_nil _ _ _ _ _ | exact Kd.S_nil _ _ _ _ _⟩, ⟨(q0_ HB.out)⟩⟩
   case round =>
    clear H'
    try clear c1
    try clear p1
    try clear q1
    try clear hx1
    try clear p2
    try clear c3
    try clear c3b0
    try clear c5
    try clear c5b0
    try clear c6
    try clear c6b0
    try clear p6
    try clear c7
    try clear c7b0
    try clear c7b1
    try clear hx172_0
    try clear p1
    try clear p172
    try clear p2
    try clear p6
    try clear q1
    try clear q172
    obtain ⟨x4_2, x5_2, rfl, HA, HK2, HO_4, HB⟩ := hrel
    cases gk with
    | zero => exact absurd HA.out (by simp [merinoref01_trim.l1])
    | succ k2 =>
     have H := HA.out
     clear HA
     simp only [merinoref01_trim.l1] at H
     by_cases c8 : x5_2 < x3_1
     ·rw [if_pos c8] at H
      have c8b0 : decide (x5_2 < x3_1) = true := decide_eq_true c8
      clear c8
      by_cases c9 : 0 ≤ x5_2
      ·rw [if_pos c9] at H
       have c9b0 : decide (0 ≤ x5_2) = true := decide_eq_true c9
       clear c9
       by_cases c10 : x5_2 < (l0.length : Int)
       ·rw [if_pos c10] at H
        have c10b0 : decide (x5_2 < (l0.length : Int)) = true := decide_eq_true c10
        clear c10
        by_cases c11 : x4_2.length < 17592186044416
        ·rw [if_pos c11] at H
         have LMc11 := Aside0.mk c11
         clear c11
         obtain ⟨y174, hy174⟩ : ∃ y_ : List Int, y_ = (x4_2 ++ [rd l0 x5_2]) := ⟨_, rfl⟩
         replace H : (merinoref01_trim.l1 k2 l0 x3_1 y174 (wrap64 (x5_2 + 1))) = some r := by first | (rw [hy174]; with_reducible exact H) | (have H2_ := (Option.bind_some _ _).symm.trans H; rw [hy174]; with_reducible exact H2_) | (have H2_ := (Option.bind_some _ _).symm.trans H; with_reducible exact H2_) | with_reducible exact H | (rw [hy174]; exact H) | exact H
         have Ny174 := Aside0.mk hy174
         clear hy174
         have H' := Aside0.mk H
         clear H
         have p173 : 0 ≤ (x5_2 : Int) := od_
         have q173 : x5_2 < (l0.length : Int) := od_
         obtain ⟨ad173, e173, hx173_0⟩ := Kd.at_int HR0.out x5_2 p173 q173
         cases e173
         replace hx173_0 := (HB.out.cell (World.block_lt_of_cell? w _ hx173_0)).trans hx173_0
         replace p173 := eq_true p173
         replace q173 := eq_true q173
         go_wp2_with (first | ((with_reducible refine gate_builtin (b := .append) (xs := #[.tmp 25, .tmp 30]) rfl ?_); at_builtin; refine Kd.R_append (Kd.int .i64) (w0 := w) w.heap.size rfl (.tmp 25) (.tmp 30) 29 3 (.int .i64 0) 8 rfl Tryd.underlying29 info3 rfl (by decide) (by omega) u4 x4_2 (rd l0 x5_2) [.int .i64 (rd l0 x5_2)] (fun _ => True) (fun _ => False) rfl rfl ?aP (fun _ hk => hk.elim) ?aF ?aO ?aB ?aS ?aL ?_; (case aP => exact rfl); (case aB => exact (q0_ HB.out)); (case aF => exact (fun _ _ => trivial)); (case aO => exact (qr_ HO_4.out)); (case aS => exact (below_size (q0_ HB.out))); (case aL => have := LMc11.out; omega); intro v175 w12 ho hb hg hat; rw [← Ny174.out] at ho; have n0_ := Aside0.mk (hb); have n1_ := Aside0.mk (ho); clear HB; clear HO_4; have HB := n0_; have HO176 := n1_; clear n0_ n1_; clear ho hb hg hat))
         go_roundg k2
         case measure => have := HJ1.out; have := HK2.out; omega
         case rel => exact ⟨(y174), (wrap64 (x5_2 + 1)), (by first | rfl | (simp; done) | (simp [*]; done)), H', ⟨by have := HJ1.out; have := HK2.out; omega⟩, ⟨by refine qr_ ?_; exact HO176.out⟩, ⟨(q0_ HB.out)⟩⟩
        ·rw [if_neg c11] at H
         exact absurd H (by simp)
       ·rw [if_neg c10] at H
        exact absurd H (by simp)
      ·rw [if_neg c9] at H
       exact absurd H (by simp)
     ·rw [if_neg c8] at H
      have c8b0 : decide (x5_2 < x3_1) = false := decide_eq_false c8
      clear c8
      obtain rfl := Option.some.inj H
      go_wp2
      go_ret
      exact ⟨_, by first | rfl | (simp [errW_none, errW_some] <;> rfl) | (simp [*, errW_none, errW_some] <;> rfl), by refine qr_ ?_; exact HO_4.out, (q0_ HB.out)⟩
def merinoref01_whole.f (k : Nat) (a0 : Bool) (l1 : List Int) : Option (Bool × List Int) := (merinoref01_trim.f k l1).bind fun t178 => (if a0 = true then (some (decide ((t178.length : Int) > 0), t178)) else (some (false, t178)))
set_option maxHeartbeats 8000000 in
set_option maxRecDepth 100000 in
theorem merinoref01_whole.calls (k : Nat) (a0 : Bool) (A1 : Option Addr) (c1 : Nat) (l1 : List Int) (r1 : Bool) (r2 : List Int) (w : World) (hr1 : Kd.C (Kd.int .i64) w A1 l1.length l1) (hc1 : l1.length ≤ c1) (h : merinoref01_whole.f k a0 l1 = some (r1, r2)) :
  Calls Tryd.prog 73 #[.bool a0, .slice A1 l1.length c1] w fun e w' => ∃ v1_ : Value, e = .returned (.agg #[.bool r1, v1_]) ∧ Kd.R (Kd.int .i64) 3 w' w.heap.size (fun _ => True) v1_ r2 ∧ Below w.heap.size w w' := by
 have hu31 := Tryd.underlying31
 have HR1 := Aside0.mk hr1
 have HC1 := Aside0.mk hc1
 clear hr1 hc1
 have HB := Aside0.mk (Below.refl w.heap.size w)
 have H : ((merinoref01_trim.f k l1).bind fun t178 => (if a0 = true then (some (decide ((t178.length : Int) > 0), t178)) else (some (false, t178)))) = some (r1, r2) := h
 clear h
 replace H := Option.bind_eq_some_iff.mp H
 obtain ⟨t178, A30, H⟩ := H
 replace H : (if a0 = true then (some (decide ((t178.length : Int) > 0), t178)) else (some (false, t178))) = some (r1, r2) := H
 have A3 := Aside0.mk A30
 clear A30
 by_cases c4 : a0 = true
 ·subst c4
  have H1 : (some (decide ((t178.length : Int) > 0), t178)) = some (r1, r2) := by rw [if_pos rfl] at H; exact H
  clear H
  have H := H1
  clear H1
  simp only [Option.some.injEq, Prod.mk.injEq] at H
  obtain ⟨rfl, rfl⟩ := H
  rw [show decide ((t178.length : Int) > 0) = decide (0 < t178.length) from by simp]
  go_enter Tryd.func73, Tryd.ntmps73
  go_wp2_with (first | ((with_reducible refine gate_dst (N := 4) rfl ?_); (try (refine gate_guard (by rfl) ?_; dsimp only)); refine qx_ 4 #[.bool false, .slice none 0 0] 31 ?hr ?_; (case hr => first | (go_simp; done) | (go_simp; rfl)); intro gb177 hg w5 hbox hb; have n0_ := Aside0.mk (below_step (q0_ HB.out) hb); have n1_ := Aside0.mk (hbox); have n2_ := Aside0.mk (qs_ hg (q0_ HB.out) : w.heap.size ≤ gb177); have n3_ := n2_; clear HB; have HB := n0_; have BK177 := n1_; have GW177 := n2_; have GE177 := n3_; clear n0_ n1_ n2_ n3_; clear hb hbox hg) | ((with_reducible refine gate_callee (f := 110) rfl ?_); refine goesL_ (some 7) rfl rfl Tryd.func110 (by kernel_rfl) rfl #[.slice A1 l1.length c1] rfl qe_ ?_; (with_reducible refine (merinoref01_trim.calls k _ _ l1 t178 _ ?side1 ?side2 A3.out).mono ?_); (case side1 => exact qc_ (Kd.C_below HR1.out HB.out)); (case side2 => exact HC1.out); rintro e w6 ⟨v179, rfl, ho0, hb⟩; refine ⟨_, rfl, ?_⟩; have n0_ := Aside0.mk (Kd.R_lower ho0 (below_size (q1_ HB.out GE177.out))); have n1_ := Aside0.mk (qk_ BK177.out hb); have n2_ := Aside0.mk (below_step (q1_ HB.out GE177.out) hb); clear BK177; clear HB; have HO180 := n0_; have BK177 := n1_; have HB := n2_; clear n0_ n1_ n2_; (try clear hb); (try clear hb2); (try clear hk); (try clear hi); (try clear ho0); obtain ⟨Ao7, co7, eo7⟩ := Kd.R_slice HO180.out; subst eo7; have hcz8_0 : w6.cell? ⟨gb177, 0, none⟩ = some (.bool false) := (blk_cell BK177.out 0).trans rfl; have hcz8_1 : w6.cell? ⟨gb177, 1, none⟩ = some (.slice none 0 0) := (blk_cell BK177.out 1).trans rfl; have hfz8_0 := blk_frozen BK177.out 0; have hfz8_1 := blk_frozen BK177.out 1))
  refine bodyPost_ret (results_cell_row rfl _ _ gb177 31 #[.bool (decide (0 < t178.length)), .slice Ao7 t178.length co7] (0, 0) _ rfl (by refine qb_ ?_; refine blk_put (cs := #[.bool (decide (0 < t178.length)), .slice none 0 0]) ?_ 1 _ rfl; refine qb_ ?_; refine blk_put (cs := #[.bool false, .slice none 0 0]) ?_ 0 _ rfl; refine qb_ ?_; exact BK177.out) Tryd.underlying31 rfl (by kernel_rfl)) rfl ?_
  exact ⟨_, by first | rfl | (simp [errW_none, errW_some] <;> rfl) | (simp [*, errW_none, errW_some] <;> rfl), by refine qr_ ?_; exact Kd.R_mono (Kd.R_far (p := ⟨gb177, 1, none⟩) (Kd.R_far (p := ⟨gb177, 0, none⟩) (Kd.R_types HO180.out BK177.out (by decide)) (fun _ hk => hk.2) (.bool (decide (0 < t178.length)))) (fun _ hk => hk.2) (.slice Ao7 t178.length co7)) (fun _ hk => trivial), (q1_ HB.out GE177.out)⟩
 ·replace c4 := Bool.eq_false_iff.mpr c4
  subst c4
  have H1 : (some (false, t178)) = some (r1, r2) := by rw [if_neg (show ¬ (false = true) by decide)] at H; exact H
  clear H
  have H := H1
  clear H1
  simp only [Option.some.injEq, Prod.mk.injEq] at H
  obtain ⟨rfl, rfl⟩ := H
  go_enter Tryd.func73, Tryd.ntmps73
  go_wp2_with (first | ((with_reducible refine gate_dst (N := 4) rfl ?_); (try (refine gate_guard (by rfl) ?_; dsimp only)); refine qx_ 4 #[.bool false, .slice none 0 0] 31 ?hr ?_; (case hr => first | (go_simp; done) | (go_simp; rfl)); intro gb177 hg w9 hbox hb; have n0_ := Aside0.mk (below_step (q0_ HB.out) hb); have n1_ := Aside0.mk (hbox); have n2_ := Aside0.mk (qs_ hg (q0_ HB.out) : w.heap.size ≤ gb177); have n3_ := n2_; clear HB; have HB := n0_; have BK177 := n1_; have GW177 := n2_; have GE177 := n3_; clear n0_ n1_ n2_ n3_; clear hb hbox hg) | ((with_reducible refine gate_callee (f := 110) rfl ?_); refine goesL_ (some 7) rfl rfl Tryd.func110 (by kernel_rfl) rfl #[.slice A1 l1.length c1] rfl qe_ ?_; (with_reducible refine (merinoref01_trim.calls k _ _ l1 t178 _ ?side1 ?side2 A3.out).mono ?_); (case side1 => exact qc_ (Kd.C_below HR1.out HB.out)); (case side2 => exact HC1.out); rintro e w10 ⟨v179, rfl, ho0, hb⟩; refine ⟨_, rfl, ?_⟩; have n0_ := Aside0.mk (Kd.R_lower ho0 (below_size (q1_ HB.out GE177.out))); have n1_ := Aside0.mk (qk_ BK177.out hb); have n2_ := Aside0.mk (below_step (q1_ HB.out GE177.out) hb); clear BK177; clear HB; have HO180 := n0_; have BK177 := n1_; have HB := n2_; clear n0_ n1_ n2_; (try clear hb); (try clear hb2); (try clear hk); (try clear hi); (try clear ho0); obtain ⟨Ao11, co11, eo11⟩ := Kd.R_slice HO180.out; subst eo11; have hcz12_0 : w10.cell? ⟨gb177, 0, none⟩ = some (.bool false) := (blk_cell BK177.out 0).trans rfl; have hcz12_1 : w10.cell? ⟨gb177, 1, none⟩ = some (.slice none 0 0) := (blk_cell BK177.out 1).trans rfl; have hfz12_0 := blk_frozen BK177.out 0; have hfz12_1 := blk_frozen BK177.out 1))
  refine bodyPost_ret (results_cell_row rfl _ _ gb177 31 #[.bool false, .slice Ao11 t178.length co11] (0, 0) _ rfl (by refine qb_ ?_; refine blk_put (cs := #[.bool false, .slice none 0 0]) ?_ 1 _ rfl; refine qb_ ?_; refine blk_put (cs := #[.bool false, .slice none 0 0]) ?_ 0 _ rfl; refine qb_ ?_; exact BK177.out) Tryd.underlying31 rfl (by kernel_rfl)) rfl ?_
  exact ⟨_, by first | rfl | (simp [errW_none, errW_some] <;> rfl) | (simp [*, errW_none, errW_some] <;> rfl), by refine qr_ ?_; exact Kd.R_mono (Kd.R_far (p := ⟨gb177, 1, none⟩) (Kd.R_far (p := ⟨gb177, 0, none⟩) (Kd.R_types HO180.out BK177.out (by decide)) (fun _ hk => hk.2) (.bool false)) (fun _ hk => hk.2) (.slice Ao11 t178.length co11)) (fun _ hk => trivial), (q1_ HB.out GE177.out)⟩
mutual
def merinoref01_mulD.l0 : Nat → List Int → List Int → List Int → Int → Option (List Int)
 | 0, _, _, _, _ => none
 | k + 1, x0, x1, x5, x6 => if x6 < (x0.length : Int) then (merinoref01_mulD.l1 k x0 x1 x5 x6 0 0) else ((merinoref01_trim.f k x5).bind fun t184 => (some t184))
def merinoref01_mulD.l1 : Nat → List Int → List Int → List Int → Int → Int → Int → Option (List Int)
 | 0, _, _, _, _, _, _ => none
 | k + 1, x0, x1, x5, x6, x7, x8 => if x8 < (x1.length : Int) then (if 0 ≤ (wrap64 (x6 + x8)) then (if (wrap64 (x6 + x8)) < (x5.length : Int) then (if 0 ≤ x6 then (if x6 < (x0.length : Int) then (if 0 ≤ x8 then (merinoref01_mulD.l1 k x0 x1 (x5.set ((wrap64 (x6 + x8)) : Int).toNat (Int.tmod (wrap64 ((wrap64 ((rd x5 (wrap64 (x6 + x8))) + (wrap64 ((rd x0 x6) * (rd x1 x8))))) + x7)) 10000)) x6 (wrap64 (Int.tdiv (wrap64 ((wrap64 ((rd x5 (wrap64 (x6 + x8))) + (wrap64 ((rd x0 x6) * (rd x1 x8))))) + x7)) 10000)) (wrap64 (x8 + 1))) else (none)) else (none)) else (none)) else (none)) else (none)) else (if 0 ≤ (wrap64 (x6 + (x1.length : Int))) then (if (wrap64 (x6 + (x1.length : Int))) < (x5.length : Int) then (merinoref01_mulD.l0 k x0 x1 (x5.set ((wrap64 (x6 + (x1.length : Int))) : Int).toNat x7) (wrap64 (x6 + 1))) else (none)) else (none))
end
def merinoref01_mulD.f (k : Nat) (l0 : List Int) (l1 : List Int) : Option (List Int) := if 0 ≤ (wrap64 ((l0.length : Int) + (l1.length : Int))) then (if (wrap64 ((l0.length : Int) + (l1.length : Int)) : Int).toNat ≤ 35184372088832 then (merinoref01_mulD.l0 k l0 l1 (List.replicate (wrap64 ((l0.length : Int) + (l1.length : Int)) : Int).toNat 0) 0) else (none)) else (none)
set_option maxHeartbeats 8000000 in
set_option maxRecDepth 100000 in
theorem merinoref01_mulD.calls (k : Nat) (A0 : Option Addr) (c0 : Nat) (l0 : List Int) (A1 : Option Addr) (c1 : Nat) (l1 : List Int) (r : List Int) (w : World) (hr0 : Kd.C (Kd.int .i64) w A0 l0.length l0) (hc0 : l0.length ≤ c0) (hr1 : Kd.C (Kd.int .i64) w A1 l1.length l1) (hc1 : l1.length ≤ c1) (h : merinoref01_mulD.f k l0 l1 = some r) :
  Calls Tryd.prog 74 #[.slice A0 l0.length c0, .slice A1 l1.length c1] w fun e w' => ∃ v0_ : Value, e = .returned (v0_) ∧ Kd.R (Kd.int .i64) 3 w' w.heap.size (fun _ => True) v0_ r ∧ Below w.heap.size w w' := by
 have HR0 := Aside0.mk hr0
 have HC0 := Aside0.mk hc0
 clear hr0 hc0
 have HR1 := Aside0.mk hr1
 have HC1 := Aside0.mk hc1
 clear hr1 hc1
 have HB := Aside0.mk (Below.refl w.heap.size w)
 have H : (if 0 ≤ (wrap64 ((l0.length : Int) + (l1.length : Int))) then (if (wrap64 ((l0.length : Int) + (l1.length : Int)) : Int).toNat ≤ 35184372088832 then (merinoref01_mulD.l0 k l0 l1 (List.replicate (wrap64 ((l0.length : Int) + (l1.length : Int)) : Int).toNat 0) 0) else (none)) else (none)) = some r := h
 clear h
 obtain ⟨ji3, hji3⟩ : ∃ j_ : Int, (wrap64 ((l0.length : Int) + (l1.length : Int))) = j_ := ⟨_, rfl⟩
 replace H : (if 0 ≤ (ji3) then (if (ji3 : Int).toNat ≤ 35184372088832 then (merinoref01_mulD.l0 k l0 l1 (List.replicate (ji3 : Int).toNat 0) 0) else (none)) else (none)) = some r := by first | (rw [hji3] at H; exact H) | (simp only [hji3] at H ⊢; exact H)
 have hji3w : (IntKind.i64.wrap ((l0.length : Int) + (l1.length : Int))) = ji3 := (i64_w _).trans hji3
 by_cases c4 : 0 ≤ (ji3)
 ·rw [if_pos c4] at H
  have c4b0 := eq_true c4
  have c4b1 : decide (0 ≤ (ji3)) = true := decide_eq_true c4
  clear c4
  by_cases c5 : (ji3 : Int).toNat ≤ 35184372088832
  ·rw [if_pos c5] at H
   have c5b0 := eq_true c5
   have c5b1 : decide ((ji3 : Int).toNat ≤ 35184372088832) = true := decide_eq_true c5
   clear c5
   obtain ⟨y181, hy181⟩ : ∃ y_ : List Int, y_ = (List.replicate (ji3 : Int).toNat 0) := ⟨_, rfl⟩
   replace H : (merinoref01_mulD.l0 k l0 l1 y181 0) = some r := by first | (rw [hy181]; with_reducible exact H) | (have H2_ := (Option.bind_some _ _).symm.trans H; rw [hy181]; with_reducible exact H2_) | (have H2_ := (Option.bind_some _ _).symm.trans H; with_reducible exact H2_) | with_reducible exact H | (rw [hy181]; exact H) | exact H
   have Ny181 := Aside0.mk hy181
   clear hy181
   have H' := Aside0.mk H
   clear H
   go_enter Tryd.func74, Tryd.ntmps74
   go_wp2_with (first | ((with_reducible refine gate_dst (N := 15) rfl ?_); refine Kd.R_make (Kd.int .i64) _ 3 rfl (N := 15) rfl 29 _ _ rfl ji3 rfl rfl Tryd.underlying29 (.int .i64 0) 8 info3 rfl (by decide) (by omega) 0 (ok := fun _ => True) (okp := fun _ => True) rfl (fun _ hk => hk) trivial (od_) (Nat.le_trans (Nat.mul_le_mul_right _ (od_ : ji3.toNat ≤ 35184372088832)) (by omega)) (Below.refl _ _) (Nat.le_refl _) ?_; intro v182 w6 ho7 hb hg_ hnew_; clear hg_ hnew_; (first | rw [← Ny181.out] at ho7 | (simp only [Int.reduceToNat] at ho7; rw [← Ny181.out] at ho7)); have n0_ := Aside0.mk (Kd.R_lower ho7 (below_size (q0_ HB.out))); have n1_ := Aside0.mk (below_step (q0_ HB.out) hb); clear HB; have HO183 := n0_; have HB := n1_; clear n0_ n1_; clear hb ho7))
   repeat (go_quiet (first | ((with_reducible refine gate_dst (N := 15) rfl ?_); refine Kd.R_make (Kd.int .i64) _ 3 rfl (N := 15) rfl 29 _ _ rfl ji3 rfl rfl Tryd.underlying29 (.int .i64 0) 8 info3 rfl (by decide) (by omega) 0 (ok := fun _ => True) (okp := fun _ => True) rfl (fun _ hk => hk) trivial (od_) (Nat.le_trans (Nat.mul_le_mul_right _ (od_ : ji3.toNat ≤ 35184372088832)) (by omega)) (Below.refl _ _) (Nat.le_refl _) ?_; intro v182 w6 ho7 hb hg_ hnew_; clear hg_ hnew_; (first | rw [← Ny181.out] at ho7 | (simp only [Int.reduceToNat] at ho7; rw [← Ny181.out] at ho7)); have n0_ := Aside0.mk (Kd.R_lower ho7 (below_size (q0_ HB.out))); have n1_ := Aside0.mk (below_step (q0_ HB.out) hb); clear HB; have HO183 := n0_; have HB := n1_; clear n0_ n1_; clear hb ho7)); try go_wp2_with (first | ((with_reducible refine gate_dst (N := 15) rfl ?_); refine Kd.R_make (Kd.int .i64) _ 3 rfl (N := 15) rfl 29 _ _ rfl ji3 rfl rfl Tryd.underlying29 (.int .i64 0) 8 info3 rfl (by decide) (by omega) 0 (ok := fun _ => True) (okp := fun _ => True) rfl (fun _ hk => hk) trivial (od_) (Nat.le_trans (Nat.mul_le_mul_right _ (od_ : ji3.toNat ≤ 35184372088832)) (by omega)) (Below.refl _ _) (Nat.le_refl _) ?_; intro v182 w6 ho7 hb hg_ hnew_; clear hg_ hnew_; (first | rw [← Ny181.out] at ho7 | (simp only [Int.reduceToNat] at ho7; rw [← Ny181.out] at ho7)); have n0_ := Aside0.mk (Kd.R_lower ho7 (below_size (q0_ HB.out))); have n1_ := Aside0.mk (below_step (q0_ HB.out) hb); clear HB; have HO183 := n0_; have HB := n1_; clear n0_ n1_; clear hb ho7)))
   go_loopg [6] k (fun kq v6 w' => ∃ (x5_1 : List Int) (x6_1 : Int), v6 = .int .i64 x6_1 ∧ Aside0 (merinoref01_mulD.l0 kq l0 l1 x5_1 x6_1 = some r) ∧ Aside0 (kq ≤ k) ∧ Aside0 (Kd.R (Kd.int .i64) 3 w' w.heap.size (fun _ => True) v182 x5_1) ∧ Aside0 (Below w.heap.size w w'))
   case atStart => exact ⟨(y181), (0), (by first | rfl | (simp; done) | (simp [*]; done)), H', ⟨Nat.le_refl _⟩, ⟨by refine qr_ ?_; exact HO183.out⟩, ⟨(q0_ HB.out)⟩⟩
   case round =>
    clear H'
    try clear c1
    try clear p2
    try clear c4
    try clear c4b0
    try clear c4b1
    try clear c5
    try clear c5b0
    try clear c5b1
    try clear p6
    try clear c7
    obtain ⟨x5_1, x6_1, rfl, HA, HK1, HO_5, HB⟩ := hrel
    cases gk with
    | zero => exact absurd HA.out (by simp [merinoref01_mulD.l0])
    | succ k1 =>
     have H := HA.out
     clear HA
     simp only [merinoref01_mulD.l0] at H
     by_cases c8 : x6_1 < (l0.length : Int)
     ·rw [if_pos c8] at H
      have c8b0 : decide (x6_1 < (l0.length : Int)) = true := decide_eq_true c8
      clear c8
      have H' := Aside0.mk H
      clear H
      go_wp2
      repeat (go_quiet (fail); try go_wp2)
      go_loopg [7, 8] k1 (fun kq v7 v8 w' => ∃ (x5_2 : List Int) (x7_2 : Int) (x8_2 : Int), v7 = .int .i64 x7_2 ∧ v8 = .int .i64 x8_2 ∧ Aside0 (merinoref01_mulD.l1 kq l0 l1 x5_2 x6_1 x7_2 x8_2 = some r) ∧ Aside0 (kq ≤ k1) ∧ Aside0 (Kd.R (Kd.int .i64) 3 w' w.heap.size (fun _ => True) v182 x5_2) ∧ Aside0 (Below w.heap.size w w'))
      case atStart => exact ⟨(x5_1), (0), (0), (by first | rfl | (simp; done) | (simp [*]; done)), (by first | rfl | (simp; done) | (simp [*]; done)), H', ⟨Nat.le_refl _⟩, ⟨by refine qr_ ?_; exact HO_5.out⟩, ⟨(q0_ HB.out)⟩⟩
      case round =>
       clear H'
       try clear c1
       try clear p2
       try clear c4
       try clear c4b0
       try clear c4b1
       try clear c5
       try clear c5b0
       try clear c5b1
       try clear p6
       try clear c7
       try clear c8
       try clear c8b0
       try clear p2
       try clear p6
       obtain ⟨x5_2, x7_2, x8_2, rfl, rfl, HA, HK2, HO_5, HB⟩ := hrel
       cases gk with
       | zero => exact absurd HA.out (by simp [merinoref01_mulD.l1])
       | succ k2 =>
        have H := HA.out
        clear HA
        simp only [merinoref01_mulD.l1] at H
        by_cases c9 : x8_2 < (l1.length : Int)
        ·rw [if_pos c9] at H
         have c9b0 : decide (x8_2 < (l1.length : Int)) = true := decide_eq_true c9
         clear c9
         obtain ⟨ji10, hji10⟩ : ∃ j_ : Int, (wrap64 (x6_1 + x8_2)) = j_ := ⟨_, rfl⟩
         replace H : (if 0 ≤ (ji10) then (if (ji10) < (x5_2.length : Int) then (if 0 ≤ x6_1 then (if x6_1 < (l0.length : Int) then (if 0 ≤ x8_2 then (merinoref01_mulD.l1 k2 l0 l1 (x5_2.set ((ji10) : Int).toNat (Int.tmod (wrap64 ((wrap64 ((rd x5_2 (ji10)) + (wrap64 ((rd l0 x6_1) * (rd l1 x8_2))))) + x7_2)) 10000)) x6_1 (wrap64 (Int.tdiv (wrap64 ((wrap64 ((rd x5_2 (ji10)) + (wrap64 ((rd l0 x6_1) * (rd l1 x8_2))))) + x7_2)) 10000)) (wrap64 (x8_2 + 1))) else (none)) else (none)) else (none)) else (none)) else (none)) = some r := by first | (rw [hji10] at H; exact H) | (simp only [hji10] at H ⊢; exact H)
         have hji10w : (IntKind.i64.wrap (x6_1 + x8_2)) = ji10 := (i64_w _).trans hji10
         by_cases c11 : 0 ≤ (ji10)
         ·rw [if_pos c11] at H
          have c11b0 : decide (0 ≤ (ji10)) = true := decide_eq_true c11
          clear c11
          by_cases c12 : (ji10) < (x5_2.length : Int)
          ·rw [if_pos c12] at H
           have c12b0 : decide ((ji10) < (x5_2.length : Int)) = true := decide_eq_true c12
           clear c12
           by_cases c13 : 0 ≤ x6_1
           ·rw [if_pos c13] at H
            have c13b0 : decide (0 ≤ x6_1) = true := decide_eq_true c13
            clear c13
            by_cases c14 : x6_1 < (l0.length : Int)
            ·rw [if_pos c14] at H
             have c14b0 : decide (x6_1 < (l0.length : Int)) = true := decide_eq_true c14
             clear c14
             by_cases c15 : 0 ≤ x8_2
             ·rw [if_pos c15] at H
              have c15b0 : decide (0 ≤ x8_2) = true := decide_eq_true c15
              clear c15
              obtain ⟨y190, hy190⟩ : ∃ y_ : List Int, y_ = (x5_2.set ((ji10) : Int).toNat (Int.tmod (wrap64 ((wrap64 ((rd x5_2 (ji10)) + (wrap64 ((rd l0 x6_1) * (rd l1 x8_2))))) + x7_2)) 10000)) := ⟨_, rfl⟩
              replace H : (merinoref01_mulD.l1 k2 l0 l1 y190 x6_1 (wrap64 (Int.tdiv (wrap64 ((wrap64 ((rd x5_2 (ji10)) + (wrap64 ((rd l0 x6_1) * (rd l1 x8_2))))) + x7_2)) 10000)) (wrap64 (x8_2 + 1))) = some r := by first | (rw [hy190]; with_reducible exact H) | (have H2_ := (Option.bind_some _ _).symm.trans H; rw [hy190]; with_reducible exact H2_) | (have H2_ := (Option.bind_some _ _).symm.trans H; with_reducible exact H2_) | with_reducible exact H | (rw [hy190]; exact H) | exact H
              have Ny190 := Aside0.mk hy190
              clear hy190
              have H' := Aside0.mk H
              clear H
              obtain ⟨Ao17, co17, eo17⟩ := Kd.R_slice HO_5.out
              subst eo17
              have p187 : 0 ≤ ((ji10) : Int) := od_
              have q187 : (ji10) < (x5_2.length : Int) := od_
              obtain ⟨ad187, e187, hx187_0⟩ := Kd.at_int (Kd.R_reads' HO_5.out).2.2 (ji10) p187 q187
              cases e187
              replace p187 := eq_true p187
              replace q187 := eq_true q187
              have p188 : 0 ≤ (x6_1 : Int) := od_
              have q188 : x6_1 < (l0.length : Int) := od_
              obtain ⟨ad188, e188, hx188_0⟩ := Kd.at_int HR0.out x6_1 p188 q188
              cases e188
              replace hx188_0 := (HB.out.cell (World.block_lt_of_cell? w _ hx188_0)).trans hx188_0
              replace p188 := eq_true p188
              replace q188 := eq_true q188
              have p189 : 0 ≤ (x8_2 : Int) := od_
              have q189 : x8_2 < (l1.length : Int) := od_
              obtain ⟨ad189, e189, hx189_0⟩ := Kd.at_int HR1.out x8_2 p189 q189
              cases e189
              replace hx189_0 := (HB.out.cell (World.block_lt_of_cell? w _ hx189_0)).trans hx189_0
              replace p189 := eq_true p189
              replace q189 := eq_true q189
              have p16 : 0 ≤ ((ji10) : Int) := od_
              have q16 : ((ji10) : Int) < ((x5_2.length : Int) : Int) := od_
              obtain ⟨go16, co16, eo16, gb16, gl16, cl16, HG16⟩ := Kd.R_form HO_5.out (by omega)
              (first | cases eo16 | (injection eo16 with ea_ en_ ec_; (first | subst ea_ | (injection ea_ with ea_; subst ea_)); subst ec_; clear en_))
              have GB16 := Aside0.mk gb16
              have GG16 := Aside0.mk HG16
              clear gb16 gl16 HG16
              (first | simp only [add_plain] at hx187_0 | skip)
              obtain ⟨hx16_0, hf16_0⟩ := Kd.R_celln 0 HO_5.out ((ji10) : Int) p16 q16
              replace p16 := eq_true p16
              replace q16 := eq_true q16
              have HP18 := Kd.R_putg HO_5.out ((ji10) : Int) (Int.tmod (wrap64 ((wrap64 ((rd x5_2 (ji10)) + (wrap64 ((rd l0 x6_1) * (rd l1 x8_2))))) + x7_2)) 10000)
              go_wp2_with (first | ((with_reducible refine gate_store (t := 3) (p := 52) rfl ?_); (try (rw [drewN_self wr]; generalize hq_ : World.drewN wr _ = wr; have n0_ := Aside0.mk (Kd.R_at hq_ HO_5.out); have n1_ := Aside0.mk (below_at hq_ HB.out); clear hq_ HO_5 HB; have HO_5 := n0_; have HB := n1_; clear n0_ n1_; (try (have HP18 := Kd.R_putg HO_5.out ((ji10) : Int) (Int.tmod (wrap64 ((wrap64 ((rd x5_2 (ji10)) + (wrap64 ((rd l0 x6_1) * (rd l1 x8_2))))) + x7_2)) 10000))))); refine store_event (t := 3) (p := 52) (v := ?vo_w19) (w1 := (wr.setCell ⟨go16, ((ji10) : Int).toNat, none⟩ (.int .i64 (Int.tmod (wrap64 ((wrap64 ((rd x5_2 (ji10)) + (wrap64 ((rd l0 x6_1) * (rd l1 x8_2))))) + x7_2)) 10000)))) ?hg ?ho ?hn ?hr ?_; (case ho => rfl); (case hg => rfl); (case hn => rfl); (case hr => first | (go_simp; done) | (go_simp; rfl)); intro w19 hw; have hg : wr.grownBy w19 (some go16) := (by rw [hw]; exact HP18.2); have hp_ : Kd.R (Kd.int .i64) 3 w19 w.heap.size (fun _ => True) (.slice (some ⟨go16, 0, none⟩) x5_2.length co17) y190 := (by rw [hw, Ny190.out]; exact HP18.1); clear HP18; have n0_ := Aside0.mk (hp_); have n1_ := Aside0.mk ((by rw [hw]; exact below_set (HB.out) GB16.out : Below w.heap.size w w19)); clear HO_5; clear HB; have HO_5 := n0_; have HB := n1_; clear n0_ n1_; clear hg hw hp_))
              repeat (go_quiet (first | ((with_reducible refine gate_store (t := 3) (p := 52) rfl ?_); (try (rw [drewN_self wr]; generalize hq_ : World.drewN wr _ = wr; have n0_ := Aside0.mk (Kd.R_at hq_ HO_5.out); have n1_ := Aside0.mk (below_at hq_ HB.out); clear hq_ HO_5 HB; have HO_5 := n0_; have HB := n1_; clear n0_ n1_; (try (have HP18 := Kd.R_putg HO_5.out ((ji10) : Int) (Int.tmod (wrap64 ((wrap64 ((rd x5_2 (ji10)) + (wrap64 ((rd l0 x6_1) * (rd l1 x8_2))))) + x7_2)) 10000))))); refine store_event (t := 3) (p := 52) (v := ?vo_w19) (w1 := (wr.setCell ⟨go16, ((ji10) : Int).toNat, none⟩ (.int .i64 (Int.tmod (wrap64 ((wrap64 ((rd x5_2 (ji10)) + (wrap64 ((rd l0 x6_1) * (rd l1 x8_2))))) + x7_2)) 10000)))) ?hg ?ho ?hn ?hr ?_; (case ho => rfl); (case hg => rfl); (case hn => rfl); (case hr => first | (go_simp; done) | (go_simp; rfl)); intro w19 hw; have hg : wr.grownBy w19 (some go16) := (by rw [hw]; exact HP18.2); have hp_ : Kd.R (Kd.int .i64) 3 w19 w.heap.size (fun _ => True) (.slice (some ⟨go16, 0, none⟩) x5_2.length co17) y190 := (by rw [hw, Ny190.out]; exact HP18.1); clear HP18; have n0_ := Aside0.mk (hp_); have n1_ := Aside0.mk ((by rw [hw]; exact below_set (HB.out) GB16.out : Below w.heap.size w w19)); clear HO_5; clear HB; have HO_5 := n0_; have HB := n1_; clear n0_ n1_; clear hg hw hp_)); try go_wp2_with (first | ((with_reducible refine gate_store (t := 3) (p := 52) rfl ?_); (try (rw [drewN_self wr]; generalize hq_ : World.drewN wr _ = wr; have n0_ := Aside0.mk (Kd.R_at hq_ HO_5.out); have n1_ := Aside0.mk (below_at hq_ HB.out); clear hq_ HO_5 HB; have HO_5 := n0_; have HB := n1_; clear n0_ n1_; (try (have HP18 := Kd.R_putg HO_5.out ((ji10) : Int) (Int.tmod (wrap64 ((wrap64 ((rd x5_2 (ji10)) + (wrap64 ((rd l0 x6_1) * (rd l1 x8_2))))) + x7_2)) 10000))))); refine store_event (t := 3) (p := 52) (v := ?vo_w19) (w1 := (wr.setCell ⟨go16, ((ji10) : Int).toNat, none⟩ (.int .i64 (Int.tmod (wrap64 ((wrap64 ((rd x5_2 (ji10)) + (wrap64 ((rd l0 x6_1) * (rd l1 x8_2))))) + x7_2)) 10000)))) ?hg ?ho ?hn ?hr ?_; (case ho => rfl); (case hg => rfl); (case hn => rfl); (case hr => first | (go_simp; done) | (go_simp; rfl)); intro w19 hw; have hg : wr.grownBy w19 (some go16) := (by rw [hw]; exact HP18.2); have hp_ : Kd.R (Kd.int .i64) 3 w19 w.heap.size (fun _ => True) (.slice (some ⟨go16, 0, none⟩) x5_2.length co17) y190 := (by rw [hw, Ny190.out]; exact HP18.1); clear HP18; have n0_ := Aside0.mk (hp_); have n1_ := Aside0.mk ((by rw [hw]; exact below_set (HB.out) GB16.out : Below w.heap.size w w19)); clear HO_5; clear HB; have HO_5 := n0_; have HB := n1_; clear n0_ n1_; clear hg hw hp_)))
              go_roundg k2
              case measure => have := HK1.out; have := HK2.out; omega
              case rel => exact ⟨(y190), (wrap64 (Int.tdiv (wrap64 ((wrap64 ((rd x5_2 (ji10)) + (wrap64 ((rd l0 x6_1) * (rd l1 x8_2))))) + x7_2)) 10000)), (wrap64 (x8_2 + 1)), (by first | rfl | (simp; done) | (simp only [← hji10] <;> (first | rfl | simp)) | (simp [*]; done)), (by first | rfl | (simp; done) | (simp [*]; done)), H', ⟨by have := HK1.out; have := HK2.out; omega⟩, ⟨by refine qr_ ?_; first | exact HO_5.out | (rw [Ny190.out]; exact Kd.R_drewN HP18.1 _)⟩, ⟨by first | exact below_set (pw_below_drewN HB.out _) GB16.out | exact below_set (pw_below_drewN _ HB.out) GB16.out | (repeat (first | (with_reducible first | exact HB.out | apply below_alloc | apply pw_below_drewN | apply below_drew1) | exact HB.out))⟩⟩
             ·rw [if_neg c15] at H
              exact absurd H (by simp)
            ·rw [if_neg c14] at H
             exact absurd H (by simp)
           ·rw [if_neg c13] at H
            exact absurd H (by simp)
          ·rw [if_neg c12] at H
           exact absurd H (by simp)
         ·rw [if_neg c11] at H
          exact absurd H (by simp)
        ·rw [if_neg c9] at H
         have c9b0 : decide (x8_2 < (l1.length : Int)) = false := decide_eq_false c9
         clear c9
         obtain ⟨ji20, hji20⟩ : ∃ j_ : Int, (wrap64 (x6_1 + (l1.length : Int))) = j_ := ⟨_, rfl⟩
         replace H : (if 0 ≤ (ji20) then (if (ji20) < (x5_2.length : Int) then (merinoref01_mulD.l0 k2 l0 l1 (x5_2.set ((ji20) : Int).toNat x7_2) (wrap64 (x6_1 + 1))) else (none)) else (none)) = some r := by first | (rw [hji20] at H; exact H) | (simp only [hji20] at H ⊢; exact H)
         have hji20w : (IntKind.i64.wrap (x6_1 + (l1.length : Int))) = ji20 := (i64_w _).trans hji20
         by_cases c21 : 0 ≤ (ji20)
         ·rw [if_pos c21] at H
          have c21b0 : decide (0 ≤ (ji20)) = true := decide_eq_true c21
          clear c21
          by_cases c22 : (ji20) < (x5_2.length : Int)
          ·rw [if_pos c22] at H
           have c22b0 : decide ((ji20) < (x5_2.length : Int)) = true := decide_eq_true c22
           clear c22
           obtain ⟨y191, hy191⟩ : ∃ y_ : List Int, y_ = (x5_2.set ((ji20) : Int).toNat x7_2) := ⟨_, rfl⟩
           replace H : (merinoref01_mulD.l0 k2 l0 l1 y191 (wrap64 (x6_1 + 1))) = some r := by first | (rw [hy191]; with_reducible exact H) | (have H2_ := (Option.bind_some _ _).symm.trans H; rw [hy191]; with_reducible exact H2_) | (have H2_ := (Option.bind_some _ _).symm.trans H; with_reducible exact H2_) | with_reducible exact H | (rw [hy191]; exact H) | exact H
           have Ny191 := Aside0.mk hy191
           clear hy191
           have H' := Aside0.mk H
           clear H
           have p23 : 0 ≤ ((ji20) : Int) := od_
           have q23 : ((ji20) : Int) < ((x5_2.length : Int) : Int) := od_
           obtain ⟨go23, co23, eo23, gb23, gl23, cl23, HG23⟩ := Kd.R_form HO_5.out (by omega)
           (first | cases eo23 | (injection eo23 with ea_ en_ ec_; (first | subst ea_ | (injection ea_ with ea_; subst ea_)); subst ec_; clear en_))
           have GB23 := Aside0.mk gb23
           have GG23 := Aside0.mk HG23
           clear gb23 gl23 HG23
           obtain ⟨hx23_0, hf23_0⟩ := Kd.R_celln 0 HO_5.out ((ji20) : Int) p23 q23
           replace p23 := eq_true p23
           replace q23 := eq_true q23
           have HP24 := Kd.R_putg HO_5.out ((ji20) : Int) x7_2
           go_wp2_with (first | ((with_reducible refine gate_store (t := 3) (p := 61) rfl ?_); (try (rw [drewN_self wr]; generalize hq_ : World.drewN wr _ = wr; have n0_ := Aside0.mk (Kd.R_at hq_ HO_5.out); have n1_ := Aside0.mk (below_at hq_ HB.out); clear hq_ HO_5 HB; have HO_5 := n0_; have HB := n1_; clear n0_ n1_; (try (have HP24 := Kd.R_putg HO_5.out ((ji20) : Int) x7_2)))); refine store_event (t := 3) (p := 61) (v := ?vo_w25) (w1 := (wr.setCell ⟨go23, ((ji20) : Int).toNat, none⟩ (.int .i64 x7_2))) ?hg ?ho ?hn ?hr ?_; (case ho => rfl); (case hg => rfl); (case hn => rfl); (case hr => first | (go_simp; done) | (go_simp; rfl)); intro w25 hw; have hg : wr.grownBy w25 (some go23) := (by rw [hw]; exact HP24.2); have hp_ : Kd.R (Kd.int .i64) 3 w25 w.heap.size (fun _ => True) (.slice (some ⟨go23, 0, none⟩) x5_2.length co23) y191 := (by rw [hw, Ny191.out]; exact HP24.1); clear HP24; have n0_ := Aside0.mk (hp_); have n1_ := Aside0.mk ((by rw [hw]; exact below_set (HB.out) GB23.out : Below w.heap.size w w25)); clear HO_5; clear HB; have HO_5 := n0_; have HB := n1_; clear n0_ n1_; clear hg hw hp_))
           repeat (go_quiet (first | ((with_reducible refine gate_store (t := 3) (p := 61) rfl ?_); (try (rw [drewN_self wr]; generalize hq_ : World.drewN wr _ = wr; have n0_ := Aside0.mk (Kd.R_at hq_ HO_5.out); have n1_ := Aside0.mk (below_at hq_ HB.out); clear hq_ HO_5 HB; have HO_5 := n0_; have HB := n1_; clear n0_ n1_; (try (have HP24 := Kd.R_putg HO_5.out ((ji20) : Int) x7_2)))); refine store_event (t := 3) (p := 61) (v := ?vo_w25) (w1 := (wr.setCell ⟨go23, ((ji20) : Int).toNat, none⟩ (.int .i64 x7_2))) ?hg ?ho ?hn ?hr ?_; (case ho => rfl); (case hg => rfl); (case hn => rfl); (case hr => first | (go_simp; done) | (go_simp; rfl)); intro w25 hw; have hg : wr.grownBy w25 (some go23) := (by rw [hw]; exact HP24.2); have hp_ : Kd.R (Kd.int .i64) 3 w25 w.heap.size (fun _ => True) (.slice (some ⟨go23, 0, none⟩) x5_2.length co23) y191 := (by rw [hw, Ny191.out]; exact HP24.1); clear HP24; have n0_ := Aside0.mk (hp_); have n1_ := Aside0.mk ((by rw [hw]; exact below_set (HB.out) GB23.out : Below w.heap.size w w25)); clear HO_5; clear HB; have HO_5 := n0_; have HB := n1_; clear n0_ n1_; clear hg hw hp_)); try go_wp2_with (first | ((with_reducible refine gate_store (t := 3) (p := 61) rfl ?_); (try (rw [drewN_self wr]; generalize hq_ : World.drewN wr _ = wr; have n0_ := Aside0.mk (Kd.R_at hq_ HO_5.out); have n1_ := Aside0.mk (below_at hq_ HB.out); clear hq_ HO_5 HB; have HO_5 := n0_; have HB := n1_; clear n0_ n1_; (try (have HP24 := Kd.R_putg HO_5.out ((ji20) : Int) x7_2)))); refine store_event (t := 3) (p := 61) (v := ?vo_w25) (w1 := (wr.setCell ⟨go23, ((ji20) : Int).toNat, none⟩ (.int .i64 x7_2))) ?hg ?ho ?hn ?hr ?_; (case ho => rfl); (case hg => rfl); (case hn => rfl); (case hr => first | (go_simp; done) | (go_simp; rfl)); intro w25 hw; have hg : wr.grownBy w25 (some go23) := (by rw [hw]; exact HP24.2); have hp_ : Kd.R (Kd.int .i64) 3 w25 w.heap.size (fun _ => True) (.slice (some ⟨go23, 0, none⟩) x5_2.length co23) y191 := (by rw [hw, Ny191.out]; exact HP24.1); clear HP24; have n0_ := Aside0.mk (hp_); have n1_ := Aside0.mk ((by rw [hw]; exact below_set (HB.out) GB23.out : Below w.heap.size w w25)); clear HO_5; clear HB; have HO_5 := n0_; have HB := n1_; clear n0_ n1_; clear hg hw hp_)))
           go_roundg k2
           case measure => have := HK1.out; have := HK2.out; omega
           case rel => exact ⟨(y191), (wrap64 (x6_1 + 1)), (by first | rfl | (simp; done) | (simp [*]; done)), H', ⟨by have := HK1.out; have := HK2.out; omega⟩, ⟨by refine qr_ ?_; exact HO_5.out⟩, ⟨(q0_ HB.out)⟩⟩
          ·rw [if_neg c22] at H
           exact absurd H (by simp)
         ·rw [if_neg c21] at H
          exact absurd H (by simp)
     ·rw [if_neg c8] at H
      have c8b0 : decide (x6_1 < (l0.length : Int)) = false := decide_eq_false c8
      clear c8
      replace H := Option.bind_eq_some_iff.mp H
      obtain ⟨t184, A260, H⟩ := H
      replace H : (some t184) = some r := H
      have A26 := Aside0.mk A260
      clear A260
      obtain rfl := Option.some.inj H
      obtain ⟨Ao27, co27, eo27⟩ := Kd.R_slice HO_5.out
      subst eo27
      go_wp2_with (first | (go_at_call 110; (with_reducible refine (merinoref01_trim.calls k1 _ _ x5_1 t184 _ ?side1 ?side2 A26.out).mono ?_); (case side1 => exact qc_ (Kd.R_reads' HO_5.out).2.2); (case side2 => exact (Kd.R_reads' HO_5.out).2.1); rintro e w28 ⟨v185, rfl, ho0, hb⟩; have n0_ := Aside0.mk (Kd.R_elder' (qr_ HO_5.out) (Kd.R_base ho0) hb); have n1_ := Aside0.mk (Kd.R_lower (Kd.R_new' ho0 (Kd.R_lt (qr_ HO_5.out))) (below_size (q0_ HB.out))); have n2_ := Aside0.mk (below_step (q0_ HB.out) hb); clear HO_5; clear HB; have HO_5 := n0_; have HO186 := n1_; have HB := n2_; clear n0_ n1_ n2_; (try clear hb); (try clear hb2); (try clear hk); (try clear hi); (try clear ho0)))
      repeat (go_quiet (first | (go_at_call 110; (with_reducible refine (merinoref01_trim.calls k1 _ _ x5_1 t184 _ ?side1 ?side2 A26.out).mono ?_); (case side1 => exact qc_ (Kd.R_reads' HO_5.out).2.2); (case side2 => exact (Kd.R_reads' HO_5.out).2.1); rintro e w28 ⟨v185, rfl, ho0, hb⟩; have n0_ := Aside0.mk (Kd.R_elder' (qr_ HO_5.out) (Kd.R_base ho0) hb); have n1_ := Aside0.mk (Kd.R_lower (Kd.R_new' ho0 (Kd.R_lt (qr_ HO_5.out))) (below_size (q0_ HB.out))); have n2_ := Aside0.mk (below_step (q0_ HB.out) hb); clear HO_5; clear HB; have HO_5 := n0_; have HO186 := n1_; have HB := n2_; clear n0_ n1_ n2_; (try clear hb); (try clear hb2); (try clear hk); (try clear hi); (try clear ho0))); try go_wp2_with (first | (go_at_call 110; (with_reducible refine (merinoref01_trim.calls k1 _ _ x5_1 t184 _ ?side1 ?side2 A26.out).mono ?_); (case side1 => exact qc_ (Kd.R_reads' HO_5.out).2.2); (case side2 => exact (Kd.R_reads' HO_5.out).2.1); rintro e w28 ⟨v185, rfl, ho0, hb⟩; have n0_ := Aside0.mk (Kd.R_elder' (qr_ HO_5.out) (Kd.R_base ho0) hb); have n1_ := Aside0.mk (Kd.R_lower (Kd.R_new' ho0 (Kd.R_lt (qr_ HO_5.out))) (below_size (q0_ HB.out))); have n2_ := Aside0.mk (below_step (q0_ HB.out) hb); clear HO_5; clear HB; have HO_5 := n0_; have HO186 := n1_; have HB := n2_; clear n0_ n1_ n2_; (try clear hb); (try clear hb2); (try clear hk); (try clear hi); (try clear ho0))))
      go_ret
      exact ⟨_, by first | rfl | (simp [errW_none, errW_some] <;> rfl) | (simp only [← hji3]; first | rfl | (simp [errW_none, errW_some] <;> rfl)) | (simp [*, errW_none, errW_some] <;> rfl), by refine qr_ ?_; exact Kd.R_mono HO186.out (fun _ hk => trivial), (q0_ HB.out)⟩
  ·rw [if_neg c5] at H
   exact absurd H (by simp)
 ·rw [if_neg c4] at H
  exact absurd H (by simp)
def merinoref01_Of.l0 : Nat → Int → List Int → Bool → Option (Bool × List Int)
 | 0, _, _, _ => none
 | k + 1, x0, x3, x4 => if x0 = 0 then ((merinoref01_whole.f k x4 x3).bind fun bt203 => (some (bt203.1, bt203.2))) else (if (Int.tmod x0 10000) < 0 then (if x3.length < 17592186044416 then (merinoref01_Of.l0 k (wrap64 (Int.tdiv x0 10000)) (x3 ++ [wrap64 (-(Int.tmod x0 10000))]) x4) else (none)) else (if x3.length < 17592186044416 then (merinoref01_Of.l0 k (wrap64 (Int.tdiv x0 10000)) (x3 ++ [Int.tmod x0 10000]) x4) else (none)))
def merinoref01_Of.f (k : Nat) (a0 : Int) : Option (Bool × List Int) := merinoref01_Of.l0 k a0 ([] : List Int) (decide (a0 < 0))
set_option maxHeartbeats 8000000 in
set_option maxRecDepth 100000 in
theorem merinoref01_Of.calls (k : Nat) (a0 : Int) (r1 : Bool) (r2 : List Int) (w : World) (h : merinoref01_Of.f k a0 = some (r1, r2)) :
  Calls Tryd.prog 24 #[.int .i64 a0] w fun e w' => ∃ v1_ : Value, e = .returned (.agg #[.bool r1, v1_]) ∧ Kd.R (Kd.int .i64) 3 w' w.heap.size (fun _ => True) v1_ r2 ∧ Below w.heap.size w w' := by
 have hu31 := Tryd.underlying31
 have HB := Aside0.mk (Below.refl w.heap.size w)
 have H : (merinoref01_Of.l0 k a0 ([] : List Int) (decide (a0 < 0))) = some (r1, r2) := h
 clear h
 have H' := Aside0.mk H
 clear H
 go_enter Tryd.func24, Tryd.ntmps24
 go_wp2_with (first | ((with_reducible refine gate_dst (N := 2) rfl ?_); refine qx_ 2 #[.bool false, .slice none 0 0] 31 ?hr ?_; (case hr => first | (go_simp; done) | (go_simp; rfl)); intro gb202 hg w2 hbox hb; have n0_ := Aside0.mk (below_step (q0_ HB.out) hb); have n1_ := Aside0.mk (hbox); have n2_ := Aside0.mk (qs_ hg (q0_ HB.out) : w.heap.size ≤ gb202); have n3_ := n2_; clear HB; have HB := n0_; have BK202 := n1_; have GW202 := n2_; have GE202 := n3_; clear n0_ n1_ n2_ n3_; clear hb hbox hg))
 go_loopg [0, 3] k (fun kq v0 v3 w' => ∃ (x0_1 : Int) (x3_1 : List Int), v0 = .int .i64 x0_1 ∧ Aside0 (merinoref01_Of.l0 kq x0_1 x3_1 (decide (a0 < 0)) = some (r1, r2)) ∧ Aside0 (kq ≤ k) ∧ Aside0 (Kd.R (Kd.int .i64) 3 w' w.heap.size (fun _ => True) v3 x3_1) ∧ Aside0 (w'.heap[gb202]? = some (.cells #[.bool false, (.slice none 0 0)] 31 (0, 0))) ∧ Aside0 (Below w.heap.size w w'))
 case atStart => exact ⟨(a0), (([] : List Int)), (by first | rfl | (simp; done) | (simp [*]; done)), H', ⟨Nat.le_refl _⟩, ⟨by first | exact Kd.R_nil _ _ _ _ _ | exact Kd.N_nil _ _ _ _ _ | exact Kd.V_nil _ _ _ _ _ | exact Kd.Q_nil _ _ _ _ _ | exact Kd.S_nil _ _ _ _ _⟩, ⟨by refine qb_ ?_; exact BK202.out⟩, ⟨(q1_ HB.out GE202.out)⟩⟩
 case round =>
  clear H'
  try clear c2
  try clear p2
  obtain ⟨x0_1, x3_1, rfl, HA, HK1, HO_3, BK202, HB⟩ := hrel
  cases gk with
  | zero => exact absurd HA.out (by simp [merinoref01_Of.l0])
  | succ k1 =>
   have H := HA.out
   clear HA
   simp only [merinoref01_Of.l0] at H
   by_cases c3 : x0_1 = 0
   ·rw [if_pos c3] at H
    have c3b0 : (x0_1 == 0) = true := beq_iff_eq.mpr c3
    have c3b1 : (x0_1 != 0) = false := bne_eq_false_iff_eq.mpr c3
    clear c3
    replace H := Option.bind_eq_some_iff.mp H
    obtain ⟨⟨t203, t204⟩, A40, H⟩ := H
    replace H : (some (t203, t204)) = some (r1, r2) := H
    have A4 := Aside0.mk A40
    clear A40
    simp only [Option.some.injEq, Prod.mk.injEq] at H
    obtain ⟨rfl, rfl⟩ := H
    obtain ⟨Ao5, co5, eo5⟩ := Kd.R_slice HO_3.out
    subst eo5
    go_wp2_with (first | ((with_reducible refine gate_callee (f := 73) rfl ?_); refine goesL_ (some 24) rfl rfl Tryd.func73 (by kernel_rfl) rfl #[.bool (decide (a0 < 0)), .slice Ao5 x3_1.length co5] rfl qe_ ?_; (with_reducible refine (merinoref01_whole.calls k1 (decide (a0 < 0)) _ _ x3_1 t203 t204 _ ?side1 ?side2 A4.out).mono ?_); (case side1 => exact qc_ (Kd.R_reads' HO_3.out).2.2); (case side2 => exact (Kd.R_reads' HO_3.out).2.1); rintro e w6 ⟨v205, rfl, ho0, hb⟩; refine ⟨_, rfl, ?_⟩; have n0_ := Aside0.mk (Kd.R_elder' (qr_ HO_3.out) (Kd.R_base ho0) hb); have n1_ := Aside0.mk (Kd.R_lower (Kd.R_new' ho0 (Kd.R_lt (qr_ HO_3.out))) (below_size (q1_ HB.out GE202.out))); have n2_ := Aside0.mk (qk_ BK202.out hb); have n3_ := Aside0.mk (below_step (q1_ HB.out GE202.out) hb); clear HO_3; clear BK202; clear HB; have HO_3 := n0_; have HO206 := n1_; have BK202 := n2_; have HB := n3_; clear n0_ n1_ n2_ n3_; (try clear hb); (try clear hb2); (try clear hk); (try clear hi); (try clear ho0); have hcz7_0 : w6.cell? ⟨gb202, 0, none⟩ = some (.bool false) := (blk_cell BK202.out 0).trans rfl; have hcz7_1 : w6.cell? ⟨gb202, 1, none⟩ = some (.slice none 0 0) := (blk_cell BK202.out 1).trans rfl; have hfz7_0 := blk_frozen BK202.out 0; have hfz7_1 := blk_frozen BK202.out 1; obtain ⟨Ao8, co8, eo8⟩ := Kd.R_slice HO206.out; subst eo8))
    refine bodyPost_ret (results_cell_row rfl _ _ gb202 31 #[.bool t203, .slice Ao8 t204.length co8] (0, 0) _ rfl (by refine qb_ ?_; refine blk_put (cs := #[.bool t203, .slice none 0 0]) ?_ 1 _ rfl; refine qb_ ?_; refine blk_put (cs := #[.bool false, .slice none 0 0]) ?_ 0 _ rfl; refine qb_ ?_; exact BK202.out) Tryd.underlying31 rfl (by kernel_rfl)) rfl ?_
    exact ⟨_, by first | rfl | (simp [errW_none, errW_some] <;> rfl) | (simp [*, errW_none, errW_some] <;> rfl), by refine qr_ ?_; exact Kd.R_mono (Kd.R_far (p := ⟨gb202, 1, none⟩) (Kd.R_far (p := ⟨gb202, 0, none⟩) (Kd.R_types HO206.out BK202.out (by decide)) (fun _ hk => hk.2) (.bool t203)) (fun _ hk => hk.2) (.slice Ao8 t204.length co8)) (fun _ hk => trivial), (q1_ HB.out GE202.out)⟩
   ·rw [if_neg c3] at H
    have c3b0 : (x0_1 == 0) = false := beq_eq_false_iff_ne.mpr c3
    have c3b1 : (x0_1 != 0) = true := bne_iff_ne.mpr c3
    by_cases c9 : (Int.tmod x0_1 10000) < 0
    ·rw [if_pos c9] at H
     have c9b0 : decide ((Int.tmod x0_1 10000) < 0) = true := decide_eq_true c9
     clear c9
     by_cases c10 : x3_1.length < 17592186044416
     ·rw [if_pos c10] at H
      have LMc10 := Aside0.mk c10
      clear c10
      obtain ⟨y207, hy207⟩ : ∃ y_ : List Int, y_ = (x3_1 ++ [wrap64 (-(Int.tmod x0_1 10000))]) := ⟨_, rfl⟩
      replace H : (merinoref01_Of.l0 k1 (wrap64 (Int.tdiv x0_1 10000)) y207 (decide (a0 < 0))) = some (r1, r2) := by first | (rw [hy207]; with_reducible exact H) | (have H2_ := (Option.bind_some _ _).symm.trans H; rw [hy207]; with_reducible exact H2_) | (have H2_ := (Option.bind_some _ _).symm.trans H; with_reducible exact H2_) | with_reducible exact H | (rw [hy207]; exact H) | exact H
      have Ny207 := Aside0.mk hy207
      clear hy207
      have H' := Aside0.mk H
      clear H
      go_wp2_with (first | ((with_reducible refine gate_builtin (b := .append) (xs := #[.tmp 16, .tmp 18]) rfl ?_); at_builtin; refine Kd.R_append (Kd.int .i64) (w0 := w) w.heap.size rfl (.tmp 16) (.tmp 18) 29 3 (.int .i64 0) 8 rfl Tryd.underlying29 info3 rfl (by decide) (by omega) u3 x3_1 (wrap64 (-(Int.tmod x0_1 10000))) [.int .i64 (wrap64 (-(Int.tmod x0_1 10000)))] (fun _ => True) (fun _ => False) rfl rfl ?aP (fun _ hk => hk.elim) ?aF ?aO ?aB ?aS ?aL ?_; (case aP => exact rfl); (case aB => exact (q1_ HB.out GE202.out)); (case aF => exact (fun _ _ => trivial)); (case aO => exact (qr_ HO_3.out)); (case aS => exact (below_size (q1_ HB.out GE202.out))); (case aL => have := LMc10.out; omega); intro v208 w11 ho hb hg hat; rw [← Ny207.out] at ho; have n0_ := Aside0.mk (blk_grown (g := gb202) (o := .cells #[.bool false, .slice none 0 0] 31 (0, 0)) (qb_ BK202.out) hg (Kd.R_ne HO_3.out BK202.out (by decide))); have n1_ := Aside0.mk (hb); have n2_ := Aside0.mk (ho); clear BK202; clear HB; clear HO_3; have BK202 := n0_; have HB := n1_; have HO209 := n2_; clear n0_ n1_ n2_; clear ho hb hg hat))
      go_roundg k1
      case measure => have := HK1.out; omega
      case rel => exact ⟨(wrap64 (Int.tdiv x0_1 10000)), (y207), (by first | rfl | (simp; done) | (simp [*]; done)), H', ⟨by have := HK1.out; omega⟩, ⟨by refine qr_ ?_; exact HO209.out⟩, ⟨by refine qb_ ?_; exact BK202.out⟩, ⟨(q1_ HB.out GE202.out)⟩⟩
     ·rw [if_neg c10] at H
      exact absurd H (by simp)
    ·rw [if_neg c9] at H
     have c9b0 : decide ((Int.tmod x0_1 10000) < 0) = false := decide_eq_false c9
     clear c9
     by_cases c12 : x3_1.length < 17592186044416
     ·rw [if_pos c12] at H
      have LMc12 := Aside0.mk c12
      clear c12
      obtain ⟨y210, hy210⟩ : ∃ y_ : List Int, y_ = (x3_1 ++ [Int.tmod x0_1 10000]) := ⟨_, rfl⟩
      replace H : (merinoref01_Of.l0 k1 (wrap64 (Int.tdiv x0_1 10000)) y210 (decide (a0 < 0))) = some (r1, r2) := by first | (rw [hy210]; with_reducible exact H) | (have H2_ := (Option.bind_some _ _).symm.trans H; rw [hy210]; with_reducible exact H2_) | (have H2_ := (Option.bind_some _ _).symm.trans H; with_reducible exact H2_) | with_reducible exact H | (rw [hy210]; exact H) | exact H
      have Ny210 := Aside0.mk hy210
      clear hy210
      have H' := Aside0.mk H
      clear H
      go_wp2_with (first | ((with_reducible refine gate_builtin (b := .append) (xs := #[.tmp 16, .tmp 18]) rfl ?_); at_builtin; refine Kd.R_append (Kd.int .i64) (w0 := w) w.heap.size rfl (.tmp 16) (.tmp 18) 29 3 (.int .i64 0) 8 rfl Tryd.underlying29 info3 rfl (by decide) (by omega) u3 x3_1 (Int.tmod x0_1 10000) [.int .i64 (Int.tmod x0_1 10000)] (fun _ => True) (fun _ => False) rfl rfl ?aP (fun _ hk => hk.elim) ?aF ?aO ?aB ?aS ?aL ?_; (case aP => exact rfl); (case aB => exact (q1_ HB.out GE202.out)); (case aF => exact (fun _ _ => trivial)); (case aO => exact (qr_ HO_3.out)); (case aS => exact (below_size (q1_ HB.out GE202.out))); (case aL => have := LMc12.out; omega); intro v211 w13 ho hb hg hat; rw [← Ny210.out] at ho; have n0_ := Aside0.mk (blk_grown (g := gb202) (o := .cells #[.bool false, .slice none 0 0] 31 (0, 0)) (qb_ BK202.out) hg (Kd.R_ne HO_3.out BK202.out (by decide))); have n1_ := Aside0.mk (hb); have n2_ := Aside0.mk (ho); clear BK202; clear HB; clear HO_3; have BK202 := n0_; have HB := n1_; have HO212 := n2_; clear n0_ n1_ n2_; clear ho hb hg hat))
      go_roundg k1
      case measure => have := HK1.out; omega
      case rel => exact ⟨(wrap64 (Int.tdiv x0_1 10000)), (y210), (by first | rfl | (simp; done) | (simp [*]; done)), H', ⟨by have := HK1.out; omega⟩, ⟨by refine qr_ ?_; exact HO212.out⟩, ⟨by refine qb_ ?_; exact BK202.out⟩, ⟨(q1_ HB.out GE202.out)⟩⟩
     ·rw [if_neg c12] at H
      exact absurd H (by simp)
def merinoref01_cmpD.l0 : Nat → List Int → List Int → Int → Option (Int)
 | 0, _, _, _ => none
 | k + 1, x0, x1, x5 => if x5 ≥ 0 then (if 0 ≤ x5 then (if x5 < (x0.length : Int) then (if x5 < (x1.length : Int) then (if (rd x0 x5) < (rd x1 x5) then (some (-1)) else (if (rd x0 x5) > (rd x1 x5) then (some 1) else (merinoref01_cmpD.l0 k x0 x1 (wrap64 (x5 - 1))))) else (none)) else (none)) else (none)) else (some 0)
def merinoref01_cmpD.f (k : Nat) (l0 : List Int) (l1 : List Int) : Option (Int) := if (l0.length : Int) < (l1.length : Int) then (some (-1)) else (if (l0.length : Int) > (l1.length : Int) then (some 1) else (merinoref01_cmpD.l0 k l0 l1 (wrap64 ((l0.length : Int) - 1))))
set_option maxHeartbeats 8000000 in
set_option maxRecDepth 100000 in
theorem merinoref01_cmpD.calls (k : Nat) (A0 : Option Addr) (c0 : Nat) (l0 : List Int) (A1 : Option Addr) (c1 : Nat) (l1 : List Int) (r : Int) (w : World) (hr0 : Kd.C (Kd.int .i64) w A0 l0.length l0) (hc0 : l0.length ≤ c0) (hr1 : Kd.C (Kd.int .i64) w A1 l1.length l1) (hc1 : l1.length ≤ c1) (h : merinoref01_cmpD.f k l0 l1 = some r) :
  Calls Tryd.prog 76 #[.slice A0 l0.length c0, .slice A1 l1.length c1] w fun e w' => e = .returned (.int .i64 r) ∧ Drawn0 w w' := by
 have HR0 := Aside0.mk hr0
 have HC0 := Aside0.mk hc0
 clear hr0 hc0
 have HR1 := Aside0.mk hr1
 have HC1 := Aside0.mk hc1
 clear hr1 hc1
 have H : (if (l0.length : Int) < (l1.length : Int) then (some (-1)) else (if (l0.length : Int) > (l1.length : Int) then (some 1) else (merinoref01_cmpD.l0 k l0 l1 (wrap64 ((l0.length : Int) - 1))))) = some r := h
 clear h
 by_cases c3 : (l0.length : Int) < (l1.length : Int)
 ·rw [if_pos c3] at H
  have c3b0 : decide ((l0.length : Int) < (l1.length : Int)) = true := decide_eq_true c3
  have c3b1 : decide (l0.length < l1.length) = true := decide_eq_true (Int.ofNat_lt.mp c3)
  clear c3
  obtain rfl := Option.some.inj H
  go_enter Tryd.func76, Tryd.ntmps76
  go_wp2
  repeat (go_quiet (fail); try go_wp2)
  go_ret
  exact ⟨by first | rfl | (simp; done) | (simp [*]; done), by repeat (first | exact Drawn0.refl _ | apply Drawn0.step)⟩
 ·rw [if_neg c3] at H
  have c3b0 : decide ((l0.length : Int) < (l1.length : Int)) = false := decide_eq_false c3
  have c3b1 : decide (l0.length < l1.length) = false := decide_eq_false (fun h => c3 (Int.ofNat_lt.mpr h))
  clear c3
  by_cases c4 : (l0.length : Int) > (l1.length : Int)
  ·rw [if_pos c4] at H
   have c4b0 : decide ((l1.length : Int) < (l0.length : Int)) = true := decide_eq_true c4
   have c4b1 : decide (l1.length < l0.length) = true := decide_eq_true (Int.ofNat_lt.mp c4)
   clear c4
   obtain rfl := Option.some.inj H
   go_enter Tryd.func76, Tryd.ntmps76
   go_wp2
   repeat (go_quiet (fail); try go_wp2)
   go_ret
   exact ⟨by first | rfl | (simp; done) | (simp [*]; done), by repeat (first | exact Drawn0.refl _ | apply Drawn0.step)⟩
  ·rw [if_neg c4] at H
   have c4b0 : decide ((l1.length : Int) < (l0.length : Int)) = false := decide_eq_false c4
   have c4b1 : decide (l1.length < l0.length) = false := decide_eq_false (fun h => c4 (Int.ofNat_lt.mpr h))
   clear c4
   have H' := Aside0.mk H
   clear H
   go_enter Tryd.func76, Tryd.ntmps76
   go_wp2
   repeat (go_quiet (fail); try go_wp2)
   go_loopg [5] k (fun kq v5 w' => ∃ (x5_1 : Int), v5 = .int .i64 x5_1 ∧ Aside0 (merinoref01_cmpD.l0 kq l0 l1 x5_1 = some r) ∧ Aside0 (kq ≤ k) ∧ Drawn0 w w')
   case atStart => exact ⟨(wrap64 ((l0.length : Int) - 1)), (by first | rfl | (simp; done) | (simp [*]; done)), H', ⟨Nat.le_refl _⟩, by repeat (first | exact Drawn0.refl _ | apply Drawn0.step)⟩
   case round =>
    clear H'
    try clear c1
    try clear p2
    try clear c3
    try clear c3b0
    try clear c3b1
    try clear c4
    try clear c4b0
    try clear c4b1
    obtain ⟨x5_1, rfl, HA, HK1, ⟨m1, rfl⟩⟩ := hrel
    cases gk with
    | zero => exact absurd HA.out (by simp [merinoref01_cmpD.l0])
    | succ k1 =>
     have H := HA.out
     clear HA
     simp only [merinoref01_cmpD.l0] at H
     by_cases c5 : x5_1 ≥ 0
     ·rw [if_pos c5] at H
      have c5b0 : decide (0 ≤ x5_1) = true := decide_eq_true c5
      clear c5
      by_cases c6 : 0 ≤ x5_1
      ·rw [if_pos c6] at H
       have c6b0 : decide (0 ≤ x5_1) = true := decide_eq_true c6
       clear c6
       by_cases c7 : x5_1 < (l0.length : Int)
       ·rw [if_pos c7] at H
        have c7b0 : decide (x5_1 < (l0.length : Int)) = true := decide_eq_true c7
        clear c7
        by_cases c8 : x5_1 < (l1.length : Int)
        ·rw [if_pos c8] at H
         have c8b0 : decide (x5_1 < (l1.length : Int)) = true := decide_eq_true c8
         clear c8
         by_cases c9 : (rd l0 x5_1) < (rd l1 x5_1)
         ·rw [if_pos c9] at H
          have c9b0 : decide ((rd l0 x5_1) < (rd l1 x5_1)) = true := decide_eq_true c9
          clear c9
          obtain rfl := Option.some.inj H
          have p219 : 0 ≤ (x5_1 : Int) := od_
          have q219 : x5_1 < (l0.length : Int) := od_
          obtain ⟨ad219, e219, hx219_0⟩ := Kd.at_int HR0.out x5_1 p219 q219
          cases e219
          replace p219 := eq_true p219
          replace q219 := eq_true q219
          have p220 : 0 ≤ (x5_1 : Int) := od_
          have q220 : x5_1 < (l1.length : Int) := od_
          obtain ⟨ad220, e220, hx220_0⟩ := Kd.at_int HR1.out x5_1 p220 q220
          cases e220
          replace p220 := eq_true p220
          replace q220 := eq_true q220
          go_wp2
          repeat (go_quiet (fail); try go_wp2)
          go_ret
          exact ⟨by first | rfl | (simp; done) | (simp [*]; done), by repeat (first | exact Drawn0.refl _ | apply Drawn0.step)⟩
         ·rw [if_neg c9] at H
          have c9b0 : decide ((rd l0 x5_1) < (rd l1 x5_1)) = false := decide_eq_false c9
          clear c9
          by_cases c10 : (rd l0 x5_1) > (rd l1 x5_1)
          ·rw [if_pos c10] at H
           have c10b0 : decide ((rd l1 x5_1) < (rd l0 x5_1)) = true := decide_eq_true c10
           clear c10
           obtain rfl := Option.some.inj H
           have p219 : 0 ≤ (x5_1 : Int) := od_
           have q219 : x5_1 < (l0.length : Int) := od_
           obtain ⟨ad219, e219, hx219_0⟩ := Kd.at_int HR0.out x5_1 p219 q219
           cases e219
           replace p219 := eq_true p219
           replace q219 := eq_true q219
           have p220 : 0 ≤ (x5_1 : Int) := od_
           have q220 : x5_1 < (l1.length : Int) := od_
           obtain ⟨ad220, e220, hx220_0⟩ := Kd.at_int HR1.out x5_1 p220 q220
           cases e220
           replace p220 := eq_true p220
           replace q220 := eq_true q220
           have p221 : 0 ≤ (x5_1 : Int) := od_
           have q221 : x5_1 < (l0.length : Int) := od_
           obtain ⟨ad221, e221, hx221_0⟩ := Kd.at_int HR0.out x5_1 p221 q221
           obtain rfl : ad219 = ad221 := (by injection e221)
           replace p221 := eq_true p221
           replace q221 := eq_true q221
           have p222 : 0 ≤ (x5_1 : Int) := od_
           have q222 : x5_1 < (l1.length : Int) := od_
           obtain ⟨ad222, e222, hx222_0⟩ := Kd.at_int HR1.out x5_1 p222 q222
           obtain rfl : ad220 = ad222 := (by injection e222)
           replace p222 := eq_true p222
           replace q222 := eq_true q222
           go_wp2
           repeat (go_quiet (fail); try go_wp2)
           go_ret
           exact ⟨by first | rfl | (simp; done) | (simp [*]; done), by repeat (first | exact Drawn0.refl _ | apply Drawn0.step)⟩
          ·rw [if_neg c10] at H
           have c10b0 : decide ((rd l1 x5_1) < (rd l0 x5_1)) = false := decide_eq_false c10
           clear c10
           have H' := Aside0.mk H
           clear H
           have p219 : 0 ≤ (x5_1 : Int) := od_
           have q219 : x5_1 < (l0.length : Int) := od_
           obtain ⟨ad219, e219, hx219_0⟩ := Kd.at_int HR0.out x5_1 p219 q219
           cases e219
           replace p219 := eq_true p219
           replace q219 := eq_true q219
           have p220 : 0 ≤ (x5_1 : Int) := od_
           have q220 : x5_1 < (l1.length : Int) := od_
           obtain ⟨ad220, e220, hx220_0⟩ := Kd.at_int HR1.out x5_1 p220 q220
           cases e220
           replace p220 := eq_true p220
           replace q220 := eq_true q220
           have p221 : 0 ≤ (x5_1 : Int) := od_
           have q221 : x5_1 < (l0.length : Int) := od_
           obtain ⟨ad221, e221, hx221_0⟩ := Kd.at_int HR0.out x5_1 p221 q221
           obtain rfl : ad219 = ad221 := (by injection e221)
           replace p221 := eq_true p221
           replace q221 := eq_true q221
           have p222 : 0 ≤ (x5_1 : Int) := od_
           have q222 : x5_1 < (l1.length : Int) := od_
           obtain ⟨ad222, e222, hx222_0⟩ := Kd.at_int HR1.out x5_1 p222 q222
           obtain rfl : ad220 = ad222 := (by injection e222)
           replace p222 := eq_true p222
           replace q222 := eq_true q222
           go_wp2
           repeat (go_quiet (fail); try go_wp2)
           go_roundg k1
           case measure => have := HK1.out; omega
           case rel => exact ⟨(wrap64 (x5_1 - 1)), (by first | rfl | (simp; done) | (simp [*]; done)), H', ⟨by have := HK1.out; omega⟩, by repeat (first | exact Drawn0.refl _ | apply Drawn0.step)⟩
        ·rw [if_neg c8] at H
         exact absurd H (by simp)
       ·rw [if_neg c7] at H
        exact absurd H (by simp)
      ·rw [if_neg c6] at H
       exact absurd H (by simp)
     ·rw [if_neg c5] at H
      have c5b0 : decide (0 ≤ x5_1) = false := decide_eq_false c5
      clear c5
      obtain rfl := Option.some.inj H
      go_wp2
      repeat (go_quiet (fail); try go_wp2)
      go_ret
      exact ⟨by first | rfl | (simp; done) | (simp [*]; done), by repeat (first | exact Drawn0.refl _ | apply Drawn0.step)⟩
def merinoref01_Times.f (k : Nat) (a0_0 : Bool) (l0_1 : List Int) (a1_0 : Bool) (l1_1 : List Int) : Option (Bool × List Int) := (merinoref01_mulD.f k l0_1 l1_1).bind fun t195 => ((merinoref01_whole.f k (a0_0 != a1_0) t195).bind fun bt198 => (some (bt198.1, bt198.2)))
def merinoref01_Times.T1 : Bool × List (List Nat × List Nat) := (true, [([], []), ([0], [0]), ([], []), ([2], [2]), ([1, 3], [1, 3]), ([], []), ([5], [5]), ([], []), ([7], [7]), ([6, 8], [6, 8]), ([4, 9, 9], [4, 9]), ([10, 10, 0, 1, 2, 3, 4, 5, 6, 7, 8, 9, 10], [10])])
def merinoref01_Times.B1 : List Nat := [0, 1, 0, 4, 15, 0, 32, 0, 128, 480, 1023, 2047]
theorem merinoref01_Times.tab1 : rtab .any (opsOf Tryd.f22 1) = merinoref01_Times.T1 := by kernel_rfl
theorem merinoref01_Times.bits1 : waitsOk merinoref01_Times.T1.2 merinoref01_Times.B1 = true := by kernel_rfl
set_option maxHeartbeats 8000000 in
set_option maxRecDepth 100000 in
theorem merinoref01_Times.calls (k : Nat) (a0_0 : Bool) (A0_1 : Option Addr) (c0_1 : Nat) (l0_1 : List Int) (a1_0 : Bool) (A1_1 : Option Addr) (c1_1 : Nat) (l1_1 : List Int) (r1 : Bool) (r2 : List Int) (w : World) (hr0_1 : Kd.C (Kd.int .i64) w A0_1 l0_1.length l0_1) (hc0_1 : l0_1.length ≤ c0_1) (hr1_1 : Kd.C (Kd.int .i64) w A1_1 l1_1.length l1_1) (hc1_1 : l1_1.length ≤ c1_1) (h : merinoref01_Times.f k a0_0 l0_1 a1_0 l1_1 = some (r1, r2)) :
  Calls Tryd.prog 22 #[.agg #[.bool a0_0, .slice A0_1 l0_1.length c0_1], .agg #[.bool a1_0, .slice A1_1 l1_1.length c1_1]] w fun e w' => ∃ v1_ : Value, e = .returned (.agg #[.bool r1, v1_]) ∧ Kd.R (Kd.int .i64) 3 w' w.heap.size (fun _ => True) v1_ r2 ∧ Below w.heap.size w w' := by
 have hu31 := Tryd.underlying31
 have HR0_1 := Aside0.mk hr0_1
 have HC0_1 := Aside0.mk hc0_1
 clear hr0_1 hc0_1
 have HR1_1 := Aside0.mk hr1_1
 have HC1_1 := Aside0.mk hc1_1
 clear hr1_1 hc1_1
 have HB := Aside0.mk (Below.refl w.heap.size w)
 have H : ((merinoref01_mulD.f k l0_1 l1_1).bind fun t195 => ((merinoref01_whole.f k (a0_0 != a1_0) t195).bind fun bt198 => (some (bt198.1, bt198.2)))) = some (r1, r2) := h
 clear h
 replace H := Option.bind_eq_some_iff.mp H
 obtain ⟨t195, A30, H⟩ := H
 replace H : ((merinoref01_whole.f k (a0_0 != a1_0) t195).bind fun bt198 => (some (bt198.1, bt198.2))) = some (r1, r2) := H
 have A3 := Aside0.mk A30
 clear A30
 replace H := Option.bind_eq_some_iff.mp H
 obtain ⟨⟨t198, t199⟩, A40, H⟩ := H
 replace H : (some (t198, t199)) = some (r1, r2) := H
 have A4 := Aside0.mk A40
 clear A40
 simp only [Option.some.injEq, Prod.mk.injEq] at H
 obtain ⟨rfl, rfl⟩ := H
 go_enter Tryd.func22, Tryd.ntmps22
 try go_wp2_with (first | ((with_reducible refine gate_dst (N := 2) rfl ?_); refine qx_ 2 #[.bool a0_0, .slice A0_1 l0_1.length c0_1] 31 ?hr ?_; (case hr => first | (go_simp; done) | (go_simp; rfl)); intro gb192 hg w5 hbox hb; have n0_ := Aside0.mk (below_step (q0_ HB.out) hb); have n1_ := Aside0.mk (hbox); have n2_ := Aside0.mk (qs_ hg (q0_ HB.out) : w.heap.size ≤ gb192); have n3_ := n2_; clear HB; have HB := n0_; have BK192 := n1_; have GW192 := n2_; have GE192 := n3_; clear n0_ n1_ n2_ n3_; clear hb hbox hg) | ((with_reducible refine gate_dst (N := 3) rfl ?_); refine qx_ 3 #[.bool a1_0, .slice A1_1 l1_1.length c1_1] 31 ?hr ?_; (case hr => first | (go_simp; done) | (go_simp; rfl)); intro gb193 hg w6 hbox hb; have n0_ := Aside0.mk (qk_ BK192.out hb); have n1_ := Aside0.mk (below_step (q1_ HB.out GE192.out) hb); have n2_ := Aside0.mk (hbox); have n3_ := Aside0.mk (qs_ hg (q1_ HB.out GE192.out) : w.heap.size ≤ gb193); have n4_ := n3_; have n5_ := Aside0.mk (qn_ hg BK192.out); have n6_ := Aside0.mk (Ne.symm (qn_ hg BK192.out)); clear BK192; clear HB; have BK192 := n0_; have HB := n1_; have BK193 := n2_; have GW193 := n3_; have GE193 := n4_; have NB192_193 := n5_; have NB193_192 := n6_; clear n0_ n1_ n2_ n3_ n4_ n5_ n6_; clear hb hbox hg) | ((with_reducible refine gate_dst (N := 4) rfl ?_); refine qx_ 4 #[.bool false, .slice none 0 0] 31 ?hr ?_; (case hr => first | (go_simp; done) | (go_simp; rfl)); intro gb194 hg w7 hbox hb; have n0_ := Aside0.mk (qk_ BK192.out hb); have n1_ := Aside0.mk (qk_ BK193.out hb); have n2_ := Aside0.mk (below_step (q2_ HB.out GE192.out GE193.out) hb); have n3_ := Aside0.mk (hbox); have n4_ := Aside0.mk (qs_ hg (q2_ HB.out GE192.out GE193.out) : w.heap.size ≤ gb194); have n5_ := n4_; have n6_ := Aside0.mk (qn_ hg BK192.out); have n7_ := Aside0.mk (Ne.symm (qn_ hg BK192.out)); have n8_ := Aside0.mk (qn_ hg BK193.out); have n9_ := Aside0.mk (Ne.symm (qn_ hg BK193.out)); clear BK192; clear BK193; clear HB; have BK192 := n0_; have BK193 := n1_; have HB := n2_; have BK194 := n3_; have GW194 := n4_; have GE194 := n5_; have NB192_194 := n6_; have NB194_192 := n7_; have NB193_194 := n8_; have NB194_193 := n9_; clear n0_ n1_ n2_ n3_ n4_ n5_ n6_ n7_ n8_ n9_; clear hb hbox hg))
 have n0_ := Aside0.mk (blk_drew BK192.out)
 have n1_ := Aside0.mk (blk_drew BK193.out)
 have n2_ := Aside0.mk (blk_drew BK194.out)
 have n3_ := Aside0.mk (below_drew1 HB.out)
 clear BK192
 clear BK193
 clear BK194
 clear HB
 have BK192 := n0_
 have BK193 := n1_
 have BK194 := n2_
 have HB := n3_
 clear n0_ n1_ n2_ n3_
 refine start_ (n := 12) (S := fun w' => w'.cell? ⟨gb192, 0, none⟩ = some (.bool a0_0) ∧ w'.cell? ⟨gb192, 1, none⟩ = some (.slice A0_1 l0_1.length c0_1) ∧ w'.cell? ⟨gb193, 0, none⟩ = some (.bool a1_0) ∧ w'.cell? ⟨gb193, 1, none⟩ = some (.slice A1_1 l1_1.length c1_1)) (ds := []) #[false, false, false, false, false, false, false, false, false, false, false, false] (by kernel_rfl) rfl rfl ⟨(blk_cell BK192.out 0).trans rfl, (blk_cell BK192.out 1).trans rfl, (blk_cell BK193.out 0).trans rfl, (blk_cell BK193.out 1).trans rfl⟩ (fun hHeld => ?_); refine with_tabW merinoref01_Times.tab1 merinoref01_Times.bits1 (fun HT_ HW_ => ?_)
 generalize w7.drew = w8 at BK192 BK193 BK194 HB hHeld ⊢
 refine pu_ 0 5 12 1 HT_.out ?_
 refine pu_ 2 7 12 5 HT_.out ?_
 refine pu_ 5 10 12 37 HT_.out ?_
 refine pu_ 7 12 12 165 HT_.out ?_
 refine ta_ 1 6 12 167 rfl rfl HT_.out HW_.out hHeld (Or.inl ⟨by rfl, by rintro w' ⟨s0, s1, s2, s3⟩; go_simp; with_reducible rfl⟩) ?_
 refine ta_ 3 8 12 175 rfl rfl HT_.out HW_.out hHeld (Or.inl ⟨by rfl, by rintro w' ⟨s0, s1, s2, s3⟩; go_simp; with_reducible rfl⟩) ?_
 refine pu_ 4 9 12 191 HT_.out ?_
 refine ta_ 6 11 12 255 rfl rfl HT_.out HW_.out hHeld (Or.inl ⟨by rfl, by rintro w' ⟨s0, s1, s2, s3⟩; go_simp; with_reducible rfl⟩) ?_
 refine ta_ 8 13 12 511 rfl rfl HT_.out HW_.out hHeld (Or.inl ⟨by rfl, by rintro w' ⟨s0, s1, s2, s3⟩; go_simp; with_reducible rfl⟩) ?_
 refine one_ (i := 9) (N := some 14) #[true, true, true, true, true, true, true, true, true, true, false, false] rfl rfl (one_of HT_.out (by kernel_rfl)) (by decide) (fun K hK => ?_)
 refine goes_ Tryd.func74 (by kernel_rfl) rfl #[.slice A0_1 l0_1.length c0_1, .slice A1_1 l1_1.length c1_1] (by rfl) rfl rfl qe_ ?_
 with_reducible refine (merinoref01_mulD.calls k _ _ l0_1 _ _ l1_1 t195 _ ?side1 ?side2 ?side3 ?side4 A3.out).mono ?_
 (case side1 => exact qc_ (Kd.C_below HR0_1.out HB.out))
 (case side2 => exact HC0_1.out)
 (case side3 => exact qc_ (Kd.C_below HR1_1.out HB.out))
 (case side4 => exact HC1_1.out)
 rintro e w9 ⟨v196, rfl, ho0, hb⟩
 refine ⟨_, rfl, ?_⟩
 have n0_ := Aside0.mk (Kd.R_lower ho0 (below_size (q3_ HB.out GE192.out GE193.out GE194.out)))
 have n1_ := Aside0.mk (qk_ BK192.out hb)
 have n2_ := Aside0.mk (qk_ BK193.out hb)
 have n3_ := Aside0.mk (qk_ BK194.out hb)
 have n4_ := Aside0.mk (below_step (q3_ HB.out GE192.out GE193.out GE194.out) hb)
 clear BK192
 clear BK193
 clear BK194
 clear HB
 have HO197 := n0_
 have BK192 := n1_
 have BK193 := n2_
 have BK194 := n3_
 have HB := n4_
 clear n0_ n1_ n2_ n3_ n4_
 (try clear hb)
 (try clear hb2)
 (try clear hk)
 (try clear hi)
 (try clear ho0)
 obtain ⟨Ao10, co10, eo10⟩ := Kd.R_slice HO197.out
 (first | subst eo10 | (injection eo10 with f1_ f2_ f3_; have f4_ := f1_.symm; have f5_ := f3_.symm; clear f1_ f2_ f3_; subst f4_; subst f5_))
 refine hK.out _ _ ⟨(blk_cell BK192.out 0).trans rfl, (blk_cell BK192.out 1).trans rfl, (blk_cell BK193.out 0).trans rfl, (blk_cell BK193.out 1).trans rfl⟩ (fun hHeld => ?_)
 clear hK K
 refine norm_ (a' := ?_) ?_ ?_
 rotate_left
 ·show Act.put _ (some 14) _ = _
  simp only [Act.put, List.setIfInBounds_toArray, List.set_cons_zero, List.set_cons_succ, i64_w, i32_w]
  rfl
 refine one_ (i := 10) (N := some 15) #[true, true, true, true, true, true, true, true, true, true, true, false] rfl rfl (one_of HT_.out (by kernel_rfl)) (by decide) (fun K hK => ?_)
 refine goes_ Tryd.func73 (by kernel_rfl) rfl #[.bool (a0_0 != a1_0), .slice Ao10 t195.length co10] (by rfl) rfl rfl qe_ ?_
 with_reducible refine (merinoref01_whole.calls k (a0_0 != a1_0) _ _ t195 t198 t199 _ ?side1 ?side2 A4.out).mono ?_
 (case side1 => exact qc_ (Kd.R_reads' HO197.out).2.2)
 (case side2 => exact (Kd.R_reads' HO197.out).2.1)
 rintro e w11 ⟨v200, rfl, ho0, hb⟩
 refine ⟨_, rfl, ?_⟩
 have n0_ := Aside0.mk (Kd.R_elder' (qr_ HO197.out) (Kd.R_base ho0) hb)
 have n1_ := Aside0.mk (Kd.R_lower (Kd.R_new' ho0 (Kd.R_lt (qr_ HO197.out))) (below_size (q3_ HB.out GE192.out GE193.out GE194.out)))
 have n2_ := Aside0.mk (qk_ BK192.out hb)
 have n3_ := Aside0.mk (qk_ BK193.out hb)
 have n4_ := Aside0.mk (qk_ BK194.out hb)
 have n5_ := Aside0.mk (below_step (q3_ HB.out GE192.out GE193.out GE194.out) hb)
 clear HO197
 clear BK192
 clear BK193
 clear BK194
 clear HB
 have HO197 := n0_
 have HO201 := n1_
 have BK192 := n2_
 have BK193 := n3_
 have BK194 := n4_
 have HB := n5_
 clear n0_ n1_ n2_ n3_ n4_ n5_
 (try clear hb)
 (try clear hb2)
 (try clear hk)
 (try clear hi)
 (try clear ho0)
 obtain ⟨Ao13, co13, eo13⟩ := Kd.R_slice HO201.out
 (first | subst eo13 | (injection eo13 with f1_ f2_ f3_; have f4_ := f1_.symm; have f5_ := f3_.symm; clear f1_ f2_ f3_; subst f4_; subst f5_))
 refine hK.out _ _ ⟨(blk_cell BK192.out 0).trans rfl, (blk_cell BK192.out 1).trans rfl, (blk_cell BK193.out 0).trans rfl, (blk_cell BK193.out 1).trans rfl⟩ (fun hHeld => ?_)
 clear hK K
 refine norm_ (a' := ?_) ?_ ?_
 rotate_left
 ·show Act.put _ (some 15) _ = _
  simp only [Act.put, List.setIfInBounds_toArray, List.set_cons_zero, List.set_cons_succ, i64_w, i32_w]
  rfl
 refine one_ (i := 11) (N := none) #[true, true, true, true, true, true, true, true, true, true, true, true] rfl rfl (one_of HT_.out (by kernel_rfl)) (by decide) (fun K hK => ?_)
 have hs12 : w11.cell? ⟨gb194, 0, none⟩ = some (.bool false) := (blk_cell BK194.out 0).trans rfl
 have hfs12 := blk_frozen BK194.out 0
 have hns12_0 := NB192_194.out
 have hns12_1 := NB193_194.out
 have hms12_0 := NB194_192.out
 have hms12_1 := NB194_193.out
 have hs14 : w11.cell? ⟨gb194, 1, none⟩ = some (.slice none 0 0) := (blk_cell BK194.out 1).trans rfl
 have hfs14 := blk_frozen BK194.out 1
 have hns14_0 := NB192_194.out
 have hns14_1 := NB193_194.out
 have hms14_0 := NB194_192.out
 have hms14_1 := NB194_193.out
 refine skip_ (w1 := ?_) (by rfl) rfl ?_ ?_
 rotate_left
 ·go_simp
  rfl
 refine hK.out _ _ ⟨((cell_far (p := ⟨gb194, _, none⟩) NB192_194.out _).trans (((cell_far (p := ⟨gb194, _, none⟩) NB192_194.out _).trans (hHeld.1)))), ((cell_far (p := ⟨gb194, _, none⟩) NB192_194.out _).trans (((cell_far (p := ⟨gb194, _, none⟩) NB192_194.out _).trans (hHeld.2.1)))), ((cell_far (p := ⟨gb194, _, none⟩) NB193_194.out _).trans (((cell_far (p := ⟨gb194, _, none⟩) NB193_194.out _).trans (hHeld.2.2.1)))), ((cell_far (p := ⟨gb194, _, none⟩) NB193_194.out _).trans (((cell_far (p := ⟨gb194, _, none⟩) NB193_194.out _).trans (hHeld.2.2.2))))⟩ (fun hHeld => ?_)
 clear hK K
 refine done_ (done_of HT_.out (by kernel_rfl)) ?_
 try go_wp2
 refine bodyPost_ret (results_cell_row rfl _ _ gb194 31 #[.bool t198, .slice Ao13 t199.length co13] (0, 0) _ rfl (by refine qb_ ?_; refine blk_put (cs := #[.bool t198, .slice none 0 0]) ?_ 1 _ rfl; refine qb_ ?_; refine blk_put (cs := #[.bool false, .slice none 0 0]) ?_ 0 _ rfl; refine qb_ ?_; exact BK194.out) Tryd.underlying31 rfl (by kernel_rfl)) rfl ?_
 exact ⟨_, by first | rfl | (simp [errW_none, errW_some] <;> rfl) | (simp [*, errW_none, errW_some] <;> rfl), by refine qr_ ?_; exact Kd.R_mono (Kd.R_far (p := ⟨gb194, 1, none⟩) (Kd.R_far (p := ⟨gb194, 0, none⟩) (Kd.R_types HO201.out BK194.out (by decide)) (fun _ hk => hk.2) (.bool t198)) (fun _ hk => hk.2) (.slice Ao13 t199.length co13)) (fun _ hk => trivial), (q3_ HB.out GE192.out GE193.out GE194.out)⟩
def merinoref01_Compare.f (k : Nat) (a0_0 : Bool) (l0_1 : List Int) (a1_0 : Bool) (l1_1 : List Int) : Option (Int) := if (a0_0 != a1_0) = true then (if a0_0 = true then (some (-1)) else (some 1)) else ((merinoref01_cmpD.f k l0_1 l1_1).bind fun t327 => (if a0_0 = true then (some (wrap64 (-t327))) else (some t327)))
set_option maxHeartbeats 8000000 in
set_option maxRecDepth 100000 in
theorem merinoref01_Compare.calls (k : Nat) (a0_0 : Bool) (A0_1 : Option Addr) (c0_1 : Nat) (l0_1 : List Int) (a1_0 : Bool) (A1_1 : Option Addr) (c1_1 : Nat) (l1_1 : List Int) (r : Int) (w : World) (hr0_1 : Kd.C (Kd.int .i64) w A0_1 l0_1.length l0_1) (hc0_1 : l0_1.length ≤ c0_1) (hr1_1 : Kd.C (Kd.int .i64) w A1_1 l1_1.length l1_1) (hc1_1 : l1_1.length ≤ c1_1) (h : merinoref01_Compare.f k a0_0 l0_1 a1_0 l1_1 = some r) :
  Calls Tryd.prog 25 #[.agg #[.bool a0_0, .slice A0_1 l0_1.length c0_1], .agg #[.bool a1_0, .slice A1_1 l1_1.length c1_1]] w fun e w' => e = .returned (.int .i64 r) ∧ Below w.heap.size w w' := by
 have hu31 := Tryd.underlying31
 have HR0_1 := Aside0.mk hr0_1
 have HC0_1 := Aside0.mk hc0_1
 clear hr0_1 hc0_1
 have HR1_1 := Aside0.mk hr1_1
 have HC1_1 := Aside0.mk hc1_1
 clear hr1_1 hc1_1
 have HB := Aside0.mk (Below.refl w.heap.size w)
 have H : (if (a0_0 != a1_0) = true then (if a0_0 = true then (some (-1)) else (some 1)) else ((merinoref01_cmpD.f k l0_1 l1_1).bind fun t327 => (if a0_0 = true then (some (wrap64 (-t327))) else (some t327)))) = some r := h
 clear h
 by_cases c3 : (a0_0 != a1_0) = true
 ·rw [if_pos c3] at H
  have c3b0 : (a0_0 != a1_0) = true := c3
  (try (have c3b1 : decide (a0_0 = a1_0) = false := by simpa using c3))
  (try (have c3b2 : (a0_0 == a1_0) = false := by simpa using c3))
  (try (have c3b3 : ¬ (a0_0 = a1_0) := by simpa using c3))
  clear c3
  by_cases c4 : a0_0 = true
  ·subst c4
   have H1 : (some (-1)) = some r := by rw [if_pos rfl] at H; exact H
   clear H
   have H := H1
   clear H1
   obtain rfl := Option.some.inj H
   go_enter Tryd.func25, Tryd.ntmps25
   go_wp2_with (first | ((with_reducible refine gate_dst (N := 2) rfl ?_); refine qx_ 2 #[.bool true, .slice A0_1 l0_1.length c0_1] 31 ?hr ?_; (case hr => first | (go_simp; done) | (go_simp; rfl)); intro gb325 hg w5 hbox hb; have n0_ := Aside0.mk (below_step (q0_ HB.out) hb); have n1_ := Aside0.mk (hbox); have n2_ := Aside0.mk (qs_ hg (q0_ HB.out) : w.heap.size ≤ gb325); have n3_ := n2_; clear HB; have HB := n0_; have BK325 := n1_; have GW325 := n2_; have GE325 := n3_; clear n0_ n1_ n2_ n3_; clear hb hbox hg) | ((with_reducible refine gate_dst (N := 3) rfl ?_); refine qx_ 3 #[.bool a1_0, .slice A1_1 l1_1.length c1_1] 31 ?hr ?_; (case hr => first | (go_simp; done) | (go_simp; rfl)); intro gb326 hg w6 hbox hb; have n0_ := Aside0.mk (qk_ BK325.out hb); have n1_ := Aside0.mk (below_step (q1_ HB.out GE325.out) hb); have n2_ := Aside0.mk (hbox); have n3_ := Aside0.mk (qs_ hg (q1_ HB.out GE325.out) : w.heap.size ≤ gb326); have n4_ := n3_; have n5_ := Aside0.mk (qn_ hg BK325.out); have n6_ := Aside0.mk (Ne.symm (qn_ hg BK325.out)); clear BK325; clear HB; have BK325 := n0_; have HB := n1_; have BK326 := n2_; have GW326 := n3_; have GE326 := n4_; have NB325_326 := n5_; have NB326_325 := n6_; clear n0_ n1_ n2_ n3_ n4_ n5_ n6_; clear hb hbox hg; have hnb7 := NB325_326.out; have hnc7 := NB326_325.out; have hcz8_0 : w6.cell? ⟨gb325, 0, none⟩ = some (.bool true) := (blk_cell BK325.out 0).trans rfl; have hcz8_1 : w6.cell? ⟨gb325, 1, none⟩ = some (.slice A0_1 l0_1.length c0_1) := (blk_cell BK325.out 1).trans rfl; have hfz8_0 := blk_frozen BK325.out 0; have hfz8_1 := blk_frozen BK325.out 1; have hcz9_0 : w6.cell? ⟨gb326, 0, none⟩ = some (.bool a1_0) := (blk_cell BK326.out 0).trans rfl; have hcz9_1 : w6.cell? ⟨gb326, 1, none⟩ = some (.slice A1_1 l1_1.length c1_1) := (blk_cell BK326.out 1).trans rfl; have hfz9_0 := blk_frozen BK326.out 0; have hfz9_1 := blk_frozen BK326.out 1))
   go_ret
   exact ⟨by first | rfl | (simp [errW_none, errW_some] <;> rfl) | (simp [*, errW_none, errW_some] <;> rfl), (q2_ HB.out GE325.out GE326.out)⟩
  ·replace c4 := Bool.eq_false_iff.mpr c4
   subst c4
   have H1 : (some 1) = some r := by rw [if_neg (show ¬ (false = true) by decide)] at H; exact H
   clear H
   have H := H1
   clear H1
   obtain rfl := Option.some.inj H
   go_enter Tryd.func25, Tryd.ntmps25
   go_wp2_with (first | ((with_reducible refine gate_dst (N := 2) rfl ?_); refine qx_ 2 #[.bool false, .slice A0_1 l0_1.length c0_1] 31 ?hr ?_; (case hr => first | (go_simp; done) | (go_simp; rfl)); intro gb325 hg w10 hbox hb; have n0_ := Aside0.mk (below_step (q0_ HB.out) hb); have n1_ := Aside0.mk (hbox); have n2_ := Aside0.mk (qs_ hg (q0_ HB.out) : w.heap.size ≤ gb325); have n3_ := n2_; clear HB; have HB := n0_; have BK325 := n1_; have GW325 := n2_; have GE325 := n3_; clear n0_ n1_ n2_ n3_; clear hb hbox hg) | ((with_reducible refine gate_dst (N := 3) rfl ?_); refine qx_ 3 #[.bool a1_0, .slice A1_1 l1_1.length c1_1] 31 ?hr ?_; (case hr => first | (go_simp; done) | (go_simp; rfl)); intro gb326 hg w11 hbox hb; have n0_ := Aside0.mk (qk_ BK325.out hb); have n1_ := Aside0.mk (below_step (q1_ HB.out GE325.out) hb); have n2_ := Aside0.mk (hbox); have n3_ := Aside0.mk (qs_ hg (q1_ HB.out GE325.out) : w.heap.size ≤ gb326); have n4_ := n3_; have n5_ := Aside0.mk (qn_ hg BK325.out); have n6_ := Aside0.mk (Ne.symm (qn_ hg BK325.out)); clear BK325; clear HB; have BK325 := n0_; have HB := n1_; have BK326 := n2_; have GW326 := n3_; have GE326 := n4_; have NB325_326 := n5_; have NB326_325 := n6_; clear n0_ n1_ n2_ n3_ n4_ n5_ n6_; clear hb hbox hg; have hnb12 := NB325_326.out; have hnc12 := NB326_325.out; have hcz13_0 : w11.cell? ⟨gb325, 0, none⟩ = some (.bool false) := (blk_cell BK325.out 0).trans rfl; have hcz13_1 : w11.cell? ⟨gb325, 1, none⟩ = some (.slice A0_1 l0_1.length c0_1) := (blk_cell BK325.out 1).trans rfl; have hfz13_0 := blk_frozen BK325.out 0; have hfz13_1 := blk_frozen BK325.out 1; have hcz14_0 : w11.cell? ⟨gb326, 0, none⟩ = some (.bool a1_0) := (blk_cell BK326.out 0).trans rfl; have hcz14_1 : w11.cell? ⟨gb326, 1, none⟩ = some (.slice A1_1 l1_1.length c1_1) := (blk_cell BK326.out 1).trans rfl; have hfz14_0 := blk_frozen BK326.out 0; have hfz14_1 := blk_frozen BK326.out 1))
   go_ret
   exact ⟨by first | rfl | (simp [errW_none, errW_some] <;> rfl) | (simp [*, errW_none, errW_some] <;> rfl), (q2_ HB.out GE325.out GE326.out)⟩
 ·rw [if_neg c3] at H
  have c3b0 : (a0_0 != a1_0) = false := by simpa using c3
  (try (have c3b1 : decide (a0_0 = a1_0) = true := by simpa using c3))
  (try (have c3b2 : (a0_0 == a1_0) = true := by simpa using c3))
  clear c3
  replace H := Option.bind_eq_some_iff.mp H
  obtain ⟨t327, A150, H⟩ := H
  replace H : (if a0_0 = true then (some (wrap64 (-t327))) else (some t327)) = some r := H
  have A15 := Aside0.mk A150
  clear A150
  by_cases c16 : a0_0 = true
  ·subst c16
   have H1 : (some (wrap64 (-t327))) = some r := by rw [if_pos rfl] at H; exact H
   clear H
   have H := H1
   clear H1
   obtain rfl := Option.some.inj H
   go_enter Tryd.func25, Tryd.ntmps25
   go_wp2_with (first | ((with_reducible refine gate_dst (N := 2) rfl ?_); refine qx_ 2 #[.bool true, .slice A0_1 l0_1.length c0_1] 31 ?hr ?_; (case hr => first | (go_simp; done) | (go_simp; rfl)); intro gb325 hg w17 hbox hb; have n0_ := Aside0.mk (below_step (q0_ HB.out) hb); have n1_ := Aside0.mk (hbox); have n2_ := Aside0.mk (qs_ hg (q0_ HB.out) : w.heap.size ≤ gb325); have n3_ := n2_; clear HB; have HB := n0_; have BK325 := n1_; have GW325 := n2_; have GE325 := n3_; clear n0_ n1_ n2_ n3_; clear hb hbox hg) | ((with_reducible refine gate_dst (N := 3) rfl ?_); refine qx_ 3 #[.bool a1_0, .slice A1_1 l1_1.length c1_1] 31 ?hr ?_; (case hr => first | (go_simp; done) | (go_simp; rfl)); intro gb326 hg w18 hbox hb; have n0_ := Aside0.mk (qk_ BK325.out hb); have n1_ := Aside0.mk (below_step (q1_ HB.out GE325.out) hb); have n2_ := Aside0.mk (hbox); have n3_ := Aside0.mk (qs_ hg (q1_ HB.out GE325.out) : w.heap.size ≤ gb326); have n4_ := n3_; have n5_ := Aside0.mk (qn_ hg BK325.out); have n6_ := Aside0.mk (Ne.symm (qn_ hg BK325.out)); clear BK325; clear HB; have BK325 := n0_; have HB := n1_; have BK326 := n2_; have GW326 := n3_; have GE326 := n4_; have NB325_326 := n5_; have NB326_325 := n6_; clear n0_ n1_ n2_ n3_ n4_ n5_ n6_; clear hb hbox hg; have hnb19 := NB325_326.out; have hnc19 := NB326_325.out; have hcz20_0 : w18.cell? ⟨gb325, 0, none⟩ = some (.bool true) := (blk_cell BK325.out 0).trans rfl; have hcz20_1 : w18.cell? ⟨gb325, 1, none⟩ = some (.slice A0_1 l0_1.length c0_1) := (blk_cell BK325.out 1).trans rfl; have hfz20_0 := blk_frozen BK325.out 0; have hfz20_1 := blk_frozen BK325.out 1; have hcz21_0 : w18.cell? ⟨gb326, 0, none⟩ = some (.bool a1_0) := (blk_cell BK326.out 0).trans rfl; have hcz21_1 : w18.cell? ⟨gb326, 1, none⟩ = some (.slice A1_1 l1_1.length c1_1) := (blk_cell BK326.out 1).trans rfl; have hfz21_0 := blk_frozen BK326.out 0; have hfz21_1 := blk_frozen BK326.out 1) | ((with_reducible refine gate_callee (f := 76) rfl ?_); refine goesL_ (some 17) rfl rfl Tryd.func76 (by kernel_rfl) rfl #[.slice A0_1 l0_1.length c0_1, .slice A1_1 l1_1.length c1_1] rfl qe_ ?_; (with_reducible refine (merinoref01_cmpD.calls k _ _ l0_1 _ _ l1_1 t327 _ ?side1 ?side2 ?side3 ?side4 A15.out).mono ?_); (case side1 => exact qc_ (Kd.C_below HR0_1.out HB.out)); (case side2 => exact HC0_1.out); (case side3 => exact qc_ (Kd.C_below HR1_1.out HB.out)); (case side4 => exact HC1_1.out); rintro e w' ⟨rfl, ⟨nd, rfl⟩⟩; refine ⟨_, rfl, ?_⟩))
   go_ret
   exact ⟨by first | rfl | (simp [errW_none, errW_some] <;> rfl) | (simp [*, errW_none, errW_some] <;> rfl), (q2_ HB.out GE325.out GE326.out)⟩
  ·replace c16 := Bool.eq_false_iff.mpr c16
   subst c16
   have H1 : (some t327) = some r := by rw [if_neg (show ¬ (false = true) by decide)] at H; exact H
   clear H
   have H := H1
   clear H1
   obtain rfl := Option.some.inj H
   go_enter Tryd.func25, Tryd.ntmps25
   go_wp2_with (first | ((with_reducible refine gate_dst (N := 2) rfl ?_); refine qx_ 2 #[.bool false, .slice A0_1 l0_1.length c0_1] 31 ?hr ?_; (case hr => first | (go_simp; done) | (go_simp; rfl)); intro gb325 hg w22 hbox hb; have n0_ := Aside0.mk (below_step (q0_ HB.out) hb); have n1_ := Aside0.mk (hbox); have n2_ := Aside0.mk (qs_ hg (q0_ HB.out) : w.heap.size ≤ gb325); have n3_ := n2_; clear HB; have HB := n0_; have BK325 := n1_; have GW325 := n2_; have GE325 := n3_; clear n0_ n1_ n2_ n3_; clear hb hbox hg) | ((with_reducible refine gate_dst (N := 3) rfl ?_); refine qx_ 3 #[.bool a1_0, .slice A1_1 l1_1.length c1_1] 31 ?hr ?_; (case hr => first | (go_simp; done) | (go_simp; rfl)); intro gb326 hg w23 hbox hb; have n0_ := Aside0.mk (qk_ BK325.out hb); have n1_ := Aside0.mk (below_step (q1_ HB.out GE325.out) hb); have n2_ := Aside0.mk (hbox); have n3_ := Aside0.mk (qs_ hg (q1_ HB.out GE325.out) : w.heap.size ≤ gb326); have n4_ := n3_; have n5_ := Aside0.mk (qn_ hg BK325.out); have n6_ := Aside0.mk (Ne.symm (qn_ hg BK325.out)); clear BK325; clear HB; have BK325 := n0_; have HB := n1_; have BK326 := n2_; have GW326 := n3_; have GE326 := n4_; have NB325_326 := n5_; have NB326_325 := n6_; clear n0_ n1_ n2_ n3_ n4_ n5_ n6_; clear hb hbox hg; have hnb24 := NB325_326.out; have hnc24 := NB326_325.out; have hcz25_0 : w23.cell? ⟨gb325, 0, none⟩ = some (.bool false) := (blk_cell BK325.out 0).trans rfl; have hcz25_1 : w23.cell? ⟨gb325, 1, none⟩ = some (.slice A0_1 l0_1.length c0_1) := (blk_cell BK325.out 1).trans rfl; have hfz25_0 := blk_frozen BK325.out 0; have hfz25_1 := blk_frozen BK325.out 1; have hcz26_0 : w23.cell? ⟨gb326, 0, none⟩ = some (.bool a1_0) := (blk_cell BK326.out 0).trans rfl; have hcz26_1 : w23.cell? ⟨gb326, 1, none⟩ = some (.slice A1_1 l1_1.length c1_1) := (blk_cell BK326.out 1).trans rfl; have hfz26_0 := blk_frozen BK326.out 0; have hfz26_1 := blk_frozen BK326.out 1) | ((with_reducible refine gate_callee (f := 76) rfl ?_); refine goesL_ (some 17) rfl rfl Tryd.func76 (by kernel_rfl) rfl #[.slice A0_1 l0_1.length c0_1, .slice A1_1 l1_1.length c1_1] rfl qe_ ?_; (with_reducible refine (merinoref01_cmpD.calls k _ _ l0_1 _ _ l1_1 t327 _ ?side1 ?side2 ?side3 ?side4 A15.out).mono ?_); (case side1 => exact qc_ (Kd.C_below HR0_1.out HB.out)); (case side2 => exact HC0_1.out); (case side3 => exact qc_ (Kd.C_below HR1_1.out HB.out)); (case side4 => exact HC1_1.out); rintro e w' ⟨rfl, ⟨nd, rfl⟩⟩; refine ⟨_, rfl, ?_⟩))
   go_ret
   exact ⟨by first | rfl | (simp [errW_none, errW_some] <;> rfl) | (simp [*, errW_none, errW_some] <;> rfl), (q2_ HB.out GE325.out GE326.out)⟩
end Go.Proofs.YtdjnneflpkllmaaDoor.Q

namespace Go.Proofs.Num
open Go.RowKit Go.Proofs.YtdjnneflpkllmaaDoorW.PrintWords Go.Proofs.YtdjnneflpkllmaaDoorW.PrintMore Go.Proofs.YtdjnneflpkllmaaDoor.Q
set_option linter.unusedVariables false
set_option linter.unusedSimpArgs false
theorem wd64 {x : Int} (h0 : -9223372036854775808 ≤ x) (h1 : x ≤ 9223372036854775807) : wrap64 x = x := by unfold wrap64; omega
theorem rd_nat (l : List Int) (i : Nat) : rd l (i : Int) = at_ l i := by simp [rd, at_]
def short (l : List Int) : Prop := l.length ≤ 1000
theorem trim_l1 (l : List Int) (hs : short l) (m : Nat) (hm : m ≤ l.length) : ∀ (c i : Nat), m - i = c → i ≤ m → Ev (fun k => merinoref01_trim.l1 k l (m : Int) (l.take i) (i : Int)) (l.take m) := by
  unfold short at hs
  intro c
  induction c with
  | zero =>
    intro i hc hi
    obtain rfl : i = m := by omega
    exact Ev.step (f := fun _ => some (l.take i)) (fun k => by rw [merinoref01_trim.l1, if_neg (by omega)]) (Ev.now _)
  | succ c ih =>
    intro i hc hi
    refine Ev.step (f := fun k => merinoref01_trim.l1 k l (m : Int) (l.take (i + 1)) ((i + 1 : Nat) : Int)) (fun k => ?_) (ih (i + 1) (by omega) (by omega))
    have e : l.take i ++ [rd l (i : Int)] = l.take (i + 1) := by
      rw [rd_nat, List.take_add_one, List.getElem?_eq_getElem (by omega)]
      simp [at_, List.getD_eq_getElem?_getD, List.getElem?_eq_getElem (show i < l.length by omega)]
    rw [merinoref01_trim.l1, if_pos (by omega), if_pos (by omega), if_pos (by omega), if_pos (by rw [List.length_take]; omega), e, wd64 (by omega) (by omega)]
    rfl
theorem trim_l0 (l : List Int) (hs : short l) (hd : Dig l) : ∀ (m : Nat), m ≤ l.length → (∀ i, m ≤ i → i < l.length → at_ l i = 0) → ∃ r, Ev (fun k => merinoref01_trim.l0 k l (m : Int)) r ∧ Good r (valD l) ∧ r.length ≤ l.length := by
  have hs' := hs
  unfold short at hs
  intro m
  induction m with
  | zero =>
    intro hm hz
    refine ⟨l.take 0, ?_, good_take hd hm (.inl rfl) hz, by simp⟩
    refine Ev.step (f := fun k => merinoref01_trim.j1 k l ((0 : Nat) : Int)) (fun k => by rw [merinoref01_trim.l0, if_neg (by omega)]) ?_
    exact Ev.step (f := fun k => merinoref01_trim.l1 k l ((0 : Nat) : Int) (l.take 0) ((0 : Nat) : Int)) (fun k => by rw [merinoref01_trim.j1]; rfl) (trim_l1 l hs' 0 hm 0 0 rfl (by omega))
  | succ m ih =>
    intro hm hz
    have e : ((m + 1 : Nat) : Int) - 1 = (m : Int) := by omega
    by_cases h0 : at_ l m = 0
    · obtain ⟨r, E, g⟩ := ih (by omega) (fun i h1 h2 => by
        rcases Nat.lt_or_ge m i with h | h
        · exact hz i h h2
        · obtain rfl : i = m := by omega
          exact h0)
      refine ⟨r, Ev.step (f := fun k => merinoref01_trim.l0 k l (m : Int)) (fun k => ?_) E, g⟩
      rw [merinoref01_trim.l0, if_pos (by omega), wd64 (x := ((m + 1 : Nat) : Int) - 1) (by omega) (by omega), e, if_pos (by omega), if_pos (by omega), if_pos (by rw [rd_nat]; exact h0)]
    · refine ⟨l.take (m + 1), ?_, good_take hd hm (.inr (by simpa using h0)) hz, by simp; omega⟩
      refine Ev.step (f := fun k => merinoref01_trim.j1 k l ((m + 1 : Nat) : Int)) (fun k => ?_) ?_
      · rw [merinoref01_trim.l0, if_pos (by omega), wd64 (x := ((m + 1 : Nat) : Int) - 1) (by omega) (by omega), e, if_pos (by omega), if_pos (by omega), if_neg (by rw [rd_nat]; exact h0)]
      · exact Ev.step (f := fun k => merinoref01_trim.l1 k l ((m + 1 : Nat) : Int) (l.take 0) ((0 : Nat) : Int)) (fun k => by rw [merinoref01_trim.j1]; rfl) (trim_l1 l hs' (m + 1) hm (m + 1) 0 rfl (by omega))
theorem trim_ok {l : List Int} (hs : short l) (hd : Dig l) : ∃ r, Ev (fun k => merinoref01_trim.f k l) r ∧ Good r (valD l) ∧ r.length ≤ l.length :=
  trim_l0 l hs hd l.length (Nat.le_refl _) (fun i h1 h2 => by omega)
structure Rep (b : Bool) (l : List Int) (x : Int) : Prop where
  good : Good l (x.natAbs : Int)
  sign : b = decide (x < 0)
theorem whole_ok {b : Bool} {l : List Int} {x : Int} (hs : short l) (hd : Dig l) (hv : valD l = (x.natAbs : Int)) (hb : x ≠ 0 → b = decide (x < 0)) : ∃ r, Ev (fun k => merinoref01_whole.f k b l) (decide (x < 0), r) ∧ Rep (decide (x < 0)) r x ∧ r.length ≤ l.length := by
  obtain ⟨r, E, g, hl⟩ := trim_ok hs hd
  rw [hv] at g
  refine ⟨r, ?_, ⟨g, rfl⟩, hl⟩
  unfold merinoref01_whole.f
  refine Ev.bind E ?_
  by_cases h0 : x = 0
  · have : r = [] := g.zero_iff.2 (by omega)
    subst this h0
    cases b <;> exact Ev.now _
  · have hr : r ≠ [] := fun h => h0 (by have := g.zero_iff.1 h; omega)
    have hlen : (r.length : Int) > 0 := by
      cases r with
      | nil => exact (hr rfl).elim
      | cons => simp
    rw [hb h0]
    by_cases hx : x < 0
    · simp only [decide_eq_true hx, if_true, decide_eq_true hlen]
      exact Ev.now _
    · simp only [decide_eq_false hx, Bool.false_eq_true, if_false]
      exact Ev.now _
theorem of_l0 (b : Bool) : ∀ (c : Nat) (x : Int) (l : List Int) (y : Int), x.natAbs < 10000 ^ c → l.length + c ≤ 100 → Dig l → (x < 0 → b = true) → (0 < x → b = false) →
    valD l + (x.natAbs : Int) * pw l.length = (y.natAbs : Int) → (y ≠ 0 → b = decide (y < 0)) → -9223372036854775808 ≤ x → x ≤ 9223372036854775807 →
    ∃ r, Ev (fun k => merinoref01_Of.l0 k x l b) (decide (y < 0), r) ∧ Rep (decide (y < 0)) r y ∧ r.length ≤ l.length + c := by
  intro c
  induction c with
  | zero =>
    intro x l y hx hl hd b1 b2 hv hb x1 x2
    obtain rfl : x = 0 := by rw [Nat.pow_zero] at hx; omega
    obtain ⟨r, E, R, hr⟩ := whole_ok (b := b) (x := y) (show short l by unfold short; omega) hd (by simpa using hv) hb
    refine ⟨r, ?_, R, hr⟩
    refine Ev.step (f := fun k => (merinoref01_whole.f k b l).bind fun bt203 => some (bt203.1, bt203.2)) (fun k => by rw [merinoref01_Of.l0, if_pos rfl]) (Ev.bind E (Ev.now _))
  | succ c ih =>
    intro x l y hx hl hd b1 b2 hv hb x1 x2
    by_cases h0 : x = 0
    · subst h0
      obtain ⟨r, E, R, hr⟩ := whole_ok (b := b) (x := y) (show short l by unfold short; omega) hd (by simpa using hv) hb
      refine ⟨r, ?_, R, by omega⟩
      refine Ev.step (f := fun k => (merinoref01_whole.f k b l).bind fun bt203 => some (bt203.1, bt203.2)) (fun k => by rw [merinoref01_Of.l0, if_pos rfl]) (Ev.bind E (Ev.now _))
    · obtain ⟨D, hD⟩ : ∃ D : Int, D = ((x.natAbs % 10000 : Nat) : Int) := ⟨_, rfl⟩
      obtain ⟨q, hq⟩ : ∃ q : Int, q = x.tdiv 10000 := ⟨_, rfl⟩
      have hqn : q.natAbs = x.natAbs / 10000 := by rw [hq, Int.natAbs_tdiv]; rfl
      have hD0 : 0 ≤ D ∧ D < 10000 := by omega
      have hpc : x.natAbs / 10000 < 10000 ^ c := by rw [Nat.pow_succ] at hx; omega
      have hdd : Dig (l ++ [D]) := fun z hz => by
        rcases List.mem_append.1 hz with h | h
        · exact hd z h
        · rw [List.mem_singleton] at h; subst h; exact hD0
      have hsg : (x < 0 → q ≤ 0) ∧ (0 < x → 0 ≤ q) := by
        constructor
        · intro h
          have := Int.tdiv_nonneg (a := -x) (b := 10000) (by omega) (by omega)
          rw [Int.neg_tdiv] at this
          omega
        · intro h
          rw [hq]
          exact Int.tdiv_nonneg (by omega) (by omega)
      have hval : valD (l ++ [D]) = valD l + D * pw l.length := by
        rw [← vt_all (l ++ [D]) (i := l.length + 1) (by simp), vt_succ]
        congr 1
        · unfold vt; rw [List.take_left']; rfl
        · congr 1
          unfold at_; simp
      obtain ⟨r, E, R, hr⟩ := ih q (l ++ [D]) y (by omega) (by simp; omega) hdd (fun h => b1 (by omega)) (fun h => b2 (by omega)) (by
        rw [hval]
        rw [← hv]
        have e1 : (x.natAbs : Int) = D + 10000 * (q.natAbs : Int) := by omega
        rw [e1]
        simp only [List.length_append, List.length_singleton, pw_succ]
        grind) hb (by omega) (by omega)
      refine ⟨r, Ev.step (f := fun k => merinoref01_Of.l0 k q (l ++ [D]) b) (fun k => ?_) E, R, by simp at hr; omega⟩
      have hlen : l.length < 17592186044416 := by omega
      rw [merinoref01_Of.l0, if_neg h0, ← hq, wd64 (x := q) (by omega) (by omega)]
      have ht : x.tmod 10000 = if x < 0 then -D else D := by
        rw [hD]
        split
        · rename_i h
          obtain ⟨z, rfl⟩ : ∃ z : Nat, x = -(z : Int) := ⟨x.natAbs, by omega⟩
          rw [Int.neg_tmod]
          simp
          rfl
        · rename_i h
          obtain ⟨z, rfl⟩ : ∃ z : Nat, x = (z : Int) := ⟨x.natAbs, by omega⟩
          simp
          rfl
      rw [ht]
      by_cases hx0 : x < 0
      · rw [if_pos hx0]
        by_cases hDz : D = 0
        · rw [if_neg (by omega), if_pos hlen, hDz]; rfl
        · rw [if_pos (by omega), if_pos hlen, Int.neg_neg, wd64 (by omega) (by omega)]
      · rw [if_neg hx0, if_neg (by omega), if_pos hlen]
theorem of_ok {x : Int} (h1 : -9223372036854775808 ≤ x) (h2 : x ≤ 9223372036854775807) : ∃ r, Ev (fun k => merinoref01_Of.f k x) (decide (x < 0), r) ∧ Rep (decide (x < 0)) r x ∧ r.length ≤ 5 := by
  have := of_l0 (decide (x < 0)) 5 x [] x (by omega) (by simp) (fun z h => by cases h) (fun h => decide_eq_true h) (fun h => decide_eq_false (by omega)) (by simp [valD, pw]) (fun _ => rfl) h1 h2
  obtain ⟨r, E, R, hr⟩ := this
  exact ⟨r, E, R, by simpa using hr⟩
theorem mul_l1 {a b : List Int} (ha : Dig a) (hb : Dig b) (hs : a.length + b.length ≤ 1000) {Q : List Int → Prop} {T : Int} (i : Nat) (hi : i < a.length)
    (K : ∀ out, Dig out → out.length = a.length + b.length → (∀ j, i + 1 + b.length ≤ j → at_ out j = 0) → valD out = T → ∃ r, Ev (fun k => merinoref01_mulD.l0 k a b out ((i + 1 : Nat) : Int)) r ∧ Q r) :
    ∀ (c j : Nat), b.length - j = c → j ≤ b.length → ∀ (out : List Int) (cy : Int), Dig out → out.length = a.length + b.length → (∀ j, i + b.length ≤ j → at_ out j = 0) → 0 ≤ cy → cy < 10000 →
      valD out + cy * pw (i + j) + at_ a i * pw i * (valD b - vt b j) = T → ∃ r, Ev (fun k => merinoref01_mulD.l1 k a b out (i : Int) cy (j : Int)) r ∧ Q r := by
  intro c
  induction c with
  | zero =>
    intro j hc hj out cy hd hl hz c0 c1 hv
    obtain rfl : j = b.length := by omega
    have hx : at_ out (i + b.length) = 0 := hz _ (Nat.le_refl _)
    obtain ⟨r, E, q⟩ := K (out.set (i + b.length) cy) (hd.set _ c0 c1) (by simpa using hl) (fun j hj => by rw [at_set_ne (by omega)]; exact hz j (by omega)) (by
      rw [valD_set _ _ _ (by omega), hx, ← hv, vt_all b (Nat.le_refl _)]
      grind)
    refine ⟨r, Ev.step (f := fun k => merinoref01_mulD.l0 k a b (out.set (i + b.length) cy) ((i + 1 : Nat) : Int)) (fun k => ?_) E, q⟩
    rw [merinoref01_mulD.l1, if_neg (by omega), wd64 (x := (i : Int) + (b.length : Int)) (by omega) (by omega), if_pos (by omega), if_pos (by omega), wd64 (x := (i : Int) + 1) (by omega) (by omega)]
    rfl
  | succ c ih =>
    intro j hc hj out cy hd hl hz c0 c1 hv
    have o := hd.at_ (i + j)
    have x := ha.at_ i
    have y := hb.at_ j
    obtain ⟨p0, p1⟩ : 0 ≤ at_ a i * at_ b j ∧ at_ a i * at_ b j ≤ 9999 * 9999 := ⟨Int.mul_nonneg x.1 y.1, Int.mul_le_mul (by omega) (by omega) y.1 (by omega)⟩
    obtain ⟨S, hS⟩ : ∃ S, S = at_ out (i + j) + at_ a i * at_ b j + cy := ⟨_, rfl⟩
    have hS0 : 0 ≤ S ∧ S < 100000000 := by omega
    obtain ⟨r, E, q⟩ := ih (j + 1) (by omega) (by omega) (out.set (i + j) (S % 10000)) (S / 10000) (hd.set _ (by omega) (by omega)) (by simpa using hl) (fun j' hj' => by rw [at_set_ne (by omega)]; exact hz j' hj') (by omega) (by omega) (by
      rw [valD_set _ _ _ (by omega), ← hv, vt_succ, ← Nat.add_assoc, pw_succ, pw_add]
      have e : S % 10000 = S - 10000 * (S / 10000) := by omega
      rw [e, hS]
      grind)
    refine ⟨r, Ev.step (f := fun k => merinoref01_mulD.l1 k a b (out.set (i + j) (S % 10000)) (i : Int) (S / 10000) ((j + 1 : Nat) : Int)) (fun k => ?_) E, q⟩
    rw [merinoref01_mulD.l1, if_pos (by omega), wd64 (x := (i : Int) + (j : Int)) (by omega) (by omega), if_pos (by omega), if_pos (by omega), if_pos (by omega), if_pos (by omega), if_pos (by omega), wd64 (x := (j : Int) + 1) (by omega) (by omega)]
    rw [show (i : Int) + (j : Int) = ((i + j : Nat) : Int) by omega, rd_nat, rd_nat, rd_nat, wd64 (x := at_ a i * at_ b j) (by omega) (by omega), wd64 (x := at_ out (i + j) + at_ a i * at_ b j) (by omega) (by omega), ← hS, wd64 (x := S) (by omega) (by omega), Int.tmod_eq_emod_of_nonneg hS0.1, Int.tdiv_eq_ediv_of_nonneg hS0.1, wd64 (x := S / 10000) (by omega) (by omega)]
    rfl
theorem mul_l0 {a b : List Int} (ha : Dig a) (hb : Dig b) (hs : a.length + b.length ≤ 1000) : ∀ (c i : Nat), a.length - i = c → i ≤ a.length → ∀ out, Dig out → out.length = a.length + b.length → (∀ j, i + b.length ≤ j → at_ out j = 0) → valD out = vt a i * valD b →
    ∃ r, Ev (fun k => merinoref01_mulD.l0 k a b out (i : Int)) r ∧ (Good r (valD a * valD b) ∧ r.length ≤ a.length + b.length) := by
  intro c
  induction c with
  | zero =>
    intro i hc hi out hd hl hz hv
    obtain rfl : i = a.length := by omega
    obtain ⟨r, E, g, hr⟩ := trim_ok (l := out) (by unfold short; omega) hd
    rw [hv, vt_all a (Nat.le_refl _)] at g
    refine ⟨r, ?_, g, by omega⟩
    refine Ev.step (f := fun k => (merinoref01_trim.f k out).bind fun t184 => some t184) (fun k => by rw [merinoref01_mulD.l0, if_neg (by omega)]) (Ev.bind E (Ev.now _))
  | succ c ih =>
    intro i hc hi out hd hl hz hv
    obtain ⟨r, E, q⟩ := mul_l1 ha hb hs (T := vt a (i + 1) * valD b) i (by omega) (fun out' d1 l1 z1 v1 => ih (i + 1) (by omega) (by omega) out' d1 l1 z1 v1) b.length 0 (by omega) (by omega) out 0 hd hl hz (by omega) (by omega) (by
      rw [hv, vt_succ, vt_zero]
      grind)
    refine ⟨r, Ev.step (f := fun k => merinoref01_mulD.l1 k a b out (i : Int) 0 ((0 : Nat) : Int)) (fun k => ?_) E, q⟩
    rw [merinoref01_mulD.l0, if_pos (by omega)]
    rfl
theorem mul_ok {a b : List Int} (ha : Dig a) (hb : Dig b) (hs : a.length + b.length ≤ 1000) : ∃ r, Ev (fun k => merinoref01_mulD.f k a b) r ∧ (Good r (valD a * valD b) ∧ r.length ≤ a.length + b.length) := by
  obtain ⟨r, E, q⟩ := mul_l0 ha hb hs a.length 0 rfl (by omega) (List.replicate (a.length + b.length) 0) (fun x hx => by rw [List.mem_replicate] at hx; omega) (by simp) (fun j _ => at_replicate _ _) (by rw [valD_replicate, vt_zero, Int.zero_mul])
  refine ⟨r, ?_, q⟩
  have : (fun k => merinoref01_mulD.f k a b) = fun k => merinoref01_mulD.l0 k a b (List.replicate (a.length + b.length) 0) ((0 : Nat) : Int) := funext fun k => by
    unfold merinoref01_mulD.f
    rw [wd64 (x := (a.length : Int) + (b.length : Int)) (by omega) (by omega), if_pos (by omega), if_pos (by omega), show ((a.length : Int) + (b.length : Int)).toNat = a.length + b.length by omega]
    rfl
  rw [this]
  exact E
theorem times_ok {b1 b2 : Bool} {l1 l2 : List Int} {x y : Int} (r1 : Rep b1 l1 x) (r2 : Rep b2 l2 y) (hs : l1.length + l2.length ≤ 1000) : ∃ r, Ev (fun k => merinoref01_Times.f k b1 l1 b2 l2) (decide (x * y < 0), r) ∧ Rep (decide (x * y < 0)) r (x * y) ∧ r.length ≤ l1.length + l2.length := by
  obtain ⟨m, E, g, hm⟩ := mul_ok r1.good.dig r2.good.dig hs
  obtain ⟨r, E2, R, hr⟩ := whole_ok (b := b1 != b2) (x := x * y) (show short m by unfold short; omega) g.dig (by rw [g.val, r1.good.val, r2.good.val, Int.natAbs_mul]; simp) (fun hne => by
    rw [r1.sign, r2.sign]
    have hx : x ≠ 0 := fun h => hne (by rw [h, Int.zero_mul])
    have hy : y ≠ 0 := fun h => hne (by rw [h, Int.mul_zero])
    rcases Int.lt_or_le x 0 with h1 | h1 <;> rcases Int.lt_or_le y 0 with h2 | h2
    · have := Int.mul_pos_of_neg_of_neg h1 h2
      rw [decide_eq_true h1, decide_eq_true h2, decide_eq_false (by omega)]; rfl
    · have := Int.mul_neg_of_neg_of_pos h1 (show 0 < y by omega)
      rw [decide_eq_true h1, decide_eq_false (show ¬ y < 0 by omega), decide_eq_true this]; rfl
    · have := Int.mul_neg_of_pos_of_neg (show 0 < x by omega) h2
      rw [decide_eq_false (show ¬ x < 0 by omega), decide_eq_true h2, decide_eq_true this]; rfl
    · have := Int.mul_pos (show 0 < x by omega) (show 0 < y by omega)
      rw [decide_eq_false (show ¬ x < 0 by omega), decide_eq_false (show ¬ y < 0 by omega), decide_eq_false (by omega)]; rfl)
  refine ⟨r, ?_, R, by omega⟩
  unfold merinoref01_Times.f
  exact Ev.bind E (Ev.bind E2 (Ev.now _))
theorem cmp_l0 {a b : List Int} (ha : Dig a) (hb : Dig b) (hs : a.length ≤ 1000) (hl : a.length = b.length) : ∀ m : Nat, m ≤ a.length → Ev (fun k => merinoref01_cmpD.l0 k a b ((m : Int) - 1)) (cmpI (vt a m) (vt b m)) := by
  intro m
  induction m with
  | zero =>
    intro _
    rw [vt_zero, vt_zero]
    exact Ev.step (f := fun _ => some (cmpI 0 0)) (fun k => by rw [merinoref01_cmpD.l0, if_neg (by omega)]; rfl) (Ev.now _)
  | succ m ih =>
    intro hm
    have e : ((m + 1 : Nat) : Int) - 1 = (m : Int) := by omega
    have va := vt_bd ha m
    have vb := vt_bd hb m
    have pp := pw_pos m
    rw [e, vt_succ, vt_succ]
    rcases Int.lt_trichotomy (at_ a m) (at_ b m) with h | h | h
    · have l1 : (at_ a m + 1) * pw m ≤ at_ b m * pw m := Int.mul_le_mul_of_nonneg_right (by omega) (by omega)
      rw [Int.add_mul, Int.one_mul] at l1
      have : cmpI (vt a m + at_ a m * pw m) (vt b m + at_ b m * pw m) = -1 := by unfold cmpI; rw [if_pos (by omega)]
      rw [this]
      exact Ev.step (f := fun _ => some (-1)) (fun k => by rw [merinoref01_cmpD.l0, if_pos (by omega), if_pos (by omega), if_pos (by omega), if_pos (by omega), rd_nat, rd_nat, if_pos h]) (Ev.now _)
    · have : cmpI (vt a m + at_ a m * pw m) (vt b m + at_ b m * pw m) = cmpI (vt a m) (vt b m) := by
        unfold cmpI
        rw [h]
        (repeat' split) <;> omega
      rw [this]
      refine Ev.step (f := fun k => merinoref01_cmpD.l0 k a b ((m : Int) - 1)) (fun k => ?_) (ih (by omega))
      rw [merinoref01_cmpD.l0, if_pos (by omega), if_pos (by omega), if_pos (by omega), if_pos (by omega), rd_nat, rd_nat, if_neg (by omega), if_neg (by omega), wd64 (by omega) (by omega)]
    · have l1 : (at_ b m + 1) * pw m ≤ at_ a m * pw m := Int.mul_le_mul_of_nonneg_right (by omega) (by omega)
      rw [Int.add_mul, Int.one_mul] at l1
      have : cmpI (vt a m + at_ a m * pw m) (vt b m + at_ b m * pw m) = 1 := by unfold cmpI; rw [if_neg (by omega), if_pos (by omega)]
      rw [this]
      exact Ev.step (f := fun _ => some 1) (fun k => by rw [merinoref01_cmpD.l0, if_pos (by omega), if_pos (by omega), if_pos (by omega), if_pos (by omega), rd_nat, rd_nat, if_neg (by omega), if_pos h]) (Ev.now _)
theorem lt_of_len {a b : List Int} (ha : Dig a) (hb : Dig b) (nb : Norm b) (h : a.length < b.length) : valD a < valD b := by
  have h1 := (valD_bd ha).2
  have h2 := norm_ge hb nb (fun e => by subst e; simp at h)
  have h3 := pw_mono (show a.length ≤ b.length - 1 by omega)
  omega
theorem cmpD_ok {a b : List Int} {x y : Int} (ga : Good a x) (gb : Good b y) (hs : a.length ≤ 1000) : Ev (fun k => merinoref01_cmpD.f k a b) (cmpI x y) := by
  unfold merinoref01_cmpD.f
  rw [← ga.val, ← gb.val]
  by_cases h1 : (a.length : Int) < (b.length : Int)
  · simp only [if_pos h1]
    have := lt_of_len ga.dig gb.dig gb.norm (by omega)
    rw [show cmpI (valD a) (valD b) = -1 by unfold cmpI; rw [if_pos this]]
    exact Ev.now _
  · by_cases h2 : (a.length : Int) > (b.length : Int)
    · simp only [if_neg h1, if_pos h2]
      have := lt_of_len gb.dig ga.dig ga.norm (by omega)
      rw [show cmpI (valD a) (valD b) = 1 by unfold cmpI; rw [if_neg (by omega), if_pos this]]
      exact Ev.now _
    · simp only [if_neg h1, if_neg h2, wd64 (x := (a.length : Int) - 1) (by omega) (by omega)]
      have := cmp_l0 ga.dig gb.dig hs (by omega) a.length (Nat.le_refl _)
      rw [vt_all a (Nat.le_refl _), vt_all b (by omega)] at this
      exact this
theorem compare_ok {b1 b2 : Bool} {l1 l2 : List Int} {x y : Int} (r1 : Rep b1 l1 x) (r2 : Rep b2 l2 y) (hs : l1.length ≤ 1000) : Ev (fun k => merinoref01_Compare.f k b1 l1 b2 l2) (cmpI x y) := by
  unfold merinoref01_Compare.f
  have E := cmpD_ok r1.good r2.good hs
  rw [r1.sign, r2.sign]
  rcases Int.lt_or_le x 0 with h1 | h1 <;> rcases Int.lt_or_le y 0 with h2 | h2
  · rw [decide_eq_true h1, decide_eq_true h2]
    simp only [bne_self_eq_false, Bool.false_eq_true, if_false, if_true]
    refine Ev.bind E ?_
    have : wrap64 (-(cmpI (x.natAbs : Int) (y.natAbs : Int))) = cmpI x y := by
      unfold cmpI
      (repeat' split) <;> first | omega | (rw [wd64 (by omega) (by omega)]; done) | (rw [wd64 (by omega) (by omega)]; rfl)
    rw [this]
    exact Ev.now _
  · rw [decide_eq_true h1, decide_eq_false (show ¬ y < 0 by omega)]
    rw [show cmpI x y = -1 by unfold cmpI; rw [if_pos (by omega)]]
    exact Ev.now _
  · rw [decide_eq_false (show ¬ x < 0 by omega), decide_eq_true h2]
    rw [show cmpI x y = 1 by unfold cmpI; rw [if_neg (by omega), if_pos (by omega)]]
    exact Ev.now _
  · rw [decide_eq_false (show ¬ x < 0 by omega), decide_eq_false (show ¬ y < 0 by omega)]
    simp only [bne_self_eq_false, Bool.false_eq_true, if_false]
    refine Ev.bind E ?_
    rw [show (x.natAbs : Int) = x by omega, show (y.natAbs : Int) = y by omega]
    exact Ev.now _
end Go.Proofs.Num
