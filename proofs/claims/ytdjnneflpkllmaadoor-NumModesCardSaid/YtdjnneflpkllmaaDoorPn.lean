/- What the printed functions of num come to: sizes, greatest common divisors, valid fractions, rounded quotients. -/
import Derived.Test.YtdjnneflpkllmaaDoorR26
import Derived.Test.YtdjnneflpkllmaaDoorR33
import Derived.Test.YtdjnneflpkllmaaDoorR3
namespace Go.Proofs.Num
open Go.RowKit Go.Proofs.YtdjnneflpkllmaaDoorW.PrintWords Go.Proofs.YtdjnneflpkllmaaDoor.Q
set_option linter.unusedVariables false
set_option linter.unusedSimpArgs false

theorem w64 {x : Int} (h0 : -9223372036854775808 ≤ x) (h1 : x ≤ 9223372036854775807) : wrap64 x = x := by unfold wrap64; omega
theorem wu {x : Int} (h0 : 0 ≤ x) (h1 : x ≤ 18446744073709551615) : IntKind.u64.wrap x = x := by
  simp [IntKind.wrap, IntKind.bits, IntKind.signed]
  omega
theorem size_ok {a : Int} (h0 : -9223372036854775808 ≤ a) (h1 : a ≤ 9223372036854775807) : num_size.f a = some (a.natAbs : Int) := by
  unfold num_size.f
  by_cases h : a < 0
  · rw [if_pos h]
    congr 1
    simp [IntKind.wrap, IntKind.bits, IntKind.signed]
    omega
  · rw [if_neg h, wu (by omega) (by omega)]
    congr 1
    omega
theorem tmod_nat (a b : Nat) : Int.tmod (a : Int) (b : Int) = ((a % b : Nat) : Int) := by
  exact Int.ofNat_tmod a b
theorem gcd_l0 : ∀ (b a : Nat), Ev (fun k => num_gcd.l0 k (a : Int) (b : Int)) (Nat.gcd a b : Int) := by
  intro b
  induction b using Nat.strongRecOn with
  | ind b ih =>
    intro a
    by_cases h : b = 0
    · subst h
      refine Ev.step (f := fun _ => some (a : Int)) (fun k => by simp [num_gcd.l0]) ?_
      rw [Nat.gcd_zero_right]
      exact Ev.now _
    · refine Ev.step (f := fun k => num_gcd.l0 k (b : Int) ((a % b : Nat) : Int)) (fun k => by rw [num_gcd.l0, if_neg (by omega), tmod_nat]) ?_
      have := ih (a % b) (Nat.mod_lt _ (by omega)) b
      rw [Nat.gcd_comm b, ← Nat.gcd_rec, Nat.gcd_comm] at this
      exact this
theorem gcd_ok (a b : Nat) : Ev (fun k => num_gcd.f k (a : Int) (b : Int)) (Nat.gcd a b : Int) := gcd_l0 b a
/-- A valid fraction. -/
def valid (n d : Int) : Prop := 1 ≤ d ∧ d ≤ 1048576 ∧ -1099511627776 ≤ n ∧ n ≤ 1099511627776 ∧ Nat.gcd n.natAbs d.natAbs = 1
instance (n d : Int) : Decidable (valid n d) := by unfold valid; infer_instance
theorem valid_ok (n d : Int) : Ev (fun k => num_Valid.f k n d) (decide (valid n d)) := by
  unfold num_Valid.f
  by_cases h1 : d ≥ 1
  · by_cases h2 : d ≤ 1048576
    · by_cases h3 : n ≥ -1099511627776
      · by_cases h4 : n ≤ 1099511627776
        · simp only [if_pos h1, if_pos h2, if_pos h3, if_pos h4, size_ok (by omega : -9223372036854775808 ≤ n) (by omega), Option.bind_some]
          have e : IntKind.u64.wrap d = (d.natAbs : Int) := by rw [wu (by omega) (by omega)]; omega
          rw [e]
          refine Ev.bind (gcd_ok _ _) ?_
          have : ((Nat.gcd n.natAbs d.natAbs : Int) == 1) = decide (valid n d) := by
            by_cases hg : Nat.gcd n.natAbs d.natAbs = 1
            · rw [decide_eq_true (show valid n d from ⟨h1, h2, h3, h4, hg⟩), hg]; rfl
            · rw [decide_eq_false (fun h : valid n d => hg h.2.2.2.2)]
              exact beq_eq_false_iff_ne.mpr (by omega)
          rw [this]
          exact Ev.now _
        · simp only [if_pos h1, if_pos h2, if_pos h3, if_neg h4]
          rw [decide_eq_false (fun h => h4 h.2.2.2.1)]
          exact Ev.now _
      · simp only [if_pos h1, if_pos h2, if_neg h3]
        rw [decide_eq_false (fun h => h3 h.2.2.1)]
        exact Ev.now _
    · simp only [if_pos h1, if_neg h2]
      rw [decide_eq_false (fun h => h2 h.2.1)]
      exact Ev.now _
  · simp only [if_neg h1]
    rw [decide_eq_false (fun h => h1 h.1)]
    exact Ev.now _
/-- Div64 of a number of 64 bits. -/
theorem div64_low (k : Nat) {a b : Int} (ha : 0 ≤ a) (ha' : a ≤ 18446744073709551615) (hb : 0 < b) : bits_Div64.f k 0 a b = some (a / b, a % b) := by
  unfold bits_Div64.f bits_Div64_g.f
  rw [if_neg (by omega), if_neg (by omega), if_pos rfl, if_neg (by omega), Int.tdiv_eq_ediv_of_nonneg ha, Int.tmod_eq_emod_of_nonneg ha]
  have h1 : 0 ≤ a / b := Int.ediv_nonneg ha (by omega)
  have h2 : a / b ≤ a := Int.ediv_le_self _ ha
  rw [wu h1 (by omega)]
/-- How far a quotient of sizes is rounded. -/
def rnd (neg : Bool) (q r d m : Int) : Int :=
  let t := if r = 0 then q else if m = 0 then (if neg then q + 1 else q) else if m = 1 then (if neg then q else q + 1) else if m = 2 then q else if d < 2 * r then q + 1 else if 2 * r < d then q else if m = 3 then (if neg then q else q + 1) else if q % 2 = 1 then q + 1 else q
  if neg then -t else t
theorem away_ok (neg : Bool) {q r d m : Int} (hq : 0 ≤ q) (hr : 0 ≤ r) (hrd : r < d) (hd : d ≤ 9223372036854775807) :
    num_away.f neg q r d m = some (if r = 0 then false else if m = 0 then neg else if m = 1 then !neg else if m = 2 then false else if d < 2 * r then true else if 2 * r < d then false else if m = 3 then !neg else decide (q % 2 = 1)) := by
  unfold num_away.f
  rw [wu (by omega) (by omega), Int.tmod_eq_emod_of_nonneg hq]
  by_cases h0 : r = 0
  · simp [h0]
  · by_cases h1 : m = 0
    · simp [h0, h1]
    · by_cases h2 : m = 1
      · simp [h0, h2]
      · by_cases h3 : m = 2
        · simp [h0, h3]
        · by_cases h4 : d < 2 * r
          · simp [h0, h1, h2, h3, h4, show d - r < r by omega]
          · by_cases h5 : 2 * r < d
            · simp [h0, h1, h2, h3, h4, h5, show ¬ d - r < r by omega, show r < d - r by omega]
            · by_cases h6 : m = 3
              · simp [h0, h6, h4, h5, show ¬ d - r < r by omega, show ¬ r < d - r by omega]
              · simp [h0, h1, h2, h3, h4, h5, h6, show ¬ d - r < r by omega, show ¬ r < d - r by omega]
                rw [Bool.eq_iff_iff]; simp
theorem rounded_low (k : Nat) (neg : Bool) {a d m : Int} (ha : 0 ≤ a) (ha' : a ≤ 4611686018427387904) (hd : 0 < d) (hd' : d ≤ 9223372036854775807) :
    num_rounded.f k neg 0 a d m = some (rnd neg (a / d) (a % d) d m, true) := by
  unfold num_rounded.f
  have h1 : 0 ≤ a / d := Int.ediv_nonneg ha (by omega)
  have h2 : a / d ≤ a := Int.ediv_le_self _ ha
  have h3 : 0 ≤ a % d := Int.emod_nonneg _ (by omega)
  have h4 : a % d < d := Int.emod_lt_of_pos _ hd
  rw [if_neg (by omega), div64_low k ha (by omega) hd]
  simp only [Option.bind_some]
  rw [if_neg (by omega), away_ok neg h1 h3 h4 hd']
  simp only [Option.bind_some]
  generalize a / d = q at *
  generalize a % d = r at *
  rw [wu (by omega) (by omega), w64 (x := q + 1) (by omega) (by omega), w64 (x := q) (by omega) (by omega), w64 (x := -(q + 1)) (by omega) (by omega), w64 (x := -q) (by omega) (by omega)]
  unfold rnd
  cases neg <;> simp only [Bool.false_eq_true, if_false, if_true, Bool.not_true, Bool.not_false, decide_eq_true_eq] <;> (repeat' split) <;> simp_all
theorem mode_ok {m : Int} : num_mode.f m = some (decide (0 ≤ m ∧ m ≤ 4)) := by
  unfold num_mode.f
  by_cases h : m ≥ 0
  · rw [if_pos h]; congr 1; rw [Bool.eq_iff_iff]; simp; omega
  · rw [if_neg h]; congr 1; symm; rw [decide_eq_false_iff_not]; omega
/-- Round of a fraction. -/
theorem round_ok (n d m : Int) : Ev (fun k => num_Round.f k n d m) (if valid n d ∧ 0 ≤ m ∧ m ≤ 4 then (rnd (decide (n < 0)) (n.natAbs / d) (n.natAbs % d) d m, 0) else (0, 2)) := by
  unfold num_Round.f
  refine Ev.bind (valid_ok n d) ?_
  by_cases hv : valid n d
  · have hv' := hv
    obtain ⟨v1, v2, v3, v4, v5⟩ := hv'
    simp only [hv, decide_true, if_true, mode_ok, Option.bind_some, true_and]
    refine Ev.step (f := fun k => if (!decide (0 ≤ m ∧ m ≤ 4)) = true then some (0, 2) else some (rnd (decide (n < 0)) (n.natAbs / d) (n.natAbs % d) d m, 0)) (fun k => ?_) ?_
    · rw [num_Round.j0, size_ok (by omega) (by omega)]
      simp only [Option.bind_some]
      rw [wu (x := d) (by omega) (by omega), rounded_low k _ (by omega) (by omega) (by omega) (by omega)]
      rfl
    · by_cases hm : 0 ≤ m ∧ m ≤ 4
      · simp only [hm, decide_true, Bool.not_true, Bool.false_eq_true, if_false, and_self, if_true]
        exact Ev.now _
      · simp only [hm, decide_false, Bool.not_false, if_true, if_false]
        exact Ev.now _
  · simp only [hv, decide_false, Bool.false_eq_true, if_false, false_and]
    refine Ev.step (f := fun k => some (0, 2)) (fun k => by simp [num_Round.j0]) (Ev.now _)
theorem neg_ok (n d : Int) : Ev (fun k => num_Neg.f k n d) (if valid n d then (-n, d, 0) else (0, 0, 2)) := by
  unfold num_Neg.f
  refine Ev.bind (valid_ok n d) ?_
  by_cases hv : valid n d
  · have hv' := hv
    obtain ⟨v1, v2, v3, v4, v5⟩ := hv'
    simp only [hv, decide_true, if_true, w64 (x := -n) (by omega) (by omega)]
    exact Ev.now _
  · simp only [hv, decide_false, Bool.false_eq_true, if_false]
    exact Ev.now _
end Go.Proofs.Num
