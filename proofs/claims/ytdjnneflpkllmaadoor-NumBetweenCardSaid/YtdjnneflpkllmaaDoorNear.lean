/- The neighbours of a fraction: plain laws. -/
namespace Go.Proofs.Num
set_option linter.unusedVariables false

theorem pos_of_mul {d x : Int} (hd : 0 < d) (h : 0 < d * x) : 0 < x := Int.pos_of_mul_pos_right h hd
theorem nonneg_of_mul {d x : Int} (hd : 0 < d) (h : 0 ≤ d * x) : 0 ≤ x := by
  rcases Int.lt_or_le x 0 with hx | hx
  · have := Int.mul_neg_of_pos_of_neg hd hx
    omega
  · exact hx
/-- What two neighbours are: the greatest at most, the least above r/d, of denominators at most M. -/
structure Near (r d M a b p q : Int) : Prop where
  hd : 0 < d
  hb : 1 ≤ b
  hq : 1 ≤ q
  hM : M < b + q
  det : p * b - a * q = 1
  lo : 0 ≤ r * b - a * d
  hi : 0 < p * d - r * q

/-- No fraction lies between neighbours. -/
theorem Near.gap {r d M a b p q s t : Int} (N : Near r d M a b p q) (ht : 1 ≤ t) (htM : t ≤ M) (h1 : 0 < p * t - s * q) (h2 : 0 < s * b - a * t) : False := by
  obtain ⟨hd, hb, hq, hM, det, lo, hi⟩ := N
  have e : b * (p * t - s * q) + q * (s * b - a * t) = t := by grind
  have l1 : b * 1 ≤ b * (p * t - s * q) := Int.mul_le_mul_of_nonneg_left (by omega) (by omega)
  have l2 : q * 1 ≤ q * (s * b - a * t) := Int.mul_le_mul_of_nonneg_left (by omega) (by omega)
  omega
/-- A fraction at most r/d is at most the lower neighbour. -/
theorem Near.below {r d M a b p q s t : Int} (N : Near r d M a b p q) (ht : 1 ≤ t) (htM : t ≤ M) (h : 0 ≤ r * t - s * d) : 0 ≤ a * t - s * b ∧ (a * t - s * b = 0 → b ≤ t) := by
  have hp : 0 < p * t - s * q := by
    refine pos_of_mul N.hd ?_
    have e : d * (p * t - s * q) = (p * d - r * q) * t + (r * t - s * d) * q := by grind
    have l1 := Int.mul_pos N.hi (show 0 < t by omega)
    have l2 := Int.mul_nonneg h (show 0 ≤ q by have := N.hq; omega)
    omega
  refine ⟨?_, fun h0 => ?_⟩
  · rcases Int.lt_or_le (a * t - s * b) 0 with hx | hx
    · exact (N.gap ht htM hp (by omega)).elim
    · exact hx
  · have det := N.det
    have hb := N.hb
    have e : b * (p * t - s * q) = t := by grind
    have l1 : b * 1 ≤ b * (p * t - s * q) := Int.mul_le_mul_of_nonneg_left (by omega) (by omega)
    omega
/-- A fraction above r/d is at least the upper neighbour. -/
theorem Near.above {r d M a b p q s t : Int} (N : Near r d M a b p q) (ht : 1 ≤ t) (htM : t ≤ M) (h : 0 < s * d - r * t) : 0 ≤ s * q - p * t ∧ (s * q - p * t = 0 → q ≤ t) := by
  have hp : 0 < s * b - a * t := by
    refine pos_of_mul N.hd ?_
    have e : d * (s * b - a * t) = (r * b - a * d) * t + (s * d - r * t) * b := by grind
    have l1 := Int.mul_nonneg N.lo (show 0 ≤ t by omega)
    have l2 := Int.mul_pos h (show 0 < b by have := N.hb; omega)
    omega
  refine ⟨?_, fun h0 => ?_⟩
  · rcases Int.lt_or_le (s * q - p * t) 0 with hx | hx
    · exact (N.gap ht htM (by omega) hp).elim
    · exact hx
  · have det := N.det
    have hq := N.hq
    have e : q * (s * b - a * t) = t := by grind
    have l1 : q * 1 ≤ q * (s * b - a * t) := Int.mul_le_mul_of_nonneg_left (by omega) (by omega)
    omega
/-- How far a lower fraction is, against the lower neighbour's distance. -/
theorem Near.farL {r d M a b p q s t : Int} (N : Near r d M a b p q) (ht : 1 ≤ t) (htM : t ≤ M) (h : 0 ≤ r * t - s * d) :
    (r * b - a * d) * t ≤ (r * t - s * d) * b ∧ (t < b → (r * b - a * d) * t < (r * t - s * d) * b) := by
  obtain ⟨h1, h2⟩ := N.below ht htM h
  have e : (r * t - s * d) * b - (r * b - a * d) * t = d * (a * t - s * b) := by grind
  refine ⟨?_, fun hlt => ?_⟩
  · have := Int.mul_nonneg (Int.le_of_lt N.hd) h1
    omega
  · have : 0 < a * t - s * b := by
      rcases Int.lt_or_le 0 (a * t - s * b) with hx | hx
      · exact hx
      · have := h2 (by omega)
        omega
    have := Int.mul_pos N.hd this
    omega
theorem Near.farU {r d M a b p q s t : Int} (N : Near r d M a b p q) (ht : 1 ≤ t) (htM : t ≤ M) (h : 0 < s * d - r * t) :
    (p * d - r * q) * t ≤ (s * d - r * t) * q ∧ (t < q → (p * d - r * q) * t < (s * d - r * t) * q) := by
  obtain ⟨h1, h2⟩ := N.above ht htM h
  have e : (s * d - r * t) * q - (p * d - r * q) * t = d * (s * q - p * t) := by grind
  refine ⟨?_, fun hlt => ?_⟩
  · have := Int.mul_nonneg (Int.le_of_lt N.hd) h1
    omega
  · have : 0 < s * q - p * t := by
      rcases Int.lt_or_le 0 (s * q - p * t) with hx | hx
      · exact hx
      · have := h2 (by omega)
        omega
    have := Int.mul_pos N.hd this
    omega
/-- x/b at most y/q, y/q at most z/t: so x/b at most z/t. -/
theorem cross {x y z b q t : Int} (hb : 0 < b) (hq : 0 < q) (ht : 0 < t) (h1 : x * q ≤ y * b) (h2 : y * t ≤ z * q) : x * t ≤ z * b := by
  have a1 : (x * q) * t ≤ (y * b) * t := Int.mul_le_mul_of_nonneg_right h1 (by omega)
  have a2 : (y * t) * b ≤ (z * q) * b := Int.mul_le_mul_of_nonneg_right h2 (by omega)
  refine Int.le_of_mul_le_mul_left (a := q) ?_ hq
  have e1 : q * (x * t) = (x * q) * t := by grind
  have e2 : q * (z * b) = (z * q) * b := by grind
  have e3 : (y * b) * t = (y * t) * b := by grind
  omega
theorem cross_lt {x y z b q t : Int} (hb : 0 < b) (hq : 0 < q) (ht : 0 < t) (h1 : x * q ≤ y * b) (h2 : y * t ≤ z * q) (h : x * q < y * b ∨ y * t < z * q) : x * t < z * b := by
  have a1 : (x * q) * t ≤ (y * b) * t := Int.mul_le_mul_of_nonneg_right h1 (by omega)
  have a2 : (y * t) * b ≤ (z * q) * b := Int.mul_le_mul_of_nonneg_right h2 (by omega)
  refine Int.lt_of_mul_lt_mul_left (a := q) ?_ (by omega)
  have e1 : q * (x * t) = (x * q) * t := by grind
  have e2 : q * (z * b) = (z * q) * b := by grind
  have e3 : (y * b) * t = (y * t) * b := by grind
  rcases h with h | h
  · have : (x * q) * t < (y * b) * t := Int.mul_lt_mul_of_pos_right h ht
    omega
  · have : (y * t) * b < (z * q) * b := Int.mul_lt_mul_of_pos_right h hb
    omega
/-- The nearest of all: P/T at the distance F (times d and T); how the candidates of each t lie to it: r·t = s·d + ρ; the candidates are s/t at the distance ρ and (s + 1)/t at the distance d − ρ. 'up' tells which of the two of T it is. -/
structure Best (r d M T F : Int) (up : Bool) : Prop where
  lowB : ∀ t s, 1 ≤ t → t ≤ M → 0 ≤ r * t - s * d → (t < T ∨ (t = T ∧ up = true)) → F * t < (r * t - s * d) * T
  lowA : ∀ t s, 1 ≤ t → t ≤ M → 0 ≤ r * t - s * d → T < t → F * t ≤ (r * t - s * d) * T
  highB : ∀ t s, 1 ≤ t → t ≤ M → 0 < s * d - r * t → t < T → F * t < (s * d - r * t) * T
  highA : ∀ t s, 1 ≤ t → t ≤ M → 0 < s * d - r * t → (T < t ∨ (t = T ∧ up = false)) → F * t ≤ (s * d - r * t) * T
theorem Near.best_lo {r d M a b p q : Int} (N : Near r d M a b p q) (h1 : (r * b - a * d) * q ≤ (p * d - r * q) * b) (h2 : (r * b - a * d) * q = (p * d - r * q) * b → b ≤ q) : Best r d M b (r * b - a * d) false := by
  have hb := N.hb
  have hq := N.hq
  refine ⟨fun t s ht hM h c => ?_, fun t s ht hM h c => (N.farL ht hM h).1, fun t s ht hM h c => ?_, fun t s ht hM h c => cross (by omega) (by omega) (by omega) h1 (N.farU ht hM h).1⟩
  · rcases c with c | ⟨_, c⟩
    · exact (N.farL ht hM h).2 c
    · cases c
  · refine cross_lt (by omega) (by omega) (by omega) h1 (N.farU ht hM h).1 ?_
    rcases Int.lt_or_le ((r * b - a * d) * q) ((p * d - r * q) * b) with hx | hx
    · exact .inl hx
    · have := h2 (by omega)
      exact .inr ((N.farU ht hM h).2 (by omega))
theorem Near.best_hi {r d M a b p q : Int} (N : Near r d M a b p q) (h1 : (p * d - r * q) * b ≤ (r * b - a * d) * q) (h2 : (p * d - r * q) * b = (r * b - a * d) * q → q < b) : Best r d M q (p * d - r * q) true := by
  have hb := N.hb
  have hq := N.hq
  refine ⟨fun t s ht hM h c => ?_, fun t s ht hM h c => cross (by omega) (by omega) (by omega) h1 (N.farL ht hM h).1, fun t s ht hM h c => (N.farU ht hM h).2 c, fun t s ht hM h c => ?_⟩
  · refine cross_lt (by omega) (by omega) (by omega) h1 (N.farL ht hM h).1 ?_
    rcases Int.lt_or_le ((p * d - r * q) * b) ((r * b - a * d) * q) with hx | hx
    · exact .inl hx
    · have := h2 (by omega)
      exact .inr ((N.farL ht hM h).2 (by omega))
  · rcases c with c | ⟨_, c⟩
    · exact (N.farU ht hM h).1
    · cases c
end Go.Proofs.Num
