/- The simplest fraction of an open interval: plain laws. -/
namespace Go.Proofs.Num
set_option linter.unusedVariables false

/-- s/t lies strictly between n/d and p/q (q may be 0: no upper bound). -/
def Btw (n d p q s t : Int) : Prop := 1 ≤ t ∧ n * t < s * d ∧ s * q < p * t
/-- The simplest one of all, where no bound is negative: the least of numerator and of denominator at once. -/
structure Low (n d p q x y : Int) : Prop where
  btw : Btw n d p q x y
  least : ∀ s t, Btw n d p q s t → x ≤ s ∧ y ≤ t
/-- The simplest one of all: the least denominator, and of its fractions the numerator closest to 0. -/
structure Simple (n d p q x y : Int) : Prop where
  btw : Btw n d p q x y
  least : ∀ s t, Btw n d p q s t → y ≤ t ∧ (t = y → (x.natAbs : Int) ≤ s.natAbs)
theorem mul_pos_iff {a b : Int} (hb : 0 < b) (h : 0 < a * b) : 0 < a := by
  rcases Int.lt_or_le 0 a with h1 | h1
  · exact h1
  · have := Int.mul_nonneg (show 0 ≤ -a by omega) (show 0 ≤ b by omega)
    rw [Int.neg_mul] at this
    omega
theorem lt_of_mul {a b c : Int} (hc : 0 < c) (h : a * c < b * c) : a < b := Int.lt_of_mul_lt_mul_right h (by omega)
/-- Above the floor: s/t > n/d ≥ fl. -/
theorem above_floor {n d fl r s t : Int} (hn : n = fl * d + r) (h0 : 0 ≤ r) (hr : r < d) (ht : 1 ≤ t) (h : n * t < s * d) : fl * t < s := by
  refine lt_of_mul (c := d) (by omega) ?_
  have e : n * t = fl * t * d + r * t := by rw [hn]; grind
  have := Int.mul_nonneg h0 (show 0 ≤ t by omega)
  omega
/-- What lies in the interval, less the floor, turned upside down: it lies in the interval of the next step. -/
theorem btw_turn {n d p q fl r s t : Int} (hn : n = fl * d + r) (h0 : 0 ≤ r) (hr : r < d) (h : Btw n d p q s t) : Btw q (p - fl * q) d r t (s - fl * t) := by
  obtain ⟨ht, h1, h2⟩ := h
  have := above_floor hn h0 hr ht h1
  refine ⟨by omega, ?_, ?_⟩
  · have e : q * (s - fl * t) = s * q - fl * q * t := by grind
    have e2 : t * (p - fl * q) = p * t - fl * q * t := by grind
    omega
  · have e : d * (s - fl * t) = s * d - fl * d * t := by grind
    have e2 : t * r = n * t - fl * d * t := by rw [hn]; grind
    omega
theorem btw_back {n d p q fl r a b : Int} (hn : n = fl * d + r) (ha : 1 ≤ a) (h : Btw q (p - fl * q) d r a b) : Btw n d p q (fl * a + b) a := by
  obtain ⟨hb, h1, h2⟩ := h
  refine ⟨ha, ?_, ?_⟩
  · have e : n * a = fl * d * a + a * r := by rw [hn]; grind
    have e2 : (fl * a + b) * d = fl * d * a + d * b := by grind
    omega
  · have e : (fl * a + b) * q = fl * q * a + q * b := by grind
    have e2 : p * a = fl * q * a + a * (p - fl * q) := by grind
    omega
/-- A whole number lies inside, and no bound is negative. -/
theorem low_whole {n d p q fl r : Int} (hn : n = fl * d + r) (h0 : 0 ≤ r) (hr : r < d) (hfl : 0 ≤ fl) (hp : (fl + 1) * q < p) : Low n d p q (fl + 1) 1 := by
  refine ⟨⟨by omega, ?_, by omega⟩, fun s t h => ?_⟩
  · have e : (fl + 1) * d = fl * d + d := by grind
    omega
  · have := above_floor hn h0 hr h.1 h.2.1
    have l := Int.mul_le_mul_of_nonneg_left h.1 hfl
    have := h.1
    omega
/-- None lies inside: the step. -/
theorem low_step {n d p q fl r a b : Int} (hn : n = fl * d + r) (h0 : 0 ≤ r) (hr : r < d) (hfl : 0 ≤ fl) (ha : 1 ≤ a) (h : Low q (p - fl * q) d r a b) : Low n d p q (fl * a + b) a := by
  refine ⟨btw_back hn ha h.btw, fun s t hb => ?_⟩
  obtain ⟨l1, l2⟩ := h.least t (s - fl * t) (btw_turn hn h0 hr hb)
  have := Int.mul_le_mul_of_nonneg_left l1 hfl
  omega
theorem Low.simple {n d p q x y : Int} (hx : 0 ≤ x) (h : Low n d p q x y) : Simple n d p q x y := ⟨h.btw, fun s t hb => by
  have := h.least s t hb
  omega⟩
/-- 0 lies inside. -/
theorem simple_zero {n d p q : Int} (hn : n < 0) (hp : 0 < p) (hd : 1 ≤ d) : Simple n d p q 0 1 := ⟨⟨by omega, by omega, by omega⟩, fun s t h => ⟨h.1, fun _ => by omega⟩⟩
/-- A whole number lies inside, no bound is positive: the greatest below the upper bound. -/
theorem simple_up {n d p q fl r u l : Int} (hn : n = fl * d + r) (h0 : 0 ≤ r) (hr : r < d) (hq : 1 ≤ q) (hp : (fl + 1) * q < p) (hp0 : p ≤ 0) (hu : p = u * q + l) (l0 : 0 < l) (l1 : l ≤ q) : Simple n d p q u 1 := by
  have hfu : fl + 1 ≤ u := by
    have : (fl + 1) * q < (u + 1) * q := by rw [Int.add_mul u]; omega
    have := lt_of_mul (by omega) this
    omega
  have hu0 : u < 0 := by
    have : 0 < (-u) * q := by rw [Int.neg_mul]; omega
    have := mul_pos_iff (by omega) this
    omega
  refine ⟨⟨by omega, ?_, by omega⟩, fun s t h => ⟨h.1, fun ht => ?_⟩⟩
  · have e : fl * d + d ≤ u * d := by
      have := Int.mul_le_mul_of_nonneg_right hfu (show 0 ≤ d by omega)
      rw [Int.add_mul] at this
      omega
    omega
  · subst ht
    have h2 := h.2.2
    have : s * q < (u + 1) * q := by rw [Int.add_mul]; omega
    have := lt_of_mul (by omega) this
    omega
/-- None lies inside: the step, whatever the signs. Both bounds lie from fl to fl + 1. -/
theorem simple_step {n d p q fl r a b : Int} (hn : n = fl * d + r) (h0 : 0 ≤ r) (hr : r < d) (hq : 1 ≤ q) (hp : p ≤ (fl + 1) * q) (ha : 1 ≤ a) (h : Low q (p - fl * q) d r a b) : Simple n d p q (fl * a + b) a := by
  have B := btw_back hn ha h.btw
  have hb := h.btw.1
  -- below fl + 1
  have top : ∀ s t, Btw n d p q s t → s < (fl + 1) * t := fun s t hs => by
    refine lt_of_mul (c := q) (by omega) ?_
    have := hs.2.2
    have l := Int.mul_le_mul_of_nonneg_right hp (show 0 ≤ t by have := hs.1; omega)
    have e : (fl + 1) * t * q = (fl + 1) * q * t := by grind
    omega
  have bot : ∀ s t, Btw n d p q s t → fl * t < s := fun s t hs => above_floor hn h0 hr hs.1 hs.2.1
  refine ⟨B, fun s t hs => ?_⟩
  obtain ⟨m1, m2⟩ := h.least t (s - fl * t) (btw_turn hn h0 hr hs)
  refine ⟨m1, fun ht => ?_⟩
  subst ht
  rcases Int.lt_or_le fl 0 with hf | hf
  · -- the numerator is unique
    rcases Int.lt_or_le (fl * t + b) s with hlt | hge
    · exfalso
      have t1 := top _ _ hs
      have t2 := bot _ _ B
      have e0 : (fl + 1) * t = fl * t + t := by grind
      have hbt : b + 1 < t := by omega
      -- (x - fl)/(t - 1) lies inside
      have hin : Btw n d p q (fl * t + b - fl) (t - 1) := by
        refine ⟨by omega, ?_, ?_⟩
        · refine lt_of_mul (c := t) (by omega) ?_
          have b1 := B.2.1
          have c1 : n * t * (t - 1) < (fl * t + b) * d * (t - 1) := Int.mul_lt_mul_of_pos_right b1 (by omega)
          have c2 : n * (t - 1) * t = n * t * (t - 1) := by grind
          have c3 : (fl * t + b - fl) * d * t - (fl * t + b) * d * (t - 1) = b * d := by grind
          have c4 : 0 ≤ b * d := Int.mul_nonneg (by omega) (by omega)
          omega
        · refine lt_of_mul (c := t) (by omega) ?_
          have b2 := hs.2.2
          have b3 : (fl * t + b + 1) * q ≤ s * q := Int.mul_le_mul_of_nonneg_right (by omega) (by omega)
          have c1 : (fl * t + b + 1) * q * (t - 1) < p * t * (t - 1) := Int.mul_lt_mul_of_pos_right (by omega) (by omega)
          have c2 : p * (t - 1) * t = p * t * (t - 1) := by grind
          have c3 : (fl * t + b + 1) * q * (t - 1) - (fl * t + b - fl) * q * t = q * (t - 1 - b) := by grind
          have c4 : 0 ≤ q * (t - 1 - b) := Int.mul_nonneg (by omega) (by omega)
          omega
      have := (h.least (t - 1) _ (btw_turn hn h0 hr hin)).1
      omega
    · have e : s = fl * t + b := by omega
      rw [e]
      exact Int.le_refl _
  · have := Int.mul_nonneg hf (show 0 ≤ t by omega)
    omega
/-- The fraction of the sums lies inside: so the simplest one's numbers are bounded. -/
theorem btw_sum {n d p q : Int} (hd : 1 ≤ d) (hq : 0 ≤ q) (h : n * q < p * d) : Btw n d p q (n + p) (d + q) := by
  refine ⟨by omega, ?_, ?_⟩
  · have e1 : n * (d + q) = n * d + n * q := by grind
    have e2 : (n + p) * d = n * d + p * d := by grind
    omega
  · have e1 : (n + p) * q = n * q + p * q := by grind
    have e2 : p * (d + q) = p * d + p * q := by grind
    omega
/-- The simplest fraction is in lowest terms. -/
theorem Simple.gcd {n d p q x y : Int} (hq : 0 ≤ q) (hd : 1 ≤ d) (h : Simple n d p q x y) : Nat.gcd x.natAbs y.natAbs = 1 := by
  obtain ⟨hy, h1, h2⟩ := h.btw
  obtain ⟨g, hg⟩ : ∃ g, g = Nat.gcd x.natAbs y.natAbs := ⟨_, rfl⟩
  have gx : (g : Int) ∣ x := Int.ofNat_dvd_left.2 (hg ▸ Nat.gcd_dvd_left _ _)
  have gy : (g : Int) ∣ y := Int.ofNat_dvd_left.2 (hg ▸ Nat.gcd_dvd_right _ _)
  obtain ⟨a, ha⟩ := gx
  obtain ⟨b, hb⟩ := gy
  have hg0 : 0 < g := by
    rw [hg]
    exact Nat.gcd_pos_of_pos_right _ (by omega)
  have hb1 : 1 ≤ b := by
    have : 0 < b * (g : Int) := by rw [Int.mul_comm]; omega
    have := mul_pos_iff (by omega) this
    omega
  have hin : Btw n d p q a b := by
    refine ⟨hb1, ?_, ?_⟩
    · refine lt_of_mul (c := (g : Int)) (by omega) ?_
      have e1 : n * b * (g : Int) = n * y := by rw [hb]; grind
      have e2 : a * d * (g : Int) = x * d := by rw [ha]; grind
      omega
    · refine lt_of_mul (c := (g : Int)) (by omega) ?_
      have e1 : a * q * (g : Int) = x * q := by rw [ha]; grind
      have e2 : p * b * (g : Int) = p * y := by rw [hb]; grind
      omega
  have hle := (h.least a b hin).1
  rw [← hg]
  rcases Nat.lt_or_ge 1 g with h3 | h3
  · exfalso
    have : 2 * b ≤ (g : Int) * b := Int.mul_le_mul_of_nonneg_right (by omega) (by omega)
    omega
  · omega
end Go.Proofs.Num
