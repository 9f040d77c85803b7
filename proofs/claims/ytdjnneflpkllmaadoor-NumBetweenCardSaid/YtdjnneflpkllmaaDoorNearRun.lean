/- around, down and Best of num: what they come to. -/
import Derived.Test.YtdjnneflpkllmaaDoorNear
import Derived.Test.YtdjnneflpkllmaaDoorR20
namespace Go.Proofs.Num
open Go.RowKit Go.Proofs.YtdjnneflpkllmaaDoorW.PrintWords Go.Proofs.YtdjnneflpkllmaaDoorW.PrintMore Go.Proofs.YtdjnneflpkllmaaDoor.Q
set_option linter.unusedVariables false
set_option linter.unusedSimpArgs false

theorem wr64 {x : Int} (h0 : -9223372036854775808 ≤ x) (h1 : x ≤ 9223372036854775807) : wrap64 x = x := by unfold wrap64; omega
theorem mul_bd {x y X Y : Int} (h0 : 0 ≤ x) (h1 : x ≤ X) (g0 : 0 ≤ y) (g1 : y ≤ Y) : 0 ≤ x * y ∧ x * y ≤ X * Y := ⟨Int.mul_nonneg h0 g0, Int.mul_le_mul h1 g1 g0 (Int.le_trans h0 h1)⟩
theorem down_ok {n d : Int} (hn : -4611686018427387904 ≤ n) (hn' : n ≤ 4611686018427387904) (hd : 0 < d) (hd' : d ≤ 4611686018427387904) : num_down.f n d = some (n / d, n % d) := by
  unfold num_down.f
  have h3 : 0 ≤ n % d := Int.emod_nonneg _ (by omega)
  have h4 : n % d < d := Int.emod_lt_of_pos _ hd
  have h5 : d * (n / d) + n % d = n := Int.mul_ediv_add_emod n d
  have b1 : n / d ≤ 4611686018427387904 := by
    have : n / d ≤ n / d * d ∨ n / d < 0 := by
      rcases Int.lt_or_le (n / d) 0 with h | h
      · exact .inr h
      · left
        have := Int.mul_le_mul_of_nonneg_left (show (1 : Int) ≤ d by omega) h
        omega
    rw [Int.mul_comm] at h5
    omega
  have b2 : -4611686018427387905 ≤ n / d := by
    rcases Int.lt_or_le (n / d) 0 with h | h
    · have := Int.mul_le_mul_of_nonneg_right (show (1 : Int) ≤ d by omega) (show 0 ≤ -(n / d + 1) by omega)
      have e : d * (-(n / d + 1)) = -(d * (n / d)) - d := by grind
      omega
    · omega
  rw [if_neg (by omega)]
  have hs : d.sign = 1 := Int.sign_eq_one_of_pos hd
  have ha : (d.natAbs : Int) = d := by omega
  rw [Int.tmod_eq_emod, Int.tdiv_eq_ediv, hs]
  by_cases hc : 0 ≤ n ∨ d ∣ n
  · simp only [if_pos hc]
    rw [if_neg (by omega), wr64 (by omega) (by omega)]
    simp
  · simp only [if_neg hc, ha]
    have hr : n % d ≠ 0 := fun h => hc (.inr (Int.dvd_of_emod_eq_zero h))
    rw [if_pos (by omega), wr64 (x := n / d + 1) (by omega) (by omega), wr64 (by omega) (by omega), wr64 (by omega) (by omega)]
    congr 2 <;> omega
/-- What the search keeps. -/
structure Ar (r d M a b p q : Int) : Prop where
  hr : 0 ≤ r
  hrd : r < d
  hd : d ≤ 1099511627776
  hM : M ≤ 1048576
  a0 : 0 ≤ a
  ab : a ≤ b
  b1 : 1 ≤ b
  bM : b ≤ M
  p0 : 0 ≤ p
  pq : p ≤ q
  q1 : 1 ≤ q
  qM : q ≤ M
  det : p * b - a * q = 1
  lo : 0 ≤ r * b - a * d
  hi : 0 < p * d - r * q
theorem div_mul_le {x y : Int} (hy : 0 < y) : x / y * y ≤ x := Int.ediv_mul_le _ (by omega)
theorem mn_le (x y : Int) : mn x y ≤ x ∧ mn x y ≤ y := by unfold mn; split <;> omega
theorem mn_cases (x y : Int) : mn x y = x ∨ mn x y = y := by unfold mn; split <;> omega
/-- The lower one moved. -/
theorem Ar.up {r d M a b p q K : Int} (A : Ar r d M a b p q) (hK : 0 ≤ K) (h1 : K * q ≤ M - b) (h2 : K * (p * d - r * q) ≤ r * b - a * d) : Ar r d M (a + K * p) (b + K * q) p q := by
  obtain ⟨hr, hrd, hd, hM, a0, ab, b1, bM, p0, pq, q1, qM, det, lo, hi⟩ := A
  have l1 := Int.mul_nonneg hK p0
  have l2 := Int.mul_le_mul_of_nonneg_left pq hK
  have l3 := Int.mul_nonneg hK (show 0 ≤ q by omega)
  refine ⟨hr, hrd, hd, hM, by omega, by omega, by omega, by omega, p0, pq, q1, qM, by grind, ?_, hi⟩
  have e : r * (b + K * q) - (a + K * p) * d = r * b - a * d - K * (p * d - r * q) := by grind
  omega
theorem Ar.down {r d M a b p q J : Int} (A : Ar r d M a b p q) (hJ : 0 ≤ J) (h1 : J * b ≤ M - q) (h2 : J * (r * b - a * d) ≤ p * d - r * q - 1) : Ar r d M a b (p + J * a) (q + J * b) := by
  obtain ⟨hr, hrd, hd, hM, a0, ab, b1, bM, p0, pq, q1, qM, det, lo, hi⟩ := A
  have l1 := Int.mul_nonneg hJ a0
  have l2 := Int.mul_le_mul_of_nonneg_left ab hJ
  have l3 := Int.mul_nonneg hJ (show 0 ≤ b by omega)
  refine ⟨hr, hrd, hd, hM, a0, ab, b1, bM, by omega, by omega, by omega, by omega, by grind, lo, ?_⟩
  have e : (p + J * a) * d - r * (q + J * b) = p * d - r * q - J * (r * b - a * d) := by grind
  omega
theorem ar_l0 {r d M a b p q : Int} (A : Ar r d M a b p q) (k : Nat) : num_around.l0 (k + 1) r d M a b p q = num_around.j1 k r d M (mn ((M - b) / q) ((r * b - a * d) / (p * d - r * q))) a b p q := by
  obtain ⟨hr, hrd, hd, hM, a0, ab, b1, bM, p0, pq, q1, qM, det, lo, hi⟩ := A
  obtain ⟨m1, m2⟩ := mul_bd p0 (show p ≤ 1048576 by omega) (show 0 ≤ d by omega) hd
  obtain ⟨m3, m4⟩ := mul_bd hr (show r ≤ 1099511627776 by omega) (show 0 ≤ q by omega) (show q ≤ 1048576 by omega)
  obtain ⟨m5, m6⟩ := mul_bd hr (show r ≤ 1099511627776 by omega) (show 0 ≤ b by omega) (show b ≤ 1048576 by omega)
  obtain ⟨m7, m8⟩ := mul_bd a0 (show a ≤ 1048576 by omega) (show 0 ≤ d by omega) hd
  have d1 : (M - b) / q ≤ M - b := Int.ediv_le_self _ (by omega)
  have d2 : 0 ≤ (M - b) / q := Int.ediv_nonneg (by omega) (by omega)
  have d3 : (r * b - a * d) / (p * d - r * q) ≤ r * b - a * d := Int.ediv_le_self _ (by omega)
  have d4 : 0 ≤ (r * b - a * d) / (p * d - r * q) := Int.ediv_nonneg (by omega) (by omega)
  rw [num_around.l0, if_neg (by omega)]
  rw [wr64 (x := p * d) (by omega) (by omega), wr64 (x := r * q) (by omega) (by omega), wr64 (x := p * d - r * q) (by omega) (by omega), if_pos hi, if_neg (by omega),
    wr64 (x := M - b) (by omega) (by omega), wr64 (x := r * b) (by omega) (by omega), wr64 (x := a * d) (by omega) (by omega), wr64 (x := r * b - a * d) (by omega) (by omega),
    Int.tdiv_eq_ediv_of_nonneg (by omega), Int.tdiv_eq_ediv_of_nonneg (by omega), wr64 (x := (M - b) / q) (by omega) (by omega), wr64 (x := (r * b - a * d) / (p * d - r * q)) (by omega) (by omega)]
/-- How far the upper one is moved. -/
def jn (r d M a b p q : Int) : Int := if r * b - a * d > 0 then mn ((M - q) / b) ((p * d - r * q - 1) / (r * b - a * d)) else (M - q) / b
theorem ar_j1 {r d M a b p q K a' b' : Int} (A : Ar r d M a' b' p q) (ea : a' = a + K * p) (eb : b' = b + K * q) (A0 : Ar r d M a b p q) (hK : 0 ≤ K) (k : Nat) :
    num_around.j1 (k + 1) r d M K a b p q = if K = 0 ∧ jn r d M a' b' p q = 0 then some (a', b', p + jn r d M a' b' p q * a', q + jn r d M a' b' p q * b') else num_around.l0 k r d M a' b' (p + jn r d M a' b' p q * a') (q + jn r d M a' b' p q * b') := by
  obtain ⟨hr, hrd, hd, hM, a0, ab, b1, bM, p0, pq, q1, qM, det, lo, hi⟩ := A
  have z1 := Int.mul_nonneg hK p0
  have z2 := Int.mul_nonneg hK (show 0 ≤ q by omega)
  have y1 := A0.a0
  have y2 := A0.b1
  rw [num_around.j1]
  rw [wr64 (x := K * q) (by omega) (by omega), wr64 (x := b + K * q) (by omega) (by omega), wr64 (x := K * p) (by omega) (by omega), wr64 (x := a + K * p) (by omega) (by omega), ← ea, ← eb]
  clear ea eb z1 z2 y1 y2
  obtain ⟨m1, m2⟩ := mul_bd p0 (show p ≤ 1048576 by omega) (show 0 ≤ d by omega) hd
  obtain ⟨m3, m4⟩ := mul_bd hr (show r ≤ 1099511627776 by omega) (show 0 ≤ q by omega) (show q ≤ 1048576 by omega)
  obtain ⟨m5, m6⟩ := mul_bd hr (show r ≤ 1099511627776 by omega) (show 0 ≤ b' by omega) (show b' ≤ 1048576 by omega)
  obtain ⟨m7, m8⟩ := mul_bd a0 (show a' ≤ 1048576 by omega) (show 0 ≤ d by omega) hd
  have d1 : (M - q) / b' ≤ M - q := Int.ediv_le_self _ (by omega)
  have d2 : 0 ≤ (M - q) / b' := Int.ediv_nonneg (by omega) (by omega)
  rw [if_neg (by omega), wr64 (x := r * b') (by omega) (by omega), wr64 (x := a' * d) (by omega) (by omega), wr64 (x := r * b' - a' * d) (by omega) (by omega), wr64 (x := M - q) (by omega) (by omega), Int.tdiv_eq_ediv_of_nonneg (show 0 ≤ M - q by omega), wr64 (x := (M - q) / b') (by omega) (by omega), wr64 (x := p * d) (by omega) (by omega), wr64 (x := r * q) (by omega) (by omega), wr64 (x := p * d - r * q) (by omega) (by omega), wr64 (x := p * d - r * q - 1) (by omega) (by omega), Int.tdiv_eq_ediv_of_nonneg (show 0 ≤ p * d - r * q - 1 by omega)]
  have J0 : 0 ≤ jn r d M a' b' p q ∧ jn r d M a' b' p q ≤ (M - q) / b' := by
    unfold jn
    split
    · have d4 : 0 ≤ (p * d - r * q - 1) / (r * b' - a' * d) := Int.ediv_nonneg (by omega) (by omega)
      have := mn_le ((M - q) / b') ((p * d - r * q - 1) / (r * b' - a' * d))
      rcases mn_cases ((M - q) / b') ((p * d - r * q - 1) / (r * b' - a' * d)) with h | h <;> omega
    · omega
  have JB : jn r d M a' b' p q * b' ≤ M - q := Int.le_trans (Int.mul_le_mul_of_nonneg_right J0.2 (by omega)) (div_mul_le (by omega))
  have JA : jn r d M a' b' p q * a' ≤ jn r d M a' b' p q * b' := Int.mul_le_mul_of_nonneg_left ab J0.1
  have JA0 := Int.mul_nonneg J0.1 a0
  have W : ∀ J : Int, J = jn r d M a' b' p q → wrap64 (p + wrap64 (J * a')) = p + jn r d M a' b' p q * a' ∧ wrap64 (q + wrap64 (J * b')) = q + jn r d M a' b' p q * b' := by
    intro J e
    subst e
    rw [wr64 (x := _ * a') (by omega) (by omega), wr64 (x := _ * b') (by omega) (by omega)]
    exact ⟨wr64 (by omega) (by omega), wr64 (by omega) (by omega)⟩
  by_cases hg : r * b' - a' * d > 0
  · have d3 : (p * d - r * q - 1) / (r * b' - a' * d) ≤ p * d - r * q - 1 := Int.ediv_le_self _ (by omega)
    have d4 : 0 ≤ (p * d - r * q - 1) / (r * b' - a' * d) := Int.ediv_nonneg (by omega) (by omega)
    rw [wr64 (x := (p * d - r * q - 1) / (r * b' - a' * d)) (by omega) (by omega), if_pos hg, if_neg (by omega)]
    have ej : mn ((M - q) / b') ((p * d - r * q - 1) / (r * b' - a' * d)) = jn r d M a' b' p q := by unfold jn; rw [if_pos hg]
    rw [ej, (W _ rfl).1, (W _ rfl).2]
    by_cases hk0 : K = 0
    · by_cases hj0 : jn r d M a' b' p q = 0
      · rw [if_pos hk0, if_pos hj0, if_pos ⟨hk0, hj0⟩]
      · rw [if_pos hk0, if_neg hj0, if_neg (fun h => hj0 h.2)]
    · rw [if_neg hk0, if_neg (fun h => hk0 h.1)]
  · rw [if_neg hg]
    have ej : (M - q) / b' = jn r d M a' b' p q := by unfold jn; rw [if_neg hg]
    rw [ej, (W _ rfl).1, (W _ rfl).2]
    by_cases hk0 : K = 0
    · by_cases hj0 : jn r d M a' b' p q = 0
      · rw [if_pos hk0, if_pos hj0, if_pos ⟨hk0, hj0⟩]
      · rw [if_pos hk0, if_neg hj0, if_neg (fun h => hj0 h.2)]
    · rw [if_neg hk0, if_neg (fun h => hk0 h.1)]
/-- One round of the search. -/
theorem around_step {r d M a b p q : Int} (A : Ar r d M a b p q)
    (ih : ∀ a' b' p' q', Ar r d M a' b' p' q' → b + q < b' + q' → ∃ a2 b2 p2 q2, Ev (fun k => num_around.l0 k r d M a' b' p' q') (a2, b2, p2, q2) ∧ Ar r d M a2 b2 p2 q2 ∧ M < b2 + q2) :
    ∃ a2 b2 p2 q2, Ev (fun k => num_around.l0 k r d M a b p q) (a2, b2, p2, q2) ∧ Ar r d M a2 b2 p2 q2 ∧ M < b2 + q2 := by
  have hb := A.b1
  have hq := A.q1
  have hbM := A.bM
  have hqM := A.qM
  have hlo := A.lo
  have hhi := A.hi
  obtain ⟨K, eK⟩ : ∃ K, K = mn ((M - b) / q) ((r * b - a * d) / (p * d - r * q)) := ⟨_, rfl⟩
  have kl := mn_le ((M - b) / q) ((r * b - a * d) / (p * d - r * q))
  have k0 : 0 ≤ K := by
    have x1 : 0 ≤ (M - b) / q := Int.ediv_nonneg (by omega) (by omega)
    have x2 : 0 ≤ (r * b - a * d) / (p * d - r * q) := Int.ediv_nonneg (by omega) (by omega)
    rcases mn_cases ((M - b) / q) ((r * b - a * d) / (p * d - r * q)) with h | h <;> omega
  have k1 : K * q ≤ M - b := Int.le_trans (Int.mul_le_mul_of_nonneg_right (show K ≤ (M - b) / q by omega) (by omega)) (div_mul_le (by omega))
  have k2 : K * (p * d - r * q) ≤ r * b - a * d := Int.le_trans (Int.mul_le_mul_of_nonneg_right (show K ≤ (r * b - a * d) / (p * d - r * q) by omega) (by omega)) (div_mul_le (by omega))
  have A1 := A.up k0 k1 k2
  obtain ⟨a', ea⟩ : ∃ a', a' = a + K * p := ⟨_, rfl⟩
  obtain ⟨b', eb⟩ : ∃ b', b' = b + K * q := ⟨_, rfl⟩
  rw [← ea, ← eb] at A1
  have hb' := A1.b1
  have hbM' := A1.bM
  have hlo' := A1.lo
  obtain ⟨J, eJ⟩ : ∃ J, J = jn r d M a' b' p q := ⟨_, rfl⟩
  have j0 : 0 ≤ J ∧ J ≤ (M - q) / b' ∧ (r * b' - a' * d > 0 → J ≤ (p * d - r * q - 1) / (r * b' - a' * d)) := by
    have x1 : 0 ≤ (M - q) / b' := Int.ediv_nonneg (by omega) (by omega)
    rw [eJ]
    unfold jn
    split
    · have x2 : 0 ≤ (p * d - r * q - 1) / (r * b' - a' * d) := Int.ediv_nonneg (by omega) (by omega)
      have := mn_le ((M - q) / b') ((p * d - r * q - 1) / (r * b' - a' * d))
      refine ⟨?_, this.1, fun _ => this.2⟩
      rcases mn_cases ((M - q) / b') ((p * d - r * q - 1) / (r * b' - a' * d)) with h | h <;> omega
    · exact ⟨by omega, by omega, fun h => by omega⟩
  have j1 : J * b' ≤ M - q := Int.le_trans (Int.mul_le_mul_of_nonneg_right j0.2.1 (by omega)) (div_mul_le (by omega))
  have j2 : J * (r * b' - a' * d) ≤ p * d - r * q - 1 := by
    rcases Int.lt_or_le 0 (r * b' - a' * d) with h | h
    · exact Int.le_trans (Int.mul_le_mul_of_nonneg_right (j0.2.2 h) (by omega)) (div_mul_le (by omega))
    · have : r * b' - a' * d = 0 := by omega
      rw [this, Int.mul_zero]
      omega
  have A2 := A1.down j0.1 j1 j2
  have S1 := ar_j1 A1 ea eb A k0
  have S0 := ar_l0 A
  rw [← eK] at S0
  rw [← eJ] at S1
  have kq := Int.mul_nonneg k0 (show 0 ≤ q by omega)
  by_cases hz : K = 0 ∧ J = 0
  · obtain ⟨z1, z2⟩ := hz
    rw [z1] at ea eb
    rw [Int.zero_mul, Int.add_zero] at ea eb
    refine ⟨a', b', p + J * a', q + J * b', ?_, A2, ?_⟩
    · refine Ev.step (fun k => S0 k) (Ev.step (f := fun k => some (a', b', p + J * a', q + J * b')) (fun k => ?_) (Ev.now _))
      rw [S1 k, if_pos ⟨z1, z2⟩]
    · subst ea eb
      rw [z2, Int.zero_mul]
      rcases Int.lt_or_le M (a' + 0 * 0 + b' - a' + q) with h | h
      · omega
      · exfalso
        have y1 : 1 ≤ (M - b') / q := by rw [Int.le_ediv_iff_mul_le (by omega)]; omega
        have y2 : 1 ≤ (M - q) / b' := by rw [Int.le_ediv_iff_mul_le (by omega)]; omega
        have y3 : (r * b' - a' * d) / (p * d - r * q) = 0 := by
          rcases mn_cases ((M - b') / q) ((r * b' - a' * d) / (p * d - r * q)) with h | h <;> omega
        have y4 : r * b' - a' * d < p * d - r * q := by
          rcases Int.lt_or_le (r * b' - a' * d) (p * d - r * q) with h | h
          · exact h
          · have : 1 ≤ (r * b' - a' * d) / (p * d - r * q) := by rw [Int.le_ediv_iff_mul_le (by omega)]; omega
            omega
        unfold jn at eJ
        by_cases hg : r * b' - a' * d > 0
        · rw [if_pos hg] at eJ
          have y5 : (p * d - r * q - 1) / (r * b' - a' * d) = 0 := by
            rcases mn_cases ((M - q) / b') ((p * d - r * q - 1) / (r * b' - a' * d)) with h | h <;> omega
          have : 1 ≤ (p * d - r * q - 1) / (r * b' - a' * d) := by rw [Int.le_ediv_iff_mul_le (by omega)]; omega
          omega
        · rw [if_neg hg] at eJ
          omega
  · have hgt : b + q < b' + (q + J * b') := by
      have jb := Int.mul_nonneg j0.1 (show 0 ≤ b' by omega)
      rcases Int.lt_or_le 0 K with h | h
      · have := Int.mul_pos h (show 0 < q by omega)
        omega
      · have : 0 < J := by
          have : K = 0 := by omega
          have : J ≠ 0 := fun h => hz ⟨this, h⟩
          omega
        have := Int.mul_pos this (show 0 < b' by omega)
        omega
    obtain ⟨a2, b2, p2, q2, E, A3, hM⟩ := ih _ _ _ _ A2 hgt
    refine ⟨a2, b2, p2, q2, Ev.step (fun k => S0 k) (Ev.step (f := fun k => num_around.l0 k r d M a' b' (p + J * a') (q + J * b')) (fun k => ?_) E), A3, hM⟩
    rw [S1 k, if_neg hz]
/-- The search ends at neighbours. -/
theorem around_l0 : ∀ (m : Nat) (r d M a b p q : Int), Ar r d M a b p q → 2 * M - b - q ≤ m → ∃ a' b' p' q', Ev (fun k => num_around.l0 k r d M a b p q) (a', b', p', q') ∧ Ar r d M a' b' p' q' ∧ M < b' + q' := by
  intro m
  induction m with
  | zero =>
    intro r d M a b p q A hm
    exact around_step A (fun a' b' p' q' A' h => by have e1 := A'.bM; have e2 := A'.qM; have e3 := A.bM; have e4 := A.qM; omega)
  | succ m ih =>
    intro r d M a b p q A hm
    exact around_step A (fun a' b' p' q' A' h => ih r d M a' b' p' q' A' (by omega))
theorem around_ok {r d M : Int} (hr : 0 ≤ r) (hrd : r < d) (hd : d ≤ 1099511627776) (h1 : 1 ≤ M) (hM : M ≤ 1048576) : ∃ a b p q, Ev (fun k => num_around.f k r d M) (a, b, p, q) ∧ Ar r d M a b p q ∧ M < b + q :=
  around_l0 (2 * M).toNat r d M 0 1 1 1 ⟨hr, hrd, hd, hM, by omega, by omega, by omega, h1, by omega, by omega, by omega, h1, by omega, by omega, by omega⟩ (by omega)
end Go.Proofs.Num
