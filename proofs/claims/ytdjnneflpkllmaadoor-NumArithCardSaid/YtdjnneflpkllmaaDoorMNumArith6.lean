/- Part 6 of the proof of NumArith. -/
import Derived.Test.YtdjnneflpkllmaaDoorMNumArith5

namespace Go.Proofs.Num
open Go.RowKit Go.Proofs.YtdjnneflpkllmaaDoorW.PrintWords Go.Proofs.YtdjnneflpkllmaaDoorW.PrintMore Go.Proofs.YtdjnneflpkllmaaDoor.Q
set_option linter.unusedVariables false
set_option linter.unusedSimpArgs false
/-- made: lowest of a number whose size and sign are given. -/
theorem made_ok {neg : Bool} {n d : Nat} {x : Int} (hn : n < 18446744073709551616) (hd : 0 < d) (hd2 : d < 18446744073709551616) (hx : x.natAbs = n) (hs : n ≠ 0 → neg = decide (x < 0)) : Ev (fun k => num_made.f k neg (n : Int) (d : Int)) (lowest x (d : Int)) := by
  unfold num_made.f
  refine Ev.bind (gcd_ok n d) ?_
  have hg : 0 < Nat.gcd n d := Nat.gcd_pos_of_pos_right _ hd
  have key : lowest x (d : Int) = if (n : Int) / (Nat.gcd n d : Nat) ≤ 1099511627776 ∧ (d : Int) / (Nat.gcd n d : Nat) ≤ 1048576 then ((if x < 0 then -((n : Int) / (Nat.gcd n d : Nat)) else (n : Int) / (Nat.gcd n d : Nat)), (d : Int) / (Nat.gcd n d : Nat), 0) else (0, 0, 4) := by
    unfold lowest
    simp only [hx, Int.natAbs_natCast]
  rw [key]
  clear key
  generalize hG : ((Nat.gcd n d : Nat) : Int) = G at *
  have G0 : 0 < G := by omega
  have q0 : 0 ≤ (n : Int) / G := Int.ediv_nonneg (by omega) (by omega)
  have q1 : (n : Int) / G ≤ n := Int.ediv_le_self _ (by omega)
  have p0 : 0 ≤ (d : Int) / G := Int.ediv_nonneg (by omega) (by omega)
  have p1 : (d : Int) / G ≤ d := Int.ediv_le_self _ (by omega)
  have z : n = 0 → (n : Int) / G = 0 := fun h => by rw [h]; simp
  have t1 : (n : Int).tdiv G = (n : Int) / G := Int.tdiv_eq_ediv_of_nonneg (by omega)
  have t2 : (d : Int).tdiv G = (d : Int) / G := Int.tdiv_eq_ediv_of_nonneg (by omega)
  simp only [if_neg (show ¬ G = 0 by omega), t1, t2, wu (x := (n : Int) / G) (by omega) (by omega), wu (x := (d : Int) / G) (by omega) (by omega)]
  clear t1 t2
  generalize (n : Int) / G = P at *
  generalize (d : Int) / G = Q at *
  have bad : ∀ neg : Bool, Ev (fun k => num_made.j0 k neg P Q true) (0, 0, 4) := fun neg => Ev.step (f := fun _ => some (0, 0, 4)) (fun k => by rw [num_made.j0, if_pos rfl]) (Ev.now _)
  by_cases c1 : P ≤ 1099511627776
  · by_cases c2 : Q ≤ 1048576
    · simp only [if_neg (show ¬ P > 1099511627776 by omega), decide_eq_false (show ¬ Q > 1048576 by omega)]
      rw [if_pos ⟨c1, c2⟩]
      have hs' : (if neg = true then -P else P) = (if x < 0 then -P else P) := by
        by_cases n00 : n = 0
        · rw [z n00]; simp
        · rw [hs n00]
          by_cases a : x < 0
          · rw [decide_eq_true a, if_pos a]; rfl
          · rw [decide_eq_false a, if_neg a]; rfl
      rw [← hs']
      refine Ev.step (f := fun _ => some ((if neg = true then -P else P), Q, 0)) (fun k => ?_) (Ev.now _)
      rw [num_made.j0, if_neg (by decide), w64 (x := P) (by omega) (by omega), w64 (x := Q) (by omega) (by omega), w64 (x := -P) (by omega) (by omega)]
      split <;> rfl
    · simp only [if_neg (show ¬ P > 1099511627776 by omega), decide_eq_true (show Q > 1048576 by omega)]
      rw [if_neg (fun h => c2 h.2)]
      exact bad _
  · simp only [if_pos (show P > 1099511627776 by omega)]
    rw [if_neg (fun h => c1 h.1)]
    exact bad _
/-- What both operands' common factor adds is cancelled. -/
theorem lowest_scale {c x y : Int} (hc : 0 < c) (hy : 0 < y) : lowest (c * x) (c * y) = lowest x y := by
  have e : ((Nat.gcd (c * x).natAbs (c * y).natAbs : Nat) : Int) = c * (Nat.gcd x.natAbs y.natAbs : Nat) := by
    rw [Int.natAbs_mul, Int.natAbs_mul, Nat.gcd_mul_left, Int.natCast_mul, Int.natAbs_of_nonneg (Int.le_of_lt hc)]
  have a : ((c * x).natAbs : Int) = c * x.natAbs := by rw [Int.natAbs_mul, Int.natCast_mul, Int.natAbs_of_nonneg (Int.le_of_lt hc)]
  have s : c * x < 0 ↔ x < 0 := by
    constructor
    · intro h
      apply Classical.byContradiction
      intro g
      have := Int.mul_nonneg (Int.le_of_lt hc) (show 0 ≤ x by omega)
      omega
    · intro h
      exact Int.mul_neg_of_pos_of_neg hc h
  unfold lowest
  simp only [e, a, s, Int.mul_ediv_mul_of_pos _ _ hc]
theorem lowest_zero {y : Int} (hy : 0 < y) : lowest 0 y = (0, 1, 0) := by
  unfold lowest
  have e : ((Nat.gcd (0 : Int).natAbs y.natAbs : Nat) : Int) = y := by simp; omega
  simp only [e, Int.ediv_self (show y ≠ 0 by omega)]
  simp
/-- In lowest terms already, and too great. -/
theorem lowest_big {x y : Int} (hc : Nat.gcd x.natAbs y.natAbs = 1) (h : 1099511627776 < (x.natAbs : Int) ∨ 1048576 < y) : lowest x y = (0, 0, 4) := by
  unfold lowest
  simp only [hc, Int.natCast_one, Int.ediv_one]
  rw [if_neg]
  omega
/-- times: a fraction multiplied by a sign and n/d in lowest terms. -/
theorem ntimes_ok {a0 a1 : Int} (va : valid a0 a1) {neg : Bool} {n d : Nat} {x : Int} (hn : n ≤ 1099511627776) (hd : 0 < d) (hd2 : d ≤ 1099511627776) (hc : Nat.gcd n d = 1) (hx : x.natAbs = n) (hs : n ≠ 0 → neg = decide (x < 0)) :
    Ev (fun k => num_times.f k a0 a1 neg (n : Int) (d : Int)) (lowest (a0 * x) (a1 * d)) := by
  obtain ⟨v1, v2, v3, v4, v5⟩ := va
  obtain ⟨e, rfl⟩ := Int.eq_ofNat_of_zero_le (show 0 ≤ a1 by omega)
  obtain ⟨m, hm⟩ : ∃ m, m = a0.natAbs := ⟨_, rfl⟩
  have co : Nat.gcd m e = 1 := by rw [hm]; simpa using v5
  unfold num_times.f
  simp only [size_ok (a := a0) (by omega) (by omega), Option.bind_some, ← hm, wu (x := (e : Int)) (by omega) (by omega)]
  refine Ev.bind (gcd_ok m d) ?_
  refine Ev.bind (gcd_ok n e) ?_
  have hg : 0 < Nat.gcd m d := Nat.gcd_pos_of_pos_right _ hd
  have hh : 0 < Nat.gcd n e := Nat.gcd_pos_of_pos_right _ (by omega)
  obtain ⟨m', em⟩ := Nat.gcd_dvd_left m d
  obtain ⟨d', ed⟩ := Nat.gcd_dvd_right m d
  obtain ⟨n', en⟩ := Nat.gcd_dvd_left n e
  obtain ⟨e', ee⟩ := Nat.gcd_dvd_right n e
  have c1 : Nat.gcd m' d' = 1 := by
    have h := Nat.coprime_div_gcd_div_gcd hg
    rw [Nat.div_eq_of_eq_mul_right hg em, Nat.div_eq_of_eq_mul_right hg ed] at h
    exact h
  have c2 : Nat.gcd n' e' = 1 := by
    have h := Nat.coprime_div_gcd_div_gcd hh
    rw [Nat.div_eq_of_eq_mul_right hh en, Nat.div_eq_of_eq_mul_right hh ee] at h
    exact h
  generalize hG : Nat.gcd m d = g at *
  generalize hH : Nat.gcd n e = h at *
  have dm : m' ∣ m := ⟨g, by rw [em]; exact Nat.mul_comm _ _⟩
  have dd : d' ∣ d := ⟨g, by rw [ed]; exact Nat.mul_comm _ _⟩
  have dn : n' ∣ n := ⟨h, by rw [en]; exact Nat.mul_comm _ _⟩
  have de : e' ∣ e := ⟨h, by rw [ee]; exact Nat.mul_comm _ _⟩
  have c3 : Nat.gcd m' e' = 1 := Nat.Coprime.coprime_dvd_left dm (Nat.Coprime.coprime_dvd_right de co)
  have c4 : Nat.gcd n' d' = 1 := Nat.Coprime.coprime_dvd_left dn (Nat.Coprime.coprime_dvd_right dd hc)
  have cc : Nat.gcd (m' * n') (e' * d') = 1 := Nat.Coprime.mul_left (Nat.Coprime.mul_right c3 c1) (Nat.Coprime.mul_right c2 c4)
  have lm : m' ≤ m := by rw [em]; exact Nat.le_mul_of_pos_left _ hg
  have ld : d' ≤ d := by rw [ed]; exact Nat.le_mul_of_pos_left _ hg
  have ln : n' ≤ n := by rw [en]; exact Nat.le_mul_of_pos_left _ hh
  have le : e' ≤ e := by rw [ee]; exact Nat.le_mul_of_pos_left _ hh
  have d0 : 0 < d' := Nat.pos_of_ne_zero fun h0 => by rw [h0, Nat.mul_zero] at ed; omega
  have e0 : 0 < e' := Nat.pos_of_ne_zero fun h0 => by rw [h0, Nat.mul_zero] at ee; omega
  have q : ∀ {a b c : Nat}, 0 < b → a = b * c → (a : Int).tdiv (b : Int) = (c : Int) := fun hb h => by
    rw [Int.tdiv_eq_ediv_of_nonneg (by omega), ← Int.natCast_ediv, Nat.div_eq_of_eq_mul_right hb h]
  simp only [if_neg (show ¬ ((g : Nat) : Int) = 0 by omega), if_neg (show ¬ ((h : Nat) : Int) = 0 by omega), q hg em, q hh en, q hh ee, q hg ed,
    wu (x := (m' : Int)) (by omega) (by omega), wu (x := (n' : Int)) (by omega) (by omega), wu (x := (e' : Int)) (by omega) (by omega), wu (x := (d' : Int)) (by omega) (by omega),
    mul64_ok (x := (m' : Int)) (y := (n' : Int)) (by omega) (by omega) (by omega) (by omega), mul64_ok (x := (e' : Int)) (y := (d' : Int)) (by omega) (by omega) (by omega) (by omega), Option.bind_some]
  -- the number: its sign and the sizes that are left
  obtain ⟨N, hN⟩ : ∃ N, N = m' * n' := ⟨_, rfl⟩
  obtain ⟨D, hD⟩ : ∃ D, D = e' * d' := ⟨_, rfl⟩
  have D0 : 0 < D := by rw [hD]; exact Nat.mul_pos e0 d0
  obtain ⟨y, hy⟩ : ∃ y : Int, y = if a0 * x < 0 then -(N : Int) else N := ⟨_, rfl⟩
  have yN : y.natAbs = N := by rw [hy]; split <;> omega
  have prod : (a0 * x).natAbs = (g * h) * N := by rw [Int.natAbs_mul, ← hm, hx, hN, em, en]; exact (by grind)
  have ex : a0 * x = ((g * h : Nat) : Int) * y := by
    have p2 : ((a0 * x).natAbs : Int) = ((g * h : Nat) : Int) * (N : Int) := by rw [prod, Int.natCast_mul]
    rw [hy]
    split
    · rw [Int.mul_neg, ← p2]; omega
    · rw [← p2]; omega
  have ey : (e : Int) * (d : Int) = ((g * h : Nat) : Int) * (D : Int) := by
    rw [← Int.natCast_mul, ← Int.natCast_mul]
    congr 1
    rw [hD, ee, ed]
    grind
  have L : lowest (a0 * x) ((e : Int) * (d : Int)) = lowest y (D : Int) := by
    rw [ey, ex]
    exact lowest_scale (by have := Nat.mul_pos hg hh; omega) (by omega)
  rw [L]
  have eN : (m' : Int) * (n' : Int) = (N : Int) := by rw [hN, Int.natCast_mul]
  have eD : (e' : Int) * (d' : Int) = (D : Int) := by rw [hD, Int.natCast_mul]
  simp only [eN, eD]
  have hcN : Nat.gcd y.natAbs (D : Int).natAbs = 1 := by rw [yN, Int.natAbs_natCast, hN, hD]; exact cc
  have sg : N ≠ 0 → (decide (a0 < 0) != neg) = decide (y < 0) := fun h0 => by
    have m0 : m' ≠ 0 := fun h1 => h0 (by rw [hN, h1, Nat.zero_mul])
    have n0 : n' ≠ 0 := fun h1 => h0 (by rw [hN, h1, Nat.mul_zero])
    have a00 : a0 ≠ 0 := fun h1 => m0 (by rw [h1] at hm; have : m = 0 := by rw [hm]; rfl
                                          omega)
    have n00 : n ≠ 0 := fun h1 => n0 (by omega)
    have x00 : x ≠ 0 := fun h1 => n00 (by rw [← hx, h1]; rfl)
    rw [hs n00]
    have hyx : y < 0 ↔ a0 * x < 0 := by rw [hy]; split <;> omega
    rw [decide_eq_decide.mpr hyx]
    by_cases p1 : a0 < 0 <;> by_cases p2 : x < 0
    · have := Int.mul_pos_of_neg_of_neg p1 p2
      rw [decide_eq_true p1, decide_eq_true p2, decide_eq_false (show ¬ a0 * x < 0 by omega)]; rfl
    · have := Int.mul_neg_of_neg_of_pos p1 (show 0 < x by omega)
      rw [decide_eq_true p1, decide_eq_false p2, decide_eq_true this]; rfl
    · have := Int.mul_neg_of_pos_of_neg (show 0 < a0 by omega) p2
      rw [decide_eq_false p1, decide_eq_true p2, decide_eq_true this]; rfl
    · have := Int.mul_pos (show 0 < a0 by omega) (show 0 < x by omega)
      rw [decide_eq_false p1, decide_eq_false p2, decide_eq_false (show ¬ a0 * x < 0 by omega)]; rfl
  clear hy L ex ey prod q
  have fin : ∀ b : Bool, b = decide (N = 0) → Ev (fun k => num_times.j0 k neg ((N : Int) / 18446744073709551616) ((N : Int) % 18446744073709551616) ((D : Int) / 18446744073709551616) ((D : Int) % 18446744073709551616) b a0 (e : Int)) (lowest y (D : Int)) := by
    rintro b rfl
    by_cases z : N = 0
    · have y0 : y = 0 := by omega
      rw [y0, lowest_zero (by omega)]
      exact Ev.step (f := fun _ => some (0, 1, 0)) (fun k => by rw [num_times.j0, if_pos (decide_eq_true z)]) (Ev.now _)
    · have bad : (1099511627776 < (y.natAbs : Int) ∨ 1048576 < (D : Int)) → ((N : Int) / 18446744073709551616 ≠ 0 ∨ (D : Int) / 18446744073709551616 ≠ 0) → Ev (fun k => num_times.j0 k neg ((N : Int) / 18446744073709551616) ((N : Int) % 18446744073709551616) ((D : Int) / 18446744073709551616) ((D : Int) % 18446744073709551616) (decide (N = 0)) a0 (e : Int)) (lowest y (D : Int)) := fun hb ho => by
        rw [lowest_big hcN hb]
        refine Ev.step (f := fun _ => some (0, 0, 4)) (fun k => ?_) (Ev.now _)
        rw [num_times.j0, if_neg (by simpa using z)]
        by_cases o1 : (N : Int) / 18446744073709551616 = 0
        · rw [if_pos o1, if_neg (by omega)]
        · rw [if_neg o1]
      by_cases o1 : (N : Int) / 18446744073709551616 = 0
      · by_cases o2 : (D : Int) / 18446744073709551616 = 0
        · have M := made_ok (neg := decide (a0 < 0) != neg) (x := y) (show N < 18446744073709551616 by omega) D0 (by omega) yN sg
          refine Ev.step (f := fun k => num_made.f k (decide (a0 < 0) != neg) (N : Int) (D : Int)) (fun k => ?_) M
          rw [num_times.j0, if_neg (by simpa using z), if_pos o1, if_pos o2, show (N : Int) % 18446744073709551616 = N by omega, show (D : Int) % 18446744073709551616 = D by omega]
          cases num_made.f k (decide (a0 < 0) != neg) (N : Int) (D : Int) <;> rfl
        · exact bad (Or.inr (by omega)) (Or.inr o2)
      · exact bad (Or.inl (by omega)) (Or.inl o1)
  by_cases z : (N : Int) % 18446744073709551616 = 0
  · simp only [if_pos z]
    refine fin _ ?_
    rw [Bool.eq_iff_iff]
    simp only [beq_iff_eq, decide_eq_true_eq]
    omega
  · simp only [if_neg z]
    exact fin _ (decide_eq_false (by omega)).symm
/-- What the four operations come to. -/
def arithV (what a b c d : Int) : Int × Int × Int :=
  if valid a b ∧ valid c d then
    (if what = 0 then lowest (a * d + c * b) (b * d) else if what = 1 then lowest (a * d - c * b) (b * d) else if what = 2 then lowest (a * c) (b * d) else if c = 0 then (0, 0, 5) else lowS (a * d) (b * c))
  else (0, 0, 2)
theorem valid_neg {c d : Int} (h : valid c d) : valid (-c) d := by
  obtain ⟨v1, v2, v3, v4, v5⟩ := h
  exact ⟨v1, v2, by omega, by omega, by rw [Int.natAbs_neg]; exact v5⟩
/-- A product of sizes. -/
theorem prod_le {a d A D : Int} (a0 : -A ≤ a) (a1 : a ≤ A) (d0 : 0 ≤ d) (d1 : d ≤ D) (hA : 0 ≤ A) : -(A * D) ≤ a * d ∧ a * d ≤ A * D := by
  have h1 := Int.mul_le_mul_of_nonneg_right a1 d0
  have h2 := Int.mul_le_mul_of_nonneg_left d1 hA
  have h3 := Int.mul_le_mul_of_nonneg_right a0 d0
  rw [Int.neg_mul] at h3
  omega
theorem nadd_ok (a b c d : Int) : Ev (fun k => num_Add.f k a b c d) (if valid a b ∧ valid c d then lowest (a * d + c * b) (b * d) else (0, 0, 2)) := by
  have hj : Ev (fun k => num_Add.j0 k true a b c d) (0, 0, 2) := Ev.step (f := fun _ => some (0, 0, 2)) (fun k => by rw [num_Add.j0, if_pos rfl]) (Ev.now _)
  unfold num_Add.f
  refine Ev.bind (valid_ok a b) ?_
  by_cases h1 : valid a b
  · simp only [h1, decide_true, if_true, true_and]
    refine Ev.bind (valid_ok c d) ?_
    by_cases h2 : valid c d
    · simp only [h2, decide_true, Bool.not_true, if_true]
      obtain ⟨u1, u2, u3, u4, u5⟩ := h1
      obtain ⟨v1, v2, v3, v4, v5⟩ := h2
      have p1 := prod_le (A := 1099511627776) (D := 1048576) u3 u4 (show 0 ≤ d by omega) v2 (by decide)
      have p2 := prod_le (A := 1099511627776) (D := 1048576) v3 v4 (show 0 ≤ b by omega) u2 (by decide)
      have p3 := prod_le (A := 1048576) (D := 1048576) (show -1048576 ≤ b by omega) u2 (show 0 ≤ d by omega) v2 (by decide)
      have p4 := Int.mul_pos (show 0 < b by omega) (show 0 < d by omega)
      generalize hX : a * d = X at *
      generalize hY : c * b = Y at *
      generalize hD : b * d = D at *
      obtain ⟨E, rfl⟩ := Int.eq_ofNat_of_zero_le (show 0 ≤ D by omega)
      have M := made_ok (neg := decide (X + Y < 0)) (x := X + Y) (n := (X + Y).natAbs) (show (X + Y).natAbs < 18446744073709551616 by omega) (show 0 < E by omega) (show E < 18446744073709551616 by omega) rfl (fun _ => rfl)
      refine Ev.step (f := fun k => num_made.f k (decide (X + Y < 0)) ((X + Y).natAbs : Int) (E : Int)) (fun k => ?_) M
      rw [num_Add.j0, if_neg (by decide), hX, hY, w64 (x := X) (by omega) (by omega), w64 (x := Y) (by omega) (by omega), w64 (x := X + Y) (by omega) (by omega), size_ok (by omega) (by omega), Option.bind_some, wu (x := b) (by omega) (by omega), wu (x := d) (by omega) (by omega), hD, wu (x := (E : Int)) (by omega) (by omega)]
      cases num_made.f k (decide (X + Y < 0)) ((X + Y).natAbs : Int) (E : Int) <;> rfl
    · simp only [h2, decide_false, Bool.not_false, if_false]
      exact hj
  · simp only [h1, decide_false, Bool.false_eq_true, if_false, false_and]
    exact hj
theorem nsub_ok (a b c d : Int) : Ev (fun k => num_Sub.f k a b c d) (if valid a b ∧ valid c d then lowest (a * d - c * b) (b * d) else (0, 0, 2)) := by
  unfold num_Sub.f
  refine Ev.bind (neg_ok c d) ?_
  by_cases h2 : valid c d
  · simp only [h2, if_true, and_true]
    have A := nadd_ok a b (-c) d
    simp only [valid_neg h2, and_true, Int.neg_mul, ← Int.sub_eq_add_neg] at A
    exact Ev.bind A (Ev.now _)
  · simp only [h2, if_false, and_false]
    exact Ev.now _
theorem nmul_ok (a b c d : Int) : Ev (fun k => num_Mul.f k a b c d) (if valid a b ∧ valid c d then lowest (a * c) (b * d) else (0, 0, 2)) := by
  have hj : Ev (fun k => num_Mul.j0 k true a b c d) (0, 0, 2) := Ev.step (f := fun _ => some (0, 0, 2)) (fun k => by rw [num_Mul.j0, if_pos rfl]) (Ev.now _)
  unfold num_Mul.f
  refine Ev.bind (valid_ok a b) ?_
  by_cases h1 : valid a b
  · simp only [h1, decide_true, if_true, true_and]
    refine Ev.bind (valid_ok c d) ?_
    by_cases h2 : valid c d
    · simp only [h2, decide_true, Bool.not_true, if_true]
      obtain ⟨v1, v2, v3, v4, v5⟩ := h2
      obtain ⟨D, rfl⟩ := Int.eq_ofNat_of_zero_le (show 0 ≤ d by omega)
      have T := ntimes_ok h1 (neg := decide (c < 0)) (x := c) (n := c.natAbs) (d := D) (by omega) (by omega) (by omega) (by simpa using v5) rfl (fun _ => rfl)
      refine Ev.step (f := fun k => num_times.f k a b (decide (c < 0)) (c.natAbs : Int) (D : Int)) (fun k => ?_) T
      rw [num_Mul.j0, if_neg (by decide), size_ok (by omega) (by omega), Option.bind_some, wu (x := (D : Int)) (by omega) (by omega)]
      cases num_times.f k a b (decide (c < 0)) (c.natAbs : Int) (D : Int) <;> rfl
    · simp only [h2, decide_false, Bool.not_false, if_false]
      exact hj
  · simp only [h1, decide_false, Bool.false_eq_true, if_false, false_and]
    exact hj
theorem ndiv_ok (a b c d : Int) : Ev (fun k => num_Div.f k a b c d) (if valid a b ∧ valid c d then (if c = 0 then (0, 0, 5) else lowS (a * d) (b * c)) else (0, 0, 2)) := by
  have hj : Ev (fun k => num_Div.j0 k true a b c d) (0, 0, 2) := Ev.step (f := fun _ => some (0, 0, 2)) (fun k => by rw [num_Div.j0, if_pos rfl]) (Ev.now _)
  unfold num_Div.f
  refine Ev.bind (valid_ok a b) ?_
  by_cases h1 : valid a b
  · simp only [h1, decide_true, if_true, true_and]
    refine Ev.bind (valid_ok c d) ?_
    by_cases h2 : valid c d
    · simp only [h2, decide_true, Bool.not_true, if_true]
      obtain ⟨v1, v2, v3, v4, v5⟩ := h2
      by_cases c0 : c = 0
      · rw [if_pos c0]
        exact Ev.step (f := fun _ => some (0, 0, 5)) (fun k => by rw [num_Div.j0, if_neg (by decide), if_pos c0]) (Ev.now _)
      · rw [if_neg c0]
        obtain ⟨D, rfl⟩ := Int.eq_ofNat_of_zero_le (show 0 ≤ d by omega)
        have T := ntimes_ok h1 (neg := decide (c < 0)) (x := if c < 0 then -(D : Int) else D) (n := D) (d := c.natAbs) (by omega) (by omega) (by omega) (by rw [Nat.gcd_comm]; simpa using v5) (by split <;> omega) (fun h0 => by rw [decide_eq_decide]; split <;> omega)
        have e : lowS (a * (D : Int)) (b * c) = lowest (a * (if c < 0 then -(D : Int) else D)) (b * (c.natAbs : Int)) := by
          unfold lowS
          have b0 : 0 < b := by have := h1.1; omega
          by_cases s : c < 0
          · rw [if_pos (Int.mul_neg_of_pos_of_neg b0 s), if_pos s, show (c.natAbs : Int) = -c by omega, Int.mul_neg, Int.mul_neg]
          · have := Int.mul_pos b0 (show 0 < c by omega)
            rw [if_neg (show ¬ b * c < 0 by omega), if_neg s, show (c.natAbs : Int) = c by omega]
        rw [e]
        refine Ev.step (f := fun k => num_times.f k a b (decide (c < 0)) (D : Int) (c.natAbs : Int)) (fun k => ?_) T
        rw [num_Div.j0, if_neg (by decide), if_neg c0, size_ok (by omega) (by omega), Option.bind_some, wu (x := (D : Int)) (by omega) (by omega)]
        cases num_times.f k a b (decide (c < 0)) (D : Int) (c.natAbs : Int) <;> rfl
    · simp only [h2, decide_false, Bool.not_false, if_false]
      exact hj
  · simp only [h1, decide_false, Bool.false_eq_true, if_false, false_and]
    exact hj
theorem arith_ok (what a b c d : Int) : Ev (fun k => merinolaw01_arith.f k what a b c d) (arithV what a b c d) := by
  unfold merinolaw01_arith.f arithV
  by_cases h0 : what = 0
  · simp only [h0, if_true]
    exact Ev.bind (nadd_ok a b c d) (Ev.now _)
  · by_cases h1 : what = 1
    · simp only [h1, if_true, if_neg (show ¬ (1 : Int) = 0 by decide)]
      exact Ev.bind (nsub_ok a b c d) (Ev.now _)
    · by_cases h2 : what = 2
      · simp only [h2, if_true, if_neg (show ¬ (2 : Int) = 0 by decide), if_neg (show ¬ (2 : Int) = 1 by decide)]
        exact Ev.bind (nmul_ok a b c d) (Ev.now _)
      · simp only [if_neg h0, if_neg h1, if_neg h2]
        exact Ev.bind (ndiv_ok a b c d) (Ev.now _)
def arR (k : Nat) (what a b c d : Int) : Option (Int × Int × Int) := ((merinoref01_Of.f k a).bind fun bt1349 => ((merinoref01_Of.f k b).bind fun bt1353 => ((merinoref01_Of.f k c).bind fun bt1357 => ((merinoref01_Of.f k d).bind fun bt1361 => (if what = 0 then ((merinoref01_Times.f k bt1349.1 bt1349.2 bt1361.1 bt1361.2).bind fun bt1365 => ((merinoref01_Times.f k bt1357.1 bt1357.2 bt1353.1 bt1353.2).bind fun bt1369 => ((merinoref01_Plus.f k bt1365.1 bt1365.2 bt1369.1 bt1369.2).bind fun bt1373 => ((merinoref01_Times.f k bt1353.1 bt1353.2 bt1361.1 bt1361.2).bind fun bt1377 => ((merinoref01_Lowest.f k bt1373.1 bt1373.2 bt1377.1 bt1377.2).bind fun bt1381 => (some (bt1381.1, bt1381.2.1, bt1381.2.2))))))) else (if what = 1 then ((merinoref01_Times.f k bt1349.1 bt1349.2 bt1361.1 bt1361.2).bind fun bt1384 => ((merinoref01_Times.f k bt1357.1 bt1357.2 bt1353.1 bt1353.2).bind fun bt1388 => ((merinoref01_Minus.f k bt1384.1 bt1384.2 bt1388.1 bt1388.2).bind fun bt1392 => ((merinoref01_Times.f k bt1353.1 bt1353.2 bt1361.1 bt1361.2).bind fun bt1396 => ((merinoref01_Lowest.f k bt1392.1 bt1392.2 bt1396.1 bt1396.2).bind fun bt1400 => (some (bt1400.1, bt1400.2.1, bt1400.2.2))))))) else (if what = 2 then ((merinoref01_Times.f k bt1349.1 bt1349.2 bt1357.1 bt1357.2).bind fun bt1403 => ((merinoref01_Times.f k bt1353.1 bt1353.2 bt1361.1 bt1361.2).bind fun bt1407 => ((merinoref01_Lowest.f k bt1403.1 bt1403.2 bt1407.1 bt1407.2).bind fun bt1411 => (some (bt1411.1, bt1411.2.1, bt1411.2.2))))) else (if c = 0 then (some (0, 0, 5)) else ((merinoref01_Times.f k bt1349.1 bt1349.2 bt1361.1 bt1361.2).bind fun bt1414 => ((merinoref01_Times.f k bt1353.1 bt1353.2 bt1357.1 bt1357.2).bind fun bt1418 => ((merinoref01_Lowest.f k bt1414.1 bt1414.2 bt1418.1 bt1418.2).bind fun bt1422 => (some (bt1422.1, bt1422.2.1, bt1422.2.2)))))))))))))
theorem rarith_ok (what : Int) {a b c d : Int} : Ev (fun k => merinoref01_Arith.f k what a b c d) (arithV what a b c d) := by
  have hj : Ev (fun k => merinoref01_Arith.j0 k what true a b c d) (0, 0, 2) := Ev.step (f := fun _ => some (0, 0, 2)) (fun k => by rw [merinoref01_Arith.j0, if_pos rfl]) (Ev.now _)
  unfold merinoref01_Arith.f arithV
  refine Ev.bind (rvalid_ok a b) ?_
  by_cases h1 : valid a b
  · simp only [h1, decide_true, if_true, true_and]
    refine Ev.bind (rvalid_ok c d) ?_
    by_cases h2 : valid c d
    · simp only [h2, decide_true, Bool.not_true, if_true]
      obtain ⟨u1, u2, u3, u4, u5⟩ := h1
      obtain ⟨v1, v2, v3, v4, v5⟩ := h2
      obtain ⟨r1, E1, R1, l1⟩ := of_ok (x := a) (by omega) (by omega)
      obtain ⟨r2, E2, R2, l2⟩ := of_ok (x := b) (by omega) (by omega)
      obtain ⟨r3, E3, R3, l3⟩ := of_ok (x := c) (by omega) (by omega)
      obtain ⟨r4, E4, R4, l4⟩ := of_ok (x := d) (by omega) (by omega)
      obtain ⟨s14, T14, S14, m14⟩ := times_ok R1 R4 (by omega)
      obtain ⟨s32, T32, S32, m32⟩ := times_ok R3 R2 (by omega)
      obtain ⟨s24, T24, S24, m24⟩ := times_ok R2 R4 (by omega)
      obtain ⟨s13, T13, S13, m13⟩ := times_ok R1 R3 (by omega)
      obtain ⟨s23, T23, S23, m23⟩ := times_ok R2 R3 (by omega)
      obtain ⟨sp, Tp, Sp, mp⟩ := plus_ok S14 S32 (by omega) (by omega)
      obtain ⟨sm, Tm, Sm, mm⟩ := minus_ok S14 S32 (by omega) (by omega)
      have bd : 0 < b * d := Int.mul_pos (by omega) (by omega)
      have low : ∀ x, lowS x (b * d) = lowest x (b * d) := fun x => by unfold lowS; rw [if_neg (by omega)]
      refine Ev.step (f := fun k => arR k what a b c d) (fun k => by rw [merinoref01_Arith.j0, if_neg (by decide)]; rfl) ?_
      unfold arR
      by_cases h0 : what = 0
      · have L := low_ok Sp S24 (by omega) (by omega) (by omega)
        rw [low] at L
        simp only [if_pos h0]
        exact Ev.bind E1 (Ev.bind E2 (Ev.bind E3 (Ev.bind E4 (Ev.bind T14 (Ev.bind T32 (Ev.bind Tp (Ev.bind T24 (Ev.bind L (Ev.now _)))))))))
      · by_cases h1 : what = 1
        · have L := low_ok Sm S24 (by omega) (by omega) (by omega)
          rw [low] at L
          simp only [if_neg h0, if_pos h1]
          exact Ev.bind E1 (Ev.bind E2 (Ev.bind E3 (Ev.bind E4 (Ev.bind T14 (Ev.bind T32 (Ev.bind Tm (Ev.bind T24 (Ev.bind L (Ev.now _)))))))))
        · by_cases h2 : what = 2
          · have L := low_ok S13 S24 (by omega) (by omega) (by omega)
            rw [low] at L
            simp only [if_neg h0, if_neg h1, if_pos h2]
            exact Ev.bind E1 (Ev.bind E2 (Ev.bind E3 (Ev.bind E4 (Ev.bind T13 (Ev.bind T24 (Ev.bind L (Ev.now _)))))))
          · by_cases h3 : c = 0
            · simp only [if_neg h0, if_neg h1, if_neg h2, if_pos h3]
              exact Ev.bind E1 (Ev.bind E2 (Ev.bind E3 (Ev.bind E4 (Ev.now _))))
            · have nz : b * c ≠ 0 := Int.mul_ne_zero (by omega) h3
              have L := low_ok S14 S23 nz (by omega) (by omega)
              simp only [if_neg h0, if_neg h1, if_neg h2, if_neg h3]
              exact Ev.bind E1 (Ev.bind E2 (Ev.bind E3 (Ev.bind E4 (Ev.bind T14 (Ev.bind T23 (Ev.bind L (Ev.now _)))))))
    · simp only [h2, decide_false, Bool.not_false, if_false]
      exact hj
  · simp only [h1, decide_false, Bool.false_eq_true, if_false, false_and]
    exact hj
theorem opp_ok (n d : Int) : Ev (fun k => merinoref01_Opposite.f k n d) (if valid n d then (-n, d, 0) else (0, 0, 2)) := by
  unfold merinoref01_Opposite.f
  refine Ev.bind (rvalid_ok n d) ?_
  by_cases hv : valid n d
  · have hv' := hv
    obtain ⟨v1, v2, v3, v4, v5⟩ := hv'
    simp only [hv, decide_true, if_true, w64 (x := -n) (by omega) (by omega)]
    exact Ev.now _
  · simp only [hv, decide_false, Bool.false_eq_true, if_false]
    exact Ev.now _
end Go.Proofs.Num

namespace Go.Proofs.YtdjnneflpkllmaaDoor.Q
open Go.RowKit Go.Proofs.YtdjnneflpkllmaaDoorW.PrintWords Go.Proofs.YtdjnneflpkllmaaDoorW.PrintLast Go.Proofs.YtdjnneflpkllmaaDoorW.PrintMore
attribute [local go_sem] max2_int min2_int max_two min_two max_three min_three max_four min_four   -- for this text's walks alone
set_option linter.unusedVariables false
set_option linter.unusedSimpArgs false
attribute [local go_sem high] eqA23
def merinolaw01_NumArith.l0 : Nat → Int → Int → Int → Int → Int → Option (Bool)
  | 0, _, _, _, _, _ => none
  | k + 1, x5, x1349000, x1349001, x1350000, x1350001 => if x5 ≤ 3 then ((merinolaw01_arith.f k x5 x1349000 x1349001 x1350000 x1350001).bind fun bt1350 => ((merinoref01_Arith.f k x5 x1349000 x1349001 x1350000 x1350001).bind fun bt1354 => (if (!(bt1350.1 == bt1354.1) || (!(bt1350.2.1 == bt1354.2.1))) = true then (none) else (if bt1350.2.2 = bt1354.2.2 then (merinolaw01_NumArith.l0 k (wrap64 (x5 + 1)) x1349000 x1349001 x1350000 x1350001) else (none))))) else ((num_Neg.f k x1349000 x1349001).bind fun bt1358 => ((merinoref01_Opposite.f k x1349000 x1349001).bind fun bt1362 => ((num_Cmp.f k x1349000 x1349001 x1350000 x1350001).bind fun bt1366 => ((merinoref01_Cmp.f k x1349000 x1349001 x1350000 x1350001).bind fun bt1368 => (if (bt1358.1 == bt1362.1 && (bt1358.2.1 == bt1362.2.1)) = true then (if bt1358.2.2 = bt1362.2.2 then (if bt1366.1 = bt1368.1 then (if bt1366.2 = bt1368.2 then ((merinolaw01_alive.f).bind fun t1370 => (some t1370)) else (none)) else (none)) else (none)) else (none))))))
def merinolaw01_NumArith.f (k : Nat) (a0_0 : Int) (a0_1 : Int) (a1_0 : Int) (a1_1 : Int) : Option (Bool) := merinolaw01_NumArith.l0 k 0 a0_0 a0_1 a1_0 a1_1
theorem merinolaw01_NumArith.mono_l : ∀ k, (∀ y0 y1 y2 y3 y4, LeO (merinolaw01_NumArith.l0 k y0 y1 y2 y3 y4) (merinolaw01_NumArith.l0 (k + 1) y0 y1 y2 y3 y4))
  | 0 => fun _ _ _ _ _ r h => by simp [merinolaw01_NumArith.l0] at h
  | k + 1 => by
    have ih0 := merinolaw01_NumArith.mono_l k
    · intro y0 y1 y2 y3 y4
      unfold merinolaw01_NumArith.l0
      repeat' first
      | (with_reducible exact ih0 _ _ _ _ _)
      | (with_reducible exact merinolaw01_arith.mono _ _ _ _ _ _)
      | (with_reducible exact merinoref01_Arith.mono _ _ _ _ _ _)
      | (with_reducible exact merinoref01_Cmp.mono _ _ _ _ _)
      | (with_reducible exact merinoref01_Opposite.mono _ _ _)
      | (with_reducible exact num_Cmp.mono _ _ _ _ _)
      | (with_reducible exact num_Neg.mono _ _ _)
      | (with_reducible exact LeO.refl _)
      | (with_reducible exact LeO.none _)
      | (with_reducible refine LeO.ite ?_ ?_)
      | (with_reducible refine LeO.bind ?_ (fun _ => ?_))
      | exact ih0 _ _ _ _ _
      | exact merinolaw01_arith.mono _ _ _ _ _ _
      | exact merinoref01_Arith.mono _ _ _ _ _ _
      | exact merinoref01_Cmp.mono _ _ _ _ _
      | exact merinoref01_Opposite.mono _ _ _
      | exact num_Cmp.mono _ _ _ _ _
      | exact num_Neg.mono _ _ _
      | exact LeO.none _
      | refine LeO.ite ?_ ?_
      | refine LeO.bind ?_ (fun _ => ?_)
theorem merinolaw01_NumArith.mono : ∀ a0 a1 a2 a3 k, LeO (merinolaw01_NumArith.f k a0 a1 a2 a3) (merinolaw01_NumArith.f (k + 1) a0 a1 a2 a3) := by
  intro a0 a1 a2 a3 k
  have ih0 := merinolaw01_NumArith.mono_l k
  unfold merinolaw01_NumArith.f
  repeat' first
      | (with_reducible exact ih0 _ _ _ _ _)
      | (with_reducible exact merinolaw01_arith.mono _ _ _ _ _ _)
      | (with_reducible exact merinoref01_Arith.mono _ _ _ _ _ _)
      | (with_reducible exact merinoref01_Cmp.mono _ _ _ _ _)
      | (with_reducible exact merinoref01_Opposite.mono _ _ _)
      | (with_reducible exact num_Cmp.mono _ _ _ _ _)
      | (with_reducible exact num_Neg.mono _ _ _)
      | (with_reducible exact LeO.refl _)
      | (with_reducible exact LeO.none _)
      | (with_reducible refine LeO.ite ?_ ?_)
      | (with_reducible refine LeO.bind ?_ (fun _ => ?_))
      | exact ih0 _ _ _ _ _
      | exact merinolaw01_arith.mono _ _ _ _ _ _
      | exact merinoref01_Arith.mono _ _ _ _ _ _
      | exact merinoref01_Cmp.mono _ _ _ _ _
      | exact merinoref01_Opposite.mono _ _ _
      | exact num_Cmp.mono _ _ _ _ _
      | exact num_Neg.mono _ _ _
      | exact LeO.none _
      | refine LeO.ite ?_ ?_
      | refine LeO.bind ?_ (fun _ => ?_)
end Go.Proofs.YtdjnneflpkllmaaDoor.Q

namespace Go.Proofs.Num
open Go.RowKit Go.Proofs.YtdjnneflpkllmaaDoorW.PrintWords Go.Proofs.YtdjnneflpkllmaaDoorW.PrintMore Go.Proofs.YtdjnneflpkllmaaDoor.Q
set_option linter.unusedVariables false
set_option linter.unusedSimpArgs false
theorem arith_law (a b c d : Int) : Ev (fun k => merinolaw01_NumArith.f k a b c d) true := by
  unfold merinolaw01_NumArith.f
  have last : Ev (fun k => merinolaw01_NumArith.l0 k 4 a b c d) true := by
    refine Ev.step (f := fun k => ((num_Neg.f k a b).bind fun bt1358 => ((merinoref01_Opposite.f k a b).bind fun bt1362 => ((num_Cmp.f k a b c d).bind fun bt1366 => ((merinoref01_Cmp.f k a b c d).bind fun bt1368 => (if (bt1358.1 == bt1362.1 && (bt1358.2.1 == bt1362.2.1)) = true then (if bt1358.2.2 = bt1362.2.2 then (if bt1366.1 = bt1368.1 then (if bt1366.2 = bt1368.2 then ((merinolaw01_alive.f).bind fun t1370 => (some t1370)) else (none)) else (none)) else (none)) else (none))))))) (fun k => by rw [merinolaw01_NumArith.l0, if_neg (by decide)]) (Ev.bind (neg_ok a b) (Ev.bind (opp_ok a b) (Ev.bind (cmp_ok a b c d) (Ev.bind (rcmp_ok a b c d) ?_))))
    simp only [beq_self_eq_true, Bool.and_self, if_true]
    exact Ev.now _
  have round : ∀ what : Int, what ≤ 3 → 0 ≤ what → Ev (fun k => merinolaw01_NumArith.l0 k (what + 1) a b c d) true → Ev (fun k => merinolaw01_NumArith.l0 k what a b c d) true := fun what h3 h0 K => by
    refine Ev.step (f := fun k => ((merinolaw01_arith.f k what a b c d).bind fun bt1350 => ((merinoref01_Arith.f k what a b c d).bind fun bt1354 => (if (!(bt1350.1 == bt1354.1) || (!(bt1350.2.1 == bt1354.2.1))) = true then (none) else (if bt1350.2.2 = bt1354.2.2 then (merinolaw01_NumArith.l0 k (wrap64 (what + 1)) a b c d) else (none)))))) (fun k => by rw [merinolaw01_NumArith.l0, if_pos h3]) (Ev.bind (arith_ok what a b c d) (Ev.bind (rarith_ok what) ?_))
    simp only [beq_self_eq_true, Bool.not_true, Bool.or_self, Bool.false_eq_true, if_true, if_false, w64 (x := what + 1) (by omega) (by omega)]
    exact K
  exact round 0 (by decide) (by decide) (round 1 (by decide) (by decide) (round 2 (by decide) (by decide) (round 3 (by decide) (by decide) last)))
end Go.Proofs.Num

namespace Go.Proofs.YtdjnneflpkllmaaDoor.Q
open Go.RowKit Go.Proofs.YtdjnneflpkllmaaDoorW.PrintWords Go.Proofs.YtdjnneflpkllmaaDoorW.PrintLast Go.Proofs.YtdjnneflpkllmaaDoorW.PrintMore
attribute [local go_sem] max2_int min2_int max_two min_two max_three min_three max_four min_four   -- for this text's walks alone
set_option linter.unusedVariables false
set_option linter.unusedSimpArgs false
set_option maxHeartbeats 8000000 in
set_option maxRecDepth 100000 in
theorem merinoref01_Arith.calls (k : Nat) (a0 : Int) (a1_0 : Int) (a1_1 : Int) (a2_0 : Int) (a2_1 : Int) (r1 : Int) (r2 : Int) (r3 : Int) (w : World) (h : merinoref01_Arith.f k a0 a1_0 a1_1 a2_0 a2_1 = some (r1, r2, r3)) :
    Calls Tryd.prog 64 #[.int .i64 a0, .agg #[.int .i64 a1_0, .int .i64 a1_1], .agg #[.int .i64 a2_0, .int .i64 a2_1]] w fun e w' => e = .returned (.tuple #[.agg #[.int .i64 r1, .int .i64 r2], .int .i64 r3]) ∧ Below w.heap.size w w' := by
  have hu23 := Tryd.underlying23
  have hu31 := Tryd.underlying31
  have HB := Aside0.mk (Below.refl w.heap.size w)
  have H : ((merinoref01_Valid.f k a1_0 a1_1).bind fun t1343 => (if t1343 = true then ((merinoref01_Valid.f k a2_0 a2_1).bind fun t1344 => (merinoref01_Arith.j0 k a0 (!t1344) a1_0 a1_1 a2_0 a2_1)) else (merinoref01_Arith.j0 k a0 true a1_0 a1_1 a2_0 a2_1))) = some (r1, r2, r3) := h
  clear h
  have HC4 := Aside0.mk H
  clear H
  go_enter Tryd.func64, Tryd.ntmps64
  go_upto_region 1 with (first | ((with_reducible refine gate_dst (N := 4) rfl ?_); refine qx_ 4 #[.int .i64 a1_0, .int .i64 a1_1] 23 ?hr ?_; (case hr => first | (go_simp; done) | (go_simp; rfl)); intro gb1340 hg w5 hbox hb; have n0_ := Aside0.mk (below_step (q0_ HB.out) hb); have n1_ := Aside0.mk (hbox); have n2_ := Aside0.mk (qs_ hg (q0_ HB.out) : w.heap.size ≤ gb1340); have n3_ := n2_; clear HB; have HB := n0_; have BK1340 := n1_; have GW1340 := n2_; have GE1340 := n3_; clear n0_ n1_ n2_ n3_; clear hb hbox hg) | ((with_reducible refine gate_dst (N := 5) rfl ?_); refine qx_ 5 #[.int .i64 a2_0, .int .i64 a2_1] 23 ?hr ?_; (case hr => first | (go_simp; done) | (go_simp; rfl)); intro gb1341 hg w6 hbox hb; have n0_ := Aside0.mk (qk_ BK1340.out hb); have n1_ := Aside0.mk (below_step (q1_ HB.out GE1340.out) hb); have n2_ := Aside0.mk (hbox); have n3_ := Aside0.mk (qs_ hg (q1_ HB.out GE1340.out) : w.heap.size ≤ gb1341); have n4_ := n3_; have n5_ := Aside0.mk (qn_ hg BK1340.out); have n6_ := Aside0.mk (Ne.symm (qn_ hg BK1340.out)); clear BK1340; clear HB; have BK1340 := n0_; have HB := n1_; have BK1341 := n2_; have GW1341 := n3_; have GE1341 := n4_; have NB1340_1341 := n5_; have NB1341_1340 := n6_; clear n0_ n1_ n2_ n3_ n4_ n5_ n6_; clear hb hbox hg) | ((with_reducible refine gate_dst (N := 6) rfl ?_); refine qx_ 6 #[.int .i64 0, .int .i64 0] 23 ?hr ?_; (case hr => first | (go_simp; done) | (go_simp; rfl)); intro gb1342 hg w7 hbox hb; have n0_ := Aside0.mk (qk_ BK1340.out hb); have n1_ := Aside0.mk (qk_ BK1341.out hb); have n2_ := Aside0.mk (below_step (q2_ HB.out GE1340.out GE1341.out) hb); have n3_ := Aside0.mk (hbox); have n4_ := Aside0.mk (qs_ hg (q2_ HB.out GE1340.out GE1341.out) : w.heap.size ≤ gb1342); have n5_ := n4_; have n6_ := Aside0.mk (qn_ hg BK1340.out); have n7_ := Aside0.mk (Ne.symm (qn_ hg BK1340.out)); have n8_ := Aside0.mk (qn_ hg BK1341.out); have n9_ := Aside0.mk (Ne.symm (qn_ hg BK1341.out)); clear BK1340; clear BK1341; clear HB; have BK1340 := n0_; have BK1341 := n1_; have HB := n2_; have BK1342 := n3_; have GW1342 := n4_; have GE1342 := n5_; have NB1340_1342 := n6_; have NB1342_1340 := n7_; have NB1341_1342 := n8_; have NB1342_1341 := n9_; clear n0_ n1_ n2_ n3_ n4_ n5_ n6_ n7_ n8_ n9_; clear hb hbox hg))
  (try simp only [Act.put, List.setIfInBounds_toArray, List.set_cons_zero, List.set_cons_succ])
  go_cut [19] (fun v19 wc => ∃ (kq : Nat) (x19_3 : Bool), v19 = .bool x19_3 ∧ Aside0 (merinoref01_Arith.j0 kq a0 x19_3 a1_0 a1_1 a2_0 a2_1 = some (r1, r2, r3)) ∧ Aside0 (kq ≤ k) ∧ Aside0 (wc.heap[gb1340]? = some (.cells #[.int .i64 a1_0, .int .i64 a1_1] 23 (0, 0))) ∧ Aside0 (wc.heap[gb1341]? = some (.cells #[.int .i64 a2_0, .int .i64 a2_1] 23 (0, 0))) ∧ Aside0 (wc.heap[gb1342]? = some (.cells #[.int .i64 0, .int .i64 0] 23 (0, 0))) ∧ Aside0 (Below w.heap.size w wc))
  case first =>
    have H := HC4.out
    clear HC4
    replace H := Option.bind_eq_some_iff.mp H
    obtain ⟨t1343, A80, H⟩ := H
    replace H : (if t1343 = true then ((merinoref01_Valid.f k a2_0 a2_1).bind fun t1344 => (merinoref01_Arith.j0 k a0 (!t1344) a1_0 a1_1 a2_0 a2_1)) else (merinoref01_Arith.j0 k a0 true a1_0 a1_1 a2_0 a2_1)) = some (r1, r2, r3) := H
    have A8 := Aside0.mk A80
    clear A80
    by_cases c9 : t1343 = true
    · subst c9
      have H1 : ((merinoref01_Valid.f k a2_0 a2_1).bind fun t1344 => (merinoref01_Arith.j0 k a0 (!t1344) a1_0 a1_1 a2_0 a2_1)) = some (r1, r2, r3) := by rw [if_pos rfl] at H; exact H
      clear H
      have H := H1
      clear H1
      replace H := Option.bind_eq_some_iff.mp H
      obtain ⟨t1344, A100, H⟩ := H
      replace H : (merinoref01_Arith.j0 k a0 (!t1344) a1_0 a1_1 a2_0 a2_1) = some (r1, r2, r3) := H
      have A10 := Aside0.mk A100
      clear A100
      have H' := Aside0.mk H
      clear H
      have hnb11 := NB1340_1341.out
      have hnc11 := NB1341_1340.out
      have hnb12 := NB1340_1342.out
      have hnc12 := NB1342_1340.out
      have hcz13_0 : w7.cell? ⟨gb1340, 0, none⟩ = some (.int .i64 a1_0) := (blk_cell BK1340.out 0).trans rfl
      have hcz13_1 : w7.cell? ⟨gb1340, 1, none⟩ = some (.int .i64 a1_1) := (blk_cell BK1340.out 1).trans rfl
      have hfz13_0 := blk_frozen BK1340.out 0
      have hfz13_1 := blk_frozen BK1340.out 1
      go_wp2_with (first | ((with_reducible refine gate_callee (f := 29) rfl ?_); refine goesL_ (some 13) rfl rfl Tryd.func29 (by kernel_rfl) rfl #[.agg #[.int .i64 a1_0, .int .i64 a1_1]] rfl qe_ ?_; (with_reducible refine (merinoref01_Valid.calls k a1_0 a1_1 true _ A8.out).mono ?_); rintro e w14 ⟨rfl, hb⟩; refine ⟨_, rfl, ?_⟩; have n0_ := Aside0.mk (qk_ BK1340.out hb); have n1_ := Aside0.mk (qk_ BK1341.out hb); have n2_ := Aside0.mk (qk_ BK1342.out hb); have n3_ := Aside0.mk (below_step (q3_ HB.out GE1340.out GE1341.out GE1342.out) hb); clear BK1340; clear BK1341; clear BK1342; clear HB; have BK1340 := n0_; have BK1341 := n1_; have BK1342 := n2_; have HB := n3_; clear n0_ n1_ n2_ n3_; (try clear hb); (try clear hb2); (try clear hk); (try clear hi); have hnb15 := NB1341_1342.out; have hnc15 := NB1342_1341.out; have hcz16_0 : w14.cell? ⟨gb1341, 0, none⟩ = some (.int .i64 a2_0) := (blk_cell BK1341.out 0).trans rfl; have hcz16_1 : w14.cell? ⟨gb1341, 1, none⟩ = some (.int .i64 a2_1) := (blk_cell BK1341.out 1).trans rfl; have hfz16_0 := blk_frozen BK1341.out 0; have hfz16_1 := blk_frozen BK1341.out 1) | (go_at_call 29; (with_reducible refine (merinoref01_Valid.calls k a2_0 a2_1 t1344 _ A10.out).mono ?_); rintro e w17 ⟨rfl, hb⟩; have n0_ := Aside0.mk (qk_ BK1340.out hb); have n1_ := Aside0.mk (qk_ BK1341.out hb); have n2_ := Aside0.mk (qk_ BK1342.out hb); have n3_ := Aside0.mk (below_step (q3_ HB.out GE1340.out GE1341.out GE1342.out) hb); clear BK1340; clear BK1341; clear BK1342; clear HB; have BK1340 := n0_; have BK1341 := n1_; have BK1342 := n2_; have HB := n3_; clear n0_ n1_ n2_ n3_; (try clear hb); (try clear hb2); (try clear hk); (try clear hi)))
      go_meet
      case rel => exact ⟨_, (!t1344), (by first | rfl | (simp; done) | (simp [*]; done)), H', ⟨by first | omega | exact Nat.le_refl _⟩, ⟨by (with_reducible repeat (first | refine blk_drewN ?_ _ | refine blk_drew ?_ | refine blk_alloc ?_ _)); exact BK1340.out⟩, ⟨by (with_reducible repeat (first | refine blk_drewN ?_ _ | refine blk_drew ?_ | refine blk_alloc ?_ _)); exact BK1341.out⟩, ⟨by (with_reducible repeat (first | refine blk_drewN ?_ _ | refine blk_drew ?_ | refine blk_alloc ?_ _)); exact BK1342.out⟩, ⟨(q3_ HB.out GE1340.out GE1341.out GE1342.out)⟩⟩
    · replace c9 := Bool.eq_false_iff.mpr c9
      subst c9
      have H1 : (merinoref01_Arith.j0 k a0 true a1_0 a1_1 a2_0 a2_1) = some (r1, r2, r3) := by rw [if_neg (show ¬ (false = true) by decide)] at H; exact H
      clear H
      have H := H1
      clear H1
      have H' := Aside0.mk H
      clear H
      have hnb18 := NB1340_1341.out
      have hnc18 := NB1341_1340.out
      have hnb19 := NB1340_1342.out
      have hnc19 := NB1342_1340.out
      have hcz20_0 : w7.cell? ⟨gb1340, 0, none⟩ = some (.int .i64 a1_0) := (blk_cell BK1340.out 0).trans rfl
      have hcz20_1 : w7.cell? ⟨gb1340, 1, none⟩ = some (.int .i64 a1_1) := (blk_cell BK1340.out 1).trans rfl
      have hfz20_0 := blk_frozen BK1340.out 0
      have hfz20_1 := blk_frozen BK1340.out 1
      go_wp2_with (first | ((with_reducible refine gate_callee (f := 29) rfl ?_); refine goesL_ (some 13) rfl rfl Tryd.func29 (by kernel_rfl) rfl #[.agg #[.int .i64 a1_0, .int .i64 a1_1]] rfl qe_ ?_; (with_reducible refine (merinoref01_Valid.calls k a1_0 a1_1 false _ A8.out).mono ?_); rintro e w21 ⟨rfl, hb⟩; refine ⟨_, rfl, ?_⟩; have n0_ := Aside0.mk (qk_ BK1340.out hb); have n1_ := Aside0.mk (qk_ BK1341.out hb); have n2_ := Aside0.mk (qk_ BK1342.out hb); have n3_ := Aside0.mk (below_step (q3_ HB.out GE1340.out GE1341.out GE1342.out) hb); clear BK1340; clear BK1341; clear BK1342; clear HB; have BK1340 := n0_; have BK1341 := n1_; have BK1342 := n2_; have HB := n3_; clear n0_ n1_ n2_ n3_; (try clear hb); (try clear hb2); (try clear hk); (try clear hi)))
      go_meet
      case rel => exact ⟨_, (true), (by first | rfl | (simp; done) | (simp [*]; done)), H', ⟨by first | omega | exact Nat.le_refl _⟩, ⟨by (with_reducible repeat (first | refine blk_drewN ?_ _ | refine blk_drew ?_ | refine blk_alloc ?_ _)); exact BK1340.out⟩, ⟨by (with_reducible repeat (first | refine blk_drewN ?_ _ | refine blk_drew ?_ | refine blk_alloc ?_ _)); exact BK1341.out⟩, ⟨by (with_reducible repeat (first | refine blk_drewN ?_ _ | refine blk_drew ?_ | refine blk_alloc ?_ _)); exact BK1342.out⟩, ⟨(q3_ HB.out GE1340.out GE1341.out GE1342.out)⟩⟩
  case rest =>
    clear HC4
    try clear c1
    try clear c2
    try clear p2
    try clear c6
    try clear c9
    try clear c11
    try clear c12
    try clear c15
    try clear c18
    try clear c19
    try clear hcz13_0
    try clear hcz13_1
    try clear hcz16_0
    try clear hcz16_1
    try clear hcz20_0
    try clear hcz20_1
    try clear hfz13_0
    try clear hfz13_1
    try clear hfz16_0
    try clear hfz16_1
    try clear hfz20_0
    try clear hfz20_1
    obtain ⟨kq, x19_3, rfl, HA, HJ3, BK1340, BK1341, BK1342, HB⟩ := hcut
    cases kq with
    | zero => exact absurd HA.out (by simp [merinoref01_Arith.j0])
    | succ kj3 =>
      have H := HA.out
      clear HA
      simp only [merinoref01_Arith.j0] at H
      by_cases c22 : x19_3 = true
      · subst c22
        have H1 : (some (0, 0, 2)) = some (r1, r2, r3) := by rw [if_pos rfl] at H; exact H
        clear H
        have H := H1
        clear H1
        simp only [Option.some.injEq, Prod.mk.injEq] at H
        obtain ⟨rfl, rfl, rfl⟩ := H
        have hnb23 := NB1342_1340.out
        have hnc23 := NB1340_1342.out
        have hnb24 := NB1342_1341.out
        have hnc24 := NB1341_1342.out
        have hcz25_0 : wc.cell? ⟨gb1342, 0, none⟩ = some (.int .i64 0) := (blk_cell BK1342.out 0).trans rfl
        have hcz25_1 : wc.cell? ⟨gb1342, 1, none⟩ = some (.int .i64 0) := (blk_cell BK1342.out 1).trans rfl
        have hfz25_0 := blk_frozen BK1342.out 0
        have hfz25_1 := blk_frozen BK1342.out 1
        go_wp2
        refine bodyPost_ret (results_ct rfl _ _ gb1342 23 #[.int .i64 0, .int .i64 0] (0, 0) _ rfl (by (with_reducible repeat (first | refine blk_drewN ?_ _ | refine blk_drew ?_ | refine blk_alloc ?_ _)); refine blk_put (cs := #[.int .i64 0, .int .i64 0]) ?_ 1 _ rfl; (with_reducible repeat (first | refine blk_drewN ?_ _ | refine blk_drew ?_ | refine blk_alloc ?_ _)); refine blk_put (cs := #[.int .i64 0, .int .i64 0]) ?_ 0 _ rfl; (with_reducible repeat (first | refine blk_drewN ?_ _ | refine blk_drew ?_ | refine blk_alloc ?_ _)); exact BK1342.out) Tryd.underlying23 rfl (by kernel_rfl)) rfl ?_
        exact ⟨by first | rfl | (simp [errW_none, errW_some] <;> rfl) | (simp [*, errW_none, errW_some] <;> rfl), (q3_ HB.out GE1340.out GE1341.out GE1342.out)⟩
      · replace c22 := Bool.eq_false_iff.mpr c22
        subst c22
        have H1 : ((merinoref01_Of.f kj3 a1_0).bind fun bt1349 => ((merinoref01_Of.f kj3 a1_1).bind fun bt1353 => ((merinoref01_Of.f kj3 a2_0).bind fun bt1357 => ((merinoref01_Of.f kj3 a2_1).bind fun bt1361 => (if a0 = 0 then ((merinoref01_Times.f kj3 bt1349.1 bt1349.2 bt1361.1 bt1361.2).bind fun bt1365 => ((merinoref01_Times.f kj3 bt1357.1 bt1357.2 bt1353.1 bt1353.2).bind fun bt1369 => ((merinoref01_Plus.f kj3 bt1365.1 bt1365.2 bt1369.1 bt1369.2).bind fun bt1373 => ((merinoref01_Times.f kj3 bt1353.1 bt1353.2 bt1361.1 bt1361.2).bind fun bt1377 => ((merinoref01_Lowest.f kj3 bt1373.1 bt1373.2 bt1377.1 bt1377.2).bind fun bt1381 => (some (bt1381.1, bt1381.2.1, bt1381.2.2))))))) else (if a0 = 1 then ((merinoref01_Times.f kj3 bt1349.1 bt1349.2 bt1361.1 bt1361.2).bind fun bt1384 => ((merinoref01_Times.f kj3 bt1357.1 bt1357.2 bt1353.1 bt1353.2).bind fun bt1388 => ((merinoref01_Minus.f kj3 bt1384.1 bt1384.2 bt1388.1 bt1388.2).bind fun bt1392 => ((merinoref01_Times.f kj3 bt1353.1 bt1353.2 bt1361.1 bt1361.2).bind fun bt1396 => ((merinoref01_Lowest.f kj3 bt1392.1 bt1392.2 bt1396.1 bt1396.2).bind fun bt1400 => (some (bt1400.1, bt1400.2.1, bt1400.2.2))))))) else (if a0 = 2 then ((merinoref01_Times.f kj3 bt1349.1 bt1349.2 bt1357.1 bt1357.2).bind fun bt1403 => ((merinoref01_Times.f kj3 bt1353.1 bt1353.2 bt1361.1 bt1361.2).bind fun bt1407 => ((merinoref01_Lowest.f kj3 bt1403.1 bt1403.2 bt1407.1 bt1407.2).bind fun bt1411 => (some (bt1411.1, bt1411.2.1, bt1411.2.2))))) else (if a2_0 = 0 then (some (0, 0, 5)) else ((merinoref01_Times.f kj3 bt1349.1 bt1349.2 bt1361.1 bt1361.2).bind fun bt1414 => ((merinoref01_Times.f kj3 bt1353.1 bt1353.2 bt1357.1 bt1357.2).bind fun bt1418 => ((merinoref01_Lowest.f kj3 bt1414.1 bt1414.2 bt1418.1 bt1418.2).bind fun bt1422 => (some (bt1422.1, bt1422.2.1, bt1422.2.2))))))))))))) = some (r1, r2, r3) := by rw [if_neg (show ¬ (false = true) by decide)] at H; exact H
        clear H
        have H := H1
        clear H1
        replace H := Option.bind_eq_some_iff.mp H
        obtain ⟨⟨t1349, t1350⟩, A260, H⟩ := H
        replace H : ((merinoref01_Of.f kj3 a1_1).bind fun bt1353 => ((merinoref01_Of.f kj3 a2_0).bind fun bt1357 => ((merinoref01_Of.f kj3 a2_1).bind fun bt1361 => (if a0 = 0 then ((merinoref01_Times.f kj3 t1349 t1350 bt1361.1 bt1361.2).bind fun bt1365 => ((merinoref01_Times.f kj3 bt1357.1 bt1357.2 bt1353.1 bt1353.2).bind fun bt1369 => ((merinoref01_Plus.f kj3 bt1365.1 bt1365.2 bt1369.1 bt1369.2).bind fun bt1373 => ((merinoref01_Times.f kj3 bt1353.1 bt1353.2 bt1361.1 bt1361.2).bind fun bt1377 => ((merinoref01_Lowest.f kj3 bt1373.1 bt1373.2 bt1377.1 bt1377.2).bind fun bt1381 => (some (bt1381.1, bt1381.2.1, bt1381.2.2))))))) else (if a0 = 1 then ((merinoref01_Times.f kj3 t1349 t1350 bt1361.1 bt1361.2).bind fun bt1384 => ((merinoref01_Times.f kj3 bt1357.1 bt1357.2 bt1353.1 bt1353.2).bind fun bt1388 => ((merinoref01_Minus.f kj3 bt1384.1 bt1384.2 bt1388.1 bt1388.2).bind fun bt1392 => ((merinoref01_Times.f kj3 bt1353.1 bt1353.2 bt1361.1 bt1361.2).bind fun bt1396 => ((merinoref01_Lowest.f kj3 bt1392.1 bt1392.2 bt1396.1 bt1396.2).bind fun bt1400 => (some (bt1400.1, bt1400.2.1, bt1400.2.2))))))) else (if a0 = 2 then ((merinoref01_Times.f kj3 t1349 t1350 bt1357.1 bt1357.2).bind fun bt1403 => ((merinoref01_Times.f kj3 bt1353.1 bt1353.2 bt1361.1 bt1361.2).bind fun bt1407 => ((merinoref01_Lowest.f kj3 bt1403.1 bt1403.2 bt1407.1 bt1407.2).bind fun bt1411 => (some (bt1411.1, bt1411.2.1, bt1411.2.2))))) else (if a2_0 = 0 then (some (0, 0, 5)) else ((merinoref01_Times.f kj3 t1349 t1350 bt1361.1 bt1361.2).bind fun bt1414 => ((merinoref01_Times.f kj3 bt1353.1 bt1353.2 bt1357.1 bt1357.2).bind fun bt1418 => ((merinoref01_Lowest.f kj3 bt1414.1 bt1414.2 bt1418.1 bt1418.2).bind fun bt1422 => (some (bt1422.1, bt1422.2.1, bt1422.2.2)))))))))))) = some (r1, r2, r3) := H
        have A26 := Aside0.mk A260
        clear A260
        replace H := Option.bind_eq_some_iff.mp H
        obtain ⟨⟨t1353, t1354⟩, A270, H⟩ := H
        replace H : ((merinoref01_Of.f kj3 a2_0).bind fun bt1357 => ((merinoref01_Of.f kj3 a2_1).bind fun bt1361 => (if a0 = 0 then ((merinoref01_Times.f kj3 t1349 t1350 bt1361.1 bt1361.2).bind fun bt1365 => ((merinoref01_Times.f kj3 bt1357.1 bt1357.2 t1353 t1354).bind fun bt1369 => ((merinoref01_Plus.f kj3 bt1365.1 bt1365.2 bt1369.1 bt1369.2).bind fun bt1373 => ((merinoref01_Times.f kj3 t1353 t1354 bt1361.1 bt1361.2).bind fun bt1377 => ((merinoref01_Lowest.f kj3 bt1373.1 bt1373.2 bt1377.1 bt1377.2).bind fun bt1381 => (some (bt1381.1, bt1381.2.1, bt1381.2.2))))))) else (if a0 = 1 then ((merinoref01_Times.f kj3 t1349 t1350 bt1361.1 bt1361.2).bind fun bt1384 => ((merinoref01_Times.f kj3 bt1357.1 bt1357.2 t1353 t1354).bind fun bt1388 => ((merinoref01_Minus.f kj3 bt1384.1 bt1384.2 bt1388.1 bt1388.2).bind fun bt1392 => ((merinoref01_Times.f kj3 t1353 t1354 bt1361.1 bt1361.2).bind fun bt1396 => ((merinoref01_Lowest.f kj3 bt1392.1 bt1392.2 bt1396.1 bt1396.2).bind fun bt1400 => (some (bt1400.1, bt1400.2.1, bt1400.2.2))))))) else (if a0 = 2 then ((merinoref01_Times.f kj3 t1349 t1350 bt1357.1 bt1357.2).bind fun bt1403 => ((merinoref01_Times.f kj3 t1353 t1354 bt1361.1 bt1361.2).bind fun bt1407 => ((merinoref01_Lowest.f kj3 bt1403.1 bt1403.2 bt1407.1 bt1407.2).bind fun bt1411 => (some (bt1411.1, bt1411.2.1, bt1411.2.2))))) else (if a2_0 = 0 then (some (0, 0, 5)) else ((merinoref01_Times.f kj3 t1349 t1350 bt1361.1 bt1361.2).bind fun bt1414 => ((merinoref01_Times.f kj3 t1353 t1354 bt1357.1 bt1357.2).bind fun bt1418 => ((merinoref01_Lowest.f kj3 bt1414.1 bt1414.2 bt1418.1 bt1418.2).bind fun bt1422 => (some (bt1422.1, bt1422.2.1, bt1422.2.2))))))))))) = some (r1, r2, r3) := H
        have A27 := Aside0.mk A270
        clear A270
        replace H := Option.bind_eq_some_iff.mp H
        obtain ⟨⟨t1357, t1358⟩, A280, H⟩ := H
        replace H : ((merinoref01_Of.f kj3 a2_1).bind fun bt1361 => (if a0 = 0 then ((merinoref01_Times.f kj3 t1349 t1350 bt1361.1 bt1361.2).bind fun bt1365 => ((merinoref01_Times.f kj3 t1357 t1358 t1353 t1354).bind fun bt1369 => ((merinoref01_Plus.f kj3 bt1365.1 bt1365.2 bt1369.1 bt1369.2).bind fun bt1373 => ((merinoref01_Times.f kj3 t1353 t1354 bt1361.1 bt1361.2).bind fun bt1377 => ((merinoref01_Lowest.f kj3 bt1373.1 bt1373.2 bt1377.1 bt1377.2).bind fun bt1381 => (some (bt1381.1, bt1381.2.1, bt1381.2.2))))))) else (if a0 = 1 then ((merinoref01_Times.f kj3 t1349 t1350 bt1361.1 bt1361.2).bind fun bt1384 => ((merinoref01_Times.f kj3 t1357 t1358 t1353 t1354).bind fun bt1388 => ((merinoref01_Minus.f kj3 bt1384.1 bt1384.2 bt1388.1 bt1388.2).bind fun bt1392 => ((merinoref01_Times.f kj3 t1353 t1354 bt1361.1 bt1361.2).bind fun bt1396 => ((merinoref01_Lowest.f kj3 bt1392.1 bt1392.2 bt1396.1 bt1396.2).bind fun bt1400 => (some (bt1400.1, bt1400.2.1, bt1400.2.2))))))) else (if a0 = 2 then ((merinoref01_Times.f kj3 t1349 t1350 t1357 t1358).bind fun bt1403 => ((merinoref01_Times.f kj3 t1353 t1354 bt1361.1 bt1361.2).bind fun bt1407 => ((merinoref01_Lowest.f kj3 bt1403.1 bt1403.2 bt1407.1 bt1407.2).bind fun bt1411 => (some (bt1411.1, bt1411.2.1, bt1411.2.2))))) else (if a2_0 = 0 then (some (0, 0, 5)) else ((merinoref01_Times.f kj3 t1349 t1350 bt1361.1 bt1361.2).bind fun bt1414 => ((merinoref01_Times.f kj3 t1353 t1354 t1357 t1358).bind fun bt1418 => ((merinoref01_Lowest.f kj3 bt1414.1 bt1414.2 bt1418.1 bt1418.2).bind fun bt1422 => (some (bt1422.1, bt1422.2.1, bt1422.2.2)))))))))) = some (r1, r2, r3) := H
        have A28 := Aside0.mk A280
        clear A280
        replace H := Option.bind_eq_some_iff.mp H
        obtain ⟨⟨t1361, t1362⟩, A290, H⟩ := H
        replace H : (if a0 = 0 then ((merinoref01_Times.f kj3 t1349 t1350 t1361 t1362).bind fun bt1365 => ((merinoref01_Times.f kj3 t1357 t1358 t1353 t1354).bind fun bt1369 => ((merinoref01_Plus.f kj3 bt1365.1 bt1365.2 bt1369.1 bt1369.2).bind fun bt1373 => ((merinoref01_Times.f kj3 t1353 t1354 t1361 t1362).bind fun bt1377 => ((merinoref01_Lowest.f kj3 bt1373.1 bt1373.2 bt1377.1 bt1377.2).bind fun bt1381 => (some (bt1381.1, bt1381.2.1, bt1381.2.2))))))) else (if a0 = 1 then ((merinoref01_Times.f kj3 t1349 t1350 t1361 t1362).bind fun bt1384 => ((merinoref01_Times.f kj3 t1357 t1358 t1353 t1354).bind fun bt1388 => ((merinoref01_Minus.f kj3 bt1384.1 bt1384.2 bt1388.1 bt1388.2).bind fun bt1392 => ((merinoref01_Times.f kj3 t1353 t1354 t1361 t1362).bind fun bt1396 => ((merinoref01_Lowest.f kj3 bt1392.1 bt1392.2 bt1396.1 bt1396.2).bind fun bt1400 => (some (bt1400.1, bt1400.2.1, bt1400.2.2))))))) else (if a0 = 2 then ((merinoref01_Times.f kj3 t1349 t1350 t1357 t1358).bind fun bt1403 => ((merinoref01_Times.f kj3 t1353 t1354 t1361 t1362).bind fun bt1407 => ((merinoref01_Lowest.f kj3 bt1403.1 bt1403.2 bt1407.1 bt1407.2).bind fun bt1411 => (some (bt1411.1, bt1411.2.1, bt1411.2.2))))) else (if a2_0 = 0 then (some (0, 0, 5)) else ((merinoref01_Times.f kj3 t1349 t1350 t1361 t1362).bind fun bt1414 => ((merinoref01_Times.f kj3 t1353 t1354 t1357 t1358).bind fun bt1418 => ((merinoref01_Lowest.f kj3 bt1414.1 bt1414.2 bt1418.1 bt1418.2).bind fun bt1422 => (some (bt1422.1, bt1422.2.1, bt1422.2.2))))))))) = some (r1, r2, r3) := H
        have A29 := Aside0.mk A290
        clear A290
        go_upto_region 3 with (fail)
        have kc : ∀ w', Below wc.heap.size wc w' → w'.cell? ⟨gb1340, 0, none⟩ = some (.int .i64 a1_0) ∧ w'.cell? ⟨gb1340, 1, none⟩ = some (.int .i64 a1_1) ∧ w'.cell? ⟨gb1341, 0, none⟩ = some (.int .i64 a2_0) ∧ w'.cell? ⟨gb1341, 1, none⟩ = some (.int .i64 a2_1) := fun w' hb => ⟨(blk_cell (blk_below BK1340.out hb) 0).trans rfl, (blk_cell (blk_below BK1340.out hb) 1).trans rfl, (blk_cell (blk_below BK1341.out hb) 0).trans rfl, (blk_cell (blk_below BK1341.out hb) 1).trans rfl⟩
        have KC := Aside0.mk kc
        clear kc
        have HS := HB.out.size
        refine start_ (n := 20) (S := fun w' => Below wc.heap.size wc w') (ds := []) #[false, false, false, false, false, false, false, false, false, false, false, false, false, false, false, false, false, false, false, false] (by kernel_rfl) rfl rfl (Below.drew (Below.refl _ _)) (fun hHeld => ?_)
        refine pure_ (i := 0) (N := some 21) (v := ?_) (a' := ?_) (bb20 1) rfl rfl (by kernel_rfl) (fun _ _ _ h => h) (Or.inl ⟨by rfl, ?_⟩) ?_ ?_
        rotate_left
        · intro w'
          go_simp
          with_reducible rfl
        rotate_left
        · simp only [Act.put, List.setIfInBounds_toArray, List.set_cons_zero, List.set_cons_succ, i64_w, i32_w]
          rfl
        refine take_ (i := 1) (N := some 22) (v := ?_) (a' := ?_) (bb20 3) rfl rfl (by kernel_rfl) (fun _ _ _ h => h) (Or.inl ⟨by rfl, ?_⟩) hHeld ?_ ?_
        rotate_left
        · rintro w' hS
          obtain ⟨k0, k1, k2, k3⟩ := KC.out w' hS
          go_simp
          with_reducible rfl
        rotate_left
        · simp only [Act.put, List.setIfInBounds_toArray, List.set_cons_zero, List.set_cons_succ, i64_w, i32_w]
          rfl
        refine pure_ (i := 3) (N := some 24) (v := ?_) (a' := ?_) (bb20 11) rfl rfl (by kernel_rfl) (fun _ _ _ h => h) (Or.inl ⟨by rfl, ?_⟩) ?_ ?_
        rotate_left
        · intro w'
          go_simp
          with_reducible rfl
        rotate_left
        · simp only [Act.put, List.setIfInBounds_toArray, List.set_cons_zero, List.set_cons_succ, i64_w, i32_w]
          rfl
        refine take_ (i := 4) (N := some 25) (v := ?_) (a' := ?_) (bb20 27) rfl rfl (by kernel_rfl) (fun _ _ _ h => h) (Or.inl ⟨by rfl, ?_⟩) hHeld ?_ ?_
        rotate_left
        · rintro w' hS
          obtain ⟨k0, k1, k2, k3⟩ := KC.out w' hS
          go_simp
          with_reducible rfl
        rotate_left
        · simp only [Act.put, List.setIfInBounds_toArray, List.set_cons_zero, List.set_cons_succ, i64_w, i32_w]
          rfl
        refine pure_ (i := 6) (N := some 27) (v := ?_) (a' := ?_) (bb20 91) rfl rfl (by kernel_rfl) (fun _ _ _ h => h) (Or.inl ⟨by rfl, ?_⟩) ?_ ?_
        rotate_left
        · intro w'
          go_simp
          with_reducible rfl
        rotate_left
        · simp only [Act.put, List.setIfInBounds_toArray, List.set_cons_zero, List.set_cons_succ, i64_w, i32_w]
          rfl
        refine take_ (i := 7) (N := some 28) (v := ?_) (a' := ?_) (bb20 219) rfl rfl (by kernel_rfl) (fun _ _ _ h => h) (Or.inl ⟨by rfl, ?_⟩) hHeld ?_ ?_
        rotate_left
        · rintro w' hS
          obtain ⟨k0, k1, k2, k3⟩ := KC.out w' hS
          go_simp
          with_reducible rfl
        rotate_left
        · simp only [Act.put, List.setIfInBounds_toArray, List.set_cons_zero, List.set_cons_succ, i64_w, i32_w]
          rfl
        refine pure_ (i := 9) (N := some 30) (v := ?_) (a' := ?_) (bb20 731) rfl rfl (by kernel_rfl) (fun _ _ _ h => h) (Or.inl ⟨by rfl, ?_⟩) ?_ ?_
        rotate_left
        · intro w'
          go_simp
          with_reducible rfl
        rotate_left
        · simp only [Act.put, List.setIfInBounds_toArray, List.set_cons_zero, List.set_cons_succ, i64_w, i32_w]
          rfl
        refine take_ (i := 10) (N := some 31) (v := ?_) (a' := ?_) (bb20 1755) rfl rfl (by kernel_rfl) (fun _ _ _ h => h) (Or.inl ⟨by rfl, ?_⟩) hHeld ?_ ?_
        rotate_left
        · rintro w' hS
          obtain ⟨k0, k1, k2, k3⟩ := KC.out w' hS
          go_simp
          with_reducible rfl
        rotate_left
        · simp only [Act.put, List.setIfInBounds_toArray, List.set_cons_zero, List.set_cons_succ, i64_w, i32_w]
          rfl
        obtain ⟨y, hyd⟩ : ∃ y, y = wc.drew := ⟨_, rfl⟩
        rw [← hyd]
        have F : ArG w wc t1350 t1354 t1358 t1362 (0, false, false, false, false) ((.bool false, .bool false, .bool false, .bool false), 0, 0, 0, 0) y := by rw [hyd]; exact ⟨by decide, ar_start⟩
        clear hyd
        refine float_ arMu arL (arNs t1349 t1353 t1357 t1361) (ArG w wc t1350 t1354 t1358 t1362) (0, false, false, false, false) (4, true, true, true, true) _ rfl rfl (by kernel_rfl) F ?_ ?_
        · clear F y
          rintro ⟨c, t0, t1, t2, t3⟩ hne IH ⟨⟨q0, q1, q2, q3⟩, b0, b1, b2, b3⟩ y ⟨hc, F⟩
          dsimp only at hc F
          rcases (show c = 0 ∨ c = 1 ∨ c = 2 ∨ c = 3 ∨ c = 4 by omega) with rfl | rfl | rfl | rfl | rfl <;> cases t0 <;> cases t1 <;> cases t2 <;> cases t3
          all_goals
            first
            | exact absurd rfl hne
            | (refine arm_ ?_; refine arrdy_ _ ?_; (first | (refine arcons_ 2 (some 23) rfl rfl (by decide) (fun K hK => ?_) ?_; focus (refine goes_ Tryd.func24 (by kernel_rfl) rfl #[.int .i64 a1_0] (by rfl) rfl rfl are_ ?_; refine (merinoref01_Of.calls kj3 a1_0 t1349 t1350 _ A26.out).mono ?_; rintro e z ⟨p', rfl, hp', hz⟩; exact ⟨_, rfl, hK.out _ _ (F.1.trans (hz.mono F.1.size)) (fun hHeld => arn_ (IH (1, _, _, _, _) (by decide) _ _ ⟨by decide, arc0 HS F hz hp'⟩))⟩)) | (refine arcons_ 5 (some 26) rfl rfl (by decide) (fun K hK => ?_) ?_; focus (refine goes_ Tryd.func24 (by kernel_rfl) rfl #[.int .i64 a1_1] (by rfl) rfl rfl are_ ?_; refine (merinoref01_Of.calls kj3 a1_1 t1353 t1354 _ A27.out).mono ?_; rintro e z ⟨p', rfl, hp', hz⟩; exact ⟨_, rfl, hK.out _ _ (F.1.trans (hz.mono F.1.size)) (fun hHeld => arn_ (IH (2, _, _, _, _) (by decide) _ _ ⟨by decide, arc1 HS F hz hp'⟩))⟩)) | (refine arcons_ 8 (some 29) rfl rfl (by decide) (fun K hK => ?_) ?_; focus (refine goes_ Tryd.func24 (by kernel_rfl) rfl #[.int .i64 a2_0] (by rfl) rfl rfl are_ ?_; refine (merinoref01_Of.calls kj3 a2_0 t1357 t1358 _ A28.out).mono ?_; rintro e z ⟨p', rfl, hp', hz⟩; exact ⟨_, rfl, hK.out _ _ (F.1.trans (hz.mono F.1.size)) (fun hHeld => arn_ (IH (3, _, _, _, _) (by decide) _ _ ⟨by decide, arc2 HS F hz hp'⟩))⟩)) | (refine arcons_ 11 (some 32) rfl rfl (by decide) (fun K hK => ?_) ?_; focus (refine goes_ Tryd.func24 (by kernel_rfl) rfl #[.int .i64 a2_1] (by rfl) rfl rfl are_ ?_; refine (merinoref01_Of.calls kj3 a2_1 t1361 t1362 _ A29.out).mono ?_; rintro e z ⟨p', rfl, hp', hz⟩; exact ⟨_, rfl, hK.out _ _ (F.1.trans (hz.mono F.1.size)) (fun hHeld => arn_ (IH (4, _, _, _, _) (by decide) _ _ ⟨by decide, arc3 HS F hz hp'⟩))⟩)) | skip); (try (refine arcons_ 12 (some 8) rfl rfl (by decide) (fun K hK => ?_) ?_; focus (refine value_ (w1 := ?_) (v := ?_) (by rfl) rfl ?_ ?_; rotate_left 2; (focus (go_simp; constructor <;> with_reducible rfl)); exact hK.out _ _ (ar_low F) (fun hHeld => arn_ (IH (_, true, _, _, _) (by decide) _ _ ⟨by decide, arb0 F⟩))))); (try (refine arcons_ 13 (some 9) rfl rfl (by decide) (fun K hK => ?_) ?_; focus (refine value_ (w1 := ?_) (v := ?_) (by rfl) rfl ?_ ?_; rotate_left 2; (focus (go_simp; constructor <;> with_reducible rfl)); exact hK.out _ _ (ar_low F) (fun hHeld => arn_ (IH (_, _, true, _, _) (by decide) _ _ ⟨by decide, arb1 F⟩))))); (try (refine arcons_ 14 (some 10) rfl rfl (by decide) (fun K hK => ?_) ?_; focus (refine value_ (w1 := ?_) (v := ?_) (by rfl) rfl ?_ ?_; rotate_left 2; (focus (go_simp; constructor <;> with_reducible rfl)); exact hK.out _ _ (ar_low F) (fun hHeld => arn_ (IH (_, _, _, true, _) (by decide) _ _ ⟨by decide, arb2 F⟩))))); (try (refine arcons_ 15 (some 11) rfl rfl (by decide) (fun K hK => ?_) ?_; focus (refine value_ (w1 := ?_) (v := ?_) (by rfl) rfl ?_ ?_; rotate_left 2; (focus (go_simp; constructor <;> with_reducible rfl)); exact hK.out _ _ (ar_low F) (fun hHeld => arn_ (IH (_, _, _, _, true) (by decide) _ _ ⟨by decide, arb3 F⟩))))); exact AllReadyL.nil)
        clear F y
        rintro ⟨⟨q0, q1, q2, q3⟩, gb1345, gb1346, gb1347, gb1348⟩ y ⟨-, F⟩
        dsimp only at F
        obtain ⟨hy, r0, r1, r2, r3, m0, g0, m1, g1, m2, g2, m3, g3, n01, n02, n03, n12, n13, n23⟩ := ar_end F
        clear F HS
        refine arm_ ?_
        obtain ⟨Ao64, co64, en0⟩ := Kd.R_slice r0
        subst en0
        obtain ⟨Ao69, co69, en1⟩ := Kd.R_slice r1
        subst en1
        obtain ⟨Ao73, co73, en2⟩ := Kd.R_slice r2
        subst en2
        obtain ⟨Ao76, co76, en3⟩ := Kd.R_slice r3
        subst en3
        have Qr0 := Aside0.mk r0
        have Qr1 := Aside0.mk r1
        have Qr2 := Aside0.mk r2
        have Qr3 := Aside0.mk r3
        have Qm0 := Aside0.mk m0
        have Qm1 := Aside0.mk m1
        have Qm2 := Aside0.mk m2
        have Qm3 := Aside0.mk m3
        have Qg0 := Aside0.mk g0
        have Qg1 := Aside0.mk g1
        have Qg2 := Aside0.mk g2
        have Qg3 := Aside0.mk g3
        have Qn01 := Aside0.mk n01
        have Qn02 := Aside0.mk n02
        have Qn03 := Aside0.mk n03
        have Qn12 := Aside0.mk n12
        have Qn13 := Aside0.mk n13
        have Qn23 := Aside0.mk n23
        have Qhy := Aside0.mk hy
        clear r0 r1 r2 r3 m0 m1 m2 m3 g0 g1 g2 g3 n01 n02 n03 n12 n13 n23 hy
        have x00 := (blk_cell Qm0.out 0).trans rfl
        have x01 := (blk_cell Qm0.out 1).trans rfl
        have f00 := blk_frozen Qm0.out 0
        have f01 := blk_frozen Qm0.out 1
        have x10 := (blk_cell Qm1.out 0).trans rfl
        have x11 := (blk_cell Qm1.out 1).trans rfl
        have f10 := blk_frozen Qm1.out 0
        have f11 := blk_frozen Qm1.out 1
        have x20 := (blk_cell Qm2.out 0).trans rfl
        have x21 := (blk_cell Qm2.out 1).trans rfl
        have f20 := blk_frozen Qm2.out 0
        have f21 := blk_frozen Qm2.out 1
        have x30 := (blk_cell Qm3.out 0).trans rfl
        have x31 := (blk_cell Qm3.out 1).trans rfl
        have f30 := blk_frozen Qm3.out 0
        have f31 := blk_frozen Qm3.out 1
        have e01 := Qn01.out
        have e10 := Ne.symm Qn01.out
        have e02 := Qn02.out
        have e20 := Ne.symm Qn02.out
        have e03 := Qn03.out
        have e30 := Ne.symm Qn03.out
        have e12 := Qn12.out
        have e21 := Ne.symm Qn12.out
        have e13 := Qn13.out
        have e31 := Ne.symm Qn13.out
        have e23 := Qn23.out
        have e32 := Ne.symm Qn23.out
        refine one_ (i := 16) (N := none) (bb20 131071) rfl rfl (by kernel_rfl) (by decide) (fun K hK => ?_)
        refine skip_ (w1 := ?_) (by rfl) rfl ?_ ?_
        rotate_left
        · go_simp
          with_reducible rfl
        refine hK.out _ _ (below_set (below_set Qhy.out Qg0.out) Qg0.out) (fun hHeld => ?_)
        clear hK K
        refine one_ (i := 17) (N := none) (bb20 262143) rfl rfl (by kernel_rfl) (by decide) (fun K hK => ?_)
        refine skip_ (w1 := ?_) (by rfl) rfl ?_ ?_
        rotate_left
        · go_simp
          with_reducible rfl
        refine hK.out _ _ (below_set (below_set (below_set (below_set Qhy.out Qg0.out) Qg0.out) Qg1.out) Qg1.out) (fun hHeld => ?_)
        clear hK K
        refine one_ (i := 18) (N := none) (bb20 524287) rfl rfl (by kernel_rfl) (by decide) (fun K hK => ?_)
        refine skip_ (w1 := ?_) (by rfl) rfl ?_ ?_
        rotate_left
        · go_simp
          with_reducible rfl
        refine hK.out _ _ (below_set (below_set (below_set (below_set (below_set (below_set Qhy.out Qg0.out) Qg0.out) Qg1.out) Qg1.out) Qg2.out) Qg2.out) (fun hHeld => ?_)
        clear hK K
        refine one_ (i := 19) (N := none) (bb20 1048575) rfl rfl (by kernel_rfl) (by decide) (fun K hK => ?_)
        refine skip_ (w1 := ?_) (by rfl) rfl ?_ ?_
        rotate_left
        · go_simp
          with_reducible rfl
        refine hK.out _ _ (below_set (below_set (below_set (below_set (below_set (below_set (below_set (below_set Qhy.out Qg0.out) Qg0.out) Qg1.out) Qg1.out) Qg2.out) Qg2.out) Qg3.out) Qg3.out) (fun hHeld => ?_)
        clear hK K
        refine done_ (by kernel_rfl) ?_
        clear x00 x01 f00 f01 x10 x11 f10 f11 x20 x21 f20 f21 x30 x31 f30 f31 hHeld
        have GE1345 := Aside0.mk (Nat.le_trans HB.out.size Qg0.out)
        have GW1345 := GE1345
        have GE1346 := Aside0.mk (Nat.le_trans HB.out.size Qg1.out)
        have GW1346 := GE1346
        have GE1347 := Aside0.mk (Nat.le_trans HB.out.size Qg2.out)
        have GW1347 := GE1347
        have GE1348 := Aside0.mk (Nat.le_trans HB.out.size Qg3.out)
        have GW1348 := GE1348
        have NB1340_1345 := Aside0.mk (Nat.ne_of_lt (Nat.lt_of_lt_of_le (blk_lt BK1340.out) Qg0.out))
        have NB1345_1340 := Aside0.mk (Ne.symm NB1340_1345.out)
        have NB1340_1346 := Aside0.mk (Nat.ne_of_lt (Nat.lt_of_lt_of_le (blk_lt BK1340.out) Qg1.out))
        have NB1346_1340 := Aside0.mk (Ne.symm NB1340_1346.out)
        have NB1340_1347 := Aside0.mk (Nat.ne_of_lt (Nat.lt_of_lt_of_le (blk_lt BK1340.out) Qg2.out))
        have NB1347_1340 := Aside0.mk (Ne.symm NB1340_1347.out)
        have NB1340_1348 := Aside0.mk (Nat.ne_of_lt (Nat.lt_of_lt_of_le (blk_lt BK1340.out) Qg3.out))
        have NB1348_1340 := Aside0.mk (Ne.symm NB1340_1348.out)
        have NB1341_1345 := Aside0.mk (Nat.ne_of_lt (Nat.lt_of_lt_of_le (blk_lt BK1341.out) Qg0.out))
        have NB1345_1341 := Aside0.mk (Ne.symm NB1341_1345.out)
        have NB1341_1346 := Aside0.mk (Nat.ne_of_lt (Nat.lt_of_lt_of_le (blk_lt BK1341.out) Qg1.out))
        have NB1346_1341 := Aside0.mk (Ne.symm NB1341_1346.out)
        have NB1341_1347 := Aside0.mk (Nat.ne_of_lt (Nat.lt_of_lt_of_le (blk_lt BK1341.out) Qg2.out))
        have NB1347_1341 := Aside0.mk (Ne.symm NB1341_1347.out)
        have NB1341_1348 := Aside0.mk (Nat.ne_of_lt (Nat.lt_of_lt_of_le (blk_lt BK1341.out) Qg3.out))
        have NB1348_1341 := Aside0.mk (Ne.symm NB1341_1348.out)
        have NB1342_1345 := Aside0.mk (Nat.ne_of_lt (Nat.lt_of_lt_of_le (blk_lt BK1342.out) Qg0.out))
        have NB1345_1342 := Aside0.mk (Ne.symm NB1342_1345.out)
        have NB1342_1346 := Aside0.mk (Nat.ne_of_lt (Nat.lt_of_lt_of_le (blk_lt BK1342.out) Qg1.out))
        have NB1346_1342 := Aside0.mk (Ne.symm NB1342_1346.out)
        have NB1342_1347 := Aside0.mk (Nat.ne_of_lt (Nat.lt_of_lt_of_le (blk_lt BK1342.out) Qg2.out))
        have NB1347_1342 := Aside0.mk (Ne.symm NB1342_1347.out)
        have NB1342_1348 := Aside0.mk (Nat.ne_of_lt (Nat.lt_of_lt_of_le (blk_lt BK1342.out) Qg3.out))
        have NB1348_1342 := Aside0.mk (Ne.symm NB1342_1348.out)
        have NB1345_1346 := Aside0.mk e01
        have NB1346_1345 := Aside0.mk e10
        have NB1345_1347 := Aside0.mk e02
        have NB1347_1345 := Aside0.mk e20
        have NB1345_1348 := Aside0.mk e03
        have NB1348_1345 := Aside0.mk e30
        have NB1346_1347 := Aside0.mk e12
        have NB1347_1346 := Aside0.mk e21
        have NB1346_1348 := Aside0.mk e13
        have NB1348_1346 := Aside0.mk e31
        have NB1347_1348 := Aside0.mk e23
        have NB1348_1347 := Aside0.mk e32
        clear e01 e10 e02 e20 e03 e30 e12 e21 e13 e31 e23 e32
        have nn0 : Aside0 (Kd.R (Kd.int .i64) 3 ((((((((y.setCell ⟨gb1345, 0, none⟩ (.bool t1349)).setCell ⟨gb1345, 1, none⟩ (.slice Ao64 t1350.length co64)).setCell ⟨gb1346, 0, none⟩ (.bool t1353)).setCell ⟨gb1346, 1, none⟩ (.slice Ao69 t1354.length co69)).setCell ⟨gb1347, 0, none⟩ (.bool t1357)).setCell ⟨gb1347, 1, none⟩ (.slice Ao73 t1358.length co73)).setCell ⟨gb1348, 0, none⟩ (.bool t1361)).setCell ⟨gb1348, 1, none⟩ (.slice Ao76 t1362.length co76)) w.heap.size (fun _ => True) (.slice Ao64 t1350.length co64) t1350) := ⟨Kd.R_mono (Kd.R_far (p := ⟨gb1348, 1, none⟩) (Kd.R_far (p := ⟨gb1348, 0, none⟩) (Kd.R_far (p := ⟨gb1347, 1, none⟩) (Kd.R_far (p := ⟨gb1347, 0, none⟩) (Kd.R_far (p := ⟨gb1346, 1, none⟩) (Kd.R_far (p := ⟨gb1346, 0, none⟩) (Kd.R_far (p := ⟨gb1345, 1, none⟩) (Kd.R_far (p := ⟨gb1345, 0, none⟩) (Kd.R_types (Kd.R_types (Kd.R_types (Kd.R_types Qr0.out Qm0.out (by decide)) Qm1.out (by decide)) Qm2.out (by decide)) Qm3.out (by decide)) (fun _ hk => hk.1.1.1.2) (.bool t1349)) (fun _ hk => hk.1.1.1.2) (.slice Ao64 t1350.length co64)) (fun _ hk => hk.1.1.2) (.bool t1353)) (fun _ hk => hk.1.1.2) (.slice Ao69 t1354.length co69)) (fun _ hk => hk.1.2) (.bool t1357)) (fun _ hk => hk.1.2) (.slice Ao73 t1358.length co73)) (fun _ hk => hk.2) (.bool t1361)) (fun _ hk => hk.2) (.slice Ao76 t1362.length co76)) (fun _ _ => trivial)⟩
        have nn1 : Aside0 (Kd.R (Kd.int .i64) 3 ((((((((y.setCell ⟨gb1345, 0, none⟩ (.bool t1349)).setCell ⟨gb1345, 1, none⟩ (.slice Ao64 t1350.length co64)).setCell ⟨gb1346, 0, none⟩ (.bool t1353)).setCell ⟨gb1346, 1, none⟩ (.slice Ao69 t1354.length co69)).setCell ⟨gb1347, 0, none⟩ (.bool t1357)).setCell ⟨gb1347, 1, none⟩ (.slice Ao73 t1358.length co73)).setCell ⟨gb1348, 0, none⟩ (.bool t1361)).setCell ⟨gb1348, 1, none⟩ (.slice Ao76 t1362.length co76)) w.heap.size (fun _ => True) (.slice Ao69 t1354.length co69) t1354) := ⟨Kd.R_mono (Kd.R_far (p := ⟨gb1348, 1, none⟩) (Kd.R_far (p := ⟨gb1348, 0, none⟩) (Kd.R_far (p := ⟨gb1347, 1, none⟩) (Kd.R_far (p := ⟨gb1347, 0, none⟩) (Kd.R_far (p := ⟨gb1346, 1, none⟩) (Kd.R_far (p := ⟨gb1346, 0, none⟩) (Kd.R_far (p := ⟨gb1345, 1, none⟩) (Kd.R_far (p := ⟨gb1345, 0, none⟩) (Kd.R_types (Kd.R_types (Kd.R_types (Kd.R_types Qr1.out Qm0.out (by decide)) Qm1.out (by decide)) Qm2.out (by decide)) Qm3.out (by decide)) (fun _ hk => hk.1.1.1.2) (.bool t1349)) (fun _ hk => hk.1.1.1.2) (.slice Ao64 t1350.length co64)) (fun _ hk => hk.1.1.2) (.bool t1353)) (fun _ hk => hk.1.1.2) (.slice Ao69 t1354.length co69)) (fun _ hk => hk.1.2) (.bool t1357)) (fun _ hk => hk.1.2) (.slice Ao73 t1358.length co73)) (fun _ hk => hk.2) (.bool t1361)) (fun _ hk => hk.2) (.slice Ao76 t1362.length co76)) (fun _ _ => trivial)⟩
        have nn2 : Aside0 (Kd.R (Kd.int .i64) 3 ((((((((y.setCell ⟨gb1345, 0, none⟩ (.bool t1349)).setCell ⟨gb1345, 1, none⟩ (.slice Ao64 t1350.length co64)).setCell ⟨gb1346, 0, none⟩ (.bool t1353)).setCell ⟨gb1346, 1, none⟩ (.slice Ao69 t1354.length co69)).setCell ⟨gb1347, 0, none⟩ (.bool t1357)).setCell ⟨gb1347, 1, none⟩ (.slice Ao73 t1358.length co73)).setCell ⟨gb1348, 0, none⟩ (.bool t1361)).setCell ⟨gb1348, 1, none⟩ (.slice Ao76 t1362.length co76)) w.heap.size (fun _ => True) (.slice Ao73 t1358.length co73) t1358) := ⟨Kd.R_mono (Kd.R_far (p := ⟨gb1348, 1, none⟩) (Kd.R_far (p := ⟨gb1348, 0, none⟩) (Kd.R_far (p := ⟨gb1347, 1, none⟩) (Kd.R_far (p := ⟨gb1347, 0, none⟩) (Kd.R_far (p := ⟨gb1346, 1, none⟩) (Kd.R_far (p := ⟨gb1346, 0, none⟩) (Kd.R_far (p := ⟨gb1345, 1, none⟩) (Kd.R_far (p := ⟨gb1345, 0, none⟩) (Kd.R_types (Kd.R_types (Kd.R_types (Kd.R_types Qr2.out Qm0.out (by decide)) Qm1.out (by decide)) Qm2.out (by decide)) Qm3.out (by decide)) (fun _ hk => hk.1.1.1.2) (.bool t1349)) (fun _ hk => hk.1.1.1.2) (.slice Ao64 t1350.length co64)) (fun _ hk => hk.1.1.2) (.bool t1353)) (fun _ hk => hk.1.1.2) (.slice Ao69 t1354.length co69)) (fun _ hk => hk.1.2) (.bool t1357)) (fun _ hk => hk.1.2) (.slice Ao73 t1358.length co73)) (fun _ hk => hk.2) (.bool t1361)) (fun _ hk => hk.2) (.slice Ao76 t1362.length co76)) (fun _ _ => trivial)⟩
        have nn3 : Aside0 (Kd.R (Kd.int .i64) 3 ((((((((y.setCell ⟨gb1345, 0, none⟩ (.bool t1349)).setCell ⟨gb1345, 1, none⟩ (.slice Ao64 t1350.length co64)).setCell ⟨gb1346, 0, none⟩ (.bool t1353)).setCell ⟨gb1346, 1, none⟩ (.slice Ao69 t1354.length co69)).setCell ⟨gb1347, 0, none⟩ (.bool t1357)).setCell ⟨gb1347, 1, none⟩ (.slice Ao73 t1358.length co73)).setCell ⟨gb1348, 0, none⟩ (.bool t1361)).setCell ⟨gb1348, 1, none⟩ (.slice Ao76 t1362.length co76)) w.heap.size (fun _ => True) (.slice Ao76 t1362.length co76) t1362) := ⟨Kd.R_mono (Kd.R_far (p := ⟨gb1348, 1, none⟩) (Kd.R_far (p := ⟨gb1348, 0, none⟩) (Kd.R_far (p := ⟨gb1347, 1, none⟩) (Kd.R_far (p := ⟨gb1347, 0, none⟩) (Kd.R_far (p := ⟨gb1346, 1, none⟩) (Kd.R_far (p := ⟨gb1346, 0, none⟩) (Kd.R_far (p := ⟨gb1345, 1, none⟩) (Kd.R_far (p := ⟨gb1345, 0, none⟩) (Kd.R_types (Kd.R_types (Kd.R_types (Kd.R_types Qr3.out Qm0.out (by decide)) Qm1.out (by decide)) Qm2.out (by decide)) Qm3.out (by decide)) (fun _ hk => hk.1.1.1.2) (.bool t1349)) (fun _ hk => hk.1.1.1.2) (.slice Ao64 t1350.length co64)) (fun _ hk => hk.1.1.2) (.bool t1353)) (fun _ hk => hk.1.1.2) (.slice Ao69 t1354.length co69)) (fun _ hk => hk.1.2) (.bool t1357)) (fun _ hk => hk.1.2) (.slice Ao73 t1358.length co73)) (fun _ hk => hk.2) (.bool t1361)) (fun _ hk => hk.2) (.slice Ao76 t1362.length co76)) (fun _ _ => trivial)⟩
        have nn4 : Aside0 (((((((((y.setCell ⟨gb1345, 0, none⟩ (.bool t1349)).setCell ⟨gb1345, 1, none⟩ (.slice Ao64 t1350.length co64)).setCell ⟨gb1346, 0, none⟩ (.bool t1353)).setCell ⟨gb1346, 1, none⟩ (.slice Ao69 t1354.length co69)).setCell ⟨gb1347, 0, none⟩ (.bool t1357)).setCell ⟨gb1347, 1, none⟩ (.slice Ao73 t1358.length co73)).setCell ⟨gb1348, 0, none⟩ (.bool t1361)).setCell ⟨gb1348, 1, none⟩ (.slice Ao76 t1362.length co76)).heap[gb1340]? = some (.cells #[.int .i64 a1_0, .int .i64 a1_1] 23 (0, 0))) := ⟨(blk_far (blk_far (blk_far (blk_far (blk_far (blk_far (blk_far (blk_far (blk_below BK1340.out Qhy.out) NB1340_1345.out _) NB1340_1345.out _) NB1340_1346.out _) NB1340_1346.out _) NB1340_1347.out _) NB1340_1347.out _) NB1340_1348.out _) NB1340_1348.out _)⟩
        have nn5 : Aside0 (((((((((y.setCell ⟨gb1345, 0, none⟩ (.bool t1349)).setCell ⟨gb1345, 1, none⟩ (.slice Ao64 t1350.length co64)).setCell ⟨gb1346, 0, none⟩ (.bool t1353)).setCell ⟨gb1346, 1, none⟩ (.slice Ao69 t1354.length co69)).setCell ⟨gb1347, 0, none⟩ (.bool t1357)).setCell ⟨gb1347, 1, none⟩ (.slice Ao73 t1358.length co73)).setCell ⟨gb1348, 0, none⟩ (.bool t1361)).setCell ⟨gb1348, 1, none⟩ (.slice Ao76 t1362.length co76)).heap[gb1341]? = some (.cells #[.int .i64 a2_0, .int .i64 a2_1] 23 (0, 0))) := ⟨(blk_far (blk_far (blk_far (blk_far (blk_far (blk_far (blk_far (blk_far (blk_below BK1341.out Qhy.out) NB1341_1345.out _) NB1341_1345.out _) NB1341_1346.out _) NB1341_1346.out _) NB1341_1347.out _) NB1341_1347.out _) NB1341_1348.out _) NB1341_1348.out _)⟩
        have nn6 : Aside0 (((((((((y.setCell ⟨gb1345, 0, none⟩ (.bool t1349)).setCell ⟨gb1345, 1, none⟩ (.slice Ao64 t1350.length co64)).setCell ⟨gb1346, 0, none⟩ (.bool t1353)).setCell ⟨gb1346, 1, none⟩ (.slice Ao69 t1354.length co69)).setCell ⟨gb1347, 0, none⟩ (.bool t1357)).setCell ⟨gb1347, 1, none⟩ (.slice Ao73 t1358.length co73)).setCell ⟨gb1348, 0, none⟩ (.bool t1361)).setCell ⟨gb1348, 1, none⟩ (.slice Ao76 t1362.length co76)).heap[gb1342]? = some (.cells #[.int .i64 0, .int .i64 0] 23 (0, 0))) := ⟨(blk_far (blk_far (blk_far (blk_far (blk_far (blk_far (blk_far (blk_far (blk_below BK1342.out Qhy.out) NB1342_1345.out _) NB1342_1345.out _) NB1342_1346.out _) NB1342_1346.out _) NB1342_1347.out _) NB1342_1347.out _) NB1342_1348.out _) NB1342_1348.out _)⟩
        have nn7 : Aside0 (((((((((y.setCell ⟨gb1345, 0, none⟩ (.bool t1349)).setCell ⟨gb1345, 1, none⟩ (.slice Ao64 t1350.length co64)).setCell ⟨gb1346, 0, none⟩ (.bool t1353)).setCell ⟨gb1346, 1, none⟩ (.slice Ao69 t1354.length co69)).setCell ⟨gb1347, 0, none⟩ (.bool t1357)).setCell ⟨gb1347, 1, none⟩ (.slice Ao73 t1358.length co73)).setCell ⟨gb1348, 0, none⟩ (.bool t1361)).setCell ⟨gb1348, 1, none⟩ (.slice Ao76 t1362.length co76)).heap[gb1345]? = some (.cells #[.bool t1349, .slice Ao64 t1350.length co64] 31 (0, 0))) := ⟨(blk_far (blk_far (blk_far (blk_far (blk_far (blk_far (blk_put (cs := #[.bool t1349, .slice none 0 0]) (blk_put (cs := #[.bool false, .slice none 0 0]) Qm0.out 0 _ rfl) 1 _ rfl) NB1345_1346.out _) NB1345_1346.out _) NB1345_1347.out _) NB1345_1347.out _) NB1345_1348.out _) NB1345_1348.out _)⟩
        have nn8 : Aside0 (((((((((y.setCell ⟨gb1345, 0, none⟩ (.bool t1349)).setCell ⟨gb1345, 1, none⟩ (.slice Ao64 t1350.length co64)).setCell ⟨gb1346, 0, none⟩ (.bool t1353)).setCell ⟨gb1346, 1, none⟩ (.slice Ao69 t1354.length co69)).setCell ⟨gb1347, 0, none⟩ (.bool t1357)).setCell ⟨gb1347, 1, none⟩ (.slice Ao73 t1358.length co73)).setCell ⟨gb1348, 0, none⟩ (.bool t1361)).setCell ⟨gb1348, 1, none⟩ (.slice Ao76 t1362.length co76)).heap[gb1346]? = some (.cells #[.bool t1353, .slice Ao69 t1354.length co69] 31 (0, 0))) := ⟨(blk_far (blk_far (blk_far (blk_far (blk_put (cs := #[.bool t1353, .slice none 0 0]) (blk_put (cs := #[.bool false, .slice none 0 0]) (blk_far (blk_far Qm1.out NB1346_1345.out _) NB1346_1345.out _) 0 _ rfl) 1 _ rfl) NB1346_1347.out _) NB1346_1347.out _) NB1346_1348.out _) NB1346_1348.out _)⟩
        have nn9 : Aside0 (((((((((y.setCell ⟨gb1345, 0, none⟩ (.bool t1349)).setCell ⟨gb1345, 1, none⟩ (.slice Ao64 t1350.length co64)).setCell ⟨gb1346, 0, none⟩ (.bool t1353)).setCell ⟨gb1346, 1, none⟩ (.slice Ao69 t1354.length co69)).setCell ⟨gb1347, 0, none⟩ (.bool t1357)).setCell ⟨gb1347, 1, none⟩ (.slice Ao73 t1358.length co73)).setCell ⟨gb1348, 0, none⟩ (.bool t1361)).setCell ⟨gb1348, 1, none⟩ (.slice Ao76 t1362.length co76)).heap[gb1347]? = some (.cells #[.bool t1357, .slice Ao73 t1358.length co73] 31 (0, 0))) := ⟨(blk_far (blk_far (blk_put (cs := #[.bool t1357, .slice none 0 0]) (blk_put (cs := #[.bool false, .slice none 0 0]) (blk_far (blk_far (blk_far (blk_far Qm2.out NB1347_1345.out _) NB1347_1345.out _) NB1347_1346.out _) NB1347_1346.out _) 0 _ rfl) 1 _ rfl) NB1347_1348.out _) NB1347_1348.out _)⟩
        have nn10 : Aside0 (((((((((y.setCell ⟨gb1345, 0, none⟩ (.bool t1349)).setCell ⟨gb1345, 1, none⟩ (.slice Ao64 t1350.length co64)).setCell ⟨gb1346, 0, none⟩ (.bool t1353)).setCell ⟨gb1346, 1, none⟩ (.slice Ao69 t1354.length co69)).setCell ⟨gb1347, 0, none⟩ (.bool t1357)).setCell ⟨gb1347, 1, none⟩ (.slice Ao73 t1358.length co73)).setCell ⟨gb1348, 0, none⟩ (.bool t1361)).setCell ⟨gb1348, 1, none⟩ (.slice Ao76 t1362.length co76)).heap[gb1348]? = some (.cells #[.bool t1361, .slice Ao76 t1362.length co76] 31 (0, 0))) := ⟨(blk_put (cs := #[.bool t1361, .slice none 0 0]) (blk_put (cs := #[.bool false, .slice none 0 0]) (blk_far (blk_far (blk_far (blk_far (blk_far (blk_far Qm3.out NB1348_1345.out _) NB1348_1345.out _) NB1348_1346.out _) NB1348_1346.out _) NB1348_1347.out _) NB1348_1347.out _) 0 _ rfl) 1 _ rfl)⟩
        have nn11 : Aside0 (Below w.heap.size w ((((((((y.setCell ⟨gb1345, 0, none⟩ (.bool t1349)).setCell ⟨gb1345, 1, none⟩ (.slice Ao64 t1350.length co64)).setCell ⟨gb1346, 0, none⟩ (.bool t1353)).setCell ⟨gb1346, 1, none⟩ (.slice Ao69 t1354.length co69)).setCell ⟨gb1347, 0, none⟩ (.bool t1357)).setCell ⟨gb1347, 1, none⟩ (.slice Ao73 t1358.length co73)).setCell ⟨gb1348, 0, none⟩ (.bool t1361)).setCell ⟨gb1348, 1, none⟩ (.slice Ao76 t1362.length co76))) := ⟨below_step HB.out (below_set (below_set (below_set (below_set (below_set (below_set (below_set (below_set Qhy.out Qg0.out) Qg0.out) Qg1.out) Qg1.out) Qg2.out) Qg2.out) Qg3.out) Qg3.out)⟩
        clear BK1340 BK1341 BK1342 HB
        clear Qr0 Qr1 Qr2 Qr3 Qm0 Qm1 Qm2 Qm3 Qg0 Qg1 Qg2 Qg3 Qn01 Qn02 Qn03 Qn12 Qn13 Qn23 Qhy
        generalize ((((((((y.setCell ⟨gb1345, 0, none⟩ (.bool t1349)).setCell ⟨gb1345, 1, none⟩ (.slice Ao64 t1350.length co64)).setCell ⟨gb1346, 0, none⟩ (.bool t1353)).setCell ⟨gb1346, 1, none⟩ (.slice Ao69 t1354.length co69)).setCell ⟨gb1347, 0, none⟩ (.bool t1357)).setCell ⟨gb1347, 1, none⟩ (.slice Ao73 t1358.length co73)).setCell ⟨gb1348, 0, none⟩ (.bool t1361)).setCell ⟨gb1348, 1, none⟩ (.slice Ao76 t1362.length co76)) = w77 at nn0 nn1 nn2 nn3 nn4 nn5 nn6 nn7 nn8 nn9 nn10 nn11 ⊢
        have HO1352 := nn0
        have HO1356 := nn1
        have HO1360 := nn2
        have HO1364 := nn3
        have BK1340 := nn4
        have BK1341 := nn5
        have BK1342 := nn6
        have BK1345 := nn7
        have BK1346 := nn8
        have BK1347 := nn9
        have BK1348 := nn10
        have HB := nn11
        clear nn0 nn1 nn2 nn3 nn4 nn5 nn6 nn7 nn8 nn9 nn10 nn11
        have hy00 := (blk_cell BK1340.out 0).trans rfl
        have hy01 := (blk_cell BK1340.out 1).trans rfl
        have hw00 := blk_frozen BK1340.out 0
        have hw01 := blk_frozen BK1340.out 1
        have hy10 := (blk_cell BK1341.out 0).trans rfl
        have hy11 := (blk_cell BK1341.out 1).trans rfl
        have hw10 := blk_frozen BK1341.out 0
        have hw11 := blk_frozen BK1341.out 1
        have hy20 := (blk_cell BK1342.out 0).trans rfl
        have hy21 := (blk_cell BK1342.out 1).trans rfl
        have hw20 := blk_frozen BK1342.out 0
        have hw21 := blk_frozen BK1342.out 1
        by_cases c30 : a0 = 0
        · rw [if_pos c30] at H
          have c30b0 : (a0 == 0) = true := beq_iff_eq.mpr c30
          have c30b1 : (a0 != 0) = false := bne_eq_false_iff_eq.mpr c30
          clear c30
          replace H := Option.bind_eq_some_iff.mp H
          obtain ⟨⟨t1365, t1366⟩, A310, H⟩ := H
          replace H : ((merinoref01_Times.f kj3 t1357 t1358 t1353 t1354).bind fun bt1369 => ((merinoref01_Plus.f kj3 t1365 t1366 bt1369.1 bt1369.2).bind fun bt1373 => ((merinoref01_Times.f kj3 t1353 t1354 t1361 t1362).bind fun bt1377 => ((merinoref01_Lowest.f kj3 bt1373.1 bt1373.2 bt1377.1 bt1377.2).bind fun bt1381 => (some (bt1381.1, bt1381.2.1, bt1381.2.2)))))) = some (r1, r2, r3) := H
          have A31 := Aside0.mk A310
          clear A310
          replace H := Option.bind_eq_some_iff.mp H
          obtain ⟨⟨t1369, t1370⟩, A320, H⟩ := H
          replace H : ((merinoref01_Plus.f kj3 t1365 t1366 t1369 t1370).bind fun bt1373 => ((merinoref01_Times.f kj3 t1353 t1354 t1361 t1362).bind fun bt1377 => ((merinoref01_Lowest.f kj3 bt1373.1 bt1373.2 bt1377.1 bt1377.2).bind fun bt1381 => (some (bt1381.1, bt1381.2.1, bt1381.2.2))))) = some (r1, r2, r3) := H
          have A32 := Aside0.mk A320
          clear A320
          replace H := Option.bind_eq_some_iff.mp H
          obtain ⟨⟨t1373, t1374⟩, A330, H⟩ := H
          replace H : ((merinoref01_Times.f kj3 t1353 t1354 t1361 t1362).bind fun bt1377 => ((merinoref01_Lowest.f kj3 t1373 t1374 bt1377.1 bt1377.2).bind fun bt1381 => (some (bt1381.1, bt1381.2.1, bt1381.2.2)))) = some (r1, r2, r3) := H
          have A33 := Aside0.mk A330
          clear A330
          replace H := Option.bind_eq_some_iff.mp H
          obtain ⟨⟨t1377, t1378⟩, A340, H⟩ := H
          replace H : ((merinoref01_Lowest.f kj3 t1373 t1374 t1377 t1378).bind fun bt1381 => (some (bt1381.1, bt1381.2.1, bt1381.2.2))) = some (r1, r2, r3) := H
          have A34 := Aside0.mk A340
          clear A340
          replace H := Option.bind_eq_some_iff.mp H
          obtain ⟨⟨t1381, t1382, t1383⟩, A350, H⟩ := H
          replace H : (some (t1381, t1382, t1383)) = some (r1, r2, r3) := H
          have A35 := Aside0.mk A350
          clear A350
          simp only [Option.some.injEq, Prod.mk.injEq] at H
          obtain ⟨rfl, rfl, rfl⟩ := H
          try go_wp2_with (fail)
          have n0_ := Aside0.mk (Kd.R_drew HO1352.out)
          have n1_ := Aside0.mk (Kd.R_drew HO1356.out)
          have n2_ := Aside0.mk (Kd.R_drew HO1360.out)
          have n3_ := Aside0.mk (Kd.R_drew HO1364.out)
          have n4_ := Aside0.mk (blk_drew BK1340.out)
          have n5_ := Aside0.mk (blk_drew BK1341.out)
          have n6_ := Aside0.mk (blk_drew BK1342.out)
          have n7_ := Aside0.mk (blk_drew BK1345.out)
          have n8_ := Aside0.mk (blk_drew BK1346.out)
          have n9_ := Aside0.mk (blk_drew BK1347.out)
          have n10_ := Aside0.mk (blk_drew BK1348.out)
          have n11_ := Aside0.mk (below_drew1 HB.out)
          clear HO1352
          clear HO1356
          clear HO1360
          clear HO1364
          clear BK1340
          clear BK1341
          clear BK1342
          clear BK1345
          clear BK1346
          clear BK1347
          clear BK1348
          clear HB
          have HO1352 := n0_
          have HO1356 := n1_
          have HO1360 := n2_
          have HO1364 := n3_
          have BK1340 := n4_
          have BK1341 := n5_
          have BK1342 := n6_
          have BK1345 := n7_
          have BK1346 := n8_
          have BK1347 := n9_
          have BK1348 := n10_
          have HB := n11_
          clear n0_ n1_ n2_ n3_ n4_ n5_ n6_ n7_ n8_ n9_ n10_ n11_
          refine start_ (n := 15) (S := fun w' => w'.cell? ⟨gb1345, 0, none⟩ = some (.bool t1349) ∧ w'.cell? ⟨gb1345, 1, none⟩ = some (.slice Ao64 t1350.length co64) ∧ w'.cell? ⟨gb1348, 0, none⟩ = some (.bool t1361) ∧ w'.cell? ⟨gb1348, 1, none⟩ = some (.slice Ao76 t1362.length co76) ∧ w'.cell? ⟨gb1347, 0, none⟩ = some (.bool t1357) ∧ w'.cell? ⟨gb1347, 1, none⟩ = some (.slice Ao73 t1358.length co73) ∧ w'.cell? ⟨gb1346, 0, none⟩ = some (.bool t1353) ∧ w'.cell? ⟨gb1346, 1, none⟩ = some (.slice Ao69 t1354.length co69)) (ds := []) #[false, false, false, false, false, false, false, false, false, false, false, false, false, false, false] (by kernel_rfl) rfl rfl ⟨(blk_cell BK1345.out 0).trans rfl, (blk_cell BK1345.out 1).trans rfl, (blk_cell BK1348.out 0).trans rfl, (blk_cell BK1348.out 1).trans rfl, (blk_cell BK1347.out 0).trans rfl, (blk_cell BK1347.out 1).trans rfl, (blk_cell BK1346.out 0).trans rfl, (blk_cell BK1346.out 1).trans rfl⟩ (fun hHeld => ?_); refine with_tabW merinoref01_Arith.tab6 merinoref01_Arith.bits6 (fun HT_ HW_ => ?_)
          generalize w77.drew = w78 at HO1352 HO1356 HO1360 HO1364 BK1340 BK1341 BK1342 BK1345 BK1346 BK1347 BK1348 HB hHeld ⊢
          refine take_ (i := 0) (N := some 36) (v := ?_) (a' := ?_) #[true, false, false, false, false, false, false, false, false, false, false, false, false, false, false] rfl rfl (take_ofW HT_.out HW_.out (by kernel_rfl)) (fun _ _ _ h => h) (Or.inl ⟨by rfl, ?_⟩) hHeld ?_ ?_
          rotate_left
          · rintro w' ⟨s0, s1, s2, s3, s4, s5, s6, s7⟩
            go_simp
            with_reducible rfl
          rotate_left
          · simp only [Act.put, List.setIfInBounds_toArray, List.set_cons_zero, List.set_cons_succ, i64_w, i32_w]
            rfl
          refine take_ (i := 1) (N := some 37) (v := ?_) (a' := ?_) #[true, true, false, false, false, false, false, false, false, false, false, false, false, false, false] rfl rfl (take_ofW HT_.out HW_.out (by kernel_rfl)) (fun _ _ _ h => h) (Or.inl ⟨by rfl, ?_⟩) hHeld ?_ ?_
          rotate_left
          · rintro w' ⟨s0, s1, s2, s3, s4, s5, s6, s7⟩
            go_simp
            with_reducible rfl
          rotate_left
          · simp only [Act.put, List.setIfInBounds_toArray, List.set_cons_zero, List.set_cons_succ, i64_w, i32_w]
            rfl
          refine take_ (i := 3) (N := some 39) (v := ?_) (a' := ?_) #[true, true, false, true, false, false, false, false, false, false, false, false, false, false, false] rfl rfl (take_ofW HT_.out HW_.out (by kernel_rfl)) (fun _ _ _ h => h) (Or.inl ⟨by rfl, ?_⟩) hHeld ?_ ?_
          rotate_left
          · rintro w' ⟨s0, s1, s2, s3, s4, s5, s6, s7⟩
            go_simp
            with_reducible rfl
          rotate_left
          · simp only [Act.put, List.setIfInBounds_toArray, List.set_cons_zero, List.set_cons_succ, i64_w, i32_w]
            rfl
          refine take_ (i := 4) (N := some 40) (v := ?_) (a' := ?_) #[true, true, false, true, true, false, false, false, false, false, false, false, false, false, false] rfl rfl (take_ofW HT_.out HW_.out (by kernel_rfl)) (fun _ _ _ h => h) (Or.inl ⟨by rfl, ?_⟩) hHeld ?_ ?_
          rotate_left
          · rintro w' ⟨s0, s1, s2, s3, s4, s5, s6, s7⟩
            go_simp
            with_reducible rfl
          rotate_left
          · simp only [Act.put, List.setIfInBounds_toArray, List.set_cons_zero, List.set_cons_succ, i64_w, i32_w]
            rfl
          refine take_ (i := 7) (N := some 43) (v := ?_) (a' := ?_) #[true, true, false, true, true, false, false, true, false, false, false, false, false, false, false] rfl rfl (take_ofW HT_.out HW_.out (by kernel_rfl)) (fun _ _ _ h => h) (Or.inl ⟨by rfl, ?_⟩) hHeld ?_ ?_
          rotate_left
          · rintro w' ⟨s0, s1, s2, s3, s4, s5, s6, s7⟩
            go_simp
            with_reducible rfl
          rotate_left
          · simp only [Act.put, List.setIfInBounds_toArray, List.set_cons_zero, List.set_cons_succ, i64_w, i32_w]
            rfl
          refine take_ (i := 8) (N := some 44) (v := ?_) (a' := ?_) #[true, true, false, true, true, false, false, true, true, false, false, false, false, false, false] rfl rfl (take_ofW HT_.out HW_.out (by kernel_rfl)) (fun _ _ _ h => h) (Or.inl ⟨by rfl, ?_⟩) hHeld ?_ ?_
          rotate_left
          · rintro w' ⟨s0, s1, s2, s3, s4, s5, s6, s7⟩
            go_simp
            with_reducible rfl
          rotate_left
          · simp only [Act.put, List.setIfInBounds_toArray, List.set_cons_zero, List.set_cons_succ, i64_w, i32_w]
            rfl
          refine one_ (i := 2) (N := some 38) #[true, true, true, true, true, false, false, true, true, false, false, false, false, false, false] rfl rfl (one_of HT_.out (by kernel_rfl)) (by decide) (fun K hK => ?_)
          refine goes_ Tryd.func22 (by kernel_rfl) rfl #[.agg #[.bool t1349, .slice Ao64 t1350.length co64], .agg #[.bool t1361, .slice Ao76 t1362.length co76]] (by rfl) rfl rfl qe_ ?_
          with_reducible refine (merinoref01_Times.calls kj3 t1349 _ _ t1350 t1361 _ _ t1362 t1365 t1366 _ ?side1 ?side2 ?side3 ?side4 A31.out).mono ?_
          (case side1 => exact qc_ (Kd.R_reads' HO1352.out).2.2)
          (case side2 => exact (Kd.R_reads' HO1352.out).2.1)
          (case side3 => exact qc_ (Kd.R_reads' HO1364.out).2.2)
          (case side4 => exact (Kd.R_reads' HO1364.out).2.1)
          rintro e w79 ⟨v1367, rfl, ho0, hb⟩
          refine ⟨_, rfl, ?_⟩
          have n0_ := Aside0.mk (Kd.R_elder' (qr_ HO1352.out) (Kd.R_base ho0) hb)
          have n1_ := Aside0.mk (Kd.R_elder' (qr_ HO1356.out) (Kd.R_base ho0) hb)
          have n2_ := Aside0.mk (Kd.R_elder' (qr_ HO1360.out) (Kd.R_base ho0) hb)
          have n3_ := Aside0.mk (Kd.R_elder' (qr_ HO1364.out) (Kd.R_base ho0) hb)
          have n4_ := Aside0.mk (Kd.R_lower (Kd.R_new' (Kd.R_new' (Kd.R_new' (Kd.R_new' ho0 (Kd.R_lt (qr_ HO1352.out))) (Kd.R_lt (qr_ HO1356.out))) (Kd.R_lt (qr_ HO1360.out))) (Kd.R_lt (qr_ HO1364.out))) (below_size (q7_ HB.out GE1340.out GE1341.out GE1342.out GE1345.out GE1346.out GE1347.out GE1348.out)))
          have n5_ := Aside0.mk (qk_ BK1340.out hb)
          have n6_ := Aside0.mk (qk_ BK1341.out hb)
          have n7_ := Aside0.mk (qk_ BK1342.out hb)
          have n8_ := Aside0.mk (qk_ BK1345.out hb)
          have n9_ := Aside0.mk (qk_ BK1346.out hb)
          have n10_ := Aside0.mk (qk_ BK1347.out hb)
          have n11_ := Aside0.mk (qk_ BK1348.out hb)
          have n12_ := Aside0.mk (below_step (q7_ HB.out GE1340.out GE1341.out GE1342.out GE1345.out GE1346.out GE1347.out GE1348.out) hb)
          clear HO1352
          clear HO1356
          clear HO1360
          clear HO1364
          clear BK1340
          clear BK1341
          clear BK1342
          clear BK1345
          clear BK1346
          clear BK1347
          clear BK1348
          clear HB
          have HO1352 := n0_
          have HO1356 := n1_
          have HO1360 := n2_
          have HO1364 := n3_
          have HO1368 := n4_
          have BK1340 := n5_
          have BK1341 := n6_
          have BK1342 := n7_
          have BK1345 := n8_
          have BK1346 := n9_
          have BK1347 := n10_
          have BK1348 := n11_
          have HB := n12_
          clear n0_ n1_ n2_ n3_ n4_ n5_ n6_ n7_ n8_ n9_ n10_ n11_ n12_
          (try clear hb)
          (try clear hb2)
          (try clear hk)
          (try clear hi)
          (try clear ho0)
          refine hK.out _ _ ⟨(blk_cell BK1345.out 0).trans rfl, (blk_cell BK1345.out 1).trans rfl, (blk_cell BK1348.out 0).trans rfl, (blk_cell BK1348.out 1).trans rfl, (blk_cell BK1347.out 0).trans rfl, (blk_cell BK1347.out 1).trans rfl, (blk_cell BK1346.out 0).trans rfl, (blk_cell BK1346.out 1).trans rfl⟩ (fun hHeld => ?_)
          clear hK K
          refine norm_ (a' := ?_) ?_ ?_
          rotate_left
          · show Act.put _ (some 38) _ = _
            simp only [Act.put, List.setIfInBounds_toArray, List.set_cons_zero, List.set_cons_succ, i64_w, i32_w]
            rfl
          refine one_ (i := 5) (N := some 41) #[true, true, true, true, true, true, false, true, true, false, false, false, false, false, false] rfl rfl (one_of HT_.out (by kernel_rfl)) (by decide) (fun K hK => ?_)
          refine goes_ Tryd.func22 (by kernel_rfl) rfl #[.agg #[.bool t1357, .slice Ao73 t1358.length co73], .agg #[.bool t1353, .slice Ao69 t1354.length co69]] (by rfl) rfl rfl qe_ ?_
          with_reducible refine (merinoref01_Times.calls kj3 t1357 _ _ t1358 t1353 _ _ t1354 t1369 t1370 _ ?side1 ?side2 ?side3 ?side4 A32.out).mono ?_
          (case side1 => exact qc_ (Kd.R_reads' HO1360.out).2.2)
          (case side2 => exact (Kd.R_reads' HO1360.out).2.1)
          (case side3 => exact qc_ (Kd.R_reads' HO1356.out).2.2)
          (case side4 => exact (Kd.R_reads' HO1356.out).2.1)
          rintro e w80 ⟨v1371, rfl, ho0, hb⟩
          refine ⟨_, rfl, ?_⟩
          have n0_ := Aside0.mk (Kd.R_elder' (qr_ HO1352.out) (Kd.R_base ho0) hb)
          have n1_ := Aside0.mk (Kd.R_elder' (qr_ HO1356.out) (Kd.R_base ho0) hb)
          have n2_ := Aside0.mk (Kd.R_elder' (qr_ HO1360.out) (Kd.R_base ho0) hb)
          have n3_ := Aside0.mk (Kd.R_elder' (qr_ HO1364.out) (Kd.R_base ho0) hb)
          have n4_ := Aside0.mk (Kd.R_elder' (qr_ HO1368.out) (Kd.R_base ho0) hb)
          have n5_ := Aside0.mk (Kd.R_lower (Kd.R_new' (Kd.R_new' (Kd.R_new' (Kd.R_new' (Kd.R_new' ho0 (Kd.R_lt (qr_ HO1352.out))) (Kd.R_lt (qr_ HO1356.out))) (Kd.R_lt (qr_ HO1360.out))) (Kd.R_lt (qr_ HO1364.out))) (Kd.R_lt (qr_ HO1368.out))) (below_size (q7_ HB.out GE1340.out GE1341.out GE1342.out GE1345.out GE1346.out GE1347.out GE1348.out)))
          have n6_ := Aside0.mk (qk_ BK1340.out hb)
          have n7_ := Aside0.mk (qk_ BK1341.out hb)
          have n8_ := Aside0.mk (qk_ BK1342.out hb)
          have n9_ := Aside0.mk (qk_ BK1345.out hb)
          have n10_ := Aside0.mk (qk_ BK1346.out hb)
          have n11_ := Aside0.mk (qk_ BK1347.out hb)
          have n12_ := Aside0.mk (qk_ BK1348.out hb)
          have n13_ := Aside0.mk (below_step (q7_ HB.out GE1340.out GE1341.out GE1342.out GE1345.out GE1346.out GE1347.out GE1348.out) hb)
          clear HO1352
          clear HO1356
          clear HO1360
          clear HO1364
          clear HO1368
          clear BK1340
          clear BK1341
          clear BK1342
          clear BK1345
          clear BK1346
          clear BK1347
          clear BK1348
          clear HB
          have HO1352 := n0_
          have HO1356 := n1_
          have HO1360 := n2_
          have HO1364 := n3_
          have HO1368 := n4_
          have HO1372 := n5_
          have BK1340 := n6_
          have BK1341 := n7_
          have BK1342 := n8_
          have BK1345 := n9_
          have BK1346 := n10_
          have BK1347 := n11_
          have BK1348 := n12_
          have HB := n13_
          clear n0_ n1_ n2_ n3_ n4_ n5_ n6_ n7_ n8_ n9_ n10_ n11_ n12_ n13_
          (try clear hb)
          (try clear hb2)
          (try clear hk)
          (try clear hi)
          (try clear ho0)
          obtain ⟨Ao81, co81, eo81⟩ := Kd.R_slice HO1368.out
          (first | subst eo81 | (injection eo81 with f1_ f2_ f3_; have f4_ := f1_.symm; have f5_ := f3_.symm; clear f1_ f2_ f3_; subst f4_; subst f5_))
          obtain ⟨Ao82, co82, eo82⟩ := Kd.R_slice HO1372.out
          (first | subst eo82 | (injection eo82 with f1_ f2_ f3_; have f4_ := f1_.symm; have f5_ := f3_.symm; clear f1_ f2_ f3_; subst f4_; subst f5_))
          refine hK.out _ _ ⟨(blk_cell BK1345.out 0).trans rfl, (blk_cell BK1345.out 1).trans rfl, (blk_cell BK1348.out 0).trans rfl, (blk_cell BK1348.out 1).trans rfl, (blk_cell BK1347.out 0).trans rfl, (blk_cell BK1347.out 1).trans rfl, (blk_cell BK1346.out 0).trans rfl, (blk_cell BK1346.out 1).trans rfl⟩ (fun hHeld => ?_)
          clear hK K
          refine norm_ (a' := ?_) ?_ ?_
          rotate_left
          · show Act.put _ (some 41) _ = _
            simp only [Act.put, List.setIfInBounds_toArray, List.set_cons_zero, List.set_cons_succ, i64_w, i32_w]
            rfl
          refine one_ (i := 6) (N := some 42) #[true, true, true, true, true, true, true, true, true, false, false, false, false, false, false] rfl rfl (one_of HT_.out (by kernel_rfl)) (by decide) (fun K hK => ?_)
          refine goes_ Tryd.func84 (by kernel_rfl) rfl #[.agg #[.bool t1365, .slice Ao81 t1366.length co81], .agg #[.bool t1369, .slice Ao82 t1370.length co82]] (by rfl) rfl rfl qe_ ?_
          with_reducible refine (merinoref01_Plus.calls kj3 t1365 _ _ t1366 t1369 _ _ t1370 t1373 t1374 _ ?side1 ?side2 ?side3 ?side4 A33.out).mono ?_
          (case side1 => exact qc_ (Kd.R_reads' HO1368.out).2.2)
          (case side2 => exact (Kd.R_reads' HO1368.out).2.1)
          (case side3 => exact qc_ (Kd.R_reads' HO1372.out).2.2)
          (case side4 => exact (Kd.R_reads' HO1372.out).2.1)
          rintro e w83 ⟨v1375, rfl, ho0, hb⟩
          refine ⟨_, rfl, ?_⟩
          have n0_ := Aside0.mk (Kd.R_elder' (qr_ HO1352.out) (Kd.R_base ho0) hb)
          have n1_ := Aside0.mk (Kd.R_elder' (qr_ HO1356.out) (Kd.R_base ho0) hb)
          have n2_ := Aside0.mk (Kd.R_elder' (qr_ HO1360.out) (Kd.R_base ho0) hb)
          have n3_ := Aside0.mk (Kd.R_elder' (qr_ HO1364.out) (Kd.R_base ho0) hb)
          have n4_ := Aside0.mk (Kd.R_elder' (qr_ HO1368.out) (Kd.R_base ho0) hb)
          have n5_ := Aside0.mk (Kd.R_elder' (qr_ HO1372.out) (Kd.R_base ho0) hb)
          have n6_ := Aside0.mk (Kd.R_lower (Kd.R_new' (Kd.R_new' (Kd.R_new' (Kd.R_new' (Kd.R_new' (Kd.R_new' ho0 (Kd.R_lt (qr_ HO1352.out))) (Kd.R_lt (qr_ HO1356.out))) (Kd.R_lt (qr_ HO1360.out))) (Kd.R_lt (qr_ HO1364.out))) (Kd.R_lt (qr_ HO1368.out))) (Kd.R_lt (qr_ HO1372.out))) (below_size (q7_ HB.out GE1340.out GE1341.out GE1342.out GE1345.out GE1346.out GE1347.out GE1348.out)))
          have n7_ := Aside0.mk (qk_ BK1340.out hb)
          have n8_ := Aside0.mk (qk_ BK1341.out hb)
          have n9_ := Aside0.mk (qk_ BK1342.out hb)
          have n10_ := Aside0.mk (qk_ BK1345.out hb)
          have n11_ := Aside0.mk (qk_ BK1346.out hb)
          have n12_ := Aside0.mk (qk_ BK1347.out hb)
          have n13_ := Aside0.mk (qk_ BK1348.out hb)
          have n14_ := Aside0.mk (below_step (q7_ HB.out GE1340.out GE1341.out GE1342.out GE1345.out GE1346.out GE1347.out GE1348.out) hb)
          clear HO1352
          clear HO1356
          clear HO1360
          clear HO1364
          clear HO1368
          clear HO1372
          clear BK1340
          clear BK1341
          clear BK1342
          clear BK1345
          clear BK1346
          clear BK1347
          clear BK1348
          clear HB
          have HO1352 := n0_
          have HO1356 := n1_
          have HO1360 := n2_
          have HO1364 := n3_
          have HO1368 := n4_
          have HO1372 := n5_
          have HO1376 := n6_
          have BK1340 := n7_
          have BK1341 := n8_
          have BK1342 := n9_
          have BK1345 := n10_
          have BK1346 := n11_
          have BK1347 := n12_
          have BK1348 := n13_
          have HB := n14_
          clear n0_ n1_ n2_ n3_ n4_ n5_ n6_ n7_ n8_ n9_ n10_ n11_ n12_ n13_ n14_
          (try clear hb)
          (try clear hb2)
          (try clear hk)
          (try clear hi)
          (try clear ho0)
          refine hK.out _ _ ⟨(blk_cell BK1345.out 0).trans rfl, (blk_cell BK1345.out 1).trans rfl, (blk_cell BK1348.out 0).trans rfl, (blk_cell BK1348.out 1).trans rfl, (blk_cell BK1347.out 0).trans rfl, (blk_cell BK1347.out 1).trans rfl, (blk_cell BK1346.out 0).trans rfl, (blk_cell BK1346.out 1).trans rfl⟩ (fun hHeld => ?_)
          clear hK K
          refine norm_ (a' := ?_) ?_ ?_
          rotate_left
          · show Act.put _ (some 42) _ = _
            simp only [Act.put, List.setIfInBounds_toArray, List.set_cons_zero, List.set_cons_succ, i64_w, i32_w]
            rfl
          refine one_ (i := 9) (N := some 45) #[true, true, true, true, true, true, true, true, true, true, false, false, false, false, false] rfl rfl (one_of HT_.out (by kernel_rfl)) (by decide) (fun K hK => ?_)
          refine goes_ Tryd.func22 (by kernel_rfl) rfl #[.agg #[.bool t1353, .slice Ao69 t1354.length co69], .agg #[.bool t1361, .slice Ao76 t1362.length co76]] (by rfl) rfl rfl qe_ ?_
          with_reducible refine (merinoref01_Times.calls kj3 t1353 _ _ t1354 t1361 _ _ t1362 t1377 t1378 _ ?side1 ?side2 ?side3 ?side4 A34.out).mono ?_
          (case side1 => exact qc_ (Kd.R_reads' HO1356.out).2.2)
          (case side2 => exact (Kd.R_reads' HO1356.out).2.1)
          (case side3 => exact qc_ (Kd.R_reads' HO1364.out).2.2)
          (case side4 => exact (Kd.R_reads' HO1364.out).2.1)
          rintro e w84 ⟨v1379, rfl, ho0, hb⟩
          refine ⟨_, rfl, ?_⟩
          have n0_ := Aside0.mk (Kd.R_elder' (qr_ HO1352.out) (Kd.R_base ho0) hb)
          have n1_ := Aside0.mk (Kd.R_elder' (qr_ HO1356.out) (Kd.R_base ho0) hb)
          have n2_ := Aside0.mk (Kd.R_elder' (qr_ HO1360.out) (Kd.R_base ho0) hb)
          have n3_ := Aside0.mk (Kd.R_elder' (qr_ HO1364.out) (Kd.R_base ho0) hb)
          have n4_ := Aside0.mk (Kd.R_elder' (qr_ HO1368.out) (Kd.R_base ho0) hb)
          have n5_ := Aside0.mk (Kd.R_elder' (qr_ HO1372.out) (Kd.R_base ho0) hb)
          have n6_ := Aside0.mk (Kd.R_elder' (qr_ HO1376.out) (Kd.R_base ho0) hb)
          have n7_ := Aside0.mk (Kd.R_lower (Kd.R_new' (Kd.R_new' (Kd.R_new' (Kd.R_new' (Kd.R_new' (Kd.R_new' (Kd.R_new' ho0 (Kd.R_lt (qr_ HO1352.out))) (Kd.R_lt (qr_ HO1356.out))) (Kd.R_lt (qr_ HO1360.out))) (Kd.R_lt (qr_ HO1364.out))) (Kd.R_lt (qr_ HO1368.out))) (Kd.R_lt (qr_ HO1372.out))) (Kd.R_lt (qr_ HO1376.out))) (below_size (q7_ HB.out GE1340.out GE1341.out GE1342.out GE1345.out GE1346.out GE1347.out GE1348.out)))
          have n8_ := Aside0.mk (qk_ BK1340.out hb)
          have n9_ := Aside0.mk (qk_ BK1341.out hb)
          have n10_ := Aside0.mk (qk_ BK1342.out hb)
          have n11_ := Aside0.mk (qk_ BK1345.out hb)
          have n12_ := Aside0.mk (qk_ BK1346.out hb)
          have n13_ := Aside0.mk (qk_ BK1347.out hb)
          have n14_ := Aside0.mk (qk_ BK1348.out hb)
          have n15_ := Aside0.mk (below_step (q7_ HB.out GE1340.out GE1341.out GE1342.out GE1345.out GE1346.out GE1347.out GE1348.out) hb)
          clear HO1352
          clear HO1356
          clear HO1360
          clear HO1364
          clear HO1368
          clear HO1372
          clear HO1376
          clear BK1340
          clear BK1341
          clear BK1342
          clear BK1345
          clear BK1346
          clear BK1347
          clear BK1348
          clear HB
          have HO1352 := n0_
          have HO1356 := n1_
          have HO1360 := n2_
          have HO1364 := n3_
          have HO1368 := n4_
          have HO1372 := n5_
          have HO1376 := n6_
          have HO1380 := n7_
          have BK1340 := n8_
          have BK1341 := n9_
          have BK1342 := n10_
          have BK1345 := n11_
          have BK1346 := n12_
          have BK1347 := n13_
          have BK1348 := n14_
          have HB := n15_
          clear n0_ n1_ n2_ n3_ n4_ n5_ n6_ n7_ n8_ n9_ n10_ n11_ n12_ n13_ n14_ n15_
          (try clear hb)
          (try clear hb2)
          (try clear hk)
          (try clear hi)
          (try clear ho0)
          obtain ⟨Ao85, co85, eo85⟩ := Kd.R_slice HO1376.out
          (first | subst eo85 | (injection eo85 with f1_ f2_ f3_; have f4_ := f1_.symm; have f5_ := f3_.symm; clear f1_ f2_ f3_; subst f4_; subst f5_))
          obtain ⟨Ao86, co86, eo86⟩ := Kd.R_slice HO1380.out
          (first | subst eo86 | (injection eo86 with f1_ f2_ f3_; have f4_ := f1_.symm; have f5_ := f3_.symm; clear f1_ f2_ f3_; subst f4_; subst f5_))
          refine hK.out _ _ ⟨(blk_cell BK1345.out 0).trans rfl, (blk_cell BK1345.out 1).trans rfl, (blk_cell BK1348.out 0).trans rfl, (blk_cell BK1348.out 1).trans rfl, (blk_cell BK1347.out 0).trans rfl, (blk_cell BK1347.out 1).trans rfl, (blk_cell BK1346.out 0).trans rfl, (blk_cell BK1346.out 1).trans rfl⟩ (fun hHeld => ?_)
          clear hK K
          refine norm_ (a' := ?_) ?_ ?_
          rotate_left
          · show Act.put _ (some 45) _ = _
            simp only [Act.put, List.setIfInBounds_toArray, List.set_cons_zero, List.set_cons_succ, i64_w, i32_w]
            rfl
          refine one_ (i := 10) (N := some 46) #[true, true, true, true, true, true, true, true, true, true, true, false, false, false, false] rfl rfl (one_of HT_.out (by kernel_rfl)) (by decide) (fun K hK => ?_)
          refine goes_ Tryd.func80 (by kernel_rfl) rfl #[.agg #[.bool t1373, .slice Ao85 t1374.length co85], .agg #[.bool t1377, .slice Ao86 t1378.length co86]] (by rfl) rfl rfl qe_ ?_
          with_reducible refine (merinoref01_Lowest.calls kj3 t1373 _ _ t1374 t1377 _ _ t1378 t1381 t1382 t1383 _ ?side1 ?side2 ?side3 ?side4 A35.out).mono ?_
          (case side1 => exact qc_ (Kd.R_reads' HO1376.out).2.2)
          (case side2 => exact (Kd.R_reads' HO1376.out).2.1)
          (case side3 => exact qc_ (Kd.R_reads' HO1380.out).2.2)
          (case side4 => exact (Kd.R_reads' HO1380.out).2.1)
          rintro e w87 ⟨rfl, hb⟩
          refine ⟨_, rfl, ?_⟩
          have n0_ := Aside0.mk (Kd.R_below (qr_ HO1352.out) hb)
          have n1_ := Aside0.mk (Kd.R_below (qr_ HO1356.out) hb)
          have n2_ := Aside0.mk (Kd.R_below (qr_ HO1360.out) hb)
          have n3_ := Aside0.mk (Kd.R_below (qr_ HO1364.out) hb)
          have n4_ := Aside0.mk (Kd.R_below (qr_ HO1368.out) hb)
          have n5_ := Aside0.mk (Kd.R_below (qr_ HO1372.out) hb)
          have n6_ := Aside0.mk (Kd.R_below (qr_ HO1376.out) hb)
          have n7_ := Aside0.mk (Kd.R_below (qr_ HO1380.out) hb)
          have n8_ := Aside0.mk (qk_ BK1340.out hb)
          have n9_ := Aside0.mk (qk_ BK1341.out hb)
          have n10_ := Aside0.mk (qk_ BK1342.out hb)
          have n11_ := Aside0.mk (qk_ BK1345.out hb)
          have n12_ := Aside0.mk (qk_ BK1346.out hb)
          have n13_ := Aside0.mk (qk_ BK1347.out hb)
          have n14_ := Aside0.mk (qk_ BK1348.out hb)
          have n15_ := Aside0.mk (below_step (q7_ HB.out GE1340.out GE1341.out GE1342.out GE1345.out GE1346.out GE1347.out GE1348.out) hb)
          clear HO1352
          clear HO1356
          clear HO1360
          clear HO1364
          clear HO1368
          clear HO1372
          clear HO1376
          clear HO1380
          clear BK1340
          clear BK1341
          clear BK1342
          clear BK1345
          clear BK1346
          clear BK1347
          clear BK1348
          clear HB
          have HO1352 := n0_
          have HO1356 := n1_
          have HO1360 := n2_
          have HO1364 := n3_
          have HO1368 := n4_
          have HO1372 := n5_
          have HO1376 := n6_
          have HO1380 := n7_
          have BK1340 := n8_
          have BK1341 := n9_
          have BK1342 := n10_
          have BK1345 := n11_
          have BK1346 := n12_
          have BK1347 := n13_
          have BK1348 := n14_
          have HB := n15_
          clear n0_ n1_ n2_ n3_ n4_ n5_ n6_ n7_ n8_ n9_ n10_ n11_ n12_ n13_ n14_ n15_
          (try clear hb)
          (try clear hb2)
          (try clear hk)
          (try clear hi)
          refine hK.out _ _ ⟨(blk_cell BK1345.out 0).trans rfl, (blk_cell BK1345.out 1).trans rfl, (blk_cell BK1348.out 0).trans rfl, (blk_cell BK1348.out 1).trans rfl, (blk_cell BK1347.out 0).trans rfl, (blk_cell BK1347.out 1).trans rfl, (blk_cell BK1346.out 0).trans rfl, (blk_cell BK1346.out 1).trans rfl⟩ (fun hHeld => ?_)
          clear hK K
          refine norm_ (a' := ?_) ?_ ?_
          rotate_left
          · show Act.put _ (some 46) _ = _
            simp only [Act.put, List.setIfInBounds_toArray, List.set_cons_zero, List.set_cons_succ, i64_w, i32_w]
            rfl
          refine pure_ (i := 11) (N := some 47) (v := ?_) (a' := ?_) #[true, true, true, true, true, true, true, true, true, true, true, true, false, false, false] rfl rfl (any_of HT_.out (by kernel_rfl)) (fun _ _ _ h => h) (Or.inl ⟨by rfl, ?_⟩) ?_ ?_
          rotate_left
          · intro w'
            go_simp
            with_reducible rfl
          rotate_left
          · simp only [Act.put, List.setIfInBounds_toArray, List.set_cons_zero, List.set_cons_succ, i64_w, i32_w]
            rfl
          refine pure_ (i := 12) (N := some 48) (v := ?_) (a' := ?_) #[true, true, true, true, true, true, true, true, true, true, true, true, true, false, false] rfl rfl (any_of HT_.out (by kernel_rfl)) (fun _ _ _ h => h) (Or.inl ⟨by rfl, ?_⟩) ?_ ?_
          rotate_left
          · intro w'
            go_simp
            with_reducible rfl
          rotate_left
          · simp only [Act.put, List.setIfInBounds_toArray, List.set_cons_zero, List.set_cons_succ, i64_w, i32_w]
            rfl
          refine one_ (i := 13) (N := none) #[true, true, true, true, true, true, true, true, true, true, true, true, true, true, false] rfl rfl (one_of HT_.out (by kernel_rfl)) (by decide) (fun K hK => ?_)
          have hs88 : w87.cell? ⟨gb1342, 0, none⟩ = some (.int .i64 0) := (blk_cell BK1342.out 0).trans rfl
          have hfs88 := blk_frozen BK1342.out 0
          have hns88_0 := NB1340_1342.out
          have hns88_1 := NB1341_1342.out
          have hns88_3 := NB1345_1342.out
          have hns88_4 := NB1346_1342.out
          have hns88_5 := NB1347_1342.out
          have hns88_6 := NB1348_1342.out
          have hms88_0 := NB1342_1340.out
          have hms88_1 := NB1342_1341.out
          have hms88_3 := NB1342_1345.out
          have hms88_4 := NB1342_1346.out
          have hms88_5 := NB1342_1347.out
          have hms88_6 := NB1342_1348.out
          have hs89 : w87.cell? ⟨gb1342, 1, none⟩ = some (.int .i64 0) := (blk_cell BK1342.out 1).trans rfl
          have hfs89 := blk_frozen BK1342.out 1
          have hns89_0 := NB1340_1342.out
          have hns89_1 := NB1341_1342.out
          have hns89_3 := NB1345_1342.out
          have hns89_4 := NB1346_1342.out
          have hns89_5 := NB1347_1342.out
          have hns89_6 := NB1348_1342.out
          have hms89_0 := NB1342_1340.out
          have hms89_1 := NB1342_1341.out
          have hms89_3 := NB1342_1345.out
          have hms89_4 := NB1342_1346.out
          have hms89_5 := NB1342_1347.out
          have hms89_6 := NB1342_1348.out
          refine skip_ (w1 := ?_) (by rfl) rfl ?_ ?_
          rotate_left
          · go_simp
            rfl
          refine hK.out _ _ ⟨((cell_far (p := ⟨gb1342, _, none⟩) NB1345_1342.out _).trans (((cell_far (p := ⟨gb1342, _, none⟩) NB1345_1342.out _).trans (hHeld.1)))), ((cell_far (p := ⟨gb1342, _, none⟩) NB1345_1342.out _).trans (((cell_far (p := ⟨gb1342, _, none⟩) NB1345_1342.out _).trans (hHeld.2.1)))), ((cell_far (p := ⟨gb1342, _, none⟩) NB1348_1342.out _).trans (((cell_far (p := ⟨gb1342, _, none⟩) NB1348_1342.out _).trans (hHeld.2.2.1)))), ((cell_far (p := ⟨gb1342, _, none⟩) NB1348_1342.out _).trans (((cell_far (p := ⟨gb1342, _, none⟩) NB1348_1342.out _).trans (hHeld.2.2.2.1)))), ((cell_far (p := ⟨gb1342, _, none⟩) NB1347_1342.out _).trans (((cell_far (p := ⟨gb1342, _, none⟩) NB1347_1342.out _).trans (hHeld.2.2.2.2.1)))), ((cell_far (p := ⟨gb1342, _, none⟩) NB1347_1342.out _).trans (((cell_far (p := ⟨gb1342, _, none⟩) NB1347_1342.out _).trans (hHeld.2.2.2.2.2.1)))), ((cell_far (p := ⟨gb1342, _, none⟩) NB1346_1342.out _).trans (((cell_far (p := ⟨gb1342, _, none⟩) NB1346_1342.out _).trans (hHeld.2.2.2.2.2.2.1)))), ((cell_far (p := ⟨gb1342, _, none⟩) NB1346_1342.out _).trans (((cell_far (p := ⟨gb1342, _, none⟩) NB1346_1342.out _).trans (hHeld.2.2.2.2.2.2.2))))⟩ (fun hHeld => ?_)
          clear hK K
          refine pure_ (i := 14) (N := some 7) (v := ?_) (a' := ?_) #[true, true, true, true, true, true, true, true, true, true, true, true, true, true, true] rfl rfl (any_of HT_.out (by kernel_rfl)) (fun _ _ _ h => h) (Or.inl ⟨by rfl, ?_⟩) ?_ ?_
          rotate_left
          · intro w'
            go_simp
            with_reducible rfl
          rotate_left
          · simp only [Act.put, List.setIfInBounds_toArray, List.set_cons_zero, List.set_cons_succ, i64_w, i32_w]
            rfl
          refine done_ (done_of HT_.out (by kernel_rfl)) ?_
          try go_wp2
          refine bodyPost_ret (results_ct rfl _ _ gb1342 23 #[.int .i64 t1381, .int .i64 t1382] (0, 0) _ rfl (by (with_reducible repeat (first | refine blk_drewN ?_ _ | refine blk_drew ?_ | refine blk_alloc ?_ _)); refine blk_put (cs := #[.int .i64 t1381, .int .i64 0]) ?_ 1 _ rfl; (with_reducible repeat (first | refine blk_drewN ?_ _ | refine blk_drew ?_ | refine blk_alloc ?_ _)); refine blk_put (cs := #[.int .i64 0, .int .i64 0]) ?_ 0 _ rfl; (with_reducible repeat (first | refine blk_drewN ?_ _ | refine blk_drew ?_ | refine blk_alloc ?_ _)); exact BK1342.out) Tryd.underlying23 rfl (by kernel_rfl)) rfl ?_
          exact ⟨by first | rfl | (simp [errW_none, errW_some] <;> rfl) | (simp [*, errW_none, errW_some] <;> rfl), (q7_ HB.out GE1340.out GE1341.out GE1342.out GE1345.out GE1346.out GE1347.out GE1348.out)⟩
        · rw [if_neg c30] at H
          have c30b0 : (a0 == 0) = false := beq_eq_false_iff_ne.mpr c30
          have c30b1 : (a0 != 0) = true := bne_iff_ne.mpr c30
          by_cases c90 : a0 = 1
          · rw [if_pos c90] at H
            have c90b0 : (a0 == 1) = true := beq_iff_eq.mpr c90
            have c90b1 : (a0 != 1) = false := bne_eq_false_iff_eq.mpr c90
            clear c90
            replace H := Option.bind_eq_some_iff.mp H
            obtain ⟨⟨t1384, t1385⟩, A910, H⟩ := H
            replace H : ((merinoref01_Times.f kj3 t1357 t1358 t1353 t1354).bind fun bt1388 => ((merinoref01_Minus.f kj3 t1384 t1385 bt1388.1 bt1388.2).bind fun bt1392 => ((merinoref01_Times.f kj3 t1353 t1354 t1361 t1362).bind fun bt1396 => ((merinoref01_Lowest.f kj3 bt1392.1 bt1392.2 bt1396.1 bt1396.2).bind fun bt1400 => (some (bt1400.1, bt1400.2.1, bt1400.2.2)))))) = some (r1, r2, r3) := H
            have A91 := Aside0.mk A910
            clear A910
            replace H := Option.bind_eq_some_iff.mp H
            obtain ⟨⟨t1388, t1389⟩, A920, H⟩ := H
            replace H : ((merinoref01_Minus.f kj3 t1384 t1385 t1388 t1389).bind fun bt1392 => ((merinoref01_Times.f kj3 t1353 t1354 t1361 t1362).bind fun bt1396 => ((merinoref01_Lowest.f kj3 bt1392.1 bt1392.2 bt1396.1 bt1396.2).bind fun bt1400 => (some (bt1400.1, bt1400.2.1, bt1400.2.2))))) = some (r1, r2, r3) := H
            have A92 := Aside0.mk A920
            clear A920
            replace H := Option.bind_eq_some_iff.mp H
            obtain ⟨⟨t1392, t1393⟩, A930, H⟩ := H
            replace H : ((merinoref01_Times.f kj3 t1353 t1354 t1361 t1362).bind fun bt1396 => ((merinoref01_Lowest.f kj3 t1392 t1393 bt1396.1 bt1396.2).bind fun bt1400 => (some (bt1400.1, bt1400.2.1, bt1400.2.2)))) = some (r1, r2, r3) := H
            have A93 := Aside0.mk A930
            clear A930
            replace H := Option.bind_eq_some_iff.mp H
            obtain ⟨⟨t1396, t1397⟩, A940, H⟩ := H
            replace H : ((merinoref01_Lowest.f kj3 t1392 t1393 t1396 t1397).bind fun bt1400 => (some (bt1400.1, bt1400.2.1, bt1400.2.2))) = some (r1, r2, r3) := H
            have A94 := Aside0.mk A940
            clear A940
            replace H := Option.bind_eq_some_iff.mp H
            obtain ⟨⟨t1400, t1401, t1402⟩, A950, H⟩ := H
            replace H : (some (t1400, t1401, t1402)) = some (r1, r2, r3) := H
            have A95 := Aside0.mk A950
            clear A950
            simp only [Option.some.injEq, Prod.mk.injEq] at H
            obtain ⟨rfl, rfl, rfl⟩ := H
            try go_wp2_with (fail)
            have n0_ := Aside0.mk (Kd.R_drew HO1352.out)
            have n1_ := Aside0.mk (Kd.R_drew HO1356.out)
            have n2_ := Aside0.mk (Kd.R_drew HO1360.out)
            have n3_ := Aside0.mk (Kd.R_drew HO1364.out)
            have n4_ := Aside0.mk (blk_drew BK1340.out)
            have n5_ := Aside0.mk (blk_drew BK1341.out)
            have n6_ := Aside0.mk (blk_drew BK1342.out)
            have n7_ := Aside0.mk (blk_drew BK1345.out)
            have n8_ := Aside0.mk (blk_drew BK1346.out)
            have n9_ := Aside0.mk (blk_drew BK1347.out)
            have n10_ := Aside0.mk (blk_drew BK1348.out)
            have n11_ := Aside0.mk (below_drew1 HB.out)
            clear HO1352
            clear HO1356
            clear HO1360
            clear HO1364
            clear BK1340
            clear BK1341
            clear BK1342
            clear BK1345
            clear BK1346
            clear BK1347
            clear BK1348
            clear HB
            have HO1352 := n0_
            have HO1356 := n1_
            have HO1360 := n2_
            have HO1364 := n3_
            have BK1340 := n4_
            have BK1341 := n5_
            have BK1342 := n6_
            have BK1345 := n7_
            have BK1346 := n8_
            have BK1347 := n9_
            have BK1348 := n10_
            have HB := n11_
            clear n0_ n1_ n2_ n3_ n4_ n5_ n6_ n7_ n8_ n9_ n10_ n11_
            refine start_ (n := 15) (S := fun w' => w'.cell? ⟨gb1345, 0, none⟩ = some (.bool t1349) ∧ w'.cell? ⟨gb1345, 1, none⟩ = some (.slice Ao64 t1350.length co64) ∧ w'.cell? ⟨gb1348, 0, none⟩ = some (.bool t1361) ∧ w'.cell? ⟨gb1348, 1, none⟩ = some (.slice Ao76 t1362.length co76) ∧ w'.cell? ⟨gb1347, 0, none⟩ = some (.bool t1357) ∧ w'.cell? ⟨gb1347, 1, none⟩ = some (.slice Ao73 t1358.length co73) ∧ w'.cell? ⟨gb1346, 0, none⟩ = some (.bool t1353) ∧ w'.cell? ⟨gb1346, 1, none⟩ = some (.slice Ao69 t1354.length co69)) (ds := []) #[false, false, false, false, false, false, false, false, false, false, false, false, false, false, false] (by kernel_rfl) rfl rfl ⟨(blk_cell BK1345.out 0).trans rfl, (blk_cell BK1345.out 1).trans rfl, (blk_cell BK1348.out 0).trans rfl, (blk_cell BK1348.out 1).trans rfl, (blk_cell BK1347.out 0).trans rfl, (blk_cell BK1347.out 1).trans rfl, (blk_cell BK1346.out 0).trans rfl, (blk_cell BK1346.out 1).trans rfl⟩ (fun hHeld => ?_); refine with_tabW merinoref01_Arith.tab8 merinoref01_Arith.bits8 (fun HT_ HW_ => ?_)
            generalize w77.drew = w138 at HO1352 HO1356 HO1360 HO1364 BK1340 BK1341 BK1342 BK1345 BK1346 BK1347 BK1348 HB hHeld ⊢
            refine take_ (i := 0) (N := some 51) (v := ?_) (a' := ?_) #[true, false, false, false, false, false, false, false, false, false, false, false, false, false, false] rfl rfl (take_ofW HT_.out HW_.out (by kernel_rfl)) (fun _ _ _ h => h) (Or.inl ⟨by rfl, ?_⟩) hHeld ?_ ?_
            rotate_left
            · rintro w' ⟨s0, s1, s2, s3, s4, s5, s6, s7⟩
              go_simp
              with_reducible rfl
            rotate_left
            · simp only [Act.put, List.setIfInBounds_toArray, List.set_cons_zero, List.set_cons_succ, i64_w, i32_w]
              rfl
            refine take_ (i := 1) (N := some 52) (v := ?_) (a' := ?_) #[true, true, false, false, false, false, false, false, false, false, false, false, false, false, false] rfl rfl (take_ofW HT_.out HW_.out (by kernel_rfl)) (fun _ _ _ h => h) (Or.inl ⟨by rfl, ?_⟩) hHeld ?_ ?_
            rotate_left
            · rintro w' ⟨s0, s1, s2, s3, s4, s5, s6, s7⟩
              go_simp
              with_reducible rfl
            rotate_left
            · simp only [Act.put, List.setIfInBounds_toArray, List.set_cons_zero, List.set_cons_succ, i64_w, i32_w]
              rfl
            refine take_ (i := 3) (N := some 54) (v := ?_) (a' := ?_) #[true, true, false, true, false, false, false, false, false, false, false, false, false, false, false] rfl rfl (take_ofW HT_.out HW_.out (by kernel_rfl)) (fun _ _ _ h => h) (Or.inl ⟨by rfl, ?_⟩) hHeld ?_ ?_
            rotate_left
            · rintro w' ⟨s0, s1, s2, s3, s4, s5, s6, s7⟩
              go_simp
              with_reducible rfl
            rotate_left
            · simp only [Act.put, List.setIfInBounds_toArray, List.set_cons_zero, List.set_cons_succ, i64_w, i32_w]
              rfl
            refine take_ (i := 4) (N := some 55) (v := ?_) (a' := ?_) #[true, true, false, true, true, false, false, false, false, false, false, false, false, false, false] rfl rfl (take_ofW HT_.out HW_.out (by kernel_rfl)) (fun _ _ _ h => h) (Or.inl ⟨by rfl, ?_⟩) hHeld ?_ ?_
            rotate_left
            · rintro w' ⟨s0, s1, s2, s3, s4, s5, s6, s7⟩
              go_simp
              with_reducible rfl
            rotate_left
            · simp only [Act.put, List.setIfInBounds_toArray, List.set_cons_zero, List.set_cons_succ, i64_w, i32_w]
              rfl
            refine take_ (i := 7) (N := some 58) (v := ?_) (a' := ?_) #[true, true, false, true, true, false, false, true, false, false, false, false, false, false, false] rfl rfl (take_ofW HT_.out HW_.out (by kernel_rfl)) (fun _ _ _ h => h) (Or.inl ⟨by rfl, ?_⟩) hHeld ?_ ?_
            rotate_left
            · rintro w' ⟨s0, s1, s2, s3, s4, s5, s6, s7⟩
              go_simp
              with_reducible rfl
            rotate_left
            · simp only [Act.put, List.setIfInBounds_toArray, List.set_cons_zero, List.set_cons_succ, i64_w, i32_w]
              rfl
            refine take_ (i := 8) (N := some 59) (v := ?_) (a' := ?_) #[true, true, false, true, true, false, false, true, true, false, false, false, false, false, false] rfl rfl (take_ofW HT_.out HW_.out (by kernel_rfl)) (fun _ _ _ h => h) (Or.inl ⟨by rfl, ?_⟩) hHeld ?_ ?_
            rotate_left
            · rintro w' ⟨s0, s1, s2, s3, s4, s5, s6, s7⟩
              go_simp
              with_reducible rfl
            rotate_left
            · simp only [Act.put, List.setIfInBounds_toArray, List.set_cons_zero, List.set_cons_succ, i64_w, i32_w]
              rfl
            refine one_ (i := 2) (N := some 53) #[true, true, true, true, true, false, false, true, true, false, false, false, false, false, false] rfl rfl (one_of HT_.out (by kernel_rfl)) (by decide) (fun K hK => ?_)
            refine goes_ Tryd.func22 (by kernel_rfl) rfl #[.agg #[.bool t1349, .slice Ao64 t1350.length co64], .agg #[.bool t1361, .slice Ao76 t1362.length co76]] (by rfl) rfl rfl qe_ ?_
            with_reducible refine (merinoref01_Times.calls kj3 t1349 _ _ t1350 t1361 _ _ t1362 t1384 t1385 _ ?side1 ?side2 ?side3 ?side4 A91.out).mono ?_
            (case side1 => exact qc_ (Kd.R_reads' HO1352.out).2.2)
            (case side2 => exact (Kd.R_reads' HO1352.out).2.1)
            (case side3 => exact qc_ (Kd.R_reads' HO1364.out).2.2)
            (case side4 => exact (Kd.R_reads' HO1364.out).2.1)
            rintro e w139 ⟨v1386, rfl, ho0, hb⟩
            refine ⟨_, rfl, ?_⟩
            have n0_ := Aside0.mk (Kd.R_elder' (qr_ HO1352.out) (Kd.R_base ho0) hb)
            have n1_ := Aside0.mk (Kd.R_elder' (qr_ HO1356.out) (Kd.R_base ho0) hb)
            have n2_ := Aside0.mk (Kd.R_elder' (qr_ HO1360.out) (Kd.R_base ho0) hb)
            have n3_ := Aside0.mk (Kd.R_elder' (qr_ HO1364.out) (Kd.R_base ho0) hb)
            have n4_ := Aside0.mk (Kd.R_lower (Kd.R_new' (Kd.R_new' (Kd.R_new' (Kd.R_new' ho0 (Kd.R_lt (qr_ HO1352.out))) (Kd.R_lt (qr_ HO1356.out))) (Kd.R_lt (qr_ HO1360.out))) (Kd.R_lt (qr_ HO1364.out))) (below_size (q7_ HB.out GE1340.out GE1341.out GE1342.out GE1345.out GE1346.out GE1347.out GE1348.out)))
            have n5_ := Aside0.mk (qk_ BK1340.out hb)
            have n6_ := Aside0.mk (qk_ BK1341.out hb)
            have n7_ := Aside0.mk (qk_ BK1342.out hb)
            have n8_ := Aside0.mk (qk_ BK1345.out hb)
            have n9_ := Aside0.mk (qk_ BK1346.out hb)
            have n10_ := Aside0.mk (qk_ BK1347.out hb)
            have n11_ := Aside0.mk (qk_ BK1348.out hb)
            have n12_ := Aside0.mk (below_step (q7_ HB.out GE1340.out GE1341.out GE1342.out GE1345.out GE1346.out GE1347.out GE1348.out) hb)
            clear HO1352
            clear HO1356
            clear HO1360
            clear HO1364
            clear BK1340
            clear BK1341
            clear BK1342
            clear BK1345
            clear BK1346
            clear BK1347
            clear BK1348
            clear HB
            have HO1352 := n0_
            have HO1356 := n1_
            have HO1360 := n2_
            have HO1364 := n3_
            have HO1387 := n4_
            have BK1340 := n5_
            have BK1341 := n6_
            have BK1342 := n7_
            have BK1345 := n8_
            have BK1346 := n9_
            have BK1347 := n10_
            have BK1348 := n11_
            have HB := n12_
            clear n0_ n1_ n2_ n3_ n4_ n5_ n6_ n7_ n8_ n9_ n10_ n11_ n12_
            (try clear hb)
            (try clear hb2)
            (try clear hk)
            (try clear hi)
            (try clear ho0)
            refine hK.out _ _ ⟨(blk_cell BK1345.out 0).trans rfl, (blk_cell BK1345.out 1).trans rfl, (blk_cell BK1348.out 0).trans rfl, (blk_cell BK1348.out 1).trans rfl, (blk_cell BK1347.out 0).trans rfl, (blk_cell BK1347.out 1).trans rfl, (blk_cell BK1346.out 0).trans rfl, (blk_cell BK1346.out 1).trans rfl⟩ (fun hHeld => ?_)
            clear hK K
            refine norm_ (a' := ?_) ?_ ?_
            rotate_left
            · show Act.put _ (some 53) _ = _
              simp only [Act.put, List.setIfInBounds_toArray, List.set_cons_zero, List.set_cons_succ, i64_w, i32_w]
              rfl
            refine one_ (i := 5) (N := some 56) #[true, true, true, true, true, true, false, true, true, false, false, false, false, false, false] rfl rfl (one_of HT_.out (by kernel_rfl)) (by decide) (fun K hK => ?_)
            refine goes_ Tryd.func22 (by kernel_rfl) rfl #[.agg #[.bool t1357, .slice Ao73 t1358.length co73], .agg #[.bool t1353, .slice Ao69 t1354.length co69]] (by rfl) rfl rfl qe_ ?_
            with_reducible refine (merinoref01_Times.calls kj3 t1357 _ _ t1358 t1353 _ _ t1354 t1388 t1389 _ ?side1 ?side2 ?side3 ?side4 A92.out).mono ?_
            (case side1 => exact qc_ (Kd.R_reads' HO1360.out).2.2)
            (case side2 => exact (Kd.R_reads' HO1360.out).2.1)
            (case side3 => exact qc_ (Kd.R_reads' HO1356.out).2.2)
            (case side4 => exact (Kd.R_reads' HO1356.out).2.1)
            rintro e w140 ⟨v1390, rfl, ho0, hb⟩
            refine ⟨_, rfl, ?_⟩
            have n0_ := Aside0.mk (Kd.R_elder' (qr_ HO1352.out) (Kd.R_base ho0) hb)
            have n1_ := Aside0.mk (Kd.R_elder' (qr_ HO1356.out) (Kd.R_base ho0) hb)
            have n2_ := Aside0.mk (Kd.R_elder' (qr_ HO1360.out) (Kd.R_base ho0) hb)
            have n3_ := Aside0.mk (Kd.R_elder' (qr_ HO1364.out) (Kd.R_base ho0) hb)
            have n4_ := Aside0.mk (Kd.R_elder' (qr_ HO1387.out) (Kd.R_base ho0) hb)
            have n5_ := Aside0.mk (Kd.R_lower (Kd.R_new' (Kd.R_new' (Kd.R_new' (Kd.R_new' (Kd.R_new' ho0 (Kd.R_lt (qr_ HO1352.out))) (Kd.R_lt (qr_ HO1356.out))) (Kd.R_lt (qr_ HO1360.out))) (Kd.R_lt (qr_ HO1364.out))) (Kd.R_lt (qr_ HO1387.out))) (below_size (q7_ HB.out GE1340.out GE1341.out GE1342.out GE1345.out GE1346.out GE1347.out GE1348.out)))
            have n6_ := Aside0.mk (qk_ BK1340.out hb)
            have n7_ := Aside0.mk (qk_ BK1341.out hb)
            have n8_ := Aside0.mk (qk_ BK1342.out hb)
            have n9_ := Aside0.mk (qk_ BK1345.out hb)
            have n10_ := Aside0.mk (qk_ BK1346.out hb)
            have n11_ := Aside0.mk (qk_ BK1347.out hb)
            have n12_ := Aside0.mk (qk_ BK1348.out hb)
            have n13_ := Aside0.mk (below_step (q7_ HB.out GE1340.out GE1341.out GE1342.out GE1345.out GE1346.out GE1347.out GE1348.out) hb)
            clear HO1352
            clear HO1356
            clear HO1360
            clear HO1364
            clear HO1387
            clear BK1340
            clear BK1341
            clear BK1342
            clear BK1345
            clear BK1346
            clear BK1347
            clear BK1348
            clear HB
            have HO1352 := n0_
            have HO1356 := n1_
            have HO1360 := n2_
            have HO1364 := n3_
            have HO1387 := n4_
            have HO1391 := n5_
            have BK1340 := n6_
            have BK1341 := n7_
            have BK1342 := n8_
            have BK1345 := n9_
            have BK1346 := n10_
            have BK1347 := n11_
            have BK1348 := n12_
            have HB := n13_
            clear n0_ n1_ n2_ n3_ n4_ n5_ n6_ n7_ n8_ n9_ n10_ n11_ n12_ n13_
            (try clear hb)
            (try clear hb2)
            (try clear hk)
            (try clear hi)
            (try clear ho0)
            obtain ⟨Ao141, co141, eo141⟩ := Kd.R_slice HO1387.out
            (first | subst eo141 | (injection eo141 with f1_ f2_ f3_; have f4_ := f1_.symm; have f5_ := f3_.symm; clear f1_ f2_ f3_; subst f4_; subst f5_))
            obtain ⟨Ao142, co142, eo142⟩ := Kd.R_slice HO1391.out
            (first | subst eo142 | (injection eo142 with f1_ f2_ f3_; have f4_ := f1_.symm; have f5_ := f3_.symm; clear f1_ f2_ f3_; subst f4_; subst f5_))
            refine hK.out _ _ ⟨(blk_cell BK1345.out 0).trans rfl, (blk_cell BK1345.out 1).trans rfl, (blk_cell BK1348.out 0).trans rfl, (blk_cell BK1348.out 1).trans rfl, (blk_cell BK1347.out 0).trans rfl, (blk_cell BK1347.out 1).trans rfl, (blk_cell BK1346.out 0).trans rfl, (blk_cell BK1346.out 1).trans rfl⟩ (fun hHeld => ?_)
            clear hK K
            refine norm_ (a' := ?_) ?_ ?_
            rotate_left
            · show Act.put _ (some 56) _ = _
              simp only [Act.put, List.setIfInBounds_toArray, List.set_cons_zero, List.set_cons_succ, i64_w, i32_w]
              rfl
            refine one_ (i := 6) (N := some 57) #[true, true, true, true, true, true, true, true, true, false, false, false, false, false, false] rfl rfl (one_of HT_.out (by kernel_rfl)) (by decide) (fun K hK => ?_)
            refine goes_ Tryd.func68 (by kernel_rfl) rfl #[.agg #[.bool t1384, .slice Ao141 t1385.length co141], .agg #[.bool t1388, .slice Ao142 t1389.length co142]] (by rfl) rfl rfl qe_ ?_
            with_reducible refine (merinoref01_Minus.calls kj3 t1384 _ _ t1385 t1388 _ _ t1389 t1392 t1393 _ ?side1 ?side2 ?side3 ?side4 A93.out).mono ?_
            (case side1 => exact qc_ (Kd.R_reads' HO1387.out).2.2)
            (case side2 => exact (Kd.R_reads' HO1387.out).2.1)
            (case side3 => exact qc_ (Kd.R_reads' HO1391.out).2.2)
            (case side4 => exact (Kd.R_reads' HO1391.out).2.1)
            rintro e w143 ⟨v1394, rfl, ho0, hb⟩
            refine ⟨_, rfl, ?_⟩
            have n0_ := Aside0.mk (Kd.R_elder' (qr_ HO1352.out) (Kd.R_base ho0) hb)
            have n1_ := Aside0.mk (Kd.R_elder' (qr_ HO1356.out) (Kd.R_base ho0) hb)
            have n2_ := Aside0.mk (Kd.R_elder' (qr_ HO1360.out) (Kd.R_base ho0) hb)
            have n3_ := Aside0.mk (Kd.R_elder' (qr_ HO1364.out) (Kd.R_base ho0) hb)
            have n4_ := Aside0.mk (Kd.R_elder' (qr_ HO1387.out) (Kd.R_base ho0) hb)
            have n5_ := Aside0.mk (Kd.R_elder' (qr_ HO1391.out) (Kd.R_base ho0) hb)
            have n6_ := Aside0.mk (Kd.R_lower (Kd.R_new' (Kd.R_new' (Kd.R_new' (Kd.R_new' (Kd.R_new' (Kd.R_new' ho0 (Kd.R_lt (qr_ HO1352.out))) (Kd.R_lt (qr_ HO1356.out))) (Kd.R_lt (qr_ HO1360.out))) (Kd.R_lt (qr_ HO1364.out))) (Kd.R_lt (qr_ HO1387.out))) (Kd.R_lt (qr_ HO1391.out))) (below_size (q7_ HB.out GE1340.out GE1341.out GE1342.out GE1345.out GE1346.out GE1347.out GE1348.out)))
            have n7_ := Aside0.mk (qk_ BK1340.out hb)
            have n8_ := Aside0.mk (qk_ BK1341.out hb)
            have n9_ := Aside0.mk (qk_ BK1342.out hb)
            have n10_ := Aside0.mk (qk_ BK1345.out hb)
            have n11_ := Aside0.mk (qk_ BK1346.out hb)
            have n12_ := Aside0.mk (qk_ BK1347.out hb)
            have n13_ := Aside0.mk (qk_ BK1348.out hb)
            have n14_ := Aside0.mk (below_step (q7_ HB.out GE1340.out GE1341.out GE1342.out GE1345.out GE1346.out GE1347.out GE1348.out) hb)
            clear HO1352
            clear HO1356
            clear HO1360
            clear HO1364
            clear HO1387
            clear HO1391
            clear BK1340
            clear BK1341
            clear BK1342
            clear BK1345
            clear BK1346
            clear BK1347
            clear BK1348
            clear HB
            have HO1352 := n0_
            have HO1356 := n1_
            have HO1360 := n2_
            have HO1364 := n3_
            have HO1387 := n4_
            have HO1391 := n5_
            have HO1395 := n6_
            have BK1340 := n7_
            have BK1341 := n8_
            have BK1342 := n9_
            have BK1345 := n10_
            have BK1346 := n11_
            have BK1347 := n12_
            have BK1348 := n13_
            have HB := n14_
            clear n0_ n1_ n2_ n3_ n4_ n5_ n6_ n7_ n8_ n9_ n10_ n11_ n12_ n13_ n14_
            (try clear hb)
            (try clear hb2)
            (try clear hk)
            (try clear hi)
            (try clear ho0)
            refine hK.out _ _ ⟨(blk_cell BK1345.out 0).trans rfl, (blk_cell BK1345.out 1).trans rfl, (blk_cell BK1348.out 0).trans rfl, (blk_cell BK1348.out 1).trans rfl, (blk_cell BK1347.out 0).trans rfl, (blk_cell BK1347.out 1).trans rfl, (blk_cell BK1346.out 0).trans rfl, (blk_cell BK1346.out 1).trans rfl⟩ (fun hHeld => ?_)
            clear hK K
            refine norm_ (a' := ?_) ?_ ?_
            rotate_left
            · show Act.put _ (some 57) _ = _
              simp only [Act.put, List.setIfInBounds_toArray, List.set_cons_zero, List.set_cons_succ, i64_w, i32_w]
              rfl
            refine one_ (i := 9) (N := some 60) #[true, true, true, true, true, true, true, true, true, true, false, false, false, false, false] rfl rfl (one_of HT_.out (by kernel_rfl)) (by decide) (fun K hK => ?_)
            refine goes_ Tryd.func22 (by kernel_rfl) rfl #[.agg #[.bool t1353, .slice Ao69 t1354.length co69], .agg #[.bool t1361, .slice Ao76 t1362.length co76]] (by rfl) rfl rfl qe_ ?_
            with_reducible refine (merinoref01_Times.calls kj3 t1353 _ _ t1354 t1361 _ _ t1362 t1396 t1397 _ ?side1 ?side2 ?side3 ?side4 A94.out).mono ?_
            (case side1 => exact qc_ (Kd.R_reads' HO1356.out).2.2)
            (case side2 => exact (Kd.R_reads' HO1356.out).2.1)
            (case side3 => exact qc_ (Kd.R_reads' HO1364.out).2.2)
            (case side4 => exact (Kd.R_reads' HO1364.out).2.1)
            rintro e w144 ⟨v1398, rfl, ho0, hb⟩
            refine ⟨_, rfl, ?_⟩
            have n0_ := Aside0.mk (Kd.R_elder' (qr_ HO1352.out) (Kd.R_base ho0) hb)
            have n1_ := Aside0.mk (Kd.R_elder' (qr_ HO1356.out) (Kd.R_base ho0) hb)
            have n2_ := Aside0.mk (Kd.R_elder' (qr_ HO1360.out) (Kd.R_base ho0) hb)
            have n3_ := Aside0.mk (Kd.R_elder' (qr_ HO1364.out) (Kd.R_base ho0) hb)
            have n4_ := Aside0.mk (Kd.R_elder' (qr_ HO1387.out) (Kd.R_base ho0) hb)
            have n5_ := Aside0.mk (Kd.R_elder' (qr_ HO1391.out) (Kd.R_base ho0) hb)
            have n6_ := Aside0.mk (Kd.R_elder' (qr_ HO1395.out) (Kd.R_base ho0) hb)
            have n7_ := Aside0.mk (Kd.R_lower (Kd.R_new' (Kd.R_new' (Kd.R_new' (Kd.R_new' (Kd.R_new' (Kd.R_new' (Kd.R_new' ho0 (Kd.R_lt (qr_ HO1352.out))) (Kd.R_lt (qr_ HO1356.out))) (Kd.R_lt (qr_ HO1360.out))) (Kd.R_lt (qr_ HO1364.out))) (Kd.R_lt (qr_ HO1387.out))) (Kd.R_lt (qr_ HO1391.out))) (Kd.R_lt (qr_ HO1395.out))) (below_size (q7_ HB.out GE1340.out GE1341.out GE1342.out GE1345.out GE1346.out GE1347.out GE1348.out)))
            have n8_ := Aside0.mk (qk_ BK1340.out hb)
            have n9_ := Aside0.mk (qk_ BK1341.out hb)
            have n10_ := Aside0.mk (qk_ BK1342.out hb)
            have n11_ := Aside0.mk (qk_ BK1345.out hb)
            have n12_ := Aside0.mk (qk_ BK1346.out hb)
            have n13_ := Aside0.mk (qk_ BK1347.out hb)
            have n14_ := Aside0.mk (qk_ BK1348.out hb)
            have n15_ := Aside0.mk (below_step (q7_ HB.out GE1340.out GE1341.out GE1342.out GE1345.out GE1346.out GE1347.out GE1348.out) hb)
            clear HO1352
            clear HO1356
            clear HO1360
            clear HO1364
            clear HO1387
            clear HO1391
            clear HO1395
            clear BK1340
            clear BK1341
            clear BK1342
            clear BK1345
            clear BK1346
            clear BK1347
            clear BK1348
            clear HB
            have HO1352 := n0_
            have HO1356 := n1_
            have HO1360 := n2_
            have HO1364 := n3_
            have HO1387 := n4_
            have HO1391 := n5_
            have HO1395 := n6_
            have HO1399 := n7_
            have BK1340 := n8_
            have BK1341 := n9_
            have BK1342 := n10_
            have BK1345 := n11_
            have BK1346 := n12_
            have BK1347 := n13_
            have BK1348 := n14_
            have HB := n15_
            clear n0_ n1_ n2_ n3_ n4_ n5_ n6_ n7_ n8_ n9_ n10_ n11_ n12_ n13_ n14_ n15_
            (try clear hb)
            (try clear hb2)
            (try clear hk)
            (try clear hi)
            (try clear ho0)
            obtain ⟨Ao145, co145, eo145⟩ := Kd.R_slice HO1395.out
            (first | subst eo145 | (injection eo145 with f1_ f2_ f3_; have f4_ := f1_.symm; have f5_ := f3_.symm; clear f1_ f2_ f3_; subst f4_; subst f5_))
            obtain ⟨Ao146, co146, eo146⟩ := Kd.R_slice HO1399.out
            (first | subst eo146 | (injection eo146 with f1_ f2_ f3_; have f4_ := f1_.symm; have f5_ := f3_.symm; clear f1_ f2_ f3_; subst f4_; subst f5_))
            refine hK.out _ _ ⟨(blk_cell BK1345.out 0).trans rfl, (blk_cell BK1345.out 1).trans rfl, (blk_cell BK1348.out 0).trans rfl, (blk_cell BK1348.out 1).trans rfl, (blk_cell BK1347.out 0).trans rfl, (blk_cell BK1347.out 1).trans rfl, (blk_cell BK1346.out 0).trans rfl, (blk_cell BK1346.out 1).trans rfl⟩ (fun hHeld => ?_)
            clear hK K
            refine norm_ (a' := ?_) ?_ ?_
            rotate_left
            · show Act.put _ (some 60) _ = _
              simp only [Act.put, List.setIfInBounds_toArray, List.set_cons_zero, List.set_cons_succ, i64_w, i32_w]
              rfl
            refine one_ (i := 10) (N := some 61) #[true, true, true, true, true, true, true, true, true, true, true, false, false, false, false] rfl rfl (one_of HT_.out (by kernel_rfl)) (by decide) (fun K hK => ?_)
            refine goes_ Tryd.func80 (by kernel_rfl) rfl #[.agg #[.bool t1392, .slice Ao145 t1393.length co145], .agg #[.bool t1396, .slice Ao146 t1397.length co146]] (by rfl) rfl rfl qe_ ?_
            with_reducible refine (merinoref01_Lowest.calls kj3 t1392 _ _ t1393 t1396 _ _ t1397 t1400 t1401 t1402 _ ?side1 ?side2 ?side3 ?side4 A95.out).mono ?_
            (case side1 => exact qc_ (Kd.R_reads' HO1395.out).2.2)
            (case side2 => exact (Kd.R_reads' HO1395.out).2.1)
            (case side3 => exact qc_ (Kd.R_reads' HO1399.out).2.2)
            (case side4 => exact (Kd.R_reads' HO1399.out).2.1)
            rintro e w147 ⟨rfl, hb⟩
            refine ⟨_, rfl, ?_⟩
            have n0_ := Aside0.mk (Kd.R_below (qr_ HO1352.out) hb)
            have n1_ := Aside0.mk (Kd.R_below (qr_ HO1356.out) hb)
            have n2_ := Aside0.mk (Kd.R_below (qr_ HO1360.out) hb)
            have n3_ := Aside0.mk (Kd.R_below (qr_ HO1364.out) hb)
            have n4_ := Aside0.mk (Kd.R_below (qr_ HO1387.out) hb)
            have n5_ := Aside0.mk (Kd.R_below (qr_ HO1391.out) hb)
            have n6_ := Aside0.mk (Kd.R_below (qr_ HO1395.out) hb)
            have n7_ := Aside0.mk (Kd.R_below (qr_ HO1399.out) hb)
            have n8_ := Aside0.mk (qk_ BK1340.out hb)
            have n9_ := Aside0.mk (qk_ BK1341.out hb)
            have n10_ := Aside0.mk (qk_ BK1342.out hb)
            have n11_ := Aside0.mk (qk_ BK1345.out hb)
            have n12_ := Aside0.mk (qk_ BK1346.out hb)
            have n13_ := Aside0.mk (qk_ BK1347.out hb)
            have n14_ := Aside0.mk (qk_ BK1348.out hb)
            have n15_ := Aside0.mk (below_step (q7_ HB.out GE1340.out GE1341.out GE1342.out GE1345.out GE1346.out GE1347.out GE1348.out) hb)
            clear HO1352
            clear HO1356
            clear HO1360
            clear HO1364
            clear HO1387
            clear HO1391
            clear HO1395
            clear HO1399
            clear BK1340
            clear BK1341
            clear BK1342
            clear BK1345
            clear BK1346
            clear BK1347
            clear BK1348
            clear HB
            have HO1352 := n0_
            have HO1356 := n1_
            have HO1360 := n2_
            have HO1364 := n3_
            have HO1387 := n4_
            have HO1391 := n5_
            have HO1395 := n6_
            have HO1399 := n7_
            have BK1340 := n8_
            have BK1341 := n9_
            have BK1342 := n10_
            have BK1345 := n11_
            have BK1346 := n12_
            have BK1347 := n13_
            have BK1348 := n14_
            have HB := n15_
            clear n0_ n1_ n2_ n3_ n4_ n5_ n6_ n7_ n8_ n9_ n10_ n11_ n12_ n13_ n14_ n15_
            (try clear hb)
            (try clear hb2)
            (try clear hk)
            (try clear hi)
            refine hK.out _ _ ⟨(blk_cell BK1345.out 0).trans rfl, (blk_cell BK1345.out 1).trans rfl, (blk_cell BK1348.out 0).trans rfl, (blk_cell BK1348.out 1).trans rfl, (blk_cell BK1347.out 0).trans rfl, (blk_cell BK1347.out 1).trans rfl, (blk_cell BK1346.out 0).trans rfl, (blk_cell BK1346.out 1).trans rfl⟩ (fun hHeld => ?_)
            clear hK K
            refine norm_ (a' := ?_) ?_ ?_
            rotate_left
            · show Act.put _ (some 61) _ = _
              simp only [Act.put, List.setIfInBounds_toArray, List.set_cons_zero, List.set_cons_succ, i64_w, i32_w]
              rfl
            refine pure_ (i := 11) (N := some 62) (v := ?_) (a' := ?_) #[true, true, true, true, true, true, true, true, true, true, true, true, false, false, false] rfl rfl (any_of HT_.out (by kernel_rfl)) (fun _ _ _ h => h) (Or.inl ⟨by rfl, ?_⟩) ?_ ?_
            rotate_left
            · intro w'
              go_simp
              with_reducible rfl
            rotate_left
            · simp only [Act.put, List.setIfInBounds_toArray, List.set_cons_zero, List.set_cons_succ, i64_w, i32_w]
              rfl
            refine pure_ (i := 12) (N := some 63) (v := ?_) (a' := ?_) #[true, true, true, true, true, true, true, true, true, true, true, true, true, false, false] rfl rfl (any_of HT_.out (by kernel_rfl)) (fun _ _ _ h => h) (Or.inl ⟨by rfl, ?_⟩) ?_ ?_
            rotate_left
            · intro w'
              go_simp
              with_reducible rfl
            rotate_left
            · simp only [Act.put, List.setIfInBounds_toArray, List.set_cons_zero, List.set_cons_succ, i64_w, i32_w]
              rfl
            refine one_ (i := 13) (N := none) #[true, true, true, true, true, true, true, true, true, true, true, true, true, true, false] rfl rfl (one_of HT_.out (by kernel_rfl)) (by decide) (fun K hK => ?_)
            have hs148 : w147.cell? ⟨gb1342, 0, none⟩ = some (.int .i64 0) := (blk_cell BK1342.out 0).trans rfl
            have hfs148 := blk_frozen BK1342.out 0
            have hns148_0 := NB1340_1342.out
            have hns148_1 := NB1341_1342.out
            have hns148_3 := NB1345_1342.out
            have hns148_4 := NB1346_1342.out
            have hns148_5 := NB1347_1342.out
            have hns148_6 := NB1348_1342.out
            have hms148_0 := NB1342_1340.out
            have hms148_1 := NB1342_1341.out
            have hms148_3 := NB1342_1345.out
            have hms148_4 := NB1342_1346.out
            have hms148_5 := NB1342_1347.out
            have hms148_6 := NB1342_1348.out
            have hs149 : w147.cell? ⟨gb1342, 1, none⟩ = some (.int .i64 0) := (blk_cell BK1342.out 1).trans rfl
            have hfs149 := blk_frozen BK1342.out 1
            have hns149_0 := NB1340_1342.out
            have hns149_1 := NB1341_1342.out
            have hns149_3 := NB1345_1342.out
            have hns149_4 := NB1346_1342.out
            have hns149_5 := NB1347_1342.out
            have hns149_6 := NB1348_1342.out
            have hms149_0 := NB1342_1340.out
            have hms149_1 := NB1342_1341.out
            have hms149_3 := NB1342_1345.out
            have hms149_4 := NB1342_1346.out
            have hms149_5 := NB1342_1347.out
            have hms149_6 := NB1342_1348.out
            refine skip_ (w1 := ?_) (by rfl) rfl ?_ ?_
            rotate_left
            · go_simp
              rfl
            refine hK.out _ _ ⟨((cell_far (p := ⟨gb1342, _, none⟩) NB1345_1342.out _).trans (((cell_far (p := ⟨gb1342, _, none⟩) NB1345_1342.out _).trans (hHeld.1)))), ((cell_far (p := ⟨gb1342, _, none⟩) NB1345_1342.out _).trans (((cell_far (p := ⟨gb1342, _, none⟩) NB1345_1342.out _).trans (hHeld.2.1)))), ((cell_far (p := ⟨gb1342, _, none⟩) NB1348_1342.out _).trans (((cell_far (p := ⟨gb1342, _, none⟩) NB1348_1342.out _).trans (hHeld.2.2.1)))), ((cell_far (p := ⟨gb1342, _, none⟩) NB1348_1342.out _).trans (((cell_far (p := ⟨gb1342, _, none⟩) NB1348_1342.out _).trans (hHeld.2.2.2.1)))), ((cell_far (p := ⟨gb1342, _, none⟩) NB1347_1342.out _).trans (((cell_far (p := ⟨gb1342, _, none⟩) NB1347_1342.out _).trans (hHeld.2.2.2.2.1)))), ((cell_far (p := ⟨gb1342, _, none⟩) NB1347_1342.out _).trans (((cell_far (p := ⟨gb1342, _, none⟩) NB1347_1342.out _).trans (hHeld.2.2.2.2.2.1)))), ((cell_far (p := ⟨gb1342, _, none⟩) NB1346_1342.out _).trans (((cell_far (p := ⟨gb1342, _, none⟩) NB1346_1342.out _).trans (hHeld.2.2.2.2.2.2.1)))), ((cell_far (p := ⟨gb1342, _, none⟩) NB1346_1342.out _).trans (((cell_far (p := ⟨gb1342, _, none⟩) NB1346_1342.out _).trans (hHeld.2.2.2.2.2.2.2))))⟩ (fun hHeld => ?_)
            clear hK K
            refine pure_ (i := 14) (N := some 7) (v := ?_) (a' := ?_) #[true, true, true, true, true, true, true, true, true, true, true, true, true, true, true] rfl rfl (any_of HT_.out (by kernel_rfl)) (fun _ _ _ h => h) (Or.inl ⟨by rfl, ?_⟩) ?_ ?_
            rotate_left
            · intro w'
              go_simp
              with_reducible rfl
            rotate_left
            · simp only [Act.put, List.setIfInBounds_toArray, List.set_cons_zero, List.set_cons_succ, i64_w, i32_w]
              rfl
            refine done_ (done_of HT_.out (by kernel_rfl)) ?_
            try go_wp2
            refine bodyPost_ret (results_ct rfl _ _ gb1342 23 #[.int .i64 t1400, .int .i64 t1401] (0, 0) _ rfl (by (with_reducible repeat (first | refine blk_drewN ?_ _ | refine blk_drew ?_ | refine blk_alloc ?_ _)); refine blk_put (cs := #[.int .i64 t1400, .int .i64 0]) ?_ 1 _ rfl; (with_reducible repeat (first | refine blk_drewN ?_ _ | refine blk_drew ?_ | refine blk_alloc ?_ _)); refine blk_put (cs := #[.int .i64 0, .int .i64 0]) ?_ 0 _ rfl; (with_reducible repeat (first | refine blk_drewN ?_ _ | refine blk_drew ?_ | refine blk_alloc ?_ _)); exact BK1342.out) Tryd.underlying23 rfl (by kernel_rfl)) rfl ?_
            exact ⟨by first | rfl | (simp [errW_none, errW_some] <;> rfl) | (simp [*, errW_none, errW_some] <;> rfl), (q7_ HB.out GE1340.out GE1341.out GE1342.out GE1345.out GE1346.out GE1347.out GE1348.out)⟩
          · rw [if_neg c90] at H
            have c90b0 : (a0 == 1) = false := beq_eq_false_iff_ne.mpr c90
            have c90b1 : (a0 != 1) = true := bne_iff_ne.mpr c90
            by_cases c150 : a0 = 2
            · rw [if_pos c150] at H
              have c150b0 : (a0 == 2) = true := beq_iff_eq.mpr c150
              have c150b1 : (a0 != 2) = false := bne_eq_false_iff_eq.mpr c150
              clear c150
              replace H := Option.bind_eq_some_iff.mp H
              obtain ⟨⟨t1403, t1404⟩, A1510, H⟩ := H
              replace H : ((merinoref01_Times.f kj3 t1353 t1354 t1361 t1362).bind fun bt1407 => ((merinoref01_Lowest.f kj3 t1403 t1404 bt1407.1 bt1407.2).bind fun bt1411 => (some (bt1411.1, bt1411.2.1, bt1411.2.2)))) = some (r1, r2, r3) := H
              have A151 := Aside0.mk A1510
              clear A1510
              replace H := Option.bind_eq_some_iff.mp H
              obtain ⟨⟨t1407, t1408⟩, A1520, H⟩ := H
              replace H : ((merinoref01_Lowest.f kj3 t1403 t1404 t1407 t1408).bind fun bt1411 => (some (bt1411.1, bt1411.2.1, bt1411.2.2))) = some (r1, r2, r3) := H
              have A152 := Aside0.mk A1520
              clear A1520
              replace H := Option.bind_eq_some_iff.mp H
              obtain ⟨⟨t1411, t1412, t1413⟩, A1530, H⟩ := H
              replace H : (some (t1411, t1412, t1413)) = some (r1, r2, r3) := H
              have A153 := Aside0.mk A1530
              clear A1530
              simp only [Option.some.injEq, Prod.mk.injEq] at H
              obtain ⟨rfl, rfl, rfl⟩ := H
              try go_wp2_with (fail)
              have n0_ := Aside0.mk (Kd.R_drew HO1352.out)
              have n1_ := Aside0.mk (Kd.R_drew HO1356.out)
              have n2_ := Aside0.mk (Kd.R_drew HO1360.out)
              have n3_ := Aside0.mk (Kd.R_drew HO1364.out)
              have n4_ := Aside0.mk (blk_drew BK1340.out)
              have n5_ := Aside0.mk (blk_drew BK1341.out)
              have n6_ := Aside0.mk (blk_drew BK1342.out)
              have n7_ := Aside0.mk (blk_drew BK1345.out)
              have n8_ := Aside0.mk (blk_drew BK1346.out)
              have n9_ := Aside0.mk (blk_drew BK1347.out)
              have n10_ := Aside0.mk (blk_drew BK1348.out)
              have n11_ := Aside0.mk (below_drew1 HB.out)
              clear HO1352
              clear HO1356
              clear HO1360
              clear HO1364
              clear BK1340
              clear BK1341
              clear BK1342
              clear BK1345
              clear BK1346
              clear BK1347
              clear BK1348
              clear HB
              have HO1352 := n0_
              have HO1356 := n1_
              have HO1360 := n2_
              have HO1364 := n3_
              have BK1340 := n4_
              have BK1341 := n5_
              have BK1342 := n6_
              have BK1345 := n7_
              have BK1346 := n8_
              have BK1347 := n9_
              have BK1348 := n10_
              have HB := n11_
              clear n0_ n1_ n2_ n3_ n4_ n5_ n6_ n7_ n8_ n9_ n10_ n11_
              refine start_ (n := 11) (S := fun w' => w'.cell? ⟨gb1345, 0, none⟩ = some (.bool t1349) ∧ w'.cell? ⟨gb1345, 1, none⟩ = some (.slice Ao64 t1350.length co64) ∧ w'.cell? ⟨gb1347, 0, none⟩ = some (.bool t1357) ∧ w'.cell? ⟨gb1347, 1, none⟩ = some (.slice Ao73 t1358.length co73) ∧ w'.cell? ⟨gb1346, 0, none⟩ = some (.bool t1353) ∧ w'.cell? ⟨gb1346, 1, none⟩ = some (.slice Ao69 t1354.length co69) ∧ w'.cell? ⟨gb1348, 0, none⟩ = some (.bool t1361) ∧ w'.cell? ⟨gb1348, 1, none⟩ = some (.slice Ao76 t1362.length co76)) (ds := []) #[false, false, false, false, false, false, false, false, false, false, false] (by kernel_rfl) rfl rfl ⟨(blk_cell BK1345.out 0).trans rfl, (blk_cell BK1345.out 1).trans rfl, (blk_cell BK1347.out 0).trans rfl, (blk_cell BK1347.out 1).trans rfl, (blk_cell BK1346.out 0).trans rfl, (blk_cell BK1346.out 1).trans rfl, (blk_cell BK1348.out 0).trans rfl, (blk_cell BK1348.out 1).trans rfl⟩ (fun hHeld => ?_); refine with_tabW merinoref01_Arith.tab10 merinoref01_Arith.bits10 (fun HT_ HW_ => ?_)
              generalize w77.drew = w196 at HO1352 HO1356 HO1360 HO1364 BK1340 BK1341 BK1342 BK1345 BK1346 BK1347 BK1348 HB hHeld ⊢
              refine take_ (i := 0) (N := some 66) (v := ?_) (a' := ?_) #[true, false, false, false, false, false, false, false, false, false, false] rfl rfl (take_ofW HT_.out HW_.out (by kernel_rfl)) (fun _ _ _ h => h) (Or.inl ⟨by rfl, ?_⟩) hHeld ?_ ?_
              rotate_left
              · rintro w' ⟨s0, s1, s2, s3, s4, s5, s6, s7⟩
                go_simp
                with_reducible rfl
              rotate_left
              · simp only [Act.put, List.setIfInBounds_toArray, List.set_cons_zero, List.set_cons_succ, i64_w, i32_w]
                rfl
              refine take_ (i := 1) (N := some 67) (v := ?_) (a' := ?_) #[true, true, false, false, false, false, false, false, false, false, false] rfl rfl (take_ofW HT_.out HW_.out (by kernel_rfl)) (fun _ _ _ h => h) (Or.inl ⟨by rfl, ?_⟩) hHeld ?_ ?_
              rotate_left
              · rintro w' ⟨s0, s1, s2, s3, s4, s5, s6, s7⟩
                go_simp
                with_reducible rfl
              rotate_left
              · simp only [Act.put, List.setIfInBounds_toArray, List.set_cons_zero, List.set_cons_succ, i64_w, i32_w]
                rfl
              refine take_ (i := 3) (N := some 69) (v := ?_) (a' := ?_) #[true, true, false, true, false, false, false, false, false, false, false] rfl rfl (take_ofW HT_.out HW_.out (by kernel_rfl)) (fun _ _ _ h => h) (Or.inl ⟨by rfl, ?_⟩) hHeld ?_ ?_
              rotate_left
              · rintro w' ⟨s0, s1, s2, s3, s4, s5, s6, s7⟩
                go_simp
                with_reducible rfl
              rotate_left
              · simp only [Act.put, List.setIfInBounds_toArray, List.set_cons_zero, List.set_cons_succ, i64_w, i32_w]
                rfl
              refine take_ (i := 4) (N := some 70) (v := ?_) (a' := ?_) #[true, true, false, true, true, false, false, false, false, false, false] rfl rfl (take_ofW HT_.out HW_.out (by kernel_rfl)) (fun _ _ _ h => h) (Or.inl ⟨by rfl, ?_⟩) hHeld ?_ ?_
              rotate_left
              · rintro w' ⟨s0, s1, s2, s3, s4, s5, s6, s7⟩
                go_simp
                with_reducible rfl
              rotate_left
              · simp only [Act.put, List.setIfInBounds_toArray, List.set_cons_zero, List.set_cons_succ, i64_w, i32_w]
                rfl
              refine one_ (i := 2) (N := some 68) #[true, true, true, true, true, false, false, false, false, false, false] rfl rfl (one_of HT_.out (by kernel_rfl)) (by decide) (fun K hK => ?_)
              refine goes_ Tryd.func22 (by kernel_rfl) rfl #[.agg #[.bool t1349, .slice Ao64 t1350.length co64], .agg #[.bool t1357, .slice Ao73 t1358.length co73]] (by rfl) rfl rfl qe_ ?_
              with_reducible refine (merinoref01_Times.calls kj3 t1349 _ _ t1350 t1357 _ _ t1358 t1403 t1404 _ ?side1 ?side2 ?side3 ?side4 A151.out).mono ?_
              (case side1 => exact qc_ (Kd.R_reads' HO1352.out).2.2)
              (case side2 => exact (Kd.R_reads' HO1352.out).2.1)
              (case side3 => exact qc_ (Kd.R_reads' HO1360.out).2.2)
              (case side4 => exact (Kd.R_reads' HO1360.out).2.1)
              rintro e w197 ⟨v1405, rfl, ho0, hb⟩
              refine ⟨_, rfl, ?_⟩
              have n0_ := Aside0.mk (Kd.R_elder' (qr_ HO1352.out) (Kd.R_base ho0) hb)
              have n1_ := Aside0.mk (Kd.R_elder' (qr_ HO1356.out) (Kd.R_base ho0) hb)
              have n2_ := Aside0.mk (Kd.R_elder' (qr_ HO1360.out) (Kd.R_base ho0) hb)
              have n3_ := Aside0.mk (Kd.R_elder' (qr_ HO1364.out) (Kd.R_base ho0) hb)
              have n4_ := Aside0.mk (Kd.R_lower (Kd.R_new' (Kd.R_new' (Kd.R_new' (Kd.R_new' ho0 (Kd.R_lt (qr_ HO1352.out))) (Kd.R_lt (qr_ HO1356.out))) (Kd.R_lt (qr_ HO1360.out))) (Kd.R_lt (qr_ HO1364.out))) (below_size (q7_ HB.out GE1340.out GE1341.out GE1342.out GE1345.out GE1346.out GE1347.out GE1348.out)))
              have n5_ := Aside0.mk (qk_ BK1340.out hb)
              have n6_ := Aside0.mk (qk_ BK1341.out hb)
              have n7_ := Aside0.mk (qk_ BK1342.out hb)
              have n8_ := Aside0.mk (qk_ BK1345.out hb)
              have n9_ := Aside0.mk (qk_ BK1346.out hb)
              have n10_ := Aside0.mk (qk_ BK1347.out hb)
              have n11_ := Aside0.mk (qk_ BK1348.out hb)
              have n12_ := Aside0.mk (below_step (q7_ HB.out GE1340.out GE1341.out GE1342.out GE1345.out GE1346.out GE1347.out GE1348.out) hb)
              clear HO1352
              clear HO1356
              clear HO1360
              clear HO1364
              clear BK1340
              clear BK1341
              clear BK1342
              clear BK1345
              clear BK1346
              clear BK1347
              clear BK1348
              clear HB
              have HO1352 := n0_
              have HO1356 := n1_
              have HO1360 := n2_
              have HO1364 := n3_
              have HO1406 := n4_
              have BK1340 := n5_
              have BK1341 := n6_
              have BK1342 := n7_
              have BK1345 := n8_
              have BK1346 := n9_
              have BK1347 := n10_
              have BK1348 := n11_
              have HB := n12_
              clear n0_ n1_ n2_ n3_ n4_ n5_ n6_ n7_ n8_ n9_ n10_ n11_ n12_
              (try clear hb)
              (try clear hb2)
              (try clear hk)
              (try clear hi)
              (try clear ho0)
              refine hK.out _ _ ⟨(blk_cell BK1345.out 0).trans rfl, (blk_cell BK1345.out 1).trans rfl, (blk_cell BK1347.out 0).trans rfl, (blk_cell BK1347.out 1).trans rfl, (blk_cell BK1346.out 0).trans rfl, (blk_cell BK1346.out 1).trans rfl, (blk_cell BK1348.out 0).trans rfl, (blk_cell BK1348.out 1).trans rfl⟩ (fun hHeld => ?_)
              clear hK K
              refine norm_ (a' := ?_) ?_ ?_
              rotate_left
              · show Act.put _ (some 68) _ = _
                simp only [Act.put, List.setIfInBounds_toArray, List.set_cons_zero, List.set_cons_succ, i64_w, i32_w]
                rfl
              refine one_ (i := 5) (N := some 71) #[true, true, true, true, true, true, false, false, false, false, false] rfl rfl (one_of HT_.out (by kernel_rfl)) (by decide) (fun K hK => ?_)
              refine goes_ Tryd.func22 (by kernel_rfl) rfl #[.agg #[.bool t1353, .slice Ao69 t1354.length co69], .agg #[.bool t1361, .slice Ao76 t1362.length co76]] (by rfl) rfl rfl qe_ ?_
              with_reducible refine (merinoref01_Times.calls kj3 t1353 _ _ t1354 t1361 _ _ t1362 t1407 t1408 _ ?side1 ?side2 ?side3 ?side4 A152.out).mono ?_
              (case side1 => exact qc_ (Kd.R_reads' HO1356.out).2.2)
              (case side2 => exact (Kd.R_reads' HO1356.out).2.1)
              (case side3 => exact qc_ (Kd.R_reads' HO1364.out).2.2)
              (case side4 => exact (Kd.R_reads' HO1364.out).2.1)
              rintro e w198 ⟨v1409, rfl, ho0, hb⟩
              refine ⟨_, rfl, ?_⟩
              have n0_ := Aside0.mk (Kd.R_elder' (qr_ HO1352.out) (Kd.R_base ho0) hb)
              have n1_ := Aside0.mk (Kd.R_elder' (qr_ HO1356.out) (Kd.R_base ho0) hb)
              have n2_ := Aside0.mk (Kd.R_elder' (qr_ HO1360.out) (Kd.R_base ho0) hb)
              have n3_ := Aside0.mk (Kd.R_elder' (qr_ HO1364.out) (Kd.R_base ho0) hb)
              have n4_ := Aside0.mk (Kd.R_elder' (qr_ HO1406.out) (Kd.R_base ho0) hb)
              have n5_ := Aside0.mk (Kd.R_lower (Kd.R_new' (Kd.R_new' (Kd.R_new' (Kd.R_new' (Kd.R_new' ho0 (Kd.R_lt (qr_ HO1352.out))) (Kd.R_lt (qr_ HO1356.out))) (Kd.R_lt (qr_ HO1360.out))) (Kd.R_lt (qr_ HO1364.out))) (Kd.R_lt (qr_ HO1406.out))) (below_size (q7_ HB.out GE1340.out GE1341.out GE1342.out GE1345.out GE1346.out GE1347.out GE1348.out)))
              have n6_ := Aside0.mk (qk_ BK1340.out hb)
              have n7_ := Aside0.mk (qk_ BK1341.out hb)
              have n8_ := Aside0.mk (qk_ BK1342.out hb)
              have n9_ := Aside0.mk (qk_ BK1345.out hb)
              have n10_ := Aside0.mk (qk_ BK1346.out hb)
              have n11_ := Aside0.mk (qk_ BK1347.out hb)
              have n12_ := Aside0.mk (qk_ BK1348.out hb)
              have n13_ := Aside0.mk (below_step (q7_ HB.out GE1340.out GE1341.out GE1342.out GE1345.out GE1346.out GE1347.out GE1348.out) hb)
              clear HO1352
              clear HO1356
              clear HO1360
              clear HO1364
              clear HO1406
              clear BK1340
              clear BK1341
              clear BK1342
              clear BK1345
              clear BK1346
              clear BK1347
              clear BK1348
              clear HB
              have HO1352 := n0_
              have HO1356 := n1_
              have HO1360 := n2_
              have HO1364 := n3_
              have HO1406 := n4_
              have HO1410 := n5_
              have BK1340 := n6_
              have BK1341 := n7_
              have BK1342 := n8_
              have BK1345 := n9_
              have BK1346 := n10_
              have BK1347 := n11_
              have BK1348 := n12_
              have HB := n13_
              clear n0_ n1_ n2_ n3_ n4_ n5_ n6_ n7_ n8_ n9_ n10_ n11_ n12_ n13_
              (try clear hb)
              (try clear hb2)
              (try clear hk)
              (try clear hi)
              (try clear ho0)
              obtain ⟨Ao199, co199, eo199⟩ := Kd.R_slice HO1406.out
              (first | subst eo199 | (injection eo199 with f1_ f2_ f3_; have f4_ := f1_.symm; have f5_ := f3_.symm; clear f1_ f2_ f3_; subst f4_; subst f5_))
              obtain ⟨Ao200, co200, eo200⟩ := Kd.R_slice HO1410.out
              (first | subst eo200 | (injection eo200 with f1_ f2_ f3_; have f4_ := f1_.symm; have f5_ := f3_.symm; clear f1_ f2_ f3_; subst f4_; subst f5_))
              refine hK.out _ _ ⟨(blk_cell BK1345.out 0).trans rfl, (blk_cell BK1345.out 1).trans rfl, (blk_cell BK1347.out 0).trans rfl, (blk_cell BK1347.out 1).trans rfl, (blk_cell BK1346.out 0).trans rfl, (blk_cell BK1346.out 1).trans rfl, (blk_cell BK1348.out 0).trans rfl, (blk_cell BK1348.out 1).trans rfl⟩ (fun hHeld => ?_)
              clear hK K
              refine norm_ (a' := ?_) ?_ ?_
              rotate_left
              · show Act.put _ (some 71) _ = _
                simp only [Act.put, List.setIfInBounds_toArray, List.set_cons_zero, List.set_cons_succ, i64_w, i32_w]
                rfl
              refine one_ (i := 6) (N := some 72) #[true, true, true, true, true, true, true, false, false, false, false] rfl rfl (one_of HT_.out (by kernel_rfl)) (by decide) (fun K hK => ?_)
              refine goes_ Tryd.func80 (by kernel_rfl) rfl #[.agg #[.bool t1403, .slice Ao199 t1404.length co199], .agg #[.bool t1407, .slice Ao200 t1408.length co200]] (by rfl) rfl rfl qe_ ?_
              with_reducible refine (merinoref01_Lowest.calls kj3 t1403 _ _ t1404 t1407 _ _ t1408 t1411 t1412 t1413 _ ?side1 ?side2 ?side3 ?side4 A153.out).mono ?_
              (case side1 => exact qc_ (Kd.R_reads' HO1406.out).2.2)
              (case side2 => exact (Kd.R_reads' HO1406.out).2.1)
              (case side3 => exact qc_ (Kd.R_reads' HO1410.out).2.2)
              (case side4 => exact (Kd.R_reads' HO1410.out).2.1)
              rintro e w201 ⟨rfl, hb⟩
              refine ⟨_, rfl, ?_⟩
              have n0_ := Aside0.mk (Kd.R_below (qr_ HO1352.out) hb)
              have n1_ := Aside0.mk (Kd.R_below (qr_ HO1356.out) hb)
              have n2_ := Aside0.mk (Kd.R_below (qr_ HO1360.out) hb)
              have n3_ := Aside0.mk (Kd.R_below (qr_ HO1364.out) hb)
              have n4_ := Aside0.mk (Kd.R_below (qr_ HO1406.out) hb)
              have n5_ := Aside0.mk (Kd.R_below (qr_ HO1410.out) hb)
              have n6_ := Aside0.mk (qk_ BK1340.out hb)
              have n7_ := Aside0.mk (qk_ BK1341.out hb)
              have n8_ := Aside0.mk (qk_ BK1342.out hb)
              have n9_ := Aside0.mk (qk_ BK1345.out hb)
              have n10_ := Aside0.mk (qk_ BK1346.out hb)
              have n11_ := Aside0.mk (qk_ BK1347.out hb)
              have n12_ := Aside0.mk (qk_ BK1348.out hb)
              have n13_ := Aside0.mk (below_step (q7_ HB.out GE1340.out GE1341.out GE1342.out GE1345.out GE1346.out GE1347.out GE1348.out) hb)
              clear HO1352
              clear HO1356
              clear HO1360
              clear HO1364
              clear HO1406
              clear HO1410
              clear BK1340
              clear BK1341
              clear BK1342
              clear BK1345
              clear BK1346
              clear BK1347
              clear BK1348
              clear HB
              have HO1352 := n0_
              have HO1356 := n1_
              have HO1360 := n2_
              have HO1364 := n3_
              have HO1406 := n4_
              have HO1410 := n5_
              have BK1340 := n6_
              have BK1341 := n7_
              have BK1342 := n8_
              have BK1345 := n9_
              have BK1346 := n10_
              have BK1347 := n11_
              have BK1348 := n12_
              have HB := n13_
              clear n0_ n1_ n2_ n3_ n4_ n5_ n6_ n7_ n8_ n9_ n10_ n11_ n12_ n13_
              (try clear hb)
              (try clear hb2)
              (try clear hk)
              (try clear hi)
              refine hK.out _ _ ⟨(blk_cell BK1345.out 0).trans rfl, (blk_cell BK1345.out 1).trans rfl, (blk_cell BK1347.out 0).trans rfl, (blk_cell BK1347.out 1).trans rfl, (blk_cell BK1346.out 0).trans rfl, (blk_cell BK1346.out 1).trans rfl, (blk_cell BK1348.out 0).trans rfl, (blk_cell BK1348.out 1).trans rfl⟩ (fun hHeld => ?_)
              clear hK K
              refine norm_ (a' := ?_) ?_ ?_
              rotate_left
              · show Act.put _ (some 72) _ = _
                simp only [Act.put, List.setIfInBounds_toArray, List.set_cons_zero, List.set_cons_succ, i64_w, i32_w]
                rfl
              refine pure_ (i := 7) (N := some 73) (v := ?_) (a' := ?_) #[true, true, true, true, true, true, true, true, false, false, false] rfl rfl (any_of HT_.out (by kernel_rfl)) (fun _ _ _ h => h) (Or.inl ⟨by rfl, ?_⟩) ?_ ?_
              rotate_left
              · intro w'
                go_simp
                with_reducible rfl
              rotate_left
              · simp only [Act.put, List.setIfInBounds_toArray, List.set_cons_zero, List.set_cons_succ, i64_w, i32_w]
                rfl
              refine pure_ (i := 8) (N := some 74) (v := ?_) (a' := ?_) #[true, true, true, true, true, true, true, true, true, false, false] rfl rfl (any_of HT_.out (by kernel_rfl)) (fun _ _ _ h => h) (Or.inl ⟨by rfl, ?_⟩) ?_ ?_
              rotate_left
              · intro w'
                go_simp
                with_reducible rfl
              rotate_left
              · simp only [Act.put, List.setIfInBounds_toArray, List.set_cons_zero, List.set_cons_succ, i64_w, i32_w]
                rfl
              refine one_ (i := 9) (N := none) #[true, true, true, true, true, true, true, true, true, true, false] rfl rfl (one_of HT_.out (by kernel_rfl)) (by decide) (fun K hK => ?_)
              have hs202 : w201.cell? ⟨gb1342, 0, none⟩ = some (.int .i64 0) := (blk_cell BK1342.out 0).trans rfl
              have hfs202 := blk_frozen BK1342.out 0
              have hns202_0 := NB1340_1342.out
              have hns202_1 := NB1341_1342.out
              have hns202_3 := NB1345_1342.out
              have hns202_4 := NB1346_1342.out
              have hns202_5 := NB1347_1342.out
              have hns202_6 := NB1348_1342.out
              have hms202_0 := NB1342_1340.out
              have hms202_1 := NB1342_1341.out
              have hms202_3 := NB1342_1345.out
              have hms202_4 := NB1342_1346.out
              have hms202_5 := NB1342_1347.out
              have hms202_6 := NB1342_1348.out
              have hs203 : w201.cell? ⟨gb1342, 1, none⟩ = some (.int .i64 0) := (blk_cell BK1342.out 1).trans rfl
              have hfs203 := blk_frozen BK1342.out 1
              have hns203_0 := NB1340_1342.out
              have hns203_1 := NB1341_1342.out
              have hns203_3 := NB1345_1342.out
              have hns203_4 := NB1346_1342.out
              have hns203_5 := NB1347_1342.out
              have hns203_6 := NB1348_1342.out
              have hms203_0 := NB1342_1340.out
              have hms203_1 := NB1342_1341.out
              have hms203_3 := NB1342_1345.out
              have hms203_4 := NB1342_1346.out
              have hms203_5 := NB1342_1347.out
              have hms203_6 := NB1342_1348.out
              refine skip_ (w1 := ?_) (by rfl) rfl ?_ ?_
              rotate_left
              · go_simp
                rfl
              refine hK.out _ _ ⟨((cell_far (p := ⟨gb1342, _, none⟩) NB1345_1342.out _).trans (((cell_far (p := ⟨gb1342, _, none⟩) NB1345_1342.out _).trans (hHeld.1)))), ((cell_far (p := ⟨gb1342, _, none⟩) NB1345_1342.out _).trans (((cell_far (p := ⟨gb1342, _, none⟩) NB1345_1342.out _).trans (hHeld.2.1)))), ((cell_far (p := ⟨gb1342, _, none⟩) NB1347_1342.out _).trans (((cell_far (p := ⟨gb1342, _, none⟩) NB1347_1342.out _).trans (hHeld.2.2.1)))), ((cell_far (p := ⟨gb1342, _, none⟩) NB1347_1342.out _).trans (((cell_far (p := ⟨gb1342, _, none⟩) NB1347_1342.out _).trans (hHeld.2.2.2.1)))), ((cell_far (p := ⟨gb1342, _, none⟩) NB1346_1342.out _).trans (((cell_far (p := ⟨gb1342, _, none⟩) NB1346_1342.out _).trans (hHeld.2.2.2.2.1)))), ((cell_far (p := ⟨gb1342, _, none⟩) NB1346_1342.out _).trans (((cell_far (p := ⟨gb1342, _, none⟩) NB1346_1342.out _).trans (hHeld.2.2.2.2.2.1)))), ((cell_far (p := ⟨gb1342, _, none⟩) NB1348_1342.out _).trans (((cell_far (p := ⟨gb1342, _, none⟩) NB1348_1342.out _).trans (hHeld.2.2.2.2.2.2.1)))), ((cell_far (p := ⟨gb1342, _, none⟩) NB1348_1342.out _).trans (((cell_far (p := ⟨gb1342, _, none⟩) NB1348_1342.out _).trans (hHeld.2.2.2.2.2.2.2))))⟩ (fun hHeld => ?_)
              clear hK K
              refine pure_ (i := 10) (N := some 7) (v := ?_) (a' := ?_) #[true, true, true, true, true, true, true, true, true, true, true] rfl rfl (any_of HT_.out (by kernel_rfl)) (fun _ _ _ h => h) (Or.inl ⟨by rfl, ?_⟩) ?_ ?_
              rotate_left
              · intro w'
                go_simp
                with_reducible rfl
              rotate_left
              · simp only [Act.put, List.setIfInBounds_toArray, List.set_cons_zero, List.set_cons_succ, i64_w, i32_w]
                rfl
              refine done_ (done_of HT_.out (by kernel_rfl)) ?_
              try go_wp2
              refine bodyPost_ret (results_ct rfl _ _ gb1342 23 #[.int .i64 t1411, .int .i64 t1412] (0, 0) _ rfl (by (with_reducible repeat (first | refine blk_drewN ?_ _ | refine blk_drew ?_ | refine blk_alloc ?_ _)); refine blk_put (cs := #[.int .i64 t1411, .int .i64 0]) ?_ 1 _ rfl; (with_reducible repeat (first | refine blk_drewN ?_ _ | refine blk_drew ?_ | refine blk_alloc ?_ _)); refine blk_put (cs := #[.int .i64 0, .int .i64 0]) ?_ 0 _ rfl; (with_reducible repeat (first | refine blk_drewN ?_ _ | refine blk_drew ?_ | refine blk_alloc ?_ _)); exact BK1342.out) Tryd.underlying23 rfl (by kernel_rfl)) rfl ?_
              exact ⟨by first | rfl | (simp [errW_none, errW_some] <;> rfl) | (simp [*, errW_none, errW_some] <;> rfl), (q7_ HB.out GE1340.out GE1341.out GE1342.out GE1345.out GE1346.out GE1347.out GE1348.out)⟩
            · rw [if_neg c150] at H
              have c150b0 : (a0 == 2) = false := beq_eq_false_iff_ne.mpr c150
              have c150b1 : (a0 != 2) = true := bne_iff_ne.mpr c150
              by_cases c204 : a2_0 = 0
              · rw [if_pos c204] at H
                have c204b0 : (a2_0 == 0) = true := beq_iff_eq.mpr c204
                have c204b1 : (a2_0 != 0) = false := bne_eq_false_iff_eq.mpr c204
                clear c204
                simp only [Option.some.injEq, Prod.mk.injEq] at H
                obtain ⟨rfl, rfl, rfl⟩ := H
                go_wp2
                refine bodyPost_ret (results_ct rfl _ _ gb1342 23 #[.int .i64 0, .int .i64 0] (0, 0) _ rfl (by (with_reducible repeat (first | refine blk_drewN ?_ _ | refine blk_drew ?_ | refine blk_alloc ?_ _)); refine blk_put (cs := #[.int .i64 0, .int .i64 0]) ?_ 1 _ rfl; (with_reducible repeat (first | refine blk_drewN ?_ _ | refine blk_drew ?_ | refine blk_alloc ?_ _)); refine blk_put (cs := #[.int .i64 0, .int .i64 0]) ?_ 0 _ rfl; (with_reducible repeat (first | refine blk_drewN ?_ _ | refine blk_drew ?_ | refine blk_alloc ?_ _)); exact BK1342.out) Tryd.underlying23 rfl (by kernel_rfl)) rfl ?_
                exact ⟨by first | rfl | (simp [errW_none, errW_some] <;> rfl) | (simp [*, errW_none, errW_some] <;> rfl), (q7_ HB.out GE1340.out GE1341.out GE1342.out GE1345.out GE1346.out GE1347.out GE1348.out)⟩
              · rw [if_neg c204] at H
                have c204b0 : (a2_0 == 0) = false := beq_eq_false_iff_ne.mpr c204
                have c204b1 : (a2_0 != 0) = true := bne_iff_ne.mpr c204
                replace H := Option.bind_eq_some_iff.mp H
                obtain ⟨⟨t1414, t1415⟩, A2480, H⟩ := H
                replace H : ((merinoref01_Times.f kj3 t1353 t1354 t1357 t1358).bind fun bt1418 => ((merinoref01_Lowest.f kj3 t1414 t1415 bt1418.1 bt1418.2).bind fun bt1422 => (some (bt1422.1, bt1422.2.1, bt1422.2.2)))) = some (r1, r2, r3) := H
                have A248 := Aside0.mk A2480
                clear A2480
                replace H := Option.bind_eq_some_iff.mp H
                obtain ⟨⟨t1418, t1419⟩, A2490, H⟩ := H
                replace H : ((merinoref01_Lowest.f kj3 t1414 t1415 t1418 t1419).bind fun bt1422 => (some (bt1422.1, bt1422.2.1, bt1422.2.2))) = some (r1, r2, r3) := H
                have A249 := Aside0.mk A2490
                clear A2490
                replace H := Option.bind_eq_some_iff.mp H
                obtain ⟨⟨t1422, t1423, t1424⟩, A2500, H⟩ := H
                replace H : (some (t1422, t1423, t1424)) = some (r1, r2, r3) := H
                have A250 := Aside0.mk A2500
                clear A2500
                simp only [Option.some.injEq, Prod.mk.injEq] at H
                obtain ⟨rfl, rfl, rfl⟩ := H
                try go_wp2_with (fail)
                have n0_ := Aside0.mk (Kd.R_drew HO1352.out)
                have n1_ := Aside0.mk (Kd.R_drew HO1356.out)
                have n2_ := Aside0.mk (Kd.R_drew HO1360.out)
                have n3_ := Aside0.mk (Kd.R_drew HO1364.out)
                have n4_ := Aside0.mk (blk_drew BK1340.out)
                have n5_ := Aside0.mk (blk_drew BK1341.out)
                have n6_ := Aside0.mk (blk_drew BK1342.out)
                have n7_ := Aside0.mk (blk_drew BK1345.out)
                have n8_ := Aside0.mk (blk_drew BK1346.out)
                have n9_ := Aside0.mk (blk_drew BK1347.out)
                have n10_ := Aside0.mk (blk_drew BK1348.out)
                have n11_ := Aside0.mk (below_drew1 HB.out)
                clear HO1352
                clear HO1356
                clear HO1360
                clear HO1364
                clear BK1340
                clear BK1341
                clear BK1342
                clear BK1345
                clear BK1346
                clear BK1347
                clear BK1348
                clear HB
                have HO1352 := n0_
                have HO1356 := n1_
                have HO1360 := n2_
                have HO1364 := n3_
                have BK1340 := n4_
                have BK1341 := n5_
                have BK1342 := n6_
                have BK1345 := n7_
                have BK1346 := n8_
                have BK1347 := n9_
                have BK1348 := n10_
                have HB := n11_
                clear n0_ n1_ n2_ n3_ n4_ n5_ n6_ n7_ n8_ n9_ n10_ n11_
                refine start_ (n := 11) (S := fun w' => w'.cell? ⟨gb1345, 0, none⟩ = some (.bool t1349) ∧ w'.cell? ⟨gb1345, 1, none⟩ = some (.slice Ao64 t1350.length co64) ∧ w'.cell? ⟨gb1348, 0, none⟩ = some (.bool t1361) ∧ w'.cell? ⟨gb1348, 1, none⟩ = some (.slice Ao76 t1362.length co76) ∧ w'.cell? ⟨gb1346, 0, none⟩ = some (.bool t1353) ∧ w'.cell? ⟨gb1346, 1, none⟩ = some (.slice Ao69 t1354.length co69) ∧ w'.cell? ⟨gb1347, 0, none⟩ = some (.bool t1357) ∧ w'.cell? ⟨gb1347, 1, none⟩ = some (.slice Ao73 t1358.length co73)) (ds := []) #[false, false, false, false, false, false, false, false, false, false, false] (by kernel_rfl) rfl rfl ⟨(blk_cell BK1345.out 0).trans rfl, (blk_cell BK1345.out 1).trans rfl, (blk_cell BK1348.out 0).trans rfl, (blk_cell BK1348.out 1).trans rfl, (blk_cell BK1346.out 0).trans rfl, (blk_cell BK1346.out 1).trans rfl, (blk_cell BK1347.out 0).trans rfl, (blk_cell BK1347.out 1).trans rfl⟩ (fun hHeld => ?_); refine with_tabW merinoref01_Arith.tab13 merinoref01_Arith.bits13 (fun HT_ HW_ => ?_)
                generalize w77.drew = w294 at HO1352 HO1356 HO1360 HO1364 BK1340 BK1341 BK1342 BK1345 BK1346 BK1347 BK1348 HB hHeld ⊢
                refine take_ (i := 0) (N := some 79) (v := ?_) (a' := ?_) #[true, false, false, false, false, false, false, false, false, false, false] rfl rfl (take_ofW HT_.out HW_.out (by kernel_rfl)) (fun _ _ _ h => h) (Or.inl ⟨by rfl, ?_⟩) hHeld ?_ ?_
                rotate_left
                · rintro w' ⟨s0, s1, s2, s3, s4, s5, s6, s7⟩
                  go_simp
                  with_reducible rfl
                rotate_left
                · simp only [Act.put, List.setIfInBounds_toArray, List.set_cons_zero, List.set_cons_succ, i64_w, i32_w]
                  rfl
                refine take_ (i := 1) (N := some 80) (v := ?_) (a' := ?_) #[true, true, false, false, false, false, false, false, false, false, false] rfl rfl (take_ofW HT_.out HW_.out (by kernel_rfl)) (fun _ _ _ h => h) (Or.inl ⟨by rfl, ?_⟩) hHeld ?_ ?_
                rotate_left
                · rintro w' ⟨s0, s1, s2, s3, s4, s5, s6, s7⟩
                  go_simp
                  with_reducible rfl
                rotate_left
                · simp only [Act.put, List.setIfInBounds_toArray, List.set_cons_zero, List.set_cons_succ, i64_w, i32_w]
                  rfl
                refine take_ (i := 3) (N := some 82) (v := ?_) (a' := ?_) #[true, true, false, true, false, false, false, false, false, false, false] rfl rfl (take_ofW HT_.out HW_.out (by kernel_rfl)) (fun _ _ _ h => h) (Or.inl ⟨by rfl, ?_⟩) hHeld ?_ ?_
                rotate_left
                · rintro w' ⟨s0, s1, s2, s3, s4, s5, s6, s7⟩
                  go_simp
                  with_reducible rfl
                rotate_left
                · simp only [Act.put, List.setIfInBounds_toArray, List.set_cons_zero, List.set_cons_succ, i64_w, i32_w]
                  rfl
                refine take_ (i := 4) (N := some 83) (v := ?_) (a' := ?_) #[true, true, false, true, true, false, false, false, false, false, false] rfl rfl (take_ofW HT_.out HW_.out (by kernel_rfl)) (fun _ _ _ h => h) (Or.inl ⟨by rfl, ?_⟩) hHeld ?_ ?_
                rotate_left
                · rintro w' ⟨s0, s1, s2, s3, s4, s5, s6, s7⟩
                  go_simp
                  with_reducible rfl
                rotate_left
                · simp only [Act.put, List.setIfInBounds_toArray, List.set_cons_zero, List.set_cons_succ, i64_w, i32_w]
                  rfl
                refine one_ (i := 2) (N := some 81) #[true, true, true, true, true, false, false, false, false, false, false] rfl rfl (one_of HT_.out (by kernel_rfl)) (by decide) (fun K hK => ?_)
                refine goes_ Tryd.func22 (by kernel_rfl) rfl #[.agg #[.bool t1349, .slice Ao64 t1350.length co64], .agg #[.bool t1361, .slice Ao76 t1362.length co76]] (by rfl) rfl rfl qe_ ?_
                with_reducible refine (merinoref01_Times.calls kj3 t1349 _ _ t1350 t1361 _ _ t1362 t1414 t1415 _ ?side1 ?side2 ?side3 ?side4 A248.out).mono ?_
                (case side1 => exact qc_ (Kd.R_reads' HO1352.out).2.2)
                (case side2 => exact (Kd.R_reads' HO1352.out).2.1)
                (case side3 => exact qc_ (Kd.R_reads' HO1364.out).2.2)
                (case side4 => exact (Kd.R_reads' HO1364.out).2.1)
                rintro e w295 ⟨v1416, rfl, ho0, hb⟩
                refine ⟨_, rfl, ?_⟩
                have n0_ := Aside0.mk (Kd.R_elder' (qr_ HO1352.out) (Kd.R_base ho0) hb)
                have n1_ := Aside0.mk (Kd.R_elder' (qr_ HO1356.out) (Kd.R_base ho0) hb)
                have n2_ := Aside0.mk (Kd.R_elder' (qr_ HO1360.out) (Kd.R_base ho0) hb)
                have n3_ := Aside0.mk (Kd.R_elder' (qr_ HO1364.out) (Kd.R_base ho0) hb)
                have n4_ := Aside0.mk (Kd.R_lower (Kd.R_new' (Kd.R_new' (Kd.R_new' (Kd.R_new' ho0 (Kd.R_lt (qr_ HO1352.out))) (Kd.R_lt (qr_ HO1356.out))) (Kd.R_lt (qr_ HO1360.out))) (Kd.R_lt (qr_ HO1364.out))) (below_size (q7_ HB.out GE1340.out GE1341.out GE1342.out GE1345.out GE1346.out GE1347.out GE1348.out)))
                have n5_ := Aside0.mk (qk_ BK1340.out hb)
                have n6_ := Aside0.mk (qk_ BK1341.out hb)
                have n7_ := Aside0.mk (qk_ BK1342.out hb)
                have n8_ := Aside0.mk (qk_ BK1345.out hb)
                have n9_ := Aside0.mk (qk_ BK1346.out hb)
                have n10_ := Aside0.mk (qk_ BK1347.out hb)
                have n11_ := Aside0.mk (qk_ BK1348.out hb)
                have n12_ := Aside0.mk (below_step (q7_ HB.out GE1340.out GE1341.out GE1342.out GE1345.out GE1346.out GE1347.out GE1348.out) hb)
                clear HO1352
                clear HO1356
                clear HO1360
                clear HO1364
                clear BK1340
                clear BK1341
                clear BK1342
                clear BK1345
                clear BK1346
                clear BK1347
                clear BK1348
                clear HB
                have HO1352 := n0_
                have HO1356 := n1_
                have HO1360 := n2_
                have HO1364 := n3_
                have HO1417 := n4_
                have BK1340 := n5_
                have BK1341 := n6_
                have BK1342 := n7_
                have BK1345 := n8_
                have BK1346 := n9_
                have BK1347 := n10_
                have BK1348 := n11_
                have HB := n12_
                clear n0_ n1_ n2_ n3_ n4_ n5_ n6_ n7_ n8_ n9_ n10_ n11_ n12_
                (try clear hb)
                (try clear hb2)
                (try clear hk)
                (try clear hi)
                (try clear ho0)
                refine hK.out _ _ ⟨(blk_cell BK1345.out 0).trans rfl, (blk_cell BK1345.out 1).trans rfl, (blk_cell BK1348.out 0).trans rfl, (blk_cell BK1348.out 1).trans rfl, (blk_cell BK1346.out 0).trans rfl, (blk_cell BK1346.out 1).trans rfl, (blk_cell BK1347.out 0).trans rfl, (blk_cell BK1347.out 1).trans rfl⟩ (fun hHeld => ?_)
                clear hK K
                refine norm_ (a' := ?_) ?_ ?_
                rotate_left
                · show Act.put _ (some 81) _ = _
                  simp only [Act.put, List.setIfInBounds_toArray, List.set_cons_zero, List.set_cons_succ, i64_w, i32_w]
                  rfl
                refine one_ (i := 5) (N := some 84) #[true, true, true, true, true, true, false, false, false, false, false] rfl rfl (one_of HT_.out (by kernel_rfl)) (by decide) (fun K hK => ?_)
                refine goes_ Tryd.func22 (by kernel_rfl) rfl #[.agg #[.bool t1353, .slice Ao69 t1354.length co69], .agg #[.bool t1357, .slice Ao73 t1358.length co73]] (by rfl) rfl rfl qe_ ?_
                with_reducible refine (merinoref01_Times.calls kj3 t1353 _ _ t1354 t1357 _ _ t1358 t1418 t1419 _ ?side1 ?side2 ?side3 ?side4 A249.out).mono ?_
                (case side1 => exact qc_ (Kd.R_reads' HO1356.out).2.2)
                (case side2 => exact (Kd.R_reads' HO1356.out).2.1)
                (case side3 => exact qc_ (Kd.R_reads' HO1360.out).2.2)
                (case side4 => exact (Kd.R_reads' HO1360.out).2.1)
                rintro e w296 ⟨v1420, rfl, ho0, hb⟩
                refine ⟨_, rfl, ?_⟩
                have n0_ := Aside0.mk (Kd.R_elder' (qr_ HO1352.out) (Kd.R_base ho0) hb)
                have n1_ := Aside0.mk (Kd.R_elder' (qr_ HO1356.out) (Kd.R_base ho0) hb)
                have n2_ := Aside0.mk (Kd.R_elder' (qr_ HO1360.out) (Kd.R_base ho0) hb)
                have n3_ := Aside0.mk (Kd.R_elder' (qr_ HO1364.out) (Kd.R_base ho0) hb)
                have n4_ := Aside0.mk (Kd.R_elder' (qr_ HO1417.out) (Kd.R_base ho0) hb)
                have n5_ := Aside0.mk (Kd.R_lower (Kd.R_new' (Kd.R_new' (Kd.R_new' (Kd.R_new' (Kd.R_new' ho0 (Kd.R_lt (qr_ HO1352.out))) (Kd.R_lt (qr_ HO1356.out))) (Kd.R_lt (qr_ HO1360.out))) (Kd.R_lt (qr_ HO1364.out))) (Kd.R_lt (qr_ HO1417.out))) (below_size (q7_ HB.out GE1340.out GE1341.out GE1342.out GE1345.out GE1346.out GE1347.out GE1348.out)))
                have n6_ := Aside0.mk (qk_ BK1340.out hb)
                have n7_ := Aside0.mk (qk_ BK1341.out hb)
                have n8_ := Aside0.mk (qk_ BK1342.out hb)
                have n9_ := Aside0.mk (qk_ BK1345.out hb)
                have n10_ := Aside0.mk (qk_ BK1346.out hb)
                have n11_ := Aside0.mk (qk_ BK1347.out hb)
                have n12_ := Aside0.mk (qk_ BK1348.out hb)
                have n13_ := Aside0.mk (below_step (q7_ HB.out GE1340.out GE1341.out GE1342.out GE1345.out GE1346.out GE1347.out GE1348.out) hb)
                clear HO1352
                clear HO1356
                clear HO1360
                clear HO1364
                clear HO1417
                clear BK1340
                clear BK1341
                clear BK1342
                clear BK1345
                clear BK1346
                clear BK1347
                clear BK1348
                clear HB
                have HO1352 := n0_
                have HO1356 := n1_
                have HO1360 := n2_
                have HO1364 := n3_
                have HO1417 := n4_
                have HO1421 := n5_
                have BK1340 := n6_
                have BK1341 := n7_
                have BK1342 := n8_
                have BK1345 := n9_
                have BK1346 := n10_
                have BK1347 := n11_
                have BK1348 := n12_
                have HB := n13_
                clear n0_ n1_ n2_ n3_ n4_ n5_ n6_ n7_ n8_ n9_ n10_ n11_ n12_ n13_
                (try clear hb)
                (try clear hb2)
                (try clear hk)
                (try clear hi)
                (try clear ho0)
                obtain ⟨Ao297, co297, eo297⟩ := Kd.R_slice HO1417.out
                (first | subst eo297 | (injection eo297 with f1_ f2_ f3_; have f4_ := f1_.symm; have f5_ := f3_.symm; clear f1_ f2_ f3_; subst f4_; subst f5_))
                obtain ⟨Ao298, co298, eo298⟩ := Kd.R_slice HO1421.out
                (first | subst eo298 | (injection eo298 with f1_ f2_ f3_; have f4_ := f1_.symm; have f5_ := f3_.symm; clear f1_ f2_ f3_; subst f4_; subst f5_))
                refine hK.out _ _ ⟨(blk_cell BK1345.out 0).trans rfl, (blk_cell BK1345.out 1).trans rfl, (blk_cell BK1348.out 0).trans rfl, (blk_cell BK1348.out 1).trans rfl, (blk_cell BK1346.out 0).trans rfl, (blk_cell BK1346.out 1).trans rfl, (blk_cell BK1347.out 0).trans rfl, (blk_cell BK1347.out 1).trans rfl⟩ (fun hHeld => ?_)
                clear hK K
                refine norm_ (a' := ?_) ?_ ?_
                rotate_left
                · show Act.put _ (some 84) _ = _
                  simp only [Act.put, List.setIfInBounds_toArray, List.set_cons_zero, List.set_cons_succ, i64_w, i32_w]
                  rfl
                refine one_ (i := 6) (N := some 85) #[true, true, true, true, true, true, true, false, false, false, false] rfl rfl (one_of HT_.out (by kernel_rfl)) (by decide) (fun K hK => ?_)
                refine goes_ Tryd.func80 (by kernel_rfl) rfl #[.agg #[.bool t1414, .slice Ao297 t1415.length co297], .agg #[.bool t1418, .slice Ao298 t1419.length co298]] (by rfl) rfl rfl qe_ ?_
                with_reducible refine (merinoref01_Lowest.calls kj3 t1414 _ _ t1415 t1418 _ _ t1419 t1422 t1423 t1424 _ ?side1 ?side2 ?side3 ?side4 A250.out).mono ?_
                (case side1 => exact qc_ (Kd.R_reads' HO1417.out).2.2)
                (case side2 => exact (Kd.R_reads' HO1417.out).2.1)
                (case side3 => exact qc_ (Kd.R_reads' HO1421.out).2.2)
                (case side4 => exact (Kd.R_reads' HO1421.out).2.1)
                rintro e w299 ⟨rfl, hb⟩
                refine ⟨_, rfl, ?_⟩
                have n0_ := Aside0.mk (Kd.R_below (qr_ HO1352.out) hb)
                have n1_ := Aside0.mk (Kd.R_below (qr_ HO1356.out) hb)
                have n2_ := Aside0.mk (Kd.R_below (qr_ HO1360.out) hb)
                have n3_ := Aside0.mk (Kd.R_below (qr_ HO1364.out) hb)
                have n4_ := Aside0.mk (Kd.R_below (qr_ HO1417.out) hb)
                have n5_ := Aside0.mk (Kd.R_below (qr_ HO1421.out) hb)
                have n6_ := Aside0.mk (qk_ BK1340.out hb)
                have n7_ := Aside0.mk (qk_ BK1341.out hb)
                have n8_ := Aside0.mk (qk_ BK1342.out hb)
                have n9_ := Aside0.mk (qk_ BK1345.out hb)
                have n10_ := Aside0.mk (qk_ BK1346.out hb)
                have n11_ := Aside0.mk (qk_ BK1347.out hb)
                have n12_ := Aside0.mk (qk_ BK1348.out hb)
                have n13_ := Aside0.mk (below_step (q7_ HB.out GE1340.out GE1341.out GE1342.out GE1345.out GE1346.out GE1347.out GE1348.out) hb)
                clear HO1352
                clear HO1356
                clear HO1360
                clear HO1364
                clear HO1417
                clear HO1421
                clear BK1340
                clear BK1341
                clear BK1342
                clear BK1345
                clear BK1346
                clear BK1347
                clear BK1348
                clear HB
                have HO1352 := n0_
                have HO1356 := n1_
                have HO1360 := n2_
                have HO1364 := n3_
                have HO1417 := n4_
                have HO1421 := n5_
                have BK1340 := n6_
                have BK1341 := n7_
                have BK1342 := n8_
                have BK1345 := n9_
                have BK1346 := n10_
                have BK1347 := n11_
                have BK1348 := n12_
                have HB := n13_
                clear n0_ n1_ n2_ n3_ n4_ n5_ n6_ n7_ n8_ n9_ n10_ n11_ n12_ n13_
                (try clear hb)
                (try clear hb2)
                (try clear hk)
                (try clear hi)
                refine hK.out _ _ ⟨(blk_cell BK1345.out 0).trans rfl, (blk_cell BK1345.out 1).trans rfl, (blk_cell BK1348.out 0).trans rfl, (blk_cell BK1348.out 1).trans rfl, (blk_cell BK1346.out 0).trans rfl, (blk_cell BK1346.out 1).trans rfl, (blk_cell BK1347.out 0).trans rfl, (blk_cell BK1347.out 1).trans rfl⟩ (fun hHeld => ?_)
                clear hK K
                refine norm_ (a' := ?_) ?_ ?_
                rotate_left
                · show Act.put _ (some 85) _ = _
                  simp only [Act.put, List.setIfInBounds_toArray, List.set_cons_zero, List.set_cons_succ, i64_w, i32_w]
                  rfl
                refine pure_ (i := 7) (N := some 86) (v := ?_) (a' := ?_) #[true, true, true, true, true, true, true, true, false, false, false] rfl rfl (any_of HT_.out (by kernel_rfl)) (fun _ _ _ h => h) (Or.inl ⟨by rfl, ?_⟩) ?_ ?_
                rotate_left
                · intro w'
                  go_simp
                  with_reducible rfl
                rotate_left
                · simp only [Act.put, List.setIfInBounds_toArray, List.set_cons_zero, List.set_cons_succ, i64_w, i32_w]
                  rfl
                refine pure_ (i := 8) (N := some 87) (v := ?_) (a' := ?_) #[true, true, true, true, true, true, true, true, true, false, false] rfl rfl (any_of HT_.out (by kernel_rfl)) (fun _ _ _ h => h) (Or.inl ⟨by rfl, ?_⟩) ?_ ?_
                rotate_left
                · intro w'
                  go_simp
                  with_reducible rfl
                rotate_left
                · simp only [Act.put, List.setIfInBounds_toArray, List.set_cons_zero, List.set_cons_succ, i64_w, i32_w]
                  rfl
                refine one_ (i := 9) (N := none) #[true, true, true, true, true, true, true, true, true, true, false] rfl rfl (one_of HT_.out (by kernel_rfl)) (by decide) (fun K hK => ?_)
                have hs300 : w299.cell? ⟨gb1342, 0, none⟩ = some (.int .i64 0) := (blk_cell BK1342.out 0).trans rfl
                have hfs300 := blk_frozen BK1342.out 0
                have hns300_0 := NB1340_1342.out
                have hns300_1 := NB1341_1342.out
                have hns300_3 := NB1345_1342.out
                have hns300_4 := NB1346_1342.out
                have hns300_5 := NB1347_1342.out
                have hns300_6 := NB1348_1342.out
                have hms300_0 := NB1342_1340.out
                have hms300_1 := NB1342_1341.out
                have hms300_3 := NB1342_1345.out
                have hms300_4 := NB1342_1346.out
                have hms300_5 := NB1342_1347.out
                have hms300_6 := NB1342_1348.out
                have hs301 : w299.cell? ⟨gb1342, 1, none⟩ = some (.int .i64 0) := (blk_cell BK1342.out 1).trans rfl
                have hfs301 := blk_frozen BK1342.out 1
                have hns301_0 := NB1340_1342.out
                have hns301_1 := NB1341_1342.out
                have hns301_3 := NB1345_1342.out
                have hns301_4 := NB1346_1342.out
                have hns301_5 := NB1347_1342.out
                have hns301_6 := NB1348_1342.out
                have hms301_0 := NB1342_1340.out
                have hms301_1 := NB1342_1341.out
                have hms301_3 := NB1342_1345.out
                have hms301_4 := NB1342_1346.out
                have hms301_5 := NB1342_1347.out
                have hms301_6 := NB1342_1348.out
                refine skip_ (w1 := ?_) (by rfl) rfl ?_ ?_
                rotate_left
                · go_simp
                  rfl
                refine hK.out _ _ ⟨((cell_far (p := ⟨gb1342, _, none⟩) NB1345_1342.out _).trans (((cell_far (p := ⟨gb1342, _, none⟩) NB1345_1342.out _).trans (hHeld.1)))), ((cell_far (p := ⟨gb1342, _, none⟩) NB1345_1342.out _).trans (((cell_far (p := ⟨gb1342, _, none⟩) NB1345_1342.out _).trans (hHeld.2.1)))), ((cell_far (p := ⟨gb1342, _, none⟩) NB1348_1342.out _).trans (((cell_far (p := ⟨gb1342, _, none⟩) NB1348_1342.out _).trans (hHeld.2.2.1)))), ((cell_far (p := ⟨gb1342, _, none⟩) NB1348_1342.out _).trans (((cell_far (p := ⟨gb1342, _, none⟩) NB1348_1342.out _).trans (hHeld.2.2.2.1)))), ((cell_far (p := ⟨gb1342, _, none⟩) NB1346_1342.out _).trans (((cell_far (p := ⟨gb1342, _, none⟩) NB1346_1342.out _).trans (hHeld.2.2.2.2.1)))), ((cell_far (p := ⟨gb1342, _, none⟩) NB1346_1342.out _).trans (((cell_far (p := ⟨gb1342, _, none⟩) NB1346_1342.out _).trans (hHeld.2.2.2.2.2.1)))), ((cell_far (p := ⟨gb1342, _, none⟩) NB1347_1342.out _).trans (((cell_far (p := ⟨gb1342, _, none⟩) NB1347_1342.out _).trans (hHeld.2.2.2.2.2.2.1)))), ((cell_far (p := ⟨gb1342, _, none⟩) NB1347_1342.out _).trans (((cell_far (p := ⟨gb1342, _, none⟩) NB1347_1342.out _).trans (hHeld.2.2.2.2.2.2.2))))⟩ (fun hHeld => ?_)
                clear hK K
                refine pure_ (i := 10) (N := some 7) (v := ?_) (a' := ?_) #[true, true, true, true, true, true, true, true, true, true, true] rfl rfl (any_of HT_.out (by kernel_rfl)) (fun _ _ _ h => h) (Or.inl ⟨by rfl, ?_⟩) ?_ ?_
                rotate_left
                · intro w'
                  go_simp
                  with_reducible rfl
                rotate_left
                · simp only [Act.put, List.setIfInBounds_toArray, List.set_cons_zero, List.set_cons_succ, i64_w, i32_w]
                  rfl
                refine done_ (done_of HT_.out (by kernel_rfl)) ?_
                try go_wp2
                refine bodyPost_ret (results_ct rfl _ _ gb1342 23 #[.int .i64 t1422, .int .i64 t1423] (0, 0) _ rfl (by (with_reducible repeat (first | refine blk_drewN ?_ _ | refine blk_drew ?_ | refine blk_alloc ?_ _)); refine blk_put (cs := #[.int .i64 t1422, .int .i64 0]) ?_ 1 _ rfl; (with_reducible repeat (first | refine blk_drewN ?_ _ | refine blk_drew ?_ | refine blk_alloc ?_ _)); refine blk_put (cs := #[.int .i64 0, .int .i64 0]) ?_ 0 _ rfl; (with_reducible repeat (first | refine blk_drewN ?_ _ | refine blk_drew ?_ | refine blk_alloc ?_ _)); exact BK1342.out) Tryd.underlying23 rfl (by kernel_rfl)) rfl ?_
                exact ⟨by first | rfl | (simp [errW_none, errW_some] <;> rfl) | (simp [*, errW_none, errW_some] <;> rfl), (q7_ HB.out GE1340.out GE1341.out GE1342.out GE1345.out GE1346.out GE1347.out GE1348.out)⟩
end Go.Proofs.YtdjnneflpkllmaaDoor.Q

namespace Go.Proofs.YtdjnneflpkllmaaDoor.Q
open Go.RowKit Go.Proofs.YtdjnneflpkllmaaDoorW.PrintWords Go.Proofs.YtdjnneflpkllmaaDoorW.PrintLast Go.Proofs.YtdjnneflpkllmaaDoorW.PrintMore
attribute [local go_sem] max2_int min2_int max_two min_two max_three min_three max_four min_four   -- for this text's walks alone
set_option linter.unusedVariables false
set_option linter.unusedSimpArgs false
attribute [local go_sem high] eqA23
set_option maxHeartbeats 8000000 in
set_option maxRecDepth 100000 in
theorem merinolaw01_NumArith.calls (k : Nat) (a0_0 : Int) (a0_1 : Int) (a1_0 : Int) (a1_1 : Int) (r : Bool) (w : World) (h : merinolaw01_NumArith.f k a0_0 a0_1 a1_0 a1_1 = some r) :
    Calls Tryd.prog 17 #[.agg #[.int .i64 a0_0, .int .i64 a0_1], .agg #[.int .i64 a1_0, .int .i64 a1_1]] w fun e w' => e = .returned (.bool r) ∧ Below w.heap.size w w' := by
  have hu23 := Tryd.underlying23
  have HB := Aside0.mk (Below.refl w.heap.size w)
  have H : (merinolaw01_NumArith.l0 k 0 a0_0 a0_1 a1_0 a1_1) = some r := h
  clear h
  have H' := Aside0.mk H
  clear H
  go_enter Tryd.func17, Tryd.ntmps17
  go_wp2_with (first | ((with_reducible refine gate_dst (N := 2) rfl ?_); refine qx_ 2 #[.int .i64 a0_0, .int .i64 a0_1] 23 ?hr ?_; (case hr => first | (go_simp; done) | (go_simp; rfl)); intro gb1348 hg w3 hbox hb; have n0_ := Aside0.mk (below_step (q0_ HB.out) hb); have n1_ := Aside0.mk (hbox); have n2_ := Aside0.mk (qs_ hg (q0_ HB.out) : w.heap.size ≤ gb1348); have n3_ := n2_; clear HB; have HB := n0_; have BK1348 := n1_; have GW1348 := n2_; have GE1348 := n3_; clear n0_ n1_ n2_ n3_; clear hb hbox hg) | ((with_reducible refine gate_dst (N := 3) rfl ?_); refine qx_ 3 #[.int .i64 a1_0, .int .i64 a1_1] 23 ?hr ?_; (case hr => first | (go_simp; done) | (go_simp; rfl)); intro gb1349 hg w4 hbox hb; have n0_ := Aside0.mk (qk_ BK1348.out hb); have n1_ := Aside0.mk (below_step (q1_ HB.out GE1348.out) hb); have n2_ := Aside0.mk (hbox); have n3_ := Aside0.mk (qs_ hg (q1_ HB.out GE1348.out) : w.heap.size ≤ gb1349); have n4_ := n3_; have n5_ := Aside0.mk (qn_ hg BK1348.out); have n6_ := Aside0.mk (Ne.symm (qn_ hg BK1348.out)); clear BK1348; clear HB; have BK1348 := n0_; have HB := n1_; have BK1349 := n2_; have GW1349 := n3_; have GE1349 := n4_; have NB1348_1349 := n5_; have NB1349_1348 := n6_; clear n0_ n1_ n2_ n3_ n4_ n5_ n6_; clear hb hbox hg))
  go_loopg [5] k (fun kq v5 w' => ∃ (x5_1 : Int), v5 = .int .i64 x5_1 ∧ Aside0 (merinolaw01_NumArith.l0 kq x5_1 a0_0 a0_1 a1_0 a1_1 = some r) ∧ Aside0 (kq ≤ k) ∧ Aside0 (w'.heap[gb1348]? = some (.cells #[.int .i64 a0_0, .int .i64 a0_1] 23 (0, 0))) ∧ Aside0 (w'.heap[gb1349]? = some (.cells #[.int .i64 a1_0, .int .i64 a1_1] 23 (0, 0))) ∧ Aside0 (Below w.heap.size w w'))
  case atStart => exact ⟨(0), (by first | rfl | (simp; done) | (simp [*]; done)), H', ⟨Nat.le_refl _⟩, ⟨by (with_reducible repeat (first | refine blk_drewN ?_ _ | refine blk_drew ?_ | refine blk_alloc ?_ _)); exact BK1348.out⟩, ⟨by (with_reducible repeat (first | refine blk_drewN ?_ _ | refine blk_drew ?_ | refine blk_alloc ?_ _)); exact BK1349.out⟩, ⟨(q2_ HB.out GE1348.out GE1349.out)⟩⟩
  case round =>
    clear H'
    try clear c1
    try clear p2
    obtain ⟨x5_1, rfl, HA, HK1, BK1348, BK1349, HB⟩ := hrel
    cases gk with
    | zero => exact absurd HA.out (by simp [merinolaw01_NumArith.l0])
    | succ k1 =>
      have H := HA.out
      clear HA
      simp only [merinolaw01_NumArith.l0] at H
      by_cases c5 : x5_1 ≤ 3
      · rw [if_pos c5] at H
        have c5b0 : decide (x5_1 ≤ 3) = true := decide_eq_true c5
        clear c5
        replace H := Option.bind_eq_some_iff.mp H
        obtain ⟨⟨t1350, t1351, t1352⟩, A60, H⟩ := H
        replace H : ((merinoref01_Arith.f k1 x5_1 a0_0 a0_1 a1_0 a1_1).bind fun bt1354 => (if (!(t1350 == bt1354.1) || (!(t1351 == bt1354.2.1))) = true then (none) else (if t1352 = bt1354.2.2 then (merinolaw01_NumArith.l0 k1 (wrap64 (x5_1 + 1)) a0_0 a0_1 a1_0 a1_1) else (none)))) = some r := H
        have A6 := Aside0.mk A60
        clear A60
        replace H := Option.bind_eq_some_iff.mp H
        obtain ⟨⟨t1354, t1355, t1356⟩, A70, H⟩ := H
        replace H : (if (!(t1350 == t1354) || (!(t1351 == t1355))) = true then (none) else (if t1352 = t1356 then (merinolaw01_NumArith.l0 k1 (wrap64 (x5_1 + 1)) a0_0 a0_1 a1_0 a1_1) else (none))) = some r := H
        have A7 := Aside0.mk A70
        clear A70
        by_cases c8 : (!(t1350 == t1354) || (!(t1351 == t1355))) = true
        · rw [if_pos c8] at H
          exact absurd H (by simp)
        · rw [if_neg c8] at H
          have c8b0 : (!(t1350 == t1354) || (!(t1351 == t1355))) = false := by simpa using c8
          clear c8
          by_cases c9 : t1352 = t1356
          · rw [if_pos c9] at H
            have c9b0 : (t1352 == t1356) = true := beq_iff_eq.mpr c9
            have c9b1 : (t1352 != t1356) = false := bne_eq_false_iff_eq.mpr c9
            clear c9
            have H' := Aside0.mk H
            clear H
            have hnb10 := NB1348_1349.out
            have hnc10 := NB1349_1348.out
            have hcz11_0 : wr.cell? ⟨gb1348, 0, none⟩ = some (.int .i64 a0_0) := (blk_cell BK1348.out 0).trans rfl
            have hcz11_1 : wr.cell? ⟨gb1348, 1, none⟩ = some (.int .i64 a0_1) := (blk_cell BK1348.out 1).trans rfl
            have hfz11_0 := blk_frozen BK1348.out 0
            have hfz11_1 := blk_frozen BK1348.out 1
            have hcz12_0 : wr.cell? ⟨gb1349, 0, none⟩ = some (.int .i64 a1_0) := (blk_cell BK1349.out 0).trans rfl
            have hcz12_1 : wr.cell? ⟨gb1349, 1, none⟩ = some (.int .i64 a1_1) := (blk_cell BK1349.out 1).trans rfl
            have hfz12_0 := blk_frozen BK1349.out 0
            have hfz12_1 := blk_frozen BK1349.out 1
            go_wp2_with (first | ((with_reducible refine gate_callee (f := 63) rfl ?_); refine goesL_ (some 26) rfl rfl Tryd.func63 (by kernel_rfl) rfl #[.int .i64 x5_1, .agg #[.int .i64 a0_0, .int .i64 a0_1], .agg #[.int .i64 a1_0, .int .i64 a1_1]] rfl qe_ ?_; (with_reducible refine (merinolaw01_arith.calls k1 x5_1 a0_0 a0_1 a1_0 a1_1 t1350 t1351 t1352 _ A6.out).mono ?_); rintro e w13 ⟨rfl, hb⟩; refine ⟨_, rfl, ?_⟩; have n0_ := Aside0.mk (qk_ BK1348.out hb); have n1_ := Aside0.mk (qk_ BK1349.out hb); have n2_ := Aside0.mk (below_step (q2_ HB.out GE1348.out GE1349.out) hb); clear BK1348; clear BK1349; clear HB; have BK1348 := n0_; have BK1349 := n1_; have HB := n2_; clear n0_ n1_ n2_; (try clear hb); (try clear hb2); (try clear hk); (try clear hi)) | ((with_reducible refine gate_dst (N := 6) rfl ?_); refine qx_ 6 #[.int .i64 0, .int .i64 0] 23 ?hr ?_; (case hr => first | (go_simp; done) | (go_simp; rfl)); intro gb1353 hg w14 hbox hb; have n0_ := Aside0.mk (qk_ BK1348.out hb); have n1_ := Aside0.mk (qk_ BK1349.out hb); have n2_ := Aside0.mk (below_step (q2_ HB.out GE1348.out GE1349.out) hb); have n3_ := Aside0.mk (hbox); have n4_ := Aside0.mk (qs_ hg (q2_ HB.out GE1348.out GE1349.out) : w.heap.size ≤ gb1353); have n5_ := n4_; have n6_ := Aside0.mk (qn_ hg BK1348.out); have n7_ := Aside0.mk (Ne.symm (qn_ hg BK1348.out)); have n8_ := Aside0.mk (qn_ hg BK1349.out); have n9_ := Aside0.mk (Ne.symm (qn_ hg BK1349.out)); clear BK1348; clear BK1349; clear HB; have BK1348 := n0_; have BK1349 := n1_; have HB := n2_; have BK1353 := n3_; have GW1353 := n4_; have GE1353 := n5_; have NB1348_1353 := n6_; have NB1353_1348 := n7_; have NB1349_1353 := n8_; have NB1353_1349 := n9_; clear n0_ n1_ n2_ n3_ n4_ n5_ n6_ n7_ n8_ n9_; clear hb hbox hg; have hnb15 := NB1353_1348.out; have hnc15 := NB1348_1353.out; have hnb16 := NB1353_1349.out; have hnc16 := NB1349_1353.out; have hcz17_0 : w14.cell? ⟨gb1353, 0, none⟩ = some (.int .i64 0) := (blk_cell BK1353.out 0).trans rfl; have hcz17_1 : w14.cell? ⟨gb1353, 1, none⟩ = some (.int .i64 0) := (blk_cell BK1353.out 1).trans rfl; have hfz17_0 := blk_frozen BK1353.out 0; have hfz17_1 := blk_frozen BK1353.out 1; have hcz18_0 : w14.cell? ⟨gb1348, 0, none⟩ = some (.int .i64 a0_0) := (blk_cell BK1348.out 0).trans rfl; have hcz18_1 : w14.cell? ⟨gb1348, 1, none⟩ = some (.int .i64 a0_1) := (blk_cell BK1348.out 1).trans rfl; have hfz18_0 := blk_frozen BK1348.out 0; have hfz18_1 := blk_frozen BK1348.out 1; have hcz19_0 : w14.cell? ⟨gb1349, 0, none⟩ = some (.int .i64 a1_0) := (blk_cell BK1349.out 0).trans rfl; have hcz19_1 : w14.cell? ⟨gb1349, 1, none⟩ = some (.int .i64 a1_1) := (blk_cell BK1349.out 1).trans rfl; have hfz19_0 := blk_frozen BK1349.out 0; have hfz19_1 := blk_frozen BK1349.out 1) | ((with_reducible refine gate_callee (f := 64) rfl ?_); refine goesL_ (some 33) rfl rfl Tryd.func64 (by kernel_rfl) rfl #[.int .i64 x5_1, .agg #[.int .i64 a0_0, .int .i64 a0_1], .agg #[.int .i64 a1_0, .int .i64 a1_1]] rfl qe_ ?_; (with_reducible refine (merinoref01_Arith.calls k1 x5_1 a0_0 a0_1 a1_0 a1_1 t1354 t1355 t1356 _ A7.out).mono ?_); rintro e w20 ⟨rfl, hb⟩; refine ⟨_, rfl, ?_⟩; have n0_ := Aside0.mk (blk_below (g := gb1348) (o := .cells #[.int .i64 a0_0, .int .i64 a0_1] 23 (0, 0)) (by (with_reducible repeat (first | refine blk_drewN ?_ _ | refine blk_drew ?_ | refine blk_alloc ?_ _)); refine blk_far ?_ NB1348_1353.out _; (with_reducible repeat (first | refine blk_drewN ?_ _ | refine blk_drew ?_ | refine blk_alloc ?_ _)); refine blk_far ?_ NB1348_1353.out _; (with_reducible repeat (first | refine blk_drewN ?_ _ | refine blk_drew ?_ | refine blk_alloc ?_ _)); exact BK1348.out) hb); have n1_ := Aside0.mk (blk_below (g := gb1349) (o := .cells #[.int .i64 a1_0, .int .i64 a1_1] 23 (0, 0)) (by (with_reducible repeat (first | refine blk_drewN ?_ _ | refine blk_drew ?_ | refine blk_alloc ?_ _)); refine blk_far ?_ NB1349_1353.out _; (with_reducible repeat (first | refine blk_drewN ?_ _ | refine blk_drew ?_ | refine blk_alloc ?_ _)); refine blk_far ?_ NB1349_1353.out _; (with_reducible repeat (first | refine blk_drewN ?_ _ | refine blk_drew ?_ | refine blk_alloc ?_ _)); exact BK1349.out) hb); have n2_ := Aside0.mk (blk_below (g := gb1353) (o := .cells #[.int .i64 t1350, .int .i64 t1351] 23 (0, 0)) (by (with_reducible repeat (first | refine blk_drewN ?_ _ | refine blk_drew ?_ | refine blk_alloc ?_ _)); refine blk_put (cs := #[.int .i64 t1350, .int .i64 0]) ?_ 1 _ rfl; (with_reducible repeat (first | refine blk_drewN ?_ _ | refine blk_drew ?_ | refine blk_alloc ?_ _)); refine blk_put (cs := #[.int .i64 0, .int .i64 0]) ?_ 0 _ rfl; (with_reducible repeat (first | refine blk_drewN ?_ _ | refine blk_drew ?_ | refine blk_alloc ?_ _)); exact BK1353.out) hb); have n3_ := Aside0.mk (below_step (q3_ HB.out GE1348.out GE1349.out GE1353.out) hb); clear BK1348; clear BK1349; clear BK1353; clear HB; have BK1348 := n0_; have BK1349 := n1_; have BK1353 := n2_; have HB := n3_; clear n0_ n1_ n2_ n3_; (try clear hb); (try clear hb2); (try clear hk); (try clear hi)) | ((with_reducible refine gate_dst (N := 8) rfl ?_); refine qx_ 8 #[.int .i64 0, .int .i64 0] 23 ?hr ?_; (case hr => first | (go_simp; done) | (go_simp; rfl)); intro gb1357 hg w21 hbox hb; have n0_ := Aside0.mk (qk_ BK1348.out hb); have n1_ := Aside0.mk (qk_ BK1349.out hb); have n2_ := Aside0.mk (qk_ BK1353.out hb); have n3_ := Aside0.mk (below_step (q3_ HB.out GE1348.out GE1349.out GE1353.out) hb); have n4_ := Aside0.mk (hbox); have n5_ := Aside0.mk (qs_ hg (q3_ HB.out GE1348.out GE1349.out GE1353.out) : w.heap.size ≤ gb1357); have n6_ := n5_; have n7_ := Aside0.mk (qn_ hg BK1348.out); have n8_ := Aside0.mk (Ne.symm (qn_ hg BK1348.out)); have n9_ := Aside0.mk (qn_ hg BK1349.out); have n10_ := Aside0.mk (Ne.symm (qn_ hg BK1349.out)); have n11_ := Aside0.mk (qn_ hg BK1353.out); have n12_ := Aside0.mk (Ne.symm (qn_ hg BK1353.out)); clear BK1348; clear BK1349; clear BK1353; clear HB; have BK1348 := n0_; have BK1349 := n1_; have BK1353 := n2_; have HB := n3_; have BK1357 := n4_; have GW1357 := n5_; have GE1357 := n6_; have NB1348_1357 := n7_; have NB1357_1348 := n8_; have NB1349_1357 := n9_; have NB1357_1349 := n10_; have NB1353_1357 := n11_; have NB1357_1353 := n12_; clear n0_ n1_ n2_ n3_ n4_ n5_ n6_ n7_ n8_ n9_ n10_ n11_ n12_; clear hb hbox hg; have hnb22 := NB1357_1348.out; have hnc22 := NB1348_1357.out; have hnb23 := NB1357_1349.out; have hnc23 := NB1349_1357.out; have hnb24 := NB1357_1353.out; have hnc24 := NB1353_1357.out; have hcz25_0 : w21.cell? ⟨gb1357, 0, none⟩ = some (.int .i64 0) := (blk_cell BK1357.out 0).trans rfl; have hcz25_1 : w21.cell? ⟨gb1357, 1, none⟩ = some (.int .i64 0) := (blk_cell BK1357.out 1).trans rfl; have hfz25_0 := blk_frozen BK1357.out 0; have hfz25_1 := blk_frozen BK1357.out 1; have hcz26_0 : w21.cell? ⟨gb1353, 0, none⟩ = some (.int .i64 t1350) := (blk_cell BK1353.out 0).trans rfl; have hcz26_1 : w21.cell? ⟨gb1353, 1, none⟩ = some (.int .i64 t1351) := (blk_cell BK1353.out 1).trans rfl; have hfz26_0 := blk_frozen BK1353.out 0; have hfz26_1 := blk_frozen BK1353.out 1))
            go_roundg k1
            case measure => have := HK1.out; omega
            case rel => exact ⟨(wrap64 (x5_1 + 1)), (by first | rfl | (simp; done) | (simp [*]; done)), H', ⟨by have := HK1.out; omega⟩, ⟨by (with_reducible repeat (first | refine blk_drewN ?_ _ | refine blk_drew ?_ | refine blk_alloc ?_ _)); refine blk_far ?_ NB1348_1357.out _; (with_reducible repeat (first | refine blk_drewN ?_ _ | refine blk_drew ?_ | refine blk_alloc ?_ _)); refine blk_far ?_ NB1348_1357.out _; (with_reducible repeat (first | refine blk_drewN ?_ _ | refine blk_drew ?_ | refine blk_alloc ?_ _)); exact BK1348.out⟩, ⟨by (with_reducible repeat (first | refine blk_drewN ?_ _ | refine blk_drew ?_ | refine blk_alloc ?_ _)); refine blk_far ?_ NB1349_1357.out _; (with_reducible repeat (first | refine blk_drewN ?_ _ | refine blk_drew ?_ | refine blk_alloc ?_ _)); refine blk_far ?_ NB1349_1357.out _; (with_reducible repeat (first | refine blk_drewN ?_ _ | refine blk_drew ?_ | refine blk_alloc ?_ _)); exact BK1349.out⟩, ⟨(q4_ HB.out GE1348.out GE1349.out GE1353.out GE1357.out)⟩⟩
          · rw [if_neg c9] at H
            exact absurd H (by simp)
      · rw [if_neg c5] at H
        have c5b0 : decide (x5_1 ≤ 3) = false := decide_eq_false c5
        clear c5
        replace H := Option.bind_eq_some_iff.mp H
        obtain ⟨⟨t1358, t1359, t1360⟩, A270, H⟩ := H
        replace H : ((merinoref01_Opposite.f k1 a0_0 a0_1).bind fun bt1362 => ((num_Cmp.f k1 a0_0 a0_1 a1_0 a1_1).bind fun bt1366 => ((merinoref01_Cmp.f k1 a0_0 a0_1 a1_0 a1_1).bind fun bt1368 => (if (t1358 == bt1362.1 && (t1359 == bt1362.2.1)) = true then (if t1360 = bt1362.2.2 then (if bt1366.1 = bt1368.1 then (if bt1366.2 = bt1368.2 then ((merinolaw01_alive.f).bind fun t1370 => (some t1370)) else (none)) else (none)) else (none)) else (none))))) = some r := H
        have A27 := Aside0.mk A270
        clear A270
        replace H := Option.bind_eq_some_iff.mp H
        obtain ⟨⟨t1362, t1363, t1364⟩, A280, H⟩ := H
        replace H : ((num_Cmp.f k1 a0_0 a0_1 a1_0 a1_1).bind fun bt1366 => ((merinoref01_Cmp.f k1 a0_0 a0_1 a1_0 a1_1).bind fun bt1368 => (if (t1358 == t1362 && (t1359 == t1363)) = true then (if t1360 = t1364 then (if bt1366.1 = bt1368.1 then (if bt1366.2 = bt1368.2 then ((merinolaw01_alive.f).bind fun t1370 => (some t1370)) else (none)) else (none)) else (none)) else (none)))) = some r := H
        have A28 := Aside0.mk A280
        clear A280
        replace H := Option.bind_eq_some_iff.mp H
        obtain ⟨⟨t1366, t1367⟩, A290, H⟩ := H
        replace H : ((merinoref01_Cmp.f k1 a0_0 a0_1 a1_0 a1_1).bind fun bt1368 => (if (t1358 == t1362 && (t1359 == t1363)) = true then (if t1360 = t1364 then (if t1366 = bt1368.1 then (if t1367 = bt1368.2 then ((merinolaw01_alive.f).bind fun t1370 => (some t1370)) else (none)) else (none)) else (none)) else (none))) = some r := H
        have A29 := Aside0.mk A290
        clear A290
        replace H := Option.bind_eq_some_iff.mp H
        obtain ⟨⟨t1368, t1369⟩, A300, H⟩ := H
        replace H : (if (t1358 == t1362 && (t1359 == t1363)) = true then (if t1360 = t1364 then (if t1366 = t1368 then (if t1367 = t1369 then ((merinolaw01_alive.f).bind fun t1370 => (some t1370)) else (none)) else (none)) else (none)) else (none)) = some r := H
        have A30 := Aside0.mk A300
        clear A300
        by_cases c31 : (t1358 == t1362 && (t1359 == t1363)) = true
        · rw [if_pos c31] at H
          have c31b0 : (t1358 == t1362 && (t1359 == t1363)) = true := c31
          (try (have c31b1 : decide (t1358 = t1362 && (t1359 == t1363)) = true := by simpa using c31))
          (try (have c31b2 : (t1358 == t1362 && (t1359 == t1363)) = true := by simpa using c31))
          clear c31
          by_cases c32 : t1360 = t1364
          · rw [if_pos c32] at H
            have c32b0 : (t1360 == t1364) = true := beq_iff_eq.mpr c32
            have c32b1 : (t1360 != t1364) = false := bne_eq_false_iff_eq.mpr c32
            clear c32
            by_cases c33 : t1366 = t1368
            · rw [if_pos c33] at H
              have c33b0 : (t1366 == t1368) = true := beq_iff_eq.mpr c33
              have c33b1 : (t1366 != t1368) = false := bne_eq_false_iff_eq.mpr c33
              clear c33
              by_cases c34 : t1367 = t1369
              · rw [if_pos c34] at H
                have c34b0 : (t1367 == t1369) = true := beq_iff_eq.mpr c34
                have c34b1 : (t1367 != t1369) = false := bne_eq_false_iff_eq.mpr c34
                clear c34
                replace H := Option.bind_eq_some_iff.mp H
                obtain ⟨t1370, A350, H⟩ := H
                replace H : (some t1370) = some r := H
                have A35 := Aside0.mk A350
                clear A350
                obtain rfl := Option.some.inj H
                have hnb36 := NB1348_1349.out
                have hnc36 := NB1349_1348.out
                have hcz37_0 : wr.cell? ⟨gb1348, 0, none⟩ = some (.int .i64 a0_0) := (blk_cell BK1348.out 0).trans rfl
                have hcz37_1 : wr.cell? ⟨gb1348, 1, none⟩ = some (.int .i64 a0_1) := (blk_cell BK1348.out 1).trans rfl
                have hfz37_0 := blk_frozen BK1348.out 0
                have hfz37_1 := blk_frozen BK1348.out 1
                go_wp2_with (first | ((with_reducible refine gate_callee (f := 44) rfl ?_); refine goesL_ (some 46) rfl rfl Tryd.func44 (by kernel_rfl) rfl #[.agg #[.int .i64 a0_0, .int .i64 a0_1]] rfl qe_ ?_; (with_reducible refine (num_Neg.calls k1 a0_0 a0_1 t1358 t1359 t1360 _ A27.out).mono ?_); rintro e w38 ⟨rfl, hb⟩; refine ⟨_, rfl, ?_⟩; have n0_ := Aside0.mk (qk_ BK1348.out hb); have n1_ := Aside0.mk (qk_ BK1349.out hb); have n2_ := Aside0.mk (below_step (q2_ HB.out GE1348.out GE1349.out) hb); clear BK1348; clear BK1349; clear HB; have BK1348 := n0_; have BK1349 := n1_; have HB := n2_; clear n0_ n1_ n2_; (try clear hb); (try clear hb2); (try clear hk); (try clear hi)) | ((with_reducible refine gate_dst (N := 10) rfl ?_); refine qx_ 10 #[.int .i64 0, .int .i64 0] 23 ?hr ?_; (case hr => first | (go_simp; done) | (go_simp; rfl)); intro gb1361 hg w39 hbox hb; have n0_ := Aside0.mk (qk_ BK1348.out hb); have n1_ := Aside0.mk (qk_ BK1349.out hb); have n2_ := Aside0.mk (below_step (q2_ HB.out GE1348.out GE1349.out) hb); have n3_ := Aside0.mk (hbox); have n4_ := Aside0.mk (qs_ hg (q2_ HB.out GE1348.out GE1349.out) : w.heap.size ≤ gb1361); have n5_ := n4_; have n6_ := Aside0.mk (qn_ hg BK1348.out); have n7_ := Aside0.mk (Ne.symm (qn_ hg BK1348.out)); have n8_ := Aside0.mk (qn_ hg BK1349.out); have n9_ := Aside0.mk (Ne.symm (qn_ hg BK1349.out)); clear BK1348; clear BK1349; clear HB; have BK1348 := n0_; have BK1349 := n1_; have HB := n2_; have BK1361 := n3_; have GW1361 := n4_; have GE1361 := n5_; have NB1348_1361 := n6_; have NB1361_1348 := n7_; have NB1349_1361 := n8_; have NB1361_1349 := n9_; clear n0_ n1_ n2_ n3_ n4_ n5_ n6_ n7_ n8_ n9_; clear hb hbox hg; have hnb40 := NB1361_1348.out; have hnc40 := NB1348_1361.out; have hnb41 := NB1361_1349.out; have hnc41 := NB1349_1361.out; have hcz42_0 : w39.cell? ⟨gb1361, 0, none⟩ = some (.int .i64 0) := (blk_cell BK1361.out 0).trans rfl; have hcz42_1 : w39.cell? ⟨gb1361, 1, none⟩ = some (.int .i64 0) := (blk_cell BK1361.out 1).trans rfl; have hfz42_0 := blk_frozen BK1361.out 0; have hfz42_1 := blk_frozen BK1361.out 1; have hcz43_0 : w39.cell? ⟨gb1348, 0, none⟩ = some (.int .i64 a0_0) := (blk_cell BK1348.out 0).trans rfl; have hcz43_1 : w39.cell? ⟨gb1348, 1, none⟩ = some (.int .i64 a0_1) := (blk_cell BK1348.out 1).trans rfl; have hfz43_0 := blk_frozen BK1348.out 0; have hfz43_1 := blk_frozen BK1348.out 1) | ((with_reducible refine gate_callee (f := 65) rfl ?_); refine goesL_ (some 51) rfl rfl Tryd.func65 (by kernel_rfl) rfl #[.agg #[.int .i64 a0_0, .int .i64 a0_1]] rfl qe_ ?_; (with_reducible refine (merinoref01_Opposite.calls k1 a0_0 a0_1 t1362 t1363 t1364 _ A28.out).mono ?_); rintro e w44 ⟨rfl, hb⟩; refine ⟨_, rfl, ?_⟩; have n0_ := Aside0.mk (blk_below (g := gb1348) (o := .cells #[.int .i64 a0_0, .int .i64 a0_1] 23 (0, 0)) (by (with_reducible repeat (first | refine blk_drewN ?_ _ | refine blk_drew ?_ | refine blk_alloc ?_ _)); refine blk_far ?_ NB1348_1361.out _; (with_reducible repeat (first | refine blk_drewN ?_ _ | refine blk_drew ?_ | refine blk_alloc ?_ _)); refine blk_far ?_ NB1348_1361.out _; (with_reducible repeat (first | refine blk_drewN ?_ _ | refine blk_drew ?_ | refine blk_alloc ?_ _)); exact BK1348.out) hb); have n1_ := Aside0.mk (blk_below (g := gb1349) (o := .cells #[.int .i64 a1_0, .int .i64 a1_1] 23 (0, 0)) (by (with_reducible repeat (first | refine blk_drewN ?_ _ | refine blk_drew ?_ | refine blk_alloc ?_ _)); refine blk_far ?_ NB1349_1361.out _; (with_reducible repeat (first | refine blk_drewN ?_ _ | refine blk_drew ?_ | refine blk_alloc ?_ _)); refine blk_far ?_ NB1349_1361.out _; (with_reducible repeat (first | refine blk_drewN ?_ _ | refine blk_drew ?_ | refine blk_alloc ?_ _)); exact BK1349.out) hb); have n2_ := Aside0.mk (blk_below (g := gb1361) (o := .cells #[.int .i64 t1358, .int .i64 t1359] 23 (0, 0)) (by (with_reducible repeat (first | refine blk_drewN ?_ _ | refine blk_drew ?_ | refine blk_alloc ?_ _)); refine blk_put (cs := #[.int .i64 t1358, .int .i64 0]) ?_ 1 _ rfl; (with_reducible repeat (first | refine blk_drewN ?_ _ | refine blk_drew ?_ | refine blk_alloc ?_ _)); refine blk_put (cs := #[.int .i64 0, .int .i64 0]) ?_ 0 _ rfl; (with_reducible repeat (first | refine blk_drewN ?_ _ | refine blk_drew ?_ | refine blk_alloc ?_ _)); exact BK1361.out) hb); have n3_ := Aside0.mk (below_step (q3_ HB.out GE1348.out GE1349.out GE1361.out) hb); clear BK1348; clear BK1349; clear BK1361; clear HB; have BK1348 := n0_; have BK1349 := n1_; have BK1361 := n2_; have HB := n3_; clear n0_ n1_ n2_ n3_; (try clear hb); (try clear hb2); (try clear hk); (try clear hi)) | ((with_reducible refine gate_dst (N := 12) rfl ?_); refine qx_ 12 #[.int .i64 0, .int .i64 0] 23 ?hr ?_; (case hr => first | (go_simp; done) | (go_simp; rfl)); intro gb1365 hg w45 hbox hb; have n0_ := Aside0.mk (qk_ BK1348.out hb); have n1_ := Aside0.mk (qk_ BK1349.out hb); have n2_ := Aside0.mk (qk_ BK1361.out hb); have n3_ := Aside0.mk (below_step (q3_ HB.out GE1348.out GE1349.out GE1361.out) hb); have n4_ := Aside0.mk (hbox); have n5_ := Aside0.mk (qs_ hg (q3_ HB.out GE1348.out GE1349.out GE1361.out) : w.heap.size ≤ gb1365); have n6_ := n5_; have n7_ := Aside0.mk (qn_ hg BK1348.out); have n8_ := Aside0.mk (Ne.symm (qn_ hg BK1348.out)); have n9_ := Aside0.mk (qn_ hg BK1349.out); have n10_ := Aside0.mk (Ne.symm (qn_ hg BK1349.out)); have n11_ := Aside0.mk (qn_ hg BK1361.out); have n12_ := Aside0.mk (Ne.symm (qn_ hg BK1361.out)); clear BK1348; clear BK1349; clear BK1361; clear HB; have BK1348 := n0_; have BK1349 := n1_; have BK1361 := n2_; have HB := n3_; have BK1365 := n4_; have GW1365 := n5_; have GE1365 := n6_; have NB1348_1365 := n7_; have NB1365_1348 := n8_; have NB1349_1365 := n9_; have NB1365_1349 := n10_; have NB1361_1365 := n11_; have NB1365_1361 := n12_; clear n0_ n1_ n2_ n3_ n4_ n5_ n6_ n7_ n8_ n9_ n10_ n11_ n12_; clear hb hbox hg; have hnb46 := NB1365_1348.out; have hnc46 := NB1348_1365.out; have hnb47 := NB1365_1349.out; have hnc47 := NB1349_1365.out; have hnb48 := NB1365_1361.out; have hnc48 := NB1361_1365.out; have hcz49_0 : w45.cell? ⟨gb1365, 0, none⟩ = some (.int .i64 0) := (blk_cell BK1365.out 0).trans rfl; have hcz49_1 : w45.cell? ⟨gb1365, 1, none⟩ = some (.int .i64 0) := (blk_cell BK1365.out 1).trans rfl; have hfz49_0 := blk_frozen BK1365.out 0; have hfz49_1 := blk_frozen BK1365.out 1; have hcz50_0 : w45.cell? ⟨gb1348, 0, none⟩ = some (.int .i64 a0_0) := (blk_cell BK1348.out 0).trans rfl; have hcz50_1 : w45.cell? ⟨gb1348, 1, none⟩ = some (.int .i64 a0_1) := (blk_cell BK1348.out 1).trans rfl; have hfz50_0 := blk_frozen BK1348.out 0; have hfz50_1 := blk_frozen BK1348.out 1; have hcz51_0 : w45.cell? ⟨gb1349, 0, none⟩ = some (.int .i64 a1_0) := (blk_cell BK1349.out 0).trans rfl; have hcz51_1 : w45.cell? ⟨gb1349, 1, none⟩ = some (.int .i64 a1_1) := (blk_cell BK1349.out 1).trans rfl; have hfz51_0 := blk_frozen BK1349.out 0; have hfz51_1 := blk_frozen BK1349.out 1) | ((with_reducible refine gate_callee (f := 32) rfl ?_); refine goesL_ (some 57) rfl rfl Tryd.func32 (by kernel_rfl) rfl #[.agg #[.int .i64 a0_0, .int .i64 a0_1], .agg #[.int .i64 a1_0, .int .i64 a1_1]] rfl qe_ ?_; (with_reducible refine (num_Cmp.calls k1 a0_0 a0_1 a1_0 a1_1 t1366 t1367 _ A29.out).mono ?_); rintro e w52 ⟨rfl, hb⟩; refine ⟨_, rfl, ?_⟩; have n0_ := Aside0.mk (blk_below (g := gb1348) (o := .cells #[.int .i64 a0_0, .int .i64 a0_1] 23 (0, 0)) (by (with_reducible repeat (first | refine blk_drewN ?_ _ | refine blk_drew ?_ | refine blk_alloc ?_ _)); refine blk_far ?_ NB1348_1365.out _; (with_reducible repeat (first | refine blk_drewN ?_ _ | refine blk_drew ?_ | refine blk_alloc ?_ _)); refine blk_far ?_ NB1348_1365.out _; (with_reducible repeat (first | refine blk_drewN ?_ _ | refine blk_drew ?_ | refine blk_alloc ?_ _)); exact BK1348.out) hb); have n1_ := Aside0.mk (blk_below (g := gb1349) (o := .cells #[.int .i64 a1_0, .int .i64 a1_1] 23 (0, 0)) (by (with_reducible repeat (first | refine blk_drewN ?_ _ | refine blk_drew ?_ | refine blk_alloc ?_ _)); refine blk_far ?_ NB1349_1365.out _; (with_reducible repeat (first | refine blk_drewN ?_ _ | refine blk_drew ?_ | refine blk_alloc ?_ _)); refine blk_far ?_ NB1349_1365.out _; (with_reducible repeat (first | refine blk_drewN ?_ _ | refine blk_drew ?_ | refine blk_alloc ?_ _)); exact BK1349.out) hb); have n2_ := Aside0.mk (blk_below (g := gb1361) (o := .cells #[.int .i64 t1358, .int .i64 t1359] 23 (0, 0)) (by (with_reducible repeat (first | refine blk_drewN ?_ _ | refine blk_drew ?_ | refine blk_alloc ?_ _)); refine blk_far ?_ NB1361_1365.out _; (with_reducible repeat (first | refine blk_drewN ?_ _ | refine blk_drew ?_ | refine blk_alloc ?_ _)); refine blk_far ?_ NB1361_1365.out _; (with_reducible repeat (first | refine blk_drewN ?_ _ | refine blk_drew ?_ | refine blk_alloc ?_ _)); exact BK1361.out) hb); have n3_ := Aside0.mk (blk_below (g := gb1365) (o := .cells #[.int .i64 t1362, .int .i64 t1363] 23 (0, 0)) (by (with_reducible repeat (first | refine blk_drewN ?_ _ | refine blk_drew ?_ | refine blk_alloc ?_ _)); refine blk_put (cs := #[.int .i64 t1362, .int .i64 0]) ?_ 1 _ rfl; (with_reducible repeat (first | refine blk_drewN ?_ _ | refine blk_drew ?_ | refine blk_alloc ?_ _)); refine blk_put (cs := #[.int .i64 0, .int .i64 0]) ?_ 0 _ rfl; (with_reducible repeat (first | refine blk_drewN ?_ _ | refine blk_drew ?_ | refine blk_alloc ?_ _)); exact BK1365.out) hb); have n4_ := Aside0.mk (below_step (q4_ HB.out GE1348.out GE1349.out GE1361.out GE1365.out) hb); clear BK1348; clear BK1349; clear BK1361; clear BK1365; clear HB; have BK1348 := n0_; have BK1349 := n1_; have BK1361 := n2_; have BK1365 := n3_; have HB := n4_; clear n0_ n1_ n2_ n3_ n4_; (try clear hb); (try clear hb2); (try clear hk); (try clear hi); have hcz53_0 : w52.cell? ⟨gb1348, 0, none⟩ = some (.int .i64 a0_0) := (blk_cell BK1348.out 0).trans rfl; have hcz53_1 : w52.cell? ⟨gb1348, 1, none⟩ = some (.int .i64 a0_1) := (blk_cell BK1348.out 1).trans rfl; have hfz53_0 := blk_frozen BK1348.out 0; have hfz53_1 := blk_frozen BK1348.out 1; have hcz54_0 : w52.cell? ⟨gb1349, 0, none⟩ = some (.int .i64 a1_0) := (blk_cell BK1349.out 0).trans rfl; have hcz54_1 : w52.cell? ⟨gb1349, 1, none⟩ = some (.int .i64 a1_1) := (blk_cell BK1349.out 1).trans rfl; have hfz54_0 := blk_frozen BK1349.out 0; have hfz54_1 := blk_frozen BK1349.out 1) | ((with_reducible refine gate_callee (f := 66) rfl ?_); refine goesL_ (some 63) rfl rfl Tryd.func66 (by kernel_rfl) rfl #[.agg #[.int .i64 a0_0, .int .i64 a0_1], .agg #[.int .i64 a1_0, .int .i64 a1_1]] rfl qe_ ?_; (with_reducible refine (merinoref01_Cmp.calls k1 a0_0 a0_1 a1_0 a1_1 t1368 t1369 _ A30.out).mono ?_); rintro e w55 ⟨rfl, hb⟩; refine ⟨_, rfl, ?_⟩; have n0_ := Aside0.mk (qk_ BK1348.out hb); have n1_ := Aside0.mk (qk_ BK1349.out hb); have n2_ := Aside0.mk (qk_ BK1361.out hb); have n3_ := Aside0.mk (qk_ BK1365.out hb); have n4_ := Aside0.mk (below_step (q4_ HB.out GE1348.out GE1349.out GE1361.out GE1365.out) hb); clear BK1348; clear BK1349; clear BK1361; clear BK1365; clear HB; have BK1348 := n0_; have BK1349 := n1_; have BK1361 := n2_; have BK1365 := n3_; have HB := n4_; clear n0_ n1_ n2_ n3_ n4_; (try clear hb); (try clear hb2); (try clear hk); (try clear hi); have hcz56_0 : w55.cell? ⟨gb1361, 0, none⟩ = some (.int .i64 t1358) := (blk_cell BK1361.out 0).trans rfl; have hcz56_1 : w55.cell? ⟨gb1361, 1, none⟩ = some (.int .i64 t1359) := (blk_cell BK1361.out 1).trans rfl; have hfz56_0 := blk_frozen BK1361.out 0; have hfz56_1 := blk_frozen BK1361.out 1; have hcz57_0 : w55.cell? ⟨gb1365, 0, none⟩ = some (.int .i64 t1362) := (blk_cell BK1365.out 0).trans rfl; have hcz57_1 : w55.cell? ⟨gb1365, 1, none⟩ = some (.int .i64 t1363) := (blk_cell BK1365.out 1).trans rfl; have hfz57_0 := blk_frozen BK1365.out 0; have hfz57_1 := blk_frozen BK1365.out 1) | (go_at_call 21; (with_reducible refine (merinolaw01_alive.calls  t1370 _ A35.out).mono ?_); rintro e w58 ⟨rfl, hb⟩; have n0_ := Aside0.mk (qk_ BK1348.out hb); have n1_ := Aside0.mk (qk_ BK1349.out hb); have n2_ := Aside0.mk (qk_ BK1361.out hb); have n3_ := Aside0.mk (qk_ BK1365.out hb); have n4_ := Aside0.mk (below_step (q4_ HB.out GE1348.out GE1349.out GE1361.out GE1365.out) hb); clear BK1348; clear BK1349; clear BK1361; clear BK1365; clear HB; have BK1348 := n0_; have BK1349 := n1_; have BK1361 := n2_; have BK1365 := n3_; have HB := n4_; clear n0_ n1_ n2_ n3_ n4_; (try clear hb); (try clear hb2); (try clear hk); (try clear hi)))
                go_ret
                exact ⟨by first | rfl | (simp [errW_none, errW_some] <;> rfl) | (simp [*, errW_none, errW_some] <;> rfl), (q4_ HB.out GE1348.out GE1349.out GE1361.out GE1365.out)⟩
              · rw [if_neg c34] at H
                exact absurd H (by simp)
            · rw [if_neg c33] at H
              exact absurd H (by simp)
          · rw [if_neg c32] at H
            exact absurd H (by simp)
        · rw [if_neg c31] at H
          exact absurd H (by simp)
end Go.Proofs.YtdjnneflpkllmaaDoor.Q

namespace Go.Proofs.Num
open Go.RowKit Go.Proofs.YtdjnneflpkllmaaDoorW.PrintWords Go.Proofs.YtdjnneflpkllmaaDoorW.PrintMore Go.Proofs.YtdjnneflpkllmaaDoor.Q
theorem walk_NumArith (a b c d : Int) (w : World) :
    Calls Tryd.prog 17 #[.agg #[.int .i64 a, .int .i64 b], .agg #[.int .i64 c, .int .i64 d]] w fun e w' => e = .returned (.bool true) ∧ Below w.heap.size w w' := by
  obtain ⟨k, h⟩ := (arith_law a b c d).rounds
  exact merinolaw01_NumArith.calls k a b c d true w h
end Go.Proofs.Num
