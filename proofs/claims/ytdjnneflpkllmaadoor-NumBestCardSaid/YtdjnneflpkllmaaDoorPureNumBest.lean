/- NumBest in numbers: what num.Best finds is what the search Den by Den finds. -/
import Derived.Test.YtdjnneflpkllmaaDoorNearRun
import Derived.Test.YtdjnneflpkllmaaDoorR27
import Derived.Test.YtdjnneflpkllmaaDoorRNumBest
namespace Go.Proofs.Num
open Go.RowKit Go.Proofs.YtdjnneflpkllmaaDoorW.PrintWords Go.Proofs.YtdjnneflpkllmaaDoorW.PrintMore Go.Proofs.YtdjnneflpkllmaaDoor.Q
set_option linter.unusedVariables false
set_option linter.unusedSimpArgs false

/-- The arguments that Best takes. -/
def bestOk (n d M : Int) : Prop := -1099511627776 ≤ n ∧ n ≤ 1099511627776 ∧ 1 ≤ d ∧ d ≤ 1099511627776 ∧ 1 ≤ M ∧ M ≤ 1048576
instance (n d M : Int) : Decidable (bestOk n d M) := by unfold bestOk; infer_instance
theorem floor_bd {n d : Int} (h1 : -1099511627776 ≤ n) (h2 : n ≤ 1099511627776) (hd : 1 ≤ d) : -1099511627776 ≤ n / d ∧ n / d ≤ 1099511627776 := by
  have h5 : d * (n / d) + n % d = n := Int.mul_ediv_add_emod n d
  have h3 : 0 ≤ n % d := Int.emod_nonneg _ (by omega)
  have h4 : n % d < d := Int.emod_lt_of_pos _ (by omega)
  constructor
  · rcases Int.lt_or_le (n / d) 0 with h | h
    · have := Int.mul_le_mul_of_nonneg_right (show (1 : Int) ≤ d by omega) (show 0 ≤ -(n / d + 1) by omega)
      have e : d * (-(n / d + 1)) = -(d * (n / d)) - d := by grind
      omega
    · omega
  · rcases Int.lt_or_le (n / d) 0 with h | h
    · omega
    · have := Int.mul_le_mul_of_nonneg_right (show (1 : Int) ≤ d by omega) h
      omega
theorem wmul {w T : Int} (h1 : -1099511627776 ≤ w) (h2 : w ≤ 1099511627776) (h3 : 0 ≤ T) (h4 : T ≤ 1048576) : -1152921504606846976 ≤ w * T ∧ w * T ≤ 1152921504606846976 := by
  rcases Int.lt_or_le w 0 with h | h
  · have := mul_bd (show 0 ≤ -w by omega) (show -w ≤ 1099511627776 by omega) h3 h4
    have e : -w * T = -(w * T) := by grind
    omega
  · have := mul_bd h h2 h3 h4
    omega
/-- num.Best within its arguments. -/
theorem best_ok {n d M : Int} (h : bestOk n d M) : ∃ x T F up, Ev (fun k => num_Best.f k n d M) (n / d * T + x, T, 0) ∧ 1 ≤ T ∧ T ≤ M ∧ Best (n % d) d M T F up ∧ (up = false → F = n % d * T - x * d ∧ 0 ≤ F ∧ F < d) ∧ (up = true → F = x * d - n % d * T ∧ 0 < F ∧ F ≤ d) := by
  obtain ⟨h1, h2, h3, h4, h5, h6⟩ := h
  have r0 : 0 ≤ n % d := Int.emod_nonneg _ (by omega)
  have r1 : n % d < d := Int.emod_lt_of_pos _ (by omega)
  obtain ⟨w1, w2⟩ := floor_bd h1 h2 h3
  obtain ⟨a, b, p, q, E, A, hM⟩ := around_ok r0 r1 h4 h5 h6
  have D := down_ok (n := n) (d := d) (by omega) (by omega) (by omega) (by omega)
  generalize n % d = r at *
  generalize n / d = w at *
  obtain ⟨hr, hrd, hd, hM6, a0, ab, b1, bM, p0, pq, q1, qM, det, lo, hi⟩ := A
  have N : Near r d M a b p q := ⟨by omega, b1, q1, hM, det, lo, hi⟩
  have sum : (r * b - a * d) * q + (p * d - r * q) * b = d := by grind
  have s1 : 0 ≤ (r * b - a * d) * q := Int.mul_nonneg lo (by omega)
  have s2 : 0 ≤ (p * d - r * q) * b := Int.mul_nonneg (by omega) (by omega)
  have flo : r * b - a * d < d := by
    have l1 := Int.mul_le_mul_of_nonneg_left (show (1 : Int) ≤ q by omega) lo
    have l2 := Int.mul_pos hi (show 0 < b by omega)
    omega
  have fhi : p * d - r * q ≤ d := by
    have l1 := Int.mul_le_mul_of_nonneg_left (show (1 : Int) ≤ b by omega) (show 0 ≤ p * d - r * q by omega)
    omega
  obtain ⟨m1, m2⟩ := mul_bd p0 (show p ≤ 1048576 by omega) (show 0 ≤ d by omega) hd
  obtain ⟨m3, m4⟩ := mul_bd hr (show r ≤ 1099511627776 by omega) (show 0 ≤ q by omega) (show q ≤ 1048576 by omega)
  obtain ⟨m5, m6⟩ := mul_bd hr (show r ≤ 1099511627776 by omega) (show 0 ≤ b by omega) (show b ≤ 1048576 by omega)
  obtain ⟨m7, m8⟩ := mul_bd a0 (show a ≤ 1048576 by omega) (show 0 ≤ d by omega) hd
  obtain ⟨v1, v2⟩ := wmul w1 w2 (show 0 ≤ b by omega) (show b ≤ 1048576 by omega)
  obtain ⟨v3, v4⟩ := wmul w1 w2 (show 0 ≤ q by omega) (show q ≤ 1048576 by omega)
  have S : ∀ res : Int × Int × Int, (if (p * d - r * q) * b < (r * b - a * d) * q then ((p + w * q, q, 0) : Int × Int × Int) else if (p * d - r * q) * b = (r * b - a * d) * q then (if q < b then (p + w * q, q, 0) else (a + w * b, b, 0)) else (a + w * b, b, 0)) = res → Ev (fun k => num_Best.f k n d M) res := by
    intro res hres
    have e0 : ∀ k, num_Best.f k n d M = num_Best.j0 k n d M false := by
      intro k
      unfold num_Best.f
      rw [if_neg (by omega), if_neg (by omega), if_neg (by omega), if_neg (by omega), if_neg (by omega), decide_eq_false (by omega)]
    have : (fun k => num_Best.f k n d M) = fun k => num_Best.j0 k n d M false := funext e0
    rw [this]
    refine Ev.step (f := fun k => (num_around.f k r d M).bind fun t => if (wrap64 ((wrap64 ((wrap64 (t.2.2.1 * d)) - (wrap64 (r * t.2.2.2)))) * t.2.1)) < (wrap64 ((wrap64 ((wrap64 (r * t.2.1)) - (wrap64 (t.1 * d)))) * t.2.2.2)) then (some (wrap64 (t.2.2.1 + (wrap64 (w * t.2.2.2))), t.2.2.2, 0)) else (if (wrap64 ((wrap64 ((wrap64 (t.2.2.1 * d)) - (wrap64 (r * t.2.2.2)))) * t.2.1)) = (wrap64 ((wrap64 ((wrap64 (r * t.2.1)) - (wrap64 (t.1 * d)))) * t.2.2.2)) then (if t.2.2.2 < t.2.1 then (some (wrap64 (t.2.2.1 + (wrap64 (w * t.2.2.2))), t.2.2.2, 0)) else (some (wrap64 (t.1 + (wrap64 (w * t.2.1))), t.2.1, 0))) else (some (wrap64 (t.1 + (wrap64 (w * t.2.1))), t.2.1, 0)))) (fun k => ?_) (Ev.bind E ?_)
    · rw [num_Best.j0, if_neg (by decide), D]
      rfl
    · simp only []
      rw [wr64 (x := p * d) (by omega) (by omega), wr64 (x := r * q) (by omega) (by omega), wr64 (x := r * b) (by omega) (by omega), wr64 (x := a * d) (by omega) (by omega), wr64 (x := p * d - r * q) (by omega) (by omega), wr64 (x := r * b - a * d) (by omega) (by omega), wr64 (x := (p * d - r * q) * b) (by omega) (by omega), wr64 (x := (r * b - a * d) * q) (by omega) (by omega), wr64 (x := w * q) (by omega) (by omega), wr64 (x := w * b) (by omega) (by omega), wr64 (x := p + w * q) (by omega) (by omega), wr64 (x := a + w * b) (by omega) (by omega)]
      have : (if (p * d - r * q) * b < (r * b - a * d) * q then (some (p + w * q, q, 0) : Option (Int × Int × Int)) else if (p * d - r * q) * b = (r * b - a * d) * q then (if q < b then some (p + w * q, q, 0) else some (a + w * b, b, 0)) else some (a + w * b, b, 0)) = some res := by
        rw [← hres]
        (repeat' split) <;> rfl
      rw [this]
      exact Ev.now _
  rcases Int.lt_trichotomy ((p * d - r * q) * b) ((r * b - a * d) * q) with hc | hc | hc
  · refine ⟨p, q, p * d - r * q, true, S _ ?_, q1, qM, N.best_hi (by omega) (fun h => by omega), fun h => (by cases h), fun _ => ⟨rfl, hi, fhi⟩⟩
    rw [if_pos hc, Int.add_comm]
  · by_cases hqb : q < b
    · refine ⟨p, q, p * d - r * q, true, S _ ?_, q1, qM, N.best_hi (by omega) (fun h => hqb), fun h => (by cases h), fun _ => ⟨rfl, hi, fhi⟩⟩
      rw [if_neg (by omega), if_pos hc, if_pos hqb, Int.add_comm]
    · refine ⟨a, b, r * b - a * d, false, S _ ?_, b1, bM, N.best_lo (by omega) (fun h => by omega), fun _ => ⟨rfl, lo, flo⟩, fun h => (by cases h)⟩
      rw [if_neg (by omega), if_pos hc, if_neg hqb, Int.add_comm]
  · refine ⟨a, b, r * b - a * d, false, S _ ?_, b1, bM, N.best_lo (by omega) (fun h => by omega), fun _ => ⟨rfl, lo, flo⟩, fun h => (by cases h)⟩
    rw [if_neg (by omega), if_neg (by omega), Int.add_comm]

/-- The search's state behind a candidate. -/
def pick (n2 t far bn bd off : Int) : Int × Int × Int := if bd = 0 ∨ far * bd < off * t then (n2, t, far) else (bn, bd, off)
theorem ref_l1 {n d M off q fl x bn bd far : Int} (hx : x < 2) (hfar : far = (if n * q - (fl + x) * d < 0 then -(n * q - (fl + x) * d) else n * q - (fl + x) * d)) (hf : far ≤ 1099511627776) (h1 : -1152921504606846976 ≤ n * q) (h2 : n * q ≤ 1152921504606846976)
    (h3 : -1152921504606846977 ≤ fl) (h4 : fl ≤ 1152921504606846976) (h0 : 0 ≤ x) (o0 : 0 ≤ off) (o1 : off ≤ 1099511627776) (q0 : 0 ≤ q) (q1 : q ≤ 1048576) (b0 : 0 ≤ bd) (b1 : bd ≤ 1048576) (k : Nat) :
    merinoref01_Best.l1 (k + 1) n d M off q fl x bn bd = merinoref01_Best.l1 k n d M (pick (fl + x) q far bn bd off).2.2 q fl (x + 1) (pick (fl + x) q far bn bd off).1 (pick (fl + x) q far bn bd off).2.1 := by
  have f0 : 0 ≤ far := by rw [hfar]; split <;> omega
  obtain ⟨m1, m2⟩ := mul_bd o0 o1 q0 q1
  obtain ⟨m3, m4⟩ := mul_bd f0 hf b0 b1
  have hb : -1099511627776 ≤ n * q - (fl + x) * d ∧ n * q - (fl + x) * d ≤ 1099511627776 := by
    split at hfar <;> omega
  rw [merinoref01_Best.l1, if_pos hx, wr64 (x := fl + x) (by omega) (by omega), wr64 (x := n * q) (by omega) (by omega), wr64 (x := (fl + x) * d) (by omega) (by omega), wr64 (x := n * q - (fl + x) * d) (by omega) (by omega), wr64 (x := off * q) (by omega) (by omega), wr64 (x := x + 1) (by omega) (by omega)]
  unfold pick
  by_cases hn : n * q - (fl + x) * d < 0
  · rw [if_pos hn] at hfar
    rw [if_pos hn, wr64 (x := -(n * q - (fl + x) * d)) (by omega) (by omega), ← hfar, wr64 (x := far * bd) (by omega) (by omega)]
    by_cases hb0 : bd = 0
    · rw [if_pos hb0, if_pos (.inl hb0)]
    · by_cases hl : far * bd < off * q
      · rw [if_neg hb0, if_pos hl, if_pos (.inr hl)]
      · rw [if_neg hb0, if_neg hl, if_neg (by omega)]
  · rw [if_neg hn] at hfar
    rw [if_neg hn, ← hfar, wr64 (x := far * bd) (by omega) (by omega)]
    by_cases hb0 : bd = 0
    · rw [if_pos hb0, if_pos (.inl hb0)]
    · by_cases hl : far * bd < off * q
      · rw [if_neg hb0, if_pos hl, if_pos (.inr hl)]
      · rw [if_neg hb0, if_neg hl, if_neg (by omega)]
theorem ref_l1_end {n d M off q fl bn bd : Int} (q0 : 0 ≤ q) (q1 : q ≤ 1048576) (k : Nat) : merinoref01_Best.l1 (k + 1) n d M off q fl 2 bn bd = merinoref01_Best.l0 k n d M off (q + 1) bn bd := by
  rw [merinoref01_Best.l1, if_neg (by omega), wr64 (by omega) (by omega)]
theorem floor_le {n d X : Int} (h1 : -X ≤ n) (h2 : n ≤ X) (hd : 1 ≤ d) : -X ≤ n / d ∧ n / d ≤ X := by
  have h5 : d * (n / d) + n % d = n := Int.mul_ediv_add_emod n d
  have h3 : 0 ≤ n % d := Int.emod_nonneg _ (by omega)
  have h4 : n % d < d := Int.emod_lt_of_pos _ (by omega)
  constructor
  · rcases Int.lt_or_le (n / d) 0 with h | h
    · have := Int.mul_le_mul_of_nonneg_right (show (1 : Int) ≤ d by omega) (show 0 ≤ -(n / d + 1) by omega)
      have e : d * (-(n / d + 1)) = -(d * (n / d)) - d := by grind
      omega
    · omega
  · rcases Int.lt_or_le (n / d) 0 with h | h
    · omega
    · have := Int.mul_le_mul_of_nonneg_right (show (1 : Int) ≤ d by omega) h
      omega
theorem ref_l0 {n d M off q bn bd : Int} (h : bestOk n d M) (q0 : 1 ≤ q) (qM : q ≤ M) (k : Nat) : merinoref01_Best.l0 (k + 1) n d M off q bn bd = merinoref01_Best.j2 k n d M off q (n * q / d) bn bd := by
  obtain ⟨h1, h2, h3, h4, h5, h6⟩ := h
  obtain ⟨m1, m2⟩ := wmul h1 h2 (show 0 ≤ q by omega) (show q ≤ 1048576 by omega)
  have D := down_ok (n := n * q) (d := d) (by omega) (by omega) (by omega) (by omega)
  unfold num_down.f at D
  rw [if_neg (by omega)] at D
  rw [merinoref01_Best.l0, if_pos qM, if_neg (by omega), wr64 (x := n * q) (by omega) (by omega)]
  by_cases hc : (n * q).tmod d < 0
  · rw [if_pos hc] at D ⊢
    have := Option.some.inj D
    rw [Prod.mk.injEq] at this
    rw [this.1]
  · rw [if_neg hc] at D ⊢
    have := Option.some.inj D
    rw [Prod.mk.injEq] at this
    rw [this.1]
/-- The state behind the two candidates of q. -/
def both (n d q bn bd off : Int) : Int × Int × Int :=
  let s := pick (n * q / d) q (n * q - n * q / d * d) bn bd off
  pick (n * q / d + 1) q ((n * q / d + 1) * d - n * q) s.1 s.2.1 s.2.2
theorem pick_bd {n2 t far bn bd off : Int} (f0 : 0 ≤ far) (f1 : far ≤ 1099511627776) (t0 : 0 ≤ t) (t1 : t ≤ 1048576) (o0 : 0 ≤ off) (o1 : off ≤ 1099511627776) (b0 : 0 ≤ bd) (b1 : bd ≤ 1048576) :
    0 ≤ (pick n2 t far bn bd off).2.2 ∧ (pick n2 t far bn bd off).2.2 ≤ 1099511627776 ∧ 0 ≤ (pick n2 t far bn bd off).2.1 ∧ (pick n2 t far bn bd off).2.1 ≤ 1048576 := by
  unfold pick
  split
  · exact ⟨f0, f1, t0, t1⟩
  · exact ⟨o0, o1, b0, b1⟩
theorem far_bd {n d q : Int} (hd : 1 ≤ d) : 0 ≤ n * q - n * q / d * d ∧ n * q - n * q / d * d < d := by
  have h5 : d * (n * q / d) + n * q % d = n * q := Int.mul_ediv_add_emod (n * q) d
  have h3 : 0 ≤ n * q % d := Int.emod_nonneg _ (by omega)
  have h4 : n * q % d < d := Int.emod_lt_of_pos _ (by omega)
  rw [Int.mul_comm] at h5
  omega
/-- A round of the search. -/
theorem ref_round {n d M off q bn bd : Int} {v : Int × Int × Int} (h : bestOk n d M) (q0 : 1 ≤ q) (qM : q ≤ M) (o0 : 0 ≤ off) (o1 : off ≤ 1099511627776) (b0 : 0 ≤ bd) (b1 : bd ≤ 1048576)
    (E : 0 ≤ (both n d q bn bd off).2.2 → (both n d q bn bd off).2.2 ≤ 1099511627776 → 0 ≤ (both n d q bn bd off).2.1 → (both n d q bn bd off).2.1 ≤ 1048576 → Ev (fun k => merinoref01_Best.l0 k n d M (both n d q bn bd off).2.2 (q + 1) (both n d q bn bd off).1 (both n d q bn bd off).2.1) v) :
    Ev (fun k => merinoref01_Best.l0 k n d M off q bn bd) v := by
  have h' := h
  obtain ⟨h1, h2, h3, h4, h5, h6⟩ := h'
  obtain ⟨m1, m2⟩ := wmul h1 h2 (show 0 ≤ q by omega) (show q ≤ 1048576 by omega)
  obtain ⟨f1, f2⟩ := floor_le (X := 1152921504606846976) m1 m2 h3
  obtain ⟨g1, g2⟩ := far_bd (n := n) (q := q) h3
  have e2 : (n * q / d + 1) * d = n * q / d * d + d := by rw [Int.add_mul, Int.one_mul]
  obtain ⟨p1, p2, p3, p4⟩ := pick_bd (n2 := n * q / d) (bn := bn) g1 (show _ ≤ 1099511627776 by omega) (show 0 ≤ q by omega) (show q ≤ 1048576 by omega) o0 o1 b0 b1
  have L0 := fun k => ref_l1 (n := n) (d := d) (M := M) (off := off) (q := q) (fl := n * q / d) (x := 0) (bn := bn) (bd := bd) (far := n * q - n * q / d * d) (by omega) (by rw [Int.add_zero, if_neg (by omega)]) (by omega) m1 m2 (by omega) f2 (by omega) o0 o1 (by omega) (by omega) b0 b1 k
  rw [Int.add_zero] at L0
  unfold both at E
  simp only [] at E
  generalize pick (n * q / d) q (n * q - n * q / d * d) bn bd off = s at *
  obtain ⟨s1, s2, s3⟩ := s
  simp only at p1 p2 p3 p4 E L0
  obtain ⟨t1, t2, t3, t4⟩ := pick_bd (n2 := n * q / d + 1) (t := q) (far := (n * q / d + 1) * d - n * q) (bn := s1) (bd := s2) (off := s3) (by omega) (by omega) (by omega) (by omega) p1 p2 p3 p4
  have L1 := fun k => ref_l1 (n := n) (d := d) (M := M) (off := s3) (q := q) (fl := n * q / d) (x := 1) (bn := s1) (bd := s2) (far := (n * q / d + 1) * d - n * q) (by omega) (by rw [if_pos (by omega)]; omega) (by omega) m1 m2 (by omega) f2 (by omega) p1 p2 (by omega) (by omega) p3 p4 k
  refine Ev.step (fun k => ref_l0 h q0 qM k) ?_
  refine Ev.step (f := fun k => merinoref01_Best.l1 k n d M off q (n * q / d) 0 bn bd) (fun k => by rw [merinoref01_Best.j2]) ?_
  refine Ev.step L0 ?_
  refine Ev.step L1 ?_
  refine Ev.step (fun k => ref_l1_end (by omega) (by omega) k) ?_
  exact E t1 t2 t3 t4
/-- What the search looks for, told by its own candidates. -/
structure Seek (n d M P T F : Int) (up : Bool) : Prop where
  isL : up = false → P = n * T / d ∧ F = n * T - n * T / d * d
  isU : up = true → P = n * T / d + 1 ∧ F = (n * T / d + 1) * d - n * T
  lowB : ∀ t, 1 ≤ t → t ≤ M → (t < T ∨ (t = T ∧ up = true)) → F * t < (n * t - n * t / d * d) * T
  lowA : ∀ t, 1 ≤ t → t ≤ M → T < t → F * t ≤ (n * t - n * t / d * d) * T
  highB : ∀ t, 1 ≤ t → t ≤ M → t < T → F * t < ((n * t / d + 1) * d - n * t) * T
  highA : ∀ t, 1 ≤ t → t ≤ M → (T < t ∨ (t = T ∧ up = false)) → F * t ≤ ((n * t / d + 1) * d - n * t) * T
/-- Still open, or found. -/
def opened (T F bd off : Int) : Prop := bd = 0 ∨ F * bd < off * T
theorem pick_open {T F n2 t far bn bd off : Int} (h : opened T F bd off) (hf : F * t < far * T) : opened T F (pick n2 t far bn bd off).2.1 (pick n2 t far bn bd off).2.2 := by
  unfold pick
  split
  · exact .inr hf
  · exact h
theorem pick_hit {T F P bn bd off : Int} (h : opened T F bd off) : pick P T F bn bd off = (P, T, F) := by
  unfold pick
  exact if_pos h
theorem pick_keep {T F P n2 t far : Int} (hT : T ≠ 0) (h : F * t ≤ far * T) : pick n2 t far P T F = (P, T, F) := by
  unfold pick
  rw [if_neg]
  rintro (h1 | h1)
  · exact hT h1
  · omega
theorem ref_found {n d M P T F : Int} {up : Bool} (h : bestOk n d M) (S : Seek n d M P T F up) (hT : 1 ≤ T) (hTM : T ≤ M) : ∀ (m : Nat) (q off bn bd : Int), 1 ≤ q → q ≤ M + 1 → M + 1 - q = m → 0 ≤ off → off ≤ 1099511627776 → 0 ≤ bd → bd ≤ 1048576 →
    (q ≤ T → opened T F bd off) → (T < q → (bn, bd, off) = (P, T, F)) → Ev (fun k => merinoref01_Best.l0 k n d M off q bn bd) (P, T, 0) := by
  intro m
  induction m with
  | zero =>
    intro q off bn bd q1 qM hm o0 o1 b0 b1 c1 c2
    have := c2 (by omega)
    rw [Prod.mk.injEq, Prod.mk.injEq] at this
    obtain ⟨rfl, rfl, rfl⟩ := this
    refine Ev.step (f := fun _ => some (bn, bd, 0)) (fun k => ?_) (Ev.now _)
    rw [merinoref01_Best.l0, if_neg (by omega)]
  | succ m ih =>
    intro q off bn bd q1 qM hm o0 o1 b0 b1 c1 c2
    refine ref_round h q1 (by omega) o0 o1 b0 b1 (fun x1 x2 x3 x4 => ih (q + 1) _ _ _ (by omega) (by omega) (by omega) x1 x2 x3 x4 ?_ ?_)
    · intro hq
      unfold both
      exact pick_open (pick_open (c1 (by omega)) (S.lowB q q1 (by omega) (.inl (by omega)))) (S.highB q q1 (by omega) (by omega))
    · intro hq
      rcases Int.lt_or_le T q with hlt | hle
      · have := c2 hlt
        rw [Prod.mk.injEq, Prod.mk.injEq] at this
        obtain ⟨rfl, rfl, rfl⟩ := this
        unfold both
        simp only []
        rw [pick_keep (by omega) (S.lowA q q1 (by omega) hlt)]
        simp only []
        rw [pick_keep (by omega) (S.highA q q1 (by omega) (.inl hlt))]
      · obtain rfl : q = T := by omega
        have op := c1 (by omega)
        cases up with
        | false =>
          obtain ⟨e1, e2⟩ := S.isL rfl
          unfold both
          simp only []
          rw [← e2, ← e1, pick_hit op]
          simp only []
          rw [pick_keep (by omega) (by rw [e1]; exact S.highA q q1 (by omega) (.inr ⟨rfl, rfl⟩))]
        | true =>
          obtain ⟨e1, e2⟩ := S.isU rfl
          unfold both
          simp only []
          rw [← e2, ← e1]
          rw [pick_hit (pick_open op (S.lowB q q1 (by omega) (.inr ⟨rfl, rfl⟩)))]
theorem ref_best_ok {n d M P T F : Int} {up : Bool} (h : bestOk n d M) (S : Seek n d M P T F up) (hT : 1 ≤ T) (hTM : T ≤ M) : Ev (fun k => merinoref01_Best.f k n d M) (P, T, 0) := by
  have h' := h
  obtain ⟨h1, h2, h3, h4, h5, h6⟩ := h'
  have : (fun k => merinoref01_Best.f k n d M) = fun k => merinoref01_Best.j0 k n d M false := funext fun k => by
    unfold merinoref01_Best.f
    rw [if_neg (by omega), if_neg (by omega), if_neg (by omega), if_neg (by omega), if_neg (by omega), decide_eq_false (by omega)]
  rw [this]
  refine Ev.step (f := fun k => merinoref01_Best.l0 k n d M 0 1 0 0) (fun k => by rw [merinoref01_Best.j0, if_neg (by decide)]) ?_
  exact ref_found h S hT hTM M.toNat 1 0 0 0 (by omega) (by omega) (by omega) (by omega) (by omega) (by omega) (by omega) (fun _ => .inl rfl) (fun h => by omega)
theorem seek_of {n d M x T F : Int} {up : Bool} (hd : 1 ≤ d) (hT : 1 ≤ T) (B : Best (n % d) d M T F up) (f1 : up = false → F = n % d * T - x * d ∧ 0 ≤ F ∧ F < d) (f2 : up = true → F = x * d - n % d * T ∧ 0 < F ∧ F ≤ d) : Seek n d M (n / d * T + x) T F up := by
  have h5 : d * (n / d) + n % d = n := Int.mul_ediv_add_emod n d
  have sp : ∀ t, n * t = d * (n / d * t) + n % d * t := fun t => by
    have e : (d * (n / d) + n % d) * t = d * (n / d * t) + n % d * t := by grind
    rw [h5] at e
    exact e
  have fl : ∀ t, n % d * t - (n * t / d - n / d * t) * d = n * t - n * t / d * d := fun t => by
    have := sp t
    have e : (n * t / d - n / d * t) * d = n * t / d * d - d * (n / d * t) := by grind
    omega
  have fu : ∀ t, (n * t / d - n / d * t + 1) * d - n % d * t = (n * t / d + 1) * d - n * t := fun t => by
    have := sp t
    have e : (n * t / d - n / d * t + 1) * d = (n * t / d + 1) * d - d * (n / d * t) := by grind
    omega
  have g0 := fun t => far_bd (n := n) (d := d) (q := t) hd
  have g1 : ∀ t, (n * t / d + 1) * d = n * t / d * d + d := fun t => by rw [Int.add_mul, Int.one_mul]
  refine ⟨fun hu => ?_, fun hu => ?_, fun t t1 tM c => ?_, fun t t1 tM c => ?_, fun t t1 tM c => ?_, fun t t1 tM c => ?_⟩
  · obtain ⟨e1, e2, e3⟩ := f1 hu
    have e4 : n * T = F + d * (n / d * T + x) := by
      have := sp T
      have e : d * (n / d * T + x) = d * (n / d * T) + x * d := by grind
      omega
    have e5 : n * T / d = n / d * T + x := by rw [e4, Int.add_mul_ediv_left _ _ (by omega), Int.ediv_eq_zero_of_lt e2 e3, Int.zero_add]
    refine ⟨e5.symm, ?_⟩
    rw [e5, e4, Int.mul_comm d]
    omega
  · obtain ⟨e1, e2, e3⟩ := f2 hu
    have e4 : n * T = (d - F) + d * (n / d * T + x - 1) := by
      have := sp T
      have e : d * (n / d * T + x - 1) = d * (n / d * T) + x * d - d := by grind
      omega
    have e5 : n * T / d = n / d * T + x - 1 := by rw [e4, Int.add_mul_ediv_left _ _ (by omega), Int.ediv_eq_zero_of_lt (by omega) (by omega), Int.zero_add]
    refine ⟨by omega, ?_⟩
    have e6 : (n / d * T + x - 1 + 1) * d = d * (n / d * T + x - 1) + d := by grind
    rw [e5, e6, e4]
    omega
  · have := B.lowB t (n * t / d - n / d * t) t1 tM (by rw [fl]; exact (g0 t).1) c
    rwa [fl] at this
  · have := B.lowA t (n * t / d - n / d * t) t1 tM (by rw [fl]; exact (g0 t).1) c
    rwa [fl] at this
  · have := B.highB t (n * t / d - n / d * t + 1) t1 tM (by rw [fu]; have := g0 t; have := g1 t; omega) c
    rwa [fu] at this
  · have := B.highA t (n * t / d - n / d * t + 1) t1 tM (by rw [fu]; have := g0 t; have := g1 t; omega) c
    rwa [fu] at this
theorem pure_best (n d M : Int) : ∃ k p q e, num_Best.f k n d M = some (p, q, e) ∧ merinoref01_Best.f k n d M = some (p, q, e) := by
  by_cases h : bestOk n d M
  · obtain ⟨x, T, F, up, E, hT, hTM, B, f1, f2⟩ := best_ok h
    have E2 := ref_best_ok h (seek_of h.2.2.1 hT B f1 f2) hT hTM
    obtain ⟨k1, g1⟩ := E
    obtain ⟨k2, g2⟩ := E2
    exact ⟨max k1 k2, _, _, _, g1 _ (by omega), g2 _ (by omega)⟩
  · refine ⟨1, 0, 0, 2, ?_, ?_⟩
    · have hj : num_Best.j0 1 n d M true = some (0, 0, 2) := by rw [num_Best.j0, if_pos rfl]
      unfold num_Best.f
      (repeat' split) <;> first | exact hj | (rw [decide_eq_true (by unfold bestOk at h; omega)]; exact hj)
    · have hj : merinoref01_Best.j0 1 n d M true = some (0, 0, 2) := by rw [merinoref01_Best.j0, if_pos rfl]
      unfold merinoref01_Best.f
      (repeat' split) <;> first | exact hj | (rw [decide_eq_true (by unfold bestOk at h; omega)]; exact hj)
/-- The law walked. -/
theorem walk_NumBest (n d M : Int) (w : World) : Calls Tryd.prog 3 #[.int .i64 n, .int .i64 d, .int .i64 M] w fun e w' => e = .returned (.bool true) ∧ Below w.heap.size w w' := by
  obtain ⟨k, p, q, e, h1, h2⟩ := pure_best n d M
  exact merinolaw01_NumBest.both k n d M p q e w h1 h2
end Go.Proofs.Num
