/- NumBetween in numbers: the simplest fraction between is what the search Den by Den finds. -/
import Derived.Test.YtdjnneflpkllmaaDoorSimpleRun
import Derived.Test.YtdjnneflpkllmaaDoorDigitsRun
import Derived.Test.YtdjnneflpkllmaaDoorRefValid
import Derived.Test.YtdjnneflpkllmaaDoorR28
import Derived.Test.YtdjnneflpkllmaaDoorRNumBetween
namespace Go.Proofs.Num
open Go.RowKit Go.Proofs.YtdjnneflpkllmaaDoorW.PrintWords Go.Proofs.YtdjnneflpkllmaaDoorW.PrintMore Go.Proofs.YtdjnneflpkllmaaDoor.Q
set_option linter.unusedVariables false
set_option linter.unusedSimpArgs false

theorem rcmp_ok (n d p q : Int) : Ev (fun k => merinoref01_Cmp.f k n d p q) (if valid n d ∧ valid p q then (cmpI (n * q) (p * d), 0) else (0, 2)) := by
  have hj : Ev (fun k => merinoref01_Cmp.j0 k true n d p q) (0, 2) := Ev.step (f := fun _ => some (0, 2)) (fun k => by rw [merinoref01_Cmp.j0, if_pos rfl]) (Ev.now _)
  unfold merinoref01_Cmp.f
  refine Ev.bind (rvalid_ok n d) ?_
  by_cases h1 : valid n d
  · simp only [h1, decide_true, if_true, true_and]
    refine Ev.bind (rvalid_ok p q) ?_
    by_cases h2 : valid p q
    · simp only [h2, decide_true, if_true, Bool.not_true]
      obtain ⟨a1, a2, a3, a4, _⟩ := h1
      obtain ⟨b1, b2, b3, b4, _⟩ := h2
      obtain ⟨rn, En, Rn, ln⟩ := of_ok (x := n) (by omega) (by omega)
      obtain ⟨rd, Ed, Rd, ld⟩ := of_ok (x := d) (by omega) (by omega)
      obtain ⟨rp, Ep, Rp, lp⟩ := of_ok (x := p) (by omega) (by omega)
      obtain ⟨rq, Eq, Rq, lq⟩ := of_ok (x := q) (by omega) (by omega)
      obtain ⟨r1, E1, R1, l1⟩ := times_ok Rn Rq (by omega)
      obtain ⟨r2, E2, R2, l2⟩ := times_ok Rp Rd (by omega)
      refine Ev.step (f := fun k => ((merinoref01_Of.f k n).bind fun bt504 => ((merinoref01_Of.f k q).bind fun bt508 => ((merinoref01_Times.f k bt504.1 bt504.2 bt508.1 bt508.2).bind fun bt512 => ((merinoref01_Of.f k p).bind fun bt516 => ((merinoref01_Of.f k d).bind fun bt520 => ((merinoref01_Times.f k bt516.1 bt516.2 bt520.1 bt520.2).bind fun bt524 => ((merinoref01_Compare.f k bt512.1 bt512.2 bt524.1 bt524.2).bind fun t528 => (some (t528, 0)))))))))) (fun k => by rw [merinoref01_Cmp.j0, if_neg (by decide)]) ?_
      exact Ev.bind En (Ev.bind Eq (Ev.bind E1 (Ev.bind Ep (Ev.bind Ed (Ev.bind E2 (Ev.bind (compare_ok R1 R2 (show r1.length ≤ 1000 by omega)) (Ev.now _)))))))
    · simp only [h2, decide_false, Bool.false_eq_true, if_false, Bool.not_false]
      exact hj
  · simp only [h1, decide_false, Bool.false_eq_true, if_false, false_and]
    exact hj
theorem above_ok {n d t : Int} (h1 : -1099511627776 ≤ n) (h2 : n ≤ 1099511627776) (hd : 1 ≤ d) (hd' : d ≤ 1048576) (ht : 1 ≤ t) (ht' : t ≤ 1048576) : merinoref01_above.f n d t = some (n * t / d + 1) ∧ -1152921504606846976 ≤ n * t / d ∧ n * t / d ≤ 1152921504606846976 := by
  obtain ⟨m1, m2⟩ := wm2 h1 h2 (show 0 ≤ t by omega) ht'
  have D := down_ok (n := n * t) (d := d) (by omega) (by omega) (by omega) (by omega)
  obtain ⟨hn, hr0, hr1⟩ := div_rest (n * t) hd
  have b1 : -1152921504606846976 ≤ n * t / d := by
    rcases Int.lt_or_le (n * t / d) 0 with h | h
    · have := Int.mul_le_mul_of_nonneg_left hd (show 0 ≤ -(n * t / d + 1) by omega)
      have e : -(n * t / d + 1) * d = -(n * t / d * d) - d := by grind
      omega
    · omega
  have b2 : n * t / d ≤ 1152921504606846976 := by
    rcases Int.lt_or_le (n * t / d) 0 with h | h
    · omega
    · have := Int.mul_le_mul_of_nonneg_left hd h
      omega
  refine ⟨?_, b1, b2⟩
  unfold num_down.f at D
  rw [if_neg (by omega)] at D
  unfold merinoref01_above.f
  rw [if_neg (by omega), wr64 (x := n * t) (by omega) (by omega)]
  by_cases hc : (n * t).tmod d < 0
  · rw [if_pos hc] at D ⊢
    have := Option.some.inj D
    rw [Prod.mk.injEq] at this
    rw [this.1, wr64 (by omega) (by omega)]
  · rw [if_neg hc] at D ⊢
    have := Option.some.inj D
    rw [Prod.mk.injEq] at this
    rw [this.1, wr64 (by omega) (by omega)]
/-- Of one Den: the numerators inside are from lo to hi. -/
theorem btw_iff {n d p q t s : Int} (hd : 1 ≤ d) (hq : 1 ≤ q) (ht : 1 ≤ t) : Btw n d p q s t ↔ n * t / d + 1 ≤ s ∧ s ≤ -(-p * t / q + 1) := by
  have a : n * t < s * d ↔ n * t / d + 1 ≤ s := by
    rw [← Int.ediv_lt_iff_lt_mul (by omega)]
    exact Int.lt_iff_add_one_le
  have b : s * q < p * t ↔ s ≤ -(-p * t / q + 1) := by
    have : -p * t < -s * q ↔ -p * t / q + 1 ≤ -s := by
      rw [← Int.ediv_lt_iff_lt_mul (by omega)]
      exact Int.lt_iff_add_one_le
    have e1 : -p * t = -(p * t) := by grind
    have e2 : -s * q = -(s * q) := by grind
    omega
  unfold Btw
  constructor
  · rintro ⟨_, h1, h2⟩
    exact ⟨a.1 h1, b.1 h2⟩
  · rintro ⟨h1, h2⟩
    exact ⟨ht, a.2 h1, b.2 h2⟩
theorem rb_l0 {n d p q x y : Int} (hv : valid n d) (hw : valid p q) (S : Simple n d p q x y) : ∀ (c : Nat) (t : Int), 1 ≤ t → t ≤ y → t ≤ 1048577 → 1048577 - t = c →
    Ev (fun k => merinoref01_Between.l0 k t n d p q) (if valid x y then (x, y, 0) else (0, 0, 4)) := by
  obtain ⟨a1, a2, a3, a4, _⟩ := id hv
  obtain ⟨b1, b2, b3, b4, _⟩ := id hw
  intro c
  induction c with
  | zero =>
    intro t t1 ty tM hc
    rw [if_neg (fun h => by have := h.2.1; omega)]
    exact Ev.step (f := fun _ => some (0, 0, 4)) (fun k => by rw [merinoref01_Between.l0, if_neg (by omega)]) (Ev.now _)
  | succ c ih =>
    intro t t1 ty tM hc
    obtain ⟨A1, A2, A3⟩ := above_ok a3 a4 a1 a2 t1 (show t ≤ 1048576 by omega)
    obtain ⟨B1, B2, B3⟩ := above_ok (n := -p) (by omega) (by omega) b1 b2 t1 (show t ≤ 1048576 by omega)
    have I := fun s => btw_iff (n := n) (d := d) (p := p) (q := q) (t := t) (s := s) a1 b1 t1
    obtain ⟨lo, hlo⟩ : ∃ lo, lo = n * t / d + 1 := ⟨_, rfl⟩
    obtain ⟨hi, hhi⟩ : ∃ hi, hi = -(-p * t / q + 1) := ⟨_, rfl⟩
    rw [← hlo] at A1 I
    have B4 : wrap64 (-(-p * t / q + 1)) = hi := by rw [hhi]; exact wr64 (by omega) (by omega)
    rw [← hhi] at I
    have R : ∀ k, merinoref01_Between.l0 (k + 1) t n d p q = (if lo > hi then (merinoref01_Between.l0 k (t + 1) n d p q) else (if lo ≤ 0 then (merinoref01_Between.j2 k t hi lo (decide (hi ≥ 0))) else (merinoref01_Between.j2 k t hi lo false))) := fun k => by
      rw [merinoref01_Between.l0, if_pos (by omega), A1, wr64 (x := -p) (by omega) (by omega), B1]
      simp only [Option.bind_some]
      rw [B4, wr64 (x := t + 1) (by omega) (by omega)]
    by_cases hgt : lo > hi
    · refine Ev.step (f := fun k => merinoref01_Between.l0 k (t + 1) n d p q) (fun k => by rw [R, if_pos hgt]) (ih (t + 1) (by omega) ?_ (by omega) (by omega))
      rcases Int.lt_or_le t y with h | h
      · omega
      · obtain rfl : t = y := by omega
        have := (I x).1 S.btw
        omega
    · have hin : Btw n d p q lo t := (I lo).2 ⟨by omega, by omega⟩
      obtain rfl : t = y := by have := (S.least _ _ hin).1; omega
      have hx := (I x).1 S.btw
      have least : ∀ s, lo ≤ s → s ≤ hi → (x.natAbs : Int) ≤ s.natAbs := fun s h1 h2 => (S.least s t ((I s).2 ⟨h1, h2⟩)).2 rfl
      have hg := S.gcd (by omega) a1
      have fin : (if x < -1099511627776 then (some (0, 0, 4) : Option (Int × Int × Int)) else if x > 1099511627776 then some (0, 0, 4) else some (x, t, 0)) = some (if valid x t then (x, t, 0) else (0, 0, 4)) := by
        by_cases hv : valid x t
        · obtain ⟨v1, v2, v3, v4, v5⟩ := id hv
          rw [if_neg (by omega), if_neg (by omega), if_pos hv]
        · rw [if_neg hv]
          by_cases h1 : x < -1099511627776
          · rw [if_pos h1]
          · by_cases h2 : x > 1099511627776
            · rw [if_neg h1, if_pos h2]
            · exact (hv ⟨t1, by omega, by omega, by omega, hg⟩).elim
      by_cases h0 : lo ≤ 0
      · by_cases h1 : hi ≥ 0
        · obtain rfl : x = 0 := by have := least 0 h0 h1; omega
          refine Ev.step (f := fun k => merinoref01_Between.j2 k t hi lo true) (fun k => by rw [R, if_neg hgt, if_pos h0, decide_eq_true h1]) ?_
          exact Ev.step (f := fun _ => some _) (fun k => by rw [merinoref01_Between.j2, if_pos rfl]; exact fin) (Ev.now _)
        · obtain rfl : x = hi := by have := least hi (by omega) (by omega); omega
          refine Ev.step (f := fun k => merinoref01_Between.j2 k t x lo false) (fun k => by rw [R, if_neg hgt, if_pos h0, decide_eq_false h1]) ?_
          exact Ev.step (f := fun _ => some _) (fun k => by rw [merinoref01_Between.j2, if_neg (by decide), if_pos (by omega)]; exact fin) (Ev.now _)
      · obtain rfl : x = lo := by have := least lo (by omega) (by omega); omega
        refine Ev.step (f := fun k => merinoref01_Between.j2 k t hi x false) (fun k => by rw [R, if_neg hgt, if_neg h0]) ?_
        exact Ev.step (f := fun _ => some _) (fun k => by rw [merinoref01_Between.j2, if_neg (by decide), if_neg (by omega)]; exact fin) (Ev.now _)
theorem rbetween_ok {n d p q x y : Int} (hv : valid n d) (hw : valid p q) (hlt : n * q < p * d) (S : Simple n d p q x y) : Ev (fun k => merinoref01_Between.f k n d p q) (if valid x y then (x, y, 0) else (0, 0, 4)) := by
  have C := rcmp_ok n d p q
  rw [if_pos ⟨hv, hw⟩, show cmpI (n * q) (p * d) = -1 by unfold cmpI; rw [if_pos hlt]] at C
  unfold merinoref01_Between.f
  refine Ev.bind C ?_
  simp only [if_true]
  refine Ev.step (f := fun k => merinoref01_Between.l0 k 1 n d p q) (fun k => by rw [merinoref01_Between.j0, if_neg (by decide)]) ?_
  exact rb_l0 hv hw S 1048576 1 (by omega) S.btw.1 (by omega) (by omega)
theorem rbetween_bad {n d p q : Int} (h : ¬ (valid n d ∧ valid p q ∧ n * q < p * d)) : Ev (fun k => merinoref01_Between.f k n d p q) (0, 0, 2) := by
  have C := rcmp_ok n d p q
  have hj : Ev (fun k => merinoref01_Between.j0 k true n d p q) (0, 0, 2) := Ev.step (f := fun _ => some (0, 0, 2)) (fun k => by rw [merinoref01_Between.j0, if_pos rfl]) (Ev.now _)
  unfold merinoref01_Between.f
  by_cases hv : valid n d ∧ valid p q
  · rw [if_pos hv] at C
    have e : cmpI (n * q) (p * d) ≥ 0 := by
      have : ¬ n * q < p * d := fun hl => h ⟨hv.1, hv.2, hl⟩
      unfold cmpI; rw [if_neg this]; split <;> omega
    refine Ev.bind C ?_
    simp only [if_true, decide_eq_true e]
    exact hj
  · rw [if_neg hv] at C
    refine Ev.bind C ?_
    simp only [show ¬ ((2 : Int) = 0) by decide, if_false]
    exact hj
theorem pure_between (n d p q : Int) : ∃ k a b e, num_Between.f k n d p q = some (a, b, e) ∧ merinoref01_Between.f k n d p q = some (a, b, e) := by
  have join : ∀ {a b e : Int}, Ev (fun k => num_Between.f k n d p q) (a, b, e) → Ev (fun k => merinoref01_Between.f k n d p q) (a, b, e) → ∃ k a b e, num_Between.f k n d p q = some (a, b, e) ∧ merinoref01_Between.f k n d p q = some (a, b, e) := fun {a b e} E1 E2 => by
    obtain ⟨k1, g1⟩ := E1
    obtain ⟨k2, g2⟩ := E2
    exact ⟨max k1 k2, a, b, e, g1 _ (by omega), g2 _ (by omega)⟩
  rcases between_ok n d p q with ⟨x, y, E, hv, hw, hlt, hxy, S⟩ | ⟨E, h⟩ | ⟨x, y, E, hv, hw, hlt, hxy, S⟩
  · have := rbetween_ok hv hw hlt S
    rw [if_pos hxy] at this
    exact join E this
  · exact join E (rbetween_bad h)
  · have := rbetween_ok hv hw hlt S
    rw [if_neg hxy] at this
    exact join E this
theorem walk_NumBetween (n d p q : Int) (w : World) : Calls Tryd.prog 6 #[.agg #[.int .i64 n, .int .i64 d], .agg #[.int .i64 p, .int .i64 q]] w fun e w' => e = .returned (.bool true) ∧ Below w.heap.size w w' := by
  obtain ⟨k, a, b, e, h1, h2⟩ := pure_between n d p q
  exact merinolaw01_NumBetween.both k n d p q a b e w h1 h2
end Go.Proofs.Num
