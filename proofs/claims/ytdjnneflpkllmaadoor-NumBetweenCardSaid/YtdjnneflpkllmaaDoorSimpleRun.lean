/- num's Cmp, simplest and Between: what they come to. -/
import Derived.Test.YtdjnneflpkllmaaDoorSimple
import Derived.Test.YtdjnneflpkllmaaDoorNearRun
import Derived.Test.YtdjnneflpkllmaaDoorDigits
import Derived.Test.YtdjnneflpkllmaaDoorPv
import Derived.Test.YtdjnneflpkllmaaDoorR21
namespace Go.Proofs.Num
open Go.RowKit Go.Proofs.YtdjnneflpkllmaaDoorW.PrintWords Go.Proofs.YtdjnneflpkllmaaDoorW.PrintMore Go.Proofs.YtdjnneflpkllmaaDoor.Q
set_option linter.unusedVariables false
set_option linter.unusedSimpArgs false

theorem wm2 {x y : Int} (h1 : -1099511627776 ≤ x) (h2 : x ≤ 1099511627776) (h3 : 0 ≤ y) (h4 : y ≤ 1048576) : -1152921504606846976 ≤ x * y ∧ x * y ≤ 1152921504606846976 := by
  rcases Int.lt_or_le x 0 with h | h
  · have := mul_bd (show 0 ≤ -x by omega) (show -x ≤ 1099511627776 by omega) h3 h4
    have e : -x * y = -(x * y) := by grind
    omega
  · have := mul_bd h h2 h3 h4
    omega
theorem cmp_ok (n d p q : Int) : Ev (fun k => num_Cmp.f k n d p q) (if valid n d ∧ valid p q then (cmpI (n * q) (p * d), 0) else (0, 2)) := by
  unfold num_Cmp.f
  refine Ev.bind (valid_ok n d) ?_
  by_cases h1 : valid n d
  · simp only [h1, decide_true, if_true, true_and]
    refine Ev.bind (valid_ok p q) ?_
    by_cases h2 : valid p q
    · simp only [h2, decide_true, if_true]
      obtain ⟨a1, a2, a3, a4, _⟩ := h1
      obtain ⟨b1, b2, b3, b4, _⟩ := h2
      have m1 := wm2 a3 a4 (show 0 ≤ q by omega) b2
      have m2 := wm2 b3 b4 (show 0 ≤ d by omega) a2
      rw [wr64 (x := n * q) (by omega) (by omega), wr64 (x := p * d) (by omega) (by omega), wr64 (x := n * q - p * d) (by omega) (by omega)]
      have : num_sign.f (n * q - p * d) = some (cmpI (n * q) (p * d)) := by
        unfold num_sign.f cmpI
        (repeat' split) <;> first | rfl | omega
      rw [this]
      exact Ev.now _
    · simp only [h2, decide_false, Bool.false_eq_true, if_false]
      exact Ev.now _
  · simp only [h1, decide_false, Bool.false_eq_true, if_false, false_and]
    exact Ev.now _
theorem div_rest (n : Int) {d : Int} (hd : 1 ≤ d) : n = n / d * d + n % d ∧ 0 ≤ n % d ∧ n % d < d := by
  have h5 : d * (n / d) + n % d = n := Int.mul_ediv_add_emod n d
  rw [Int.mul_comm] at h5
  exact ⟨by omega, Int.emod_nonneg _ (by omega), Int.emod_lt_of_pos _ (by omega)⟩
/-- What the step needs, whatever the signs. -/
theorem step_facts {n d p q fl r : Int} (hn : n = fl * d + r) (h0 : 0 ≤ r) (hr : r < d) (hq : 1 ≤ q) (h : n * q < p * d) : 1 ≤ p - fl * q ∧ q * r < d * (p - fl * q) := by
  have e1 : n * q = fl * q * d + r * q := by rw [hn]; grind
  have e2 : d * (p - fl * q) = p * d - fl * q * d := by grind
  have e3 : q * r = r * q := Int.mul_comm _ _
  have l := Int.mul_nonneg h0 (show 0 ≤ q by omega)
  refine ⟨?_, by omega⟩
  have : 0 < d * (p - fl * q) := by omega
  have := Int.pos_of_mul_pos_right this (by omega)
  omega
theorem low_nums {n d p q a b : Int} (hd : 1 ≤ d) (hq : 0 ≤ q) (h : n * q < p * d) (L : Low n d p q a b) : a ≤ n + p ∧ b ≤ d + q := L.least _ _ (btw_sum hd hq h)
theorem simp_low : ∀ (m : Nat) (n d p q : Int), d + q ≤ m → 0 ≤ n → n ≤ 1048576 → 1 ≤ d → d ≤ 1048576 → p ≤ 1048576 → 0 ≤ q → q ≤ 1048576 → n * q < p * d → ∃ x y, Ev (fun k => num_simplest.f k n d p q) (x, y) ∧ Low n d p q x y := by
  intro m
  induction m with
  | zero => intro n d p q hm; intros; omega
  | succ m ih =>
    intro n d p q hm n0 n1 d0 d1 p1 q0 q1 hlt
    obtain ⟨hn, hr0, hr1⟩ := div_rest n d0
    have D := down_ok (n := n) (d := d) (by omega) (by omega) (by omega) (by omega)
    have f0 : 0 ≤ n / d := Int.ediv_nonneg n0 (by omega)
    have f1 : n / d ≤ n := Int.ediv_le_self _ n0
    generalize n / d = fl at *
    generalize n % d = r at *
    obtain ⟨m1, m2⟩ := mul_bd (show 0 ≤ fl + 1 by omega) (show fl + 1 ≤ 1048577 by omega) q0 q1
    obtain ⟨m3, m4⟩ := mul_bd f0 (show fl ≤ 1048576 by omega) q0 q1
    have e0 : (fl + 1) * q = fl * q + q := by grind
    by_cases hc : q = 0 ∨ p > (fl + 1) * q
    · have hp : (fl + 1) * q < p := by
        rcases hc with h | h
        · subst h
          rw [Int.mul_zero] at hlt ⊢
          exact mul_pos_iff (by omega) hlt
        · exact h
      refine ⟨fl + 1, 1, ?_, low_whole hn hr0 hr1 f0 hp⟩
      refine Ev.step (f := fun k => num_simplest.j0 k d p q fl r true) (fun k => ?_) ?_
      · rw [num_simplest.f, D]
        simp only [Option.bind_some]
        rw [wr64 (x := fl + 1) (by omega) (by omega), wr64 (x := (fl + 1) * q) (by omega) (by omega)]
        by_cases hq : q = 0
        · rw [if_pos hq]
        · rw [if_neg hq, decide_eq_true hp]
      · refine Ev.step (f := fun k => num_simplest.j1 k p q fl false) (fun k => by rw [num_simplest.j0, if_pos rfl, if_neg (by omega)]) ?_
        exact Ev.step (f := fun _ => some (fl + 1, 1)) (fun k => by rw [num_simplest.j1, if_neg (by decide), if_pos f0, wr64 (by omega) (by omega)]) (Ev.now _)
    · have hq1 : 1 ≤ q := by omega
      obtain ⟨s1, s2⟩ := step_facts hn hr0 hr1 hq1 hlt
      obtain ⟨a, b, E, L⟩ := ih q (p - fl * q) d r (by omega) q0 q1 s1 (by omega) d1 hr0 (by omega) s2
      obtain ⟨z1, z2⟩ := low_nums s1 hr0 s2 L
      have hb := L.btw.1
      have ha : 1 ≤ a := by
        have y1 := L.btw.2.1
        have y2 := Int.mul_pos (show 0 < q by omega) (show 0 < b by omega)
        have := mul_pos_iff (a := a) (b := p - fl * q) (by omega) (by omega)
        omega
      obtain ⟨m5, m6⟩ := mul_bd f0 (show fl ≤ 1048576 by omega) (show 0 ≤ a by omega) (show a ≤ 2097152 by omega)
      refine ⟨fl * a + b, a, ?_, low_step hn hr0 hr1 f0 ha L⟩
      refine Ev.step (f := fun k => num_simplest.j0 k d p q fl r false) (fun k => ?_) ?_
      · rw [num_simplest.f, D]
        simp only [Option.bind_some]
        rw [wr64 (x := fl + 1) (by omega) (by omega), wr64 (x := (fl + 1) * q) (by omega) (by omega), if_neg (by omega), decide_eq_false (by omega)]
      · refine Ev.step (f := fun k => (num_simplest.f k q (p - fl * q) d r).bind fun bt489 => some (wrap64 (wrap64 (fl * bt489.1) + bt489.2), bt489.1)) (fun k => ?_) (Ev.bind E ?_)
        · rw [num_simplest.j0, if_neg (by decide), wr64 (x := fl * q) (by omega) (by omega), wr64 (x := p - fl * q) (by omega) (by omega)]
        · simp only []
          rw [wr64 (x := fl * a) (by omega) (by omega), wr64 (x := fl * a + b) (by omega) (by omega)]
          exact Ev.now _
theorem floor2 {n d : Int} (h1 : -1099511627776 ≤ n) (h2 : n ≤ 1099511627776) (hd : 1 ≤ d) : -1099511627776 ≤ n / d ∧ n / d ≤ 1099511627776 := by
  obtain ⟨hn, hr0, hr1⟩ := div_rest n hd
  constructor
  · rcases Int.lt_or_le (n / d) 0 with h | h
    · have := Int.mul_le_mul_of_nonneg_left (show (1 : Int) ≤ d by omega) (show 0 ≤ -(n / d + 1) by omega)
      have e : -(n / d + 1) * d = -(n / d * d) - d := by grind
      omega
    · omega
  · rcases Int.lt_or_le (n / d) 0 with h | h
    · omega
    · have := Int.mul_le_mul_of_nonneg_left (show (1 : Int) ≤ d by omega) h
      omega
/-- The simplest fraction, whatever the signs. -/
theorem simp_ok {n d p q : Int} (hv : valid n d) (hw : valid p q) (hlt : n * q < p * d) : ∃ x y, Ev (fun k => num_simplest.f k n d p q) (x, y) ∧ Simple n d p q x y := by
  obtain ⟨d0, d1, n0, n1, _⟩ := hv
  obtain ⟨q0, q1, p0, p1, _⟩ := hw
  obtain ⟨hn, hr0, hr1⟩ := div_rest n d0
  have D := down_ok (n := n) (d := d) (by omega) (by omega) (by omega) (by omega)
  obtain ⟨f0, f1⟩ := floor2 n0 n1 d0
  generalize n / d = fl at *
  generalize n % d = r at *
  obtain ⟨m3, m4⟩ := wm2 f0 f1 (show 0 ≤ q by omega) q1
  have e0 : (fl + 1) * q = fl * q + q := by grind
  by_cases hc : p > (fl + 1) * q
  · have E0 : ∀ v, Ev (fun k => num_simplest.j0 k d p q fl r true) v → Ev (fun k => num_simplest.f k n d p q) v := fun v E => by
      refine Ev.step (f := fun k => num_simplest.j0 k d p q fl r true) (fun k => ?_) E
      rw [num_simplest.f, D]
      simp only [Option.bind_some]
      rw [wr64 (x := fl + 1) (by omega) (by omega), wr64 (x := (fl + 1) * q) (by omega) (by omega), if_neg (by omega), decide_eq_true hc]
    rcases Int.lt_or_le fl 0 with hf | hf
    · by_cases hp : p > 0
      · refine ⟨0, 1, E0 _ ?_, simple_zero ?_ hp d0⟩
        · refine Ev.step (f := fun k => num_simplest.j1 k p q fl true) (fun k => by rw [num_simplest.j0, if_pos rfl, if_pos hf, if_neg (by omega), decide_eq_true hp]) ?_
          exact Ev.step (f := fun _ => some (0, 1)) (fun k => by rw [num_simplest.j1, if_pos rfl]) (Ev.now _)
        · have : fl * d ≤ -1 * d := Int.mul_le_mul_of_nonneg_right (by omega) (by omega)
          omega
      · obtain ⟨hpn, hl0, hl1⟩ := div_rest p q0
        have D2 := down_ok (n := p) (d := q) (by omega) (by omega) (by omega) (by omega)
        obtain ⟨g0, g1⟩ := floor2 p0 p1 q0
        generalize p / q = u at *
        generalize p % q = l at *
        have E1 : ∀ v, (if l = 0 then (some (u - 1, 1) : Option (Int × Int)) else some (u, 1)) = some v → Ev (fun k => num_simplest.f k n d p q) v := fun v hv => by
          refine E0 _ ?_
          refine Ev.step (f := fun k => num_simplest.j1 k p q fl false) (fun k => by rw [num_simplest.j0, if_pos rfl, if_pos hf, if_neg (by omega), decide_eq_false hp]) ?_
          refine Ev.step (f := fun _ => some v) (fun k => ?_) (Ev.now _)
          rw [num_simplest.j1, if_neg (by decide), if_neg (by omega), D2]
          simp only [Option.bind_some]
          rw [wr64 (x := u - 1) (by omega) (by omega), hv]
        by_cases hl : l = 0
        · refine ⟨u - 1, 1, E1 _ (by rw [if_pos hl]), simple_up (l := q) hn hr0 hr1 q0 hc (by omega) ?_ (by omega) (by omega)⟩
          have : (u - 1) * q = u * q - q := by grind
          omega
        · exact ⟨u, 1, E1 _ (by rw [if_neg hl]), simple_up (l := l) hn hr0 hr1 q0 hc (by omega) hpn (by omega) (by omega)⟩
    · refine ⟨fl + 1, 1, E0 _ ?_, (low_whole hn hr0 hr1 hf hc).simple (by omega)⟩
      refine Ev.step (f := fun k => num_simplest.j1 k p q fl false) (fun k => by rw [num_simplest.j0, if_pos rfl, if_neg (by omega)]) ?_
      exact Ev.step (f := fun _ => some (fl + 1, 1)) (fun k => by rw [num_simplest.j1, if_neg (by decide), if_pos hf, wr64 (by omega) (by omega)]) (Ev.now _)
  · obtain ⟨s1, s2⟩ := step_facts hn hr0 hr1 q0 hlt
    obtain ⟨a, b, E, L⟩ := simp_low (q + (p - fl * q) + d).toNat q (p - fl * q) d r (by omega) (by omega) q1 s1 (by omega) d1 hr0 (by omega) s2
    obtain ⟨z1, z2⟩ := low_nums s1 hr0 s2 L
    have hb := L.btw.1
    have ha : 1 ≤ a := by
      have y1 := L.btw.2.1
      have y2 := Int.mul_pos (show 0 < q by omega) (show 0 < b by omega)
      have := mul_pos_iff (a := a) (b := p - fl * q) (by omega) (by omega)
      omega
    have mm : -2305843009213693952 ≤ fl * a ∧ fl * a ≤ 2305843009213693952 := by
      rcases Int.lt_or_le fl 0 with h | h
      · have := mul_bd (show 0 ≤ -fl by omega) (show -fl ≤ 1099511627776 by omega) (show 0 ≤ a by omega) (show a ≤ 2097152 by omega)
        have e : -fl * a = -(fl * a) := by grind
        omega
      · have := mul_bd h f1 (show 0 ≤ a by omega) (show a ≤ 2097152 by omega)
        omega
    refine ⟨fl * a + b, a, ?_, simple_step hn hr0 hr1 q0 (by omega) ha L⟩
    refine Ev.step (f := fun k => num_simplest.j0 k d p q fl r false) (fun k => ?_) ?_
    · rw [num_simplest.f, D]
      simp only [Option.bind_some]
      rw [wr64 (x := fl + 1) (by omega) (by omega), wr64 (x := (fl + 1) * q) (by omega) (by omega), if_neg (by omega), decide_eq_false (by omega)]
    · refine Ev.step (f := fun k => (num_simplest.f k q (p - fl * q) d r).bind fun bt489 => some (wrap64 (wrap64 (fl * bt489.1) + bt489.2), bt489.1)) (fun k => ?_) (Ev.bind E ?_)
      · rw [num_simplest.j0, if_neg (by decide), wr64 (x := fl * q) (by omega) (by omega), wr64 (x := p - fl * q) (by omega) (by omega)]
      · simp only []
        rw [wr64 (x := fl * a) (by omega) (by omega), wr64 (x := fl * a + b) (by omega) (by omega)]
        exact Ev.now _
/-- num.Between. -/
theorem between_ok (n d p q : Int) : (∃ x y, Ev (fun k => num_Between.f k n d p q) (x, y, 0) ∧ valid n d ∧ valid p q ∧ n * q < p * d ∧ valid x y ∧ Simple n d p q x y) ∨
    (Ev (fun k => num_Between.f k n d p q) (0, 0, 2) ∧ ¬ (valid n d ∧ valid p q ∧ n * q < p * d)) ∨
    (∃ x y, Ev (fun k => num_Between.f k n d p q) (0, 0, 4) ∧ valid n d ∧ valid p q ∧ n * q < p * d ∧ ¬ valid x y ∧ Simple n d p q x y) := by
  have C := cmp_ok n d p q
  by_cases hv : valid n d ∧ valid p q
  · rw [if_pos hv] at C
    by_cases hlt : n * q < p * d
    · obtain ⟨x, y, E, S⟩ := simp_ok hv.1 hv.2 hlt
      have e : cmpI (n * q) (p * d) = -1 := by unfold cmpI; rw [if_pos hlt]
      have key : ∀ v, (if valid x y then (x, y, 0) else ((0, 0, 4) : Int × Int × Int)) = v → Ev (fun k => num_Between.f k n d p q) v := fun v hv' => by
        unfold num_Between.f
        refine Ev.bind C ?_
        simp only [if_true, e]
        refine Ev.step (f := fun k => (num_simplest.f k n d p q).bind fun bt496 => ((num_Valid.f k bt496.1 bt496.2).bind fun t499 => (if t499 = true then (some (bt496.1, bt496.2, 0)) else (some (0, 0, 4))))) (fun k => by rw [num_Between.j0, if_neg (by decide)]) ?_
        refine Ev.bind E (Ev.bind (valid_ok x y) ?_)
        subst hv'
        by_cases h : valid x y
        · simp only [h, decide_true, if_true]; exact Ev.now _
        · simp only [h, decide_false, Bool.false_eq_true, if_false]; exact Ev.now _
      by_cases h : valid x y
      · exact .inl ⟨x, y, key _ (by rw [if_pos h]), hv.1, hv.2, hlt, h, S⟩
      · exact .inr (.inr ⟨x, y, key _ (by rw [if_neg h]), hv.1, hv.2, hlt, h, S⟩)
    · refine .inr (.inl ⟨?_, fun h => hlt h.2.2⟩)
      have e : cmpI (n * q) (p * d) ≥ 0 := by unfold cmpI; rw [if_neg hlt]; split <;> omega
      unfold num_Between.f
      refine Ev.bind C ?_
      simp only [if_true, decide_eq_true e]
      exact Ev.step (f := fun _ => some (0, 0, 2)) (fun k => by rw [num_Between.j0, if_pos rfl]) (Ev.now _)
  · rw [if_neg hv] at C
    refine .inr (.inl ⟨?_, fun h => hv ⟨h.1, h.2.1⟩⟩)
    unfold num_Between.f
    refine Ev.bind C ?_
    simp only [show ¬ ((2 : Int) = 0) by decide, if_false]
    exact Ev.step (f := fun _ => some (0, 0, 2)) (fun k => by rw [num_Between.j0, if_pos rfl]) (Ev.now _)
end Go.Proofs.Num
