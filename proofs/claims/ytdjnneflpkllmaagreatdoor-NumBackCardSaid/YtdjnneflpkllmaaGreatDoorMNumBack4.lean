/- Part 4 of the proof of NumBack. -/
import Derived.Test.YtdjnneflpkllmaaGreatDoorMNumBack3

namespace Go.Proofs.Num
open Go.RowKit Go.Proofs.YtdjnneflpkllmaaGreatDoorW.PrintWords Go.Proofs.YtdjnneflpkllmaaGreatDoorW.PrintMore Go.Proofs.YtdjnneflpkllmaaGreatDoor.Q
set_option linter.unusedVariables false
set_option linter.unusedSimpArgs false
def at_ (l : List Int) (i : Nat) : Int := l.getD i 0
theorem at_cons_zero (x : Int) (t : List Int) : at_ (x :: t) 0 = x := rfl
theorem at_cons_succ (x : Int) (t : List Int) (i : Nat) : at_ (x :: t) (i + 1) = at_ t i := by simp [at_]
theorem wd64 {x : Int} (h0 : -9223372036854775808 ≤ x) (h1 : x ≤ 9223372036854775807) : wrap64 x = x := by unfold wrap64; omega
theorem rd_nat (l : List Int) (i : Nat) : rd l (i : Int) = at_ l i := by simp [rd, at_]
theorem wr64 {x : Int} (h0 : -9223372036854775808 ≤ x) (h1 : x ≤ 9223372036854775807) : wrap64 x = x := by unfold wrap64; omega
theorem mul_bd {x y X Y : Int} (h0 : 0 ≤ x) (h1 : x ≤ X) (g0 : 0 ≤ y) (g1 : y ≤ Y) : 0 ≤ x * y ∧ x * y ≤ X * Y := ⟨Int.mul_nonneg h0 g0, Int.mul_le_mul h1 g1 g0 (Int.le_trans h0 h1)⟩
theorem down_ok {n d : Int} (hn : -4611686018427387904 ≤ n) (hn' : n ≤ 4611686018427387904) (hd : 0 < d) (hd' : d ≤ 4611686018427387904) : num_down.f n d = some (n / d, n % d) := by
  unfold num_down.f
  have h3 : 0 ≤ n % d := Int.emod_nonneg _ (by omega)
  have h4 : n % d < d := Int.emod_lt_of_pos _ hd
  have h5 : d * (n / d) + n % d = n := Int.mul_ediv_add_emod n d
  have b1 : n / d ≤ 4611686018427387904 := by
    have : n / d ≤ n / d * d ∨ n / d < 0 := by
      rcases Int.lt_or_le (n / d) 0 with h | h
      · exact .inr h
      · left
        have := Int.mul_le_mul_of_nonneg_left (show (1 : Int) ≤ d by omega) h
        omega
    rw [Int.mul_comm] at h5
    omega
  have b2 : -4611686018427387905 ≤ n / d := by
    rcases Int.lt_or_le (n / d) 0 with h | h
    · have := Int.mul_le_mul_of_nonneg_right (show (1 : Int) ≤ d by omega) (show 0 ≤ -(n / d + 1) by omega)
      have e : d * (-(n / d + 1)) = -(d * (n / d)) - d := by grind
      omega
    · omega
  rw [if_neg (by omega)]
  have hs : d.sign = 1 := Int.sign_eq_one_of_pos hd
  have ha : (d.natAbs : Int) = d := by omega
  rw [Int.tmod_eq_emod, Int.tdiv_eq_ediv, hs]
  by_cases hc : 0 ≤ n ∨ d ∣ n
  · simp only [if_pos hc]
    rw [if_neg (by omega), wr64 (by omega) (by omega)]
    simp
  · simp only [if_neg hc, ha]
    have hr : n % d ≠ 0 := fun h => hc (.inr (Int.dvd_of_emod_eq_zero h))
    rw [if_pos (by omega), wr64 (x := n / d + 1) (by omega) (by omega), wr64 (by omega) (by omega), wr64 (by omega) (by omega)]
    congr 2 <;> omega
theorem div_rest (n : Int) {d : Int} (hd : 1 ≤ d) : n = n / d * d + n % d ∧ 0 ≤ n % d ∧ n % d < d := by
  have h5 : d * (n / d) + n % d = n := Int.mul_ediv_add_emod n d
  rw [Int.mul_comm] at h5
  exact ⟨by omega, Int.emod_nonneg _ (by omega), Int.emod_lt_of_pos _ (by omega)⟩
/-- x/y in lowest terms, where it fits. -/
def lowest (x y : Int) : Int × Int × Int :=
  let g : Int := (Nat.gcd x.natAbs y.natAbs : Nat)
  if (x.natAbs : Int) / g ≤ 1099511627776 ∧ y / g ≤ 1048576 then ((if x < 0 then -((x.natAbs : Int) / g) else (x.natAbs : Int) / g), y / g, 0) else (0, 0, 4)
/-- The fraction of a path. -/
def cont : List Int → Int × Int
  | [] => (1, 0)
  | x :: t => (x * (cont t).1 + (cont t).2, (cont t).1)
theorem cont_gcd : ∀ l : List Int, Nat.gcd (cont l).1.natAbs (cont l).2.natAbs = 1
  | [] => rfl
  | x :: t => by
    have h := cont_gcd t
    have : Int.gcd (x * (cont t).1 + (cont t).2) (cont t).1 = Int.gcd (cont t).1 (cont t).2 := by
      rw [Int.gcd_comm, Int.add_comm, Int.mul_comm, Int.gcd_add_mul_left_right]
    exact this.trans h
theorem cont_pos : ∀ l : List Int, (∀ x ∈ l, 1 ≤ x) → 1 ≤ (cont l).1 ∧ 0 ≤ (cont l).2 ∧ (cont l).2 ≤ (cont l).1
  | [], _ => by simp [cont]
  | x :: t, h => by
    obtain ⟨h1, h2, h3⟩ := cont_pos t (fun y hy => h y (List.mem_cons_of_mem _ hy))
    have hx := h x (List.mem_cons_self ..)
    have := Int.mul_le_mul_of_nonneg_right hx (show 0 ≤ (cont t).1 by omega)
    simp only [cont]
    omega
theorem cont_ge (x : Int) (t : List Int) (hx : 1 ≤ x) (h : ∀ y ∈ t, 1 ≤ y) : x ≤ (cont (x :: t)).1 ∧ (cont t).1 ≤ (cont (x :: t)).1 := by
  obtain ⟨h1, h2, h3⟩ := cont_pos t h
  have a1 := Int.mul_le_mul_of_nonneg_right hx (show 0 ≤ (cont t).1 by omega)
  have a2 := Int.mul_le_mul_of_nonneg_left h1 (show 0 ≤ x by omega)
  simp only [cont]
  omega
/-- Lowest terms they are already. -/
theorem lowest_of_gcd {x y : Int} (h : Nat.gcd x.natAbs y.natAbs = 1) (hy : 0 ≤ y) : lowest x y = if (x.natAbs : Int) ≤ 1099511627776 ∧ y ≤ 1048576 then (x, y, 0) else (0, 0, 4) := by
  unfold lowest
  simp only [h, Int.natCast_one, Int.ediv_one]
  by_cases c : (x.natAbs : Int) ≤ 1099511627776 ∧ y ≤ 1048576
  · rw [if_pos c, if_pos c]
    by_cases hx : x < 0
    · rw [if_pos hx]; congr 1; omega
    · rw [if_neg hx]; congr 1; omega
  · rw [if_neg c, if_neg c]
theorem drop_at {l : List Int} {i : Nat} (h : i < l.length) : l.drop i = at_ l i :: l.drop (i + 1) := by
  rw [List.drop_eq_getElem_cons h]
  simp [at_, List.getD_eq_getElem?_getD, List.getElem?_eq_getElem h]
/-- From some place on, the numerators only grow towards the front. -/
theorem cont_up {l : List Int} (h : ∀ i, 1 ≤ i → i < l.length → 1 ≤ at_ l i) : ∀ (c i : Nat), 1 ≤ i → i + c ≤ l.length → (cont (l.drop (i + c))).1 ≤ (cont (l.drop i)).1 ∧ (∀ y ∈ l.drop i, 1 ≤ y) := by
  have all : ∀ c i : Nat, 1 ≤ i → l.length - i = c → ∀ y ∈ l.drop i, 1 ≤ y := by
    intro c
    induction c with
    | zero => intro i hi hc y hy; rw [List.drop_eq_nil_of_le (by omega)] at hy; cases hy
    | succ c ih =>
      intro i hi hc y hy
      rw [drop_at (by omega)] at hy
      rcases List.mem_cons.1 hy with rfl | hy
      · exact h i hi (by omega)
      · exact ih (i + 1) (by omega) (by omega) y hy
  intro c
  induction c with
  | zero => intro i hi hl; exact ⟨Int.le_refl _, all _ i hi rfl⟩
  | succ c ih =>
    intro i hi hl
    obtain ⟨a, b⟩ := ih (i + 1) (by omega) (by omega)
    refine ⟨?_, all _ i hi rfl⟩
    rw [drop_at (show i < l.length by omega)]
    have := (cont_ge (at_ l i) _ (h i hi (by omega)) b).2
    rw [show i + (c + 1) = i + 1 + c by omega]
    omega
/-- The loop from the last element back. -/
theorem from_l1 {l : List Int} (h : ∀ i, 1 ≤ i → i < l.length → 1 ≤ at_ l i) (h64 : ∀ i, -9223372036854775808 ≤ at_ l i ∧ at_ l i ≤ 9223372036854775807) (hl : 1 ≤ l.length) (hl2 : l.length ≤ 64) : ∀ i : Nat, i < l.length → (cont (l.drop (i + 1))).1 ≤ 1048576 →
    Ev (fun k => num_FromPath.l1 k l (cont (l.drop (i + 1))).1 (cont (l.drop (i + 1))).2 (i : Int)) (lowest (cont l).1 (cont l).2) := by
  have one : l = at_ l 0 :: l.drop 1 := by have := drop_at (l := l) (i := 0) (by omega); simpa using this
  have e2 : (cont l).2 = (cont (l.drop 1)).1 := by rw [one]; simp [cont]
  have e1 : (cont l).1 = at_ l 0 * (cont (l.drop 1)).1 + (cont (l.drop 1)).2 := by conv => lhs; rw [one]
                                                                                   simp [cont]
  have g := cont_gcd l
  have big : ∀ i, 1 ≤ i → i ≤ l.length → 1048576 < (cont (l.drop i)).1 → lowest (cont l).1 (cont l).2 = (0, 0, 4) := fun i h1 h2 h3 => by
    have := (cont_up h (i - 1) 1 (by omega) (by omega)).1
    rw [show 1 + (i - 1) = i by omega] at this
    obtain ⟨p1, p2, p3⟩ := cont_pos (l.drop 1) ((cont_up h 0 1 (by omega) (by omega)).2)
    rw [lowest_of_gcd g (by omega), if_neg (fun c => by omega)]
  intro i
  induction i with
  | zero =>
    intro hi hn
    obtain ⟨p1, p2, p3⟩ := cont_pos (l.drop 1) ((cont_up h 0 1 (by omega) (by omega)).2)
    obtain ⟨t0, t1⟩ := h64 0
    rw [lowest_of_gcd g (by omega)]
    rw [Nat.zero_add] at hn ⊢
    rw [e2, e1] at g ⊢
    have hr : rd l 0 = at_ l 0 := rd_nat l 0
    clear one e1 e2 big h h64
    generalize (cont (l.drop 1)).1 = n at *
    generalize (cont (l.drop 1)).2 = d at *
    generalize at_ l 0 = t at *
    have hl0 : (0 : Int) < (l.length : Int) := by omega
    have bad : Ev (fun k => num_FromPath.j3 k n d t true) (0, 0, 4) := Ev.step (f := fun _ => some (0, 0, 4)) (fun k => by rw [num_FromPath.j3, if_pos rfl]) (Ev.now _)
    by_cases c1 : t < -1099511627777
    · have m : t * n ≤ -1099511627778 * n := Int.mul_le_mul_of_nonneg_right (by omega) (by omega)
      rw [if_neg (fun c => by omega)]
      exact Ev.step (f := fun k => num_FromPath.j3 k n d t true) (fun k => by rw [num_FromPath.l1, if_neg (by omega), if_pos hl0, hr, if_pos c1]) bad
    · by_cases c2 : t > 1099511627776
      · have m : 1099511627777 * n ≤ t * n := Int.mul_le_mul_of_nonneg_right (by omega) (by omega)
        rw [if_neg (fun c => by omega)]
        exact Ev.step (f := fun k => num_FromPath.j3 k n d t true) (fun k => by rw [num_FromPath.l1, if_neg (by omega), if_pos hl0, hr, if_neg c1, decide_eq_true c2]) bad
      · have m : -1152921504607895553 ≤ t * n ∧ t * n ≤ 1152921504607895553 := by
          rcases Int.lt_or_le t 0 with hx | hx
          · have := mul_bd (show 0 ≤ -t by omega) (show -t ≤ 1099511627777 by omega) (show 0 ≤ n by omega) hn
            have e : -t * n = -(t * n) := by grind
            omega
          · have := mul_bd hx (show t ≤ 1099511627777 by omega) (show 0 ≤ n by omega) hn
            omega
        refine Ev.step (f := fun k => num_FromPath.j3 k n d t false) (fun k => by rw [num_FromPath.l1, if_neg (by omega), if_pos hl0, hr, if_neg c1, decide_eq_false c2]) ?_
        refine Ev.step (f := fun k => (num_Valid.f k (t * n + d) n).bind fun t640 => (if t640 = true then (some (t * n + d, n, 0)) else (some (0, 0, 4)))) (fun k => by rw [num_FromPath.j3, if_neg (by decide), wd64 (x := t * n) (by omega) (by omega), wd64 (x := t * n + d) (by omega) (by omega)]) ?_
        refine Ev.bind (valid_ok _ _) ?_
        by_cases hv : valid (t * n + d) n
        · obtain ⟨v1, v2, v3, v4, v5⟩ := id hv
          have c : ((t * n + d).natAbs : Int) ≤ 1099511627776 ∧ n ≤ 1048576 := ⟨by omega, hn⟩
          simp only [hv, decide_true, if_true, if_pos c]
          exact Ev.now _
        · have c : ¬ (((t * n + d).natAbs : Int) ≤ 1099511627776 ∧ n ≤ 1048576) := fun c => hv ⟨p1, hn, by omega, by omega, g⟩
          simp only [hv, decide_false, Bool.false_eq_true, if_false, if_neg c]
          exact Ev.now _
  | succ i ih =>
    intro hi hn
    have hx := h (i + 1) (by omega) hi
    obtain ⟨t0, t1⟩ := h64 (i + 1)
    obtain ⟨q1, q2⟩ := cont_up h 0 (i + 1 + 1) (by omega) (by omega)
    obtain ⟨p1, p2, p3⟩ := cont_pos _ q2
    have st : cont (l.drop (i + 1)) = (at_ l (i + 1) * (cont (l.drop (i + 1 + 1))).1 + (cont (l.drop (i + 1 + 1))).2, (cont (l.drop (i + 1 + 1))).1) := by rw [drop_at hi]; simp [cont]
    have ge := cont_ge (at_ l (i + 1)) _ hx q2
    rw [← drop_at hi] at ge
    by_cases c1 : at_ l (i + 1) > 1048576
    · rw [big (i + 1) (by omega) (by omega) (by omega)]
      exact Ev.step (f := fun _ => some (0, 0, 4)) (fun k => by rw [num_FromPath.l1, if_pos (by omega), if_pos (by omega), if_pos (by omega), rd_nat, if_pos c1]) (Ev.now _)
    · have m := Int.mul_le_mul (show at_ l (i + 1) ≤ 1048576 by omega) hn (show 0 ≤ (cont (l.drop (i + 1 + 1))).1 by omega) (by omega)
      have m0 := Int.mul_nonneg (show 0 ≤ at_ l (i + 1) by omega) (show 0 ≤ (cont (l.drop (i + 1 + 1))).1 by omega)
      have e := congrArg Prod.fst st
      simp only at e
      by_cases c2 : (cont (l.drop (i + 1))).1 > 1048576
      · rw [big (i + 1) (by omega) (by omega) c2]
        exact Ev.step (f := fun _ => some (0, 0, 4)) (fun k => by rw [num_FromPath.l1, if_pos (by omega), if_pos (by omega), if_pos (by omega), rd_nat, if_neg c1, wd64 (x := at_ l (i + 1) * _) (by omega) (by omega), wd64 (by omega) (by omega), ← e, if_pos c2]) (Ev.now _)
      · refine Ev.step (f := fun k => num_FromPath.l1 k l (cont (l.drop (i + 1))).1 (cont (l.drop (i + 1))).2 (i : Int)) (fun k => ?_) (ih (by omega) (by omega))
        rw [num_FromPath.l1, if_pos (by omega), if_pos (by omega), if_pos (by omega), rd_nat, if_neg c1, wd64 (x := at_ l (i + 1) * _) (by omega) (by omega), wd64 (x := at_ l (i + 1) * _ + _) (by omega) (by omega), ← e, if_neg c2, wd64 (by omega) (by omega), show ((i + 1 : Nat) : Int) - 1 = (i : Int) by omega]
        rw [congrArg Prod.snd st]
/-- A path as FromPath takes it. -/
def pathOk (l : List Int) : Prop := (∀ i, 1 ≤ i → i < l.length → 1 ≤ at_ l i) ∧ (1 < l.length → at_ l (l.length - 1) ≠ 1)
theorem from_l0 {l : List Int} (h64 : ∀ i, -9223372036854775808 ≤ at_ l i ∧ at_ l i ≤ 9223372036854775807) (hl : 1 ≤ l.length) (hl2 : l.length ≤ 64) : ∀ (c i : Nat), l.length - i = c → i ≤ l.length → (∀ j, 1 ≤ j → j < i → 1 ≤ at_ l j) →
    ∃ v, Ev (fun k => num_FromPath.l0 k l ((l.length : Int) - 1) l (l.length : Int) (i : Int)) v ∧ (pathOk l → v = lowest (cont l).1 (cont l).2) ∧ (¬ pathOk l → v = (0, 0, 2)) := by
  intro c
  induction c with
  | zero =>
    intro i hc hi hs
    obtain rfl : i = l.length := by omega
    have last : ∃ m : Nat, m + 1 = l.length := ⟨l.length - 1, by omega⟩
    obtain ⟨m, hm⟩ := last
    have em : (l.length : Int) - 1 = (m : Int) := by omega
    have start : ∀ b : Bool, num_FromPath.j1 = num_FromPath.j1 := fun _ => rfl
    have R : ∀ k, num_FromPath.l0 (k + 1) l ((l.length : Int) - 1) l (l.length : Int) (l.length : Int) = num_FromPath.j1 k l (m : Int) (decide (1 < l.length ∧ at_ l m = 1)) := fun k => by
      rw [num_FromPath.l0, if_neg (by omega), em]
      by_cases h1 : (m : Int) > 0
      · rw [if_pos h1, if_pos (by omega), if_pos (by omega), rd_nat]
        congr 1
        by_cases h2 : at_ l m = 1
        · rw [decide_eq_true ⟨by omega, h2⟩, h2]; rfl
        · rw [decide_eq_false (fun c => h2 c.2)]
          exact beq_eq_false_iff_ne.mpr h2
      · rw [if_neg h1, decide_eq_false (fun c => by omega)]
    have hm1 : l.length - 1 = m := by omega
    by_cases hb : 1 < l.length ∧ at_ l m = 1
    · refine ⟨(0, 0, 2), ?_, fun hp => ?_, fun _ => rfl⟩
      · refine Ev.step (f := fun k => num_FromPath.j1 k l (m : Int) true) (fun k => by rw [R, decide_eq_true hb]) ?_
        exact Ev.step (f := fun _ => some (0, 0, 2)) (fun k => by rw [num_FromPath.j1, if_pos rfl]) (Ev.now _)
      · have := hp.2 hb.1
        rw [hm1] at this
        exact (this hb.2).elim
    · refine ⟨_, ?_, fun _ => rfl, fun hp => (hp ⟨hs, fun h1 h2 => hb ⟨h1, by rw [hm1] at h2; exact h2⟩⟩).elim⟩
      have E := from_l1 hs h64 hl hl2 m (by omega) (by rw [List.drop_eq_nil_of_le (by omega)]; simp [cont])
      rw [List.drop_eq_nil_of_le (by omega)] at E
      refine Ev.step (f := fun k => num_FromPath.j1 k l (m : Int) false) (fun k => by rw [R, decide_eq_false hb]) ?_
      exact Ev.step (f := fun k => num_FromPath.l1 k l 1 0 (m : Int)) (fun k => by rw [num_FromPath.j1, if_neg (by decide)]) E
  | succ c ih =>
    intro i hc hi hs
    have go : (1 ≤ i → 1 ≤ at_ l i) → ∃ v, Ev (fun k => num_FromPath.l0 k l ((l.length : Int) - 1) l (l.length : Int) (i : Int)) v ∧ (pathOk l → v = lowest (cont l).1 (cont l).2) ∧ (¬ pathOk l → v = (0, 0, 2)) := fun hx => by
      obtain ⟨v, E, h1⟩ := ih (i + 1) (by omega) (by omega) (fun j h1 h2 => by
        rcases Nat.lt_or_ge j i with h | h
        · exact hs j h1 h
        · obtain rfl : j = i := by omega
          exact hx h1)
      refine ⟨v, Ev.step (f := fun k => num_FromPath.l0 k l ((l.length : Int) - 1) l (l.length : Int) ((i + 1 : Nat) : Int)) (fun k => ?_) E, h1⟩
      rw [num_FromPath.l0, if_pos (by omega), if_pos (by omega), if_pos (by omega), rd_nat, wd64 (x := (i : Int) + 1) (by omega) (by omega)]
      by_cases h0 : (i : Int) > 0
      · rw [if_pos h0, if_neg (by have := hx (by omega); omega)]; rfl
      · rw [if_neg h0]; rfl
    by_cases h0 : 1 ≤ i
    · by_cases hx : 1 ≤ at_ l i
      · exact go (fun _ => hx)
      · refine ⟨(0, 0, 2), Ev.step (f := fun _ => some (0, 0, 2)) (fun k => ?_) (Ev.now _), fun hp => (hx (hp.1 i h0 (by omega))).elim, fun _ => rfl⟩
        rw [num_FromPath.l0, if_pos (by omega), if_pos (by omega), if_pos (by omega), rd_nat, if_pos (by omega), if_pos (by omega)]
    · exact go (fun h => (h0 h).elim)
theorem same_l0 {l : List Int} (hs : l.length ≤ 4194304) : ∀ (c i : Nat), l.length - i = c → i ≤ l.length → Ev (fun k => merinolaw01_same.l0 k l l (i : Int)) true := by
  intro c
  induction c with
  | zero =>
    intro i hc hi
    exact Ev.step (f := fun _ => some true) (fun k => by rw [merinolaw01_same.l0, if_neg (by omega)]) (Ev.now _)
  | succ c ih =>
    intro i hc hi
    refine Ev.step (f := fun k => merinolaw01_same.l0 k l l ((i + 1 : Nat) : Int)) (fun k => ?_) (ih (i + 1) (by omega) (by omega))
    rw [merinolaw01_same.l0, if_pos (by omega), if_pos (by omega), if_pos (by omega), if_pos rfl, wd64 (x := (i : Int) + 1) (by omega) (by omega)]
    rfl
theorem same_ok {l : List Int} (hs : l.length ≤ 4194304) : Ev (fun k => merinolaw01_same.f k l l) true := by
  have : (fun k => merinolaw01_same.f k l l) = fun k => merinolaw01_same.l0 k l l ((0 : Nat) : Int) := funext fun k => by unfold merinolaw01_same.f; rw [if_pos rfl]; rfl
  rw [this]
  exact same_l0 hs l.length 0 rfl (by omega)
theorem from_ok {l : List Int} (h64 : ∀ i, -9223372036854775808 ≤ at_ l i ∧ at_ l i ≤ 9223372036854775807) (hs : l.length ≤ 4194304) :
    ∃ v, Ev (fun k => num_FromPath.f k l) v ∧ (1 ≤ l.length → l.length ≤ 64 → pathOk l → v = lowest (cont l).1 (cont l).2) ∧ (¬ (1 ≤ l.length ∧ l.length ≤ 64 ∧ pathOk l) → v.2.2 ≠ 0 ∧ v.1 = 0 ∧ v.2.1 = 0) := by
  unfold num_FromPath.f
  by_cases a : l.length ≤ 64
  · by_cases b : 1 ≤ l.length
    · obtain ⟨v, E, h1, h2⟩ := from_l0 h64 b a l.length 0 (by omega) (by omega) (fun j g1 g2 => by omega)
      refine ⟨v, ?_, fun _ _ => h1, fun c => ?_⟩
      · simp only [if_neg (show ¬ ((l.length : Int) > 64) by omega), wd64 (x := (l.length : Int) - 1) (by omega) (by omega), if_neg (show ¬ ((l.length : Int) - 1 < 0) by omega)]
        exact E
      · rw [h2 (fun p => c ⟨b, a, p⟩)]
        decide
    · refine ⟨(0, 0, 2), Ev.step (f := fun _ => some (0, 0, 2)) (fun k => ?_) (Ev.now _), fun c => absurd c b, fun _ => by decide⟩
      rw [if_neg (by omega), wd64 (by omega) (by omega), if_pos (by omega)]
  · refine ⟨(0, 0, 3), Ev.step (f := fun _ => some (0, 0, 3)) (fun k => ?_) (Ev.now _), fun _ c => absurd c a, fun _ => by decide⟩
    rw [if_pos (by omega)]
/-- The path of a fraction, from some remainder on. -/
structure PathOf (n d : Int) (r : List Int) : Prop where
  c : cont r = (n, d)
  some : 1 ≤ r.length
  ok : pathOk r
  up : d < n → (∀ i, i < r.length → 1 ≤ at_ r i) ∧ at_ r (r.length - 1) ≠ 1
theorem path_run : ∀ (K m : Nat) (n d : Int) (l : List Int), d = m → m < 2 ^ K → 1 ≤ d → -1099511627776 ≤ n → n ≤ 1099511627776 → d ≤ 1048576 → Nat.gcd n.natAbs d.natAbs = 1 → l.length + 2 * K ≤ 1000 →
    ∃ r, Ev (fun k => num_Path.l0 k l n d) (l ++ r, 0) ∧ PathOf n d r ∧ r.length ≤ 2 * K := by
  have one : ∀ (n d : Int) (l : List Int) (u : List Int × Int), 1 ≤ d → -1099511627776 ≤ n → n ≤ 1099511627776 → d ≤ 1048576 → l.length ≤ 100000 → Ev (fun k => num_Path.l0 k (l ++ [n / d]) d (n % d)) u → Ev (fun k => num_Path.l0 k l n d) u := by
    intro n d l u h1 h2 h3 h4 h5 E
    refine Ev.step (f := fun k => num_Path.l0 k (l ++ [n / d]) d (n % d)) (fun k => ?_) E
    have D := down_ok (n := n) (d := d) (by omega) (by omega) (by omega) (by omega)
    rw [num_Path.l0]
    simp only [show ¬ d = 0 by omega, D, Option.bind_some, if_false, if_true, ne_eq, not_false_eq_true, show l.length < 17592186044416 by omega]
  have last : ∀ (d : Int) (l : List Int), Ev (fun k => num_Path.l0 k l d 0) (l, 0) := fun d l => Ev.step (f := fun _ => some (l, 0)) (fun k => by rw [num_Path.l0]; simp) (Ev.now _)
  have gc : ∀ (n d : Int), 1 ≤ d → Nat.gcd n.natAbs d.natAbs = 1 → Nat.gcd d.natAbs (n % d).natAbs = 1 := by
    intro n d h1 g
    have h : Int.gcd d (n % d) = Int.gcd n d := by
      have e := (div_rest n h1).1
      conv => rhs; rw [e]
      rw [Int.gcd_comm (n / d * d + n % d), Int.add_comm, Int.mul_comm, Int.gcd_add_mul_left_right]
    exact h.trans g
  have end_ : ∀ n d : Int, 1 ≤ d → n % d = 0 → Nat.gcd n.natAbs d.natAbs = 1 → PathOf n d [n / d] := by
    intro n d h1 h0 g
    have g2 := gc n d h1 g
    rw [h0] at g2
    have d1 : d = 1 := by
      have : Nat.gcd d.natAbs 0 = d.natAbs := Nat.gcd_zero_right _
      have e : (0 : Int).natAbs = 0 := rfl
      rw [e] at g2
      omega
    subst d1
    refine ⟨by simp [cont], by simp, ⟨fun i a b => by simp at b; omega, fun h => by simp at h⟩, fun h => ⟨fun i hi => ?_, ?_⟩⟩
    · obtain rfl : i = 0 := by simp at hi; omega
      rw [at_cons_zero]; omega
    · show at_ [n / 1] 0 ≠ 1
      rw [at_cons_zero]; omega
  have more : ∀ (n d : Int) (r : List Int), 1 ≤ d → PathOf d (n % d) r → PathOf n d (n / d :: r) := by
    intro n d r h1 h
    obtain ⟨e, r0, r1⟩ := div_rest n h1
    obtain ⟨u1, u2⟩ := h.up r1
    have hs := h.some
    have la : at_ (n / d :: r) ((n / d :: r).length - 1) = at_ r (r.length - 1) := by
      rw [List.length_cons, show r.length + 1 - 1 = (r.length - 1) + 1 by omega, at_cons_succ]
    refine ⟨?_, by simp, ⟨fun i a b => ?_, fun _ => ?_⟩, fun lt => ⟨fun i hi => ?_, ?_⟩⟩
    · show (n / d * (cont r).1 + (cont r).2, (cont r).1) = (n, d)
      rw [h.c, ← e]
    · obtain ⟨j, rfl⟩ : ∃ j, i = j + 1 := ⟨i - 1, by omega⟩
      rw [at_cons_succ]
      exact u1 j (by simp at b; omega)
    · rw [la]; exact u2
    · cases i with
      | zero =>
        rw [at_cons_zero]
        rcases Int.lt_or_le (n / d) 1 with c | c
        · have : n / d * d ≤ 0 := by
            have := Int.mul_le_mul_of_nonneg_right (show n / d ≤ 0 by omega) (show 0 ≤ d by omega)
            omega
          omega
        · exact c
      | succ j => rw [at_cons_succ]; exact u1 j (by simp at hi; omega)
    · rw [la]; exact u2
  intro K
  induction K with
  | zero => intro m n d l hm hK h1; omega
  | succ K ih =>
    intro m n d l hm hK h1 n0 n1 d1 g hl
    obtain ⟨e, r0, r1⟩ := div_rest n h1
    by_cases z : n % d = 0
    · refine ⟨[n / d], one n d l _ h1 n0 n1 d1 (by omega) ?_, end_ n d h1 z g, by simp; omega⟩
      rw [z]
      exact last d _
    · have g2 := gc n d h1 g
      obtain ⟨e2, s0, s1⟩ := div_rest d (show 1 ≤ n % d by omega)
      by_cases z2 : d % (n % d) = 0
      · refine ⟨[n / d, d / (n % d)], one n d l _ h1 n0 n1 d1 (by omega) (one d (n % d) (l ++ [n / d]) _ (by omega) (by omega) (by omega) (by omega) (by simp; omega) ?_), more n d _ h1 (end_ d (n % d) (by omega) z2 g2), by simp; omega⟩
        rw [z2]
        have := last (n % d) (l ++ [n / d] ++ [d / (n % d)])
        simpa using this
      · have g3 := gc d (n % d) (by omega) g2
        have q1 : 1 ≤ d / (n % d) := by
          rcases Int.lt_or_le (d / (n % d)) 1 with c | c
          · have := Int.mul_le_mul_of_nonneg_right (show d / (n % d) ≤ 0 by omega) (show 0 ≤ n % d by omega)
            omega
          · exact c
        have half : n % d ≤ d / (n % d) * (n % d) := by
          have := Int.mul_le_mul_of_nonneg_right q1 (show 0 ≤ n % d by omega)
          omega
        have pw : 2 ^ (K + 1) = 2 * 2 ^ K := by rw [Nat.pow_succ, Nat.mul_comm]
        obtain ⟨r, E, P, hr⟩ := ih (d % (n % d)).toNat (n % d) (d % (n % d)) (l ++ [n / d] ++ [d / (n % d)]) (by omega) (by omega) (by omega) (by omega) (by omega) (by omega) g3 (by simp; omega)
        refine ⟨n / d :: d / (n % d) :: r, one n d l _ h1 n0 n1 d1 (by omega) (one d (n % d) (l ++ [n / d]) _ (by omega) (by omega) (by omega) (by omega) (by simp; omega) ?_), more n d _ h1 (more d (n % d) r (by omega) P), by simp; omega⟩
        simpa using E
/-- Path of num: the one path of the fraction. -/
theorem path_ok (n d : Int) : ∃ r e, Ev (fun k => num_Path.f k n d) (r, e) ∧ (valid n d → e = 0 ∧ PathOf n d r ∧ r.length ≤ 64) ∧ (¬ valid n d → e = 2 ∧ r = []) ∧ r.length ≤ 64 := by
  by_cases h : valid n d
  · obtain ⟨v1, v2, v3, v4, v5⟩ := id h
    have tw : d.toNat < 2 ^ 21 := by
      have : (2 : Nat) ^ 21 = 2097152 := by decide
      omega
    obtain ⟨r, E, P, lr⟩ := path_run 21 d.toNat n d [] (by omega) tw v1 v3 v4 v2 v5 (by simp)
    refine ⟨r, 0, ?_, fun _ => ⟨rfl, P, by omega⟩, fun c => absurd h c, by omega⟩
    unfold num_Path.f
    refine Ev.bind (valid_ok n d) ?_
    simp only [h, decide_true, if_true]
    exact E
  · refine ⟨[], 2, ?_, fun c => absurd c h, fun _ => ⟨rfl, rfl⟩, by simp⟩
    unfold num_Path.f
    refine Ev.bind (valid_ok n d) ?_
    simp only [h, decide_false, Bool.false_eq_true, if_false]
    exact Ev.now _
theorem pathOk.tail {x : Int} {t : List Int} (h : pathOk (x :: t)) : pathOk t ∧ ∀ i, i < t.length → 1 ≤ at_ t i := by
  have a : ∀ i, i < t.length → 1 ≤ at_ t i := fun i hi => by
    have := h.1 (i + 1) (by omega) (by simp; omega)
    rwa [at_cons_succ] at this
  refine ⟨⟨fun i _ hi => a i hi, fun h1 => ?_⟩, a⟩
  have := h.2 (by simp; omega)
  rwa [List.length_cons, show t.length + 1 - 1 = (t.length - 1) + 1 by omega, at_cons_succ] at this
theorem mem_at {t : List Int} (h : ∀ i, i < t.length → 1 ≤ at_ t i) : ∀ y ∈ t, 1 ≤ y := fun y hy => by
  obtain ⟨i, hi, rfl⟩ := List.mem_iff_getElem.1 hy
  have := h i hi
  simpa [at_, List.getD_eq_getElem?_getD, List.getElem?_eq_getElem hi] using this
/-- Behind the first term: a proper fraction. -/
theorem pathOk.proper {x : Int} {t : List Int} (h : pathOk (x :: t)) : 1 ≤ (cont t).1 ∧ 0 ≤ (cont t).2 ∧ (cont t).2 < (cont t).1 ∧ ((cont t).2 = 0 → t = []) := by
  obtain ⟨_, a⟩ := h.tail
  cases t with
  | nil => simp [cont]
  | cons y s =>
    obtain ⟨_, b⟩ := (h.tail.1).tail
    obtain ⟨p1, p2, p3⟩ := cont_pos s (mem_at b)
    have y1 : 1 ≤ y := by have := a 0 (by simp); rwa [at_cons_zero] at this
    have m := Int.mul_le_mul_of_nonneg_right y1 (show 0 ≤ (cont s).1 by omega)
    show 1 ≤ y * (cont s).1 + (cont s).2 ∧ 0 ≤ (cont s).1 ∧ (cont s).1 < y * (cont s).1 + (cont s).2 ∧ ((cont s).1 = 0 → _)
    refine ⟨by omega, by omega, ?_, fun c => by omega⟩
    by_cases y2 : y = 1
    · cases s with
      | nil =>
        have := h.2 (by simp)
        exact absurd y2 this
      | cons z u =>
        obtain ⟨q1, _, _⟩ := cont_pos u (mem_at (((h.tail.1).tail.1).tail.2))
        have : (cont (z :: u)).2 = (cont u).1 := rfl
        omega
    · have := Int.mul_le_mul_of_nonneg_right (show 2 ≤ y by omega) (show 0 ≤ (cont s).1 by omega)
      omega
theorem cont_inj : ∀ (l r : List Int), 1 ≤ l.length → 1 ≤ r.length → pathOk l → pathOk r → cont l = cont r → l = r := by
  intro l
  induction l with
  | nil => intro r h; simp at h
  | cons x t ih =>
    intro r _ h2 p q e
    cases r with
    | nil => simp at h2
    | cons y s =>
      obtain ⟨a1, a2, a3, a4⟩ := p.proper
      obtain ⟨b1, b2, b3, b4⟩ := q.proper
      have e1 : x * (cont t).1 + (cont t).2 = y * (cont s).1 + (cont s).2 := congrArg Prod.fst e
      have e2 : (cont t).1 = (cont s).1 := congrArg Prod.snd e
      have xy : x = y := by
        have h1 : (x * (cont t).1 + (cont t).2) / (cont t).1 = x := by
          rw [Int.add_comm, Int.add_mul_ediv_right _ _ (by omega), Int.ediv_eq_zero_of_lt a2 a3]; omega
        have h2 : (y * (cont s).1 + (cont s).2) / (cont s).1 = y := by
          rw [Int.add_comm, Int.add_mul_ediv_right _ _ (by omega), Int.ediv_eq_zero_of_lt b2 b3]; omega
        rw [← h1, ← h2, e1, e2]
      subst xy
      have e3 : (cont t).2 = (cont s).2 := by rw [e2] at e1; omega
      by_cases z : (cont t).2 = 0
      · rw [a4 z, b4 (by omega)]
      · have nt : t ≠ [] := fun c => by rw [c] at z; simp [cont] at z
        have ns : s ≠ [] := fun c => by rw [c] at e3; exact z e3
        rw [ih s (by cases t; exact absurd rfl nt; simp) (by cases s; exact absurd rfl ns; simp) p.tail.1 q.tail.1 (Prod.ext e2 e3)]
/-- FromPath undoes Path. -/
theorem from_path {n d : Int} {r : List Int} (h : valid n d) (P : PathOf n d r) : lowest (cont r).1 (cont r).2 = (n, d, 0) := by
  obtain ⟨v1, v2, v3, v4, v5⟩ := id h
  rw [P.c, lowest_of_gcd v5 (by omega), if_pos ⟨by omega, by omega⟩]
/-- Path undoes FromPath. -/
theorem path_from {l : List Int} {x y e : Int} (h1 : 1 ≤ l.length) (p : pathOk l) (h : lowest (cont l).1 (cont l).2 = (x, y, e)) (he : e = 0) : valid x y ∧ ∀ r, PathOf x y r → r = l := by
  have g := cont_gcd l
  obtain ⟨a, t, rfl⟩ : ∃ a t, l = a :: t := by cases l with | nil => simp at h1 | cons a t => exact ⟨a, t, rfl⟩
  obtain ⟨p1, p2, p3, p4⟩ := p.proper
  have c2 : (cont (a :: t)).2 = (cont t).1 := rfl
  rw [lowest_of_gcd g (by omega)] at h
  by_cases c : ((cont (a :: t)).1.natAbs : Int) ≤ 1099511627776 ∧ (cont (a :: t)).2 ≤ 1048576
  · rw [if_pos c] at h
    injection h with h3 h4
    injection h4 with h5 h6
    subst h3 h5
    refine ⟨⟨by omega, c.2, by omega, by omega, g⟩, fun r P => cont_inj _ _ P.some h1 P.ok p (by rw [P.c])⟩
  · rw [if_neg c] at h
    injection h with h3 h4
    injection h4 with h5 h6
    omega
/-- The terms of a path are small. -/
theorem path_bounds {n d : Int} {r : List Int} (h : valid n d) (P : PathOf n d r) : ∀ i, -9223372036854775808 ≤ at_ r i ∧ at_ r i ≤ 9223372036854775807 := by
  obtain ⟨v1, v2, v3, v4, v5⟩ := id h
  have key : ∀ (t : List Int) (B : Int), (∀ i, i < t.length → 1 ≤ at_ t i) → (cont t).1 ≤ B → 1 ≤ B → ∀ i, 0 ≤ at_ t i ∧ at_ t i ≤ B := by
    intro t
    induction t with
    | nil => intro B _ _ hB i; simp [at_]; omega
    | cons y s ih =>
      intro B hy hB h1 i
      have y1 : 1 ≤ y := by have := hy 0 (by simp); rwa [at_cons_zero] at this
      have hs : ∀ i, i < s.length → 1 ≤ at_ s i := fun i hi => by have := hy (i + 1) (by simp; omega); rwa [at_cons_succ] at this
      obtain ⟨g1, g2⟩ := cont_ge y s y1 (mem_at hs)
      cases i with
      | zero => rw [at_cons_zero]; omega
      | succ i => rw [at_cons_succ]; exact ih B hs (by omega) h1 i
  obtain ⟨x, t, rfl⟩ : ∃ x t, r = x :: t := by cases r with | nil => exact absurd P.some (by simp) | cons x t => exact ⟨x, t, rfl⟩
  have e := P.c
  have e2 : (cont t).1 = d := congrArg Prod.snd e
  have e1 : x * (cont t).1 + (cont t).2 = n := congrArg Prod.fst e
  obtain ⟨p1, p2, p3, _⟩ := P.ok.proper
  intro i
  cases i with
  | zero =>
    rw [at_cons_zero]
    rcases Int.lt_or_le x 0 with c | c
    · have := Int.mul_le_mul_of_nonneg_left p1 (show 0 ≤ -x by omega)
      have g : -x * (cont t).1 = -(x * (cont t).1) := by grind
      omega
    · have := Int.mul_le_mul_of_nonneg_left p1 c
      omega
  | succ i =>
    rw [at_cons_succ]
    have := key t 1048576 P.ok.tail.2 (by omega) (by omega) i
    omega
end Go.Proofs.Num

namespace Go.Proofs.Num
open Go.RowKit Go.Proofs.YtdjnneflpkllmaaGreatDoorW.PrintWords Go.Proofs.YtdjnneflpkllmaaGreatDoorW.PrintMore Go.Proofs.YtdjnneflpkllmaaGreatDoor.Q
set_option linter.unusedVariables false
set_option linter.unusedSimpArgs false
theorem natD_app : ∀ (l r : List UInt8) (n : Nat), natD (l ++ r) n = natD r (natD l n)
  | [], r, n => rfl
  | c :: l, r, n => by rw [List.cons_append, natD, natD, natD_app l r]
theorem natD_rep : ∀ (m : Nat) (r : List UInt8), natD (List.replicate m 48 ++ r) 0 = natD r 0
  | 0, r => rfl
  | m + 1, r => by
    rw [List.replicate_succ, List.cons_append, natD]
    exact natD_rep m r
theorem natD_dec (u : Nat) : natD (Lib.decDigits u) 0 = u := by
  induction u using Nat.strongRecOn with
  | ind u ih =>
    by_cases h : u < 10
    · rw [Lib.decDigits_one h, natD, natD, show (UInt8.ofNat (48 + u)).toNat = 48 + u by simp [UInt8.toNat_ofNat']; omega]
      omega
    · rw [Lib.decDigits, dif_neg h, natD_app, ih (u / 10) (by omega), natD, natD, show (UInt8.ofNat (48 + u % 10)).toNat = 48 + u % 10 by simp [UInt8.toNat_ofNat']; omega]
      omega
/-- No zero ahead, but in the one digit 0. -/
theorem dec_lead (u : Nat) (h : 1 < (Lib.decDigits u).length) : (Lib.decDigits u).head? ≠ some 48 := by
  induction u using Nat.strongRecOn with
  | ind u ih =>
    by_cases h10 : u < 10
    · rw [Lib.decDigits_one h10] at h; simp at h
    · rw [Lib.decDigits, dif_neg h10] at h ⊢
      have ne := dec_ne (u / 10)
      rw [show (Lib.decDigits (u / 10) ++ [UInt8.ofNat (48 + u % 10)]).head? = (Lib.decDigits (u / 10)).head? by cases e : Lib.decDigits (u / 10) with | nil => exact absurd e ne | cons a b => rfl]
      by_cases h2 : 1 < (Lib.decDigits (u / 10)).length
      · exact ih (u / 10) (by omega) h2
      · by_cases h3 : u / 10 < 10
        · rw [Lib.decDigits_one h3]
          intro g
          have g2 := congrArg UInt8.toNat (Option.some.inj (show some (UInt8.ofNat (48 + u / 10)) = some 48 from g))
          rw [show (UInt8.ofNat (48 + u / 10)).toNat = 48 + u / 10 by simp [UInt8.toNat_ofNat']; omega] at g2
          have : (48 : UInt8).toNat = 48 := rfl
          omega
        · rw [Lib.decDigits, dif_neg h3] at h2
          have ne2 := dec_ne (u / 10 / 10)
          cases e : Lib.decDigits (u / 10 / 10) with
          | nil => exact absurd e ne2
          | cons a b => rw [e] at h2; simp at h2
theorem padded_all (p u : Nat) : (padded p (Lib.decDigits u)).all isD = true := by
  unfold padded
  rw [List.all_append, dec_all, Bool.and_true]
  exact List.all_eq_true.2 (fun x hx => by rw [List.eq_of_mem_replicate hx]; decide)
theorem point_ok (p u : Nat) : okP (point p (padded p (Lib.decDigits u))) p ∧ digs (point p (padded p (Lib.decDigits u))) = padded p (Lib.decDigits u) ∧ ∃ c r, point p (padded p (Lib.decDigits u)) = c :: r ∧ isD c = true := by
  have al := padded_all p u
  have ln := (padded_len p (Lib.decDigits u)).1
  have ld : ∀ h, 1 < h → (padded p (Lib.decDigits u)).length - p = h → (padded p (Lib.decDigits u)).head? ≠ some 48 := fun h h1 e => by
    have : padded p (Lib.decDigits u) = Lib.decDigits u := by
      unfold padded at e ⊢
      rw [List.length_append, List.length_replicate] at e
      rw [show p + 1 - (Lib.decDigits u).length = 0 by omega]
      rfl
    rw [this] at e ⊢
    exact dec_lead u (by omega)
  generalize padded p (Lib.decDigits u) = P at *
  unfold okP digs point
  by_cases p0 : p = 0
  · subst p0
    rw [if_pos rfl, cut_miss (no46 al)]
    refine ⟨⟨rfl, rfl, by simpa using al, fun c => by have c2 : P = [] := c; rw [c2] at ln; simp at ln, fun c => ld P.length c.1 rfl c.2⟩, by simp, ?_⟩
    cases P with
    | nil => simp at ln
    | cons c r => rw [List.all_cons, Bool.and_eq_true] at al; exact ⟨c, r, rfl, al.1⟩
  · rw [if_neg p0]
    have al2 : (P.take (P.length - p)).all isD = true := List.all_eq_true.2 (fun x hx => List.all_eq_true.1 al x (List.mem_of_mem_take hx))
    rw [cut_hit (no46 al2)]
    have ne : P.take (P.length - p) ≠ [] := fun c => by
      have := congrArg List.length c
      rw [List.length_take, List.length_nil] at this
      omega
    refine ⟨⟨by simp; omega, by simp; omega, by simp only [List.take_append_drop]; exact al, ne, fun c => ?_⟩, by simp, ?_⟩
    · obtain ⟨c1, c2⟩ := c
      simp only [List.length_take] at c1
      refine ld (P.length - p) (by omega) rfl ?_
      have c2' : (List.take (P.length - p) P).head? = some 48 := c2
      cases P with
      | nil => simp at ln
      | cons c r =>
        rw [show (c :: r).length - p = ((c :: r).length - p - 1) + 1 by omega, List.take_succ_cons] at c2'
        exact c2'
    · cases P with
      | nil => simp at ln
      | cons c r =>
        rw [List.all_cons, Bool.and_eq_true] at al
        rw [show (c :: r).length - p = ((c :: r).length - p - 1) + 1 by omega, List.take_succ_cons]
        exact ⟨c, _, rfl, al.1⟩
theorem pdV_back (n : Int) (p : Nat) : pdV (decS n p) p = if 1125899906842624 < n.natAbs then (0, 4) else (n, 0) := by
  obtain ⟨ok, dg, c, r, ec, hc⟩ := point_ok p n.natAbs
  have c45 : c ≠ 45 := fun h => by rw [h] at hc; exact absurd hc (by decide)
  have v : natD (padded p (Lib.decDigits n.natAbs)) 0 = n.natAbs := by
    unfold padded
    rw [natD_rep, natD_dec]
  have e1 : negB (decS n p) = decide (n < 0) := by
    unfold negB decS
    by_cases h : n < 0
    · rw [decide_eq_true h]; rfl
    · rw [decide_eq_false h, ec]
      exact decide_eq_false (fun g => c45 (Option.some.inj g))
  have e2 : rest (decS n p) = point p (padded p (Lib.decDigits n.natAbs)) := by
    unfold rest decS
    by_cases h : n < 0
    · rw [decide_eq_true h]; rfl
    · rw [decide_eq_false h, ec]
      exact if_neg (fun g => c45 (Option.some.inj g))
  unfold pdV
  rw [e1, e2, if_pos ok, dg, v]
  by_cases z : n.natAbs = 0
  · rw [if_pos z]
    obtain rfl : n = 0 := by omega
    rfl
  · rw [if_neg z]
    by_cases b : 1125899906842624 < n.natAbs
    · rw [if_pos b, if_pos b]
    · rw [if_neg b, if_neg b]
      by_cases h : n < 0
      · rw [decide_eq_true h, if_pos rfl]; exact Prod.ext (show -(n.natAbs : Int) = n by omega) rfl
      · rw [decide_eq_false h, if_neg (by decide)]; exact Prod.ext (show (n.natAbs : Int) = n by omega) rfl
end Go.Proofs.Num

namespace Go.Proofs.Num
open Go.RowKit Go.Proofs.YtdjnneflpkllmaaGreatDoorW.PrintWords Go.Proofs.YtdjnneflpkllmaaGreatDoorW.PrintLast Go.Proofs.YtdjnneflpkllmaaGreatDoorW.PrintMore Go.Proofs.YtdjnneflpkllmaaGreatDoor.Q
attribute [local go_sem high] eqA23
set_option linter.unusedVariables false
set_option linter.unusedSimpArgs false
/-- A list in cells. -/
def Held (w : World) (A : Option Addr) (c : Nat) (l : List Int) : Prop := Kd.C (Kd.int .i64) w A l.length l ∧ l.length ≤ c
theorem Held.below {w w' : World} {A : Option Addr} {c : Nat} {l : List Int} (h : Held w A c l) (hb : Below w.heap.size w w') : Held w' A c l := ⟨Kd.C_below h.1 hb, h.2⟩
/-- What Path is known to answer. -/
abbrev PathC (n d : Int) (r : List Int) (e : Int) : Prop := ∀ y, Calls Tryz.prog 15 #[.agg #[.int .i64 n, .int .i64 d]] y fun o w' => ∃ A c, o = .returned (.tuple #[.slice A r.length c, .int .i64 e]) ∧ Held w' A c r ∧ Below y.heap.size y w'
abbrev FromC (l : List Int) (v : Int × Int × Int) : Prop := ∀ y A c, Held y A c l → Calls Tryz.prog 17 #[.slice A l.length c] y fun o w' => o = .returned (.tuple #[.agg #[.int .i64 v.1, .int .i64 v.2.1], .int .i64 v.2.2]) ∧ Below y.heap.size y w'
theorem path_any (n d : Int) : ∃ r e, PathC n d r e ∧ (valid n d → e = 0 ∧ PathOf n d r ∧ r.length ≤ 64) ∧ (¬ valid n d → e = 2 ∧ r = []) ∧ r.length ≤ 64 := by
  obtain ⟨r, e, E, h⟩ := path_ok n d
  obtain ⟨k, hk⟩ := E.rounds
  refine ⟨r, e, fun y => (num_Path.calls k n d r e y hk).mono ?_, h⟩
  rintro o w' ⟨v, rfl, hr, hb⟩
  obtain ⟨A, c, rfl⟩ := Kd.R_slice hr
  obtain ⟨_, h2, h3⟩ := Kd.R_reads' hr
  exact ⟨A, c, rfl, ⟨h3, h2⟩, hb⟩
theorem from_any {l : List Int} (h64 : ∀ i, -9223372036854775808 ≤ at_ l i ∧ at_ l i ≤ 9223372036854775807) (hs : l.length ≤ 4194304) :
    ∃ v, FromC l v ∧ (1 ≤ l.length → l.length ≤ 64 → pathOk l → v = lowest (cont l).1 (cont l).2) ∧ (¬ (1 ≤ l.length ∧ l.length ≤ 64 ∧ pathOk l) → v.2.2 ≠ 0 ∧ v.1 = 0 ∧ v.2.1 = 0) := by
  obtain ⟨⟨a, b, c⟩, E, h⟩ := from_ok h64 hs
  obtain ⟨k, hk⟩ := E.rounds
  exact ⟨(a, b, c), fun y A cc H => num_FromPath.calls k A cc l a b c y H.1 H.2 hk, h⟩
abbrev SameC (l : List Int) : Prop := ∀ y A c A' c', Held y A c l → Held y A' c' l → Calls Tryz.prog 18 #[.slice A l.length c, .slice A' l.length c'] y fun o w' => o = .returned (.bool true) ∧ Below y.heap.size y w'
theorem same_any {l : List Int} (hs : l.length ≤ 4194304) : SameC l := by
  obtain ⟨k, hk⟩ := (same_ok hs).rounds
  intro y A c A' c' H H'
  refine (merinolaw01_same.calls k A c l A' c' l true y H.1 H.2 H'.1 H'.2 hk).mono ?_
  rintro o w' ⟨rfl, hb⟩
  exact ⟨rfl, hb.below⟩
theorem few_any {l : List Int} (r : Bool) (h : r = decide ((l.length : Int) ≤ 300)) (y : World) (A : Option Addr) (c : Nat) (H : Held y A c l) : Calls Tryz.prog 14 #[.slice A l.length c] y fun o w' => o = .returned (.bool r) ∧ Below y.heap.size y w' := by
  refine (merinolaw01_few.calls A c l r y H.1 H.2 (by rw [h]; rfl)).mono ?_
  rintro o w' ⟨rfl, hb⟩
  exact ⟨rfl, hb.below⟩
theorem valid_any (n d : Int) (r : Bool) (h : r = decide (valid n d)) (y : World) : Calls Tryz.prog 16 #[.agg #[.int .i64 n, .int .i64 d]] y fun o w' => o = .returned (.bool r) ∧ Below y.heap.size y w' := by
  obtain ⟨k, hk⟩ := (valid_ok n d).rounds
  rw [← h] at hk
  exact num_Valid.calls k n d r y hk
set_option maxHeartbeats 16000000 in
set_option maxRecDepth 100000 in
theorem back_v_o_b (n d a p : Int) (A1 : Option Addr) (c1 : Nat) (l : List Int) (r q : List Int) (x1 x2 xe qe : Int) (s : ByteArray) (te : Int) (m g : Int) (w : World) (hE : Env w) (hl : Held w A1 c1 l) (hfew : true = decide ((l.length : Int) ≤ 300)) (hp : PathC n d r 0) (hv : true = decide (valid n d)) (hf : FromC r (n, d, 0)) (tx : List UInt8) (htx : ∀ y, Below w.heap.size w y → Calls Tryz.prog 6 #[.agg #[.int .i64 n, .int .i64 d]] y fun e w' => e = .returned (.tuple #[.string (ba tx), .int .i64 0]) ∧ Below y.heap.size y w') (hps : ∀ y, Below w.heap.size w y → Calls Tryz.prog 8 #[.string (ba tx)] y fun e w' => e = .returned (.tuple #[.agg #[.int .i64 n, .int .i64 d], .int .i64 0]) ∧ Below y.heap.size y w') (hg : FromC l (x1, x2, 0)) (hq : PathC x1 x2 l 0) (hs : SameC l) (hdc : ∀ y, Below w.heap.size w y → Calls Tryz.prog 10 #[.int .i64 a, .int .i64 p] y fun e w' => e = .returned (.tuple #[.string ⟨#[]⟩, .int .i64 2]) ∧ Below y.heap.size y w') (hpd : ∀ y, Below w.heap.size w y → Calls Tryz.prog 12 #[.string ⟨#[]⟩, .int .i64 p] y fun e w' => e = .returned (.tuple #[.int .i64 m, .int .i64 2]) ∧ Below y.heap.size y w') :
    Calls Tryz.prog 4 #[.agg #[.int .i64 n, .int .i64 d], .slice A1 l.length c1, .int .i64 a, .int .i64 p] w fun e w' => e = .returned (.bool true) ∧ Below w.heap.size w w' := by
  have HE := Aside0.mk hE
  have HL := Aside0.mk hl
  have HV := Aside0.mk hv
  have HFEW := Aside0.mk hfew
  have HP := Aside0.mk hp
  have HG := Aside0.mk hg
  have HQ := Aside0.mk hq
  have HDC := Aside0.mk hdc
  have HPD := Aside0.mk hpd
  have HF := Aside0.mk hf
  have HTX := Aside0.mk htx
  have HPS := Aside0.mk hps
  clear hf htx hps
  have en : (n == n) = true := by simp
  have ed : (d == d) = true := by simp
  have HS := Aside0.mk hs
  clear hs
  have HB0 := Aside0.mk ((Below.refl w.heap.size w).alloc (Nat.le_refl _) (.cells #[.int .i64 n, .int .i64 d] 23))
  have HT0 := Aside0.mk (blk_new w (.cells #[.int .i64 n, .int .i64 d] 23))
  clear hE hl hv hfew hp hg hq hdc hpd
  go_enter Tryz.func4, Tryz.ntmps4
  go_upto_region 3 with (first
    | (go_at_call 14; with_reducible refine (few_any true HFEW.out _ _ _ (HL.out.below HB0.out)).mono ?_; rintro e y1 ⟨rfl, hb⟩; have HB1 := Aside0.mk (below_step HB0.out hb); have HT1 := Aside0.mk (blk_below HT0.out hb); clear hb))
  have x00 := (blk_cell HT1.out 0).trans rfl
  have x01 := (blk_cell HT1.out 1).trans rfl
  go_upto_region 4 with (first
    | (go_at_call 15; with_reducible refine (HP.out _).mono ?_; rintro e y2 ⟨A2, c2, rfl, hr2, hb⟩; have HB2 := Aside0.mk (below_step HB1.out hb); have HT2 := Aside0.mk (blk_below HT1.out hb); have HR2 := Aside0.mk hr2; clear hb hr2 x00 x01))
  have x00 := (blk_cell HT2.out 0).trans rfl
  have x01 := (blk_cell HT2.out 1).trans rfl
  go_upto_region 7 with (first
    | (go_at_call 16; with_reducible refine (valid_any n d _ HV.out _).mono ?_; rintro e y3 ⟨rfl, hb⟩; have HB3 := Aside0.mk (below_step HB2.out hb); have HT3 := Aside0.mk (blk_below HT2.out hb); have HR3 := Aside0.mk (HR2.out.below hb); clear hb x00 x01))
  go_upto_region 8 with (first
    | (go_at_call 17; with_reducible refine (HF.out _ _ _ HR3.out).mono ?_; rintro e y4 ⟨rfl, hb⟩; have HB4 := Aside0.mk (below_step HB3.out hb); have HT4 := Aside0.mk (blk_below HT3.out hb); clear hb))
  have HB5 := Aside0.mk (HB4.out.alloc HB4.out.size (.cells #[.int .i64 n, .int .i64 d] 23))
  have HT5 := Aside0.mk (blk_alloc HT4.out (.cells #[.int .i64 n, .int .i64 d] 23))
  have HX5 := Aside0.mk (blk_new y4 (.cells #[.int .i64 n, .int .i64 d] 23))
  have x00 := (blk_cell HT5.out 0).trans rfl
  have x01 := (blk_cell HT5.out 1).trans rfl
  go_upto_region 9 with (first
    | (go_at_call 6; with_reducible refine (HTX.out _ HB5.out).mono ?_; rintro e y5 ⟨rfl, hb⟩; have HB6 := Aside0.mk (below_step HB5.out hb); have HT6 := Aside0.mk (blk_below HT5.out hb); have HX6 := Aside0.mk (blk_below HX5.out hb); clear hb x00 x01))
  go_upto_region 10 with (first
    | (go_at_call 8; with_reducible refine (HPS.out _ HB6.out).mono ?_; rintro e y6 ⟨rfl, hb⟩; have HB7 := Aside0.mk (below_step HB6.out hb); have HT7 := Aside0.mk (blk_below HT6.out hb); have HX7 := Aside0.mk (blk_below HX6.out hb); clear hb))
  have HB8 := Aside0.mk (HB7.out.alloc HB7.out.size (.cells #[.int .i64 n, .int .i64 d] 23))
  have x00 := (blk_cell (blk_alloc HT7.out (.cells #[.int .i64 n, .int .i64 d] 23)) 0).trans rfl
  have x01 := (blk_cell (blk_alloc HT7.out (.cells #[.int .i64 n, .int .i64 d] 23)) 1).trans rfl
  have x10 := (blk_cell (blk_alloc HX7.out (.cells #[.int .i64 n, .int .i64 d] 23)) 0).trans rfl
  have x11 := (blk_cell (blk_alloc HX7.out (.cells #[.int .i64 n, .int .i64 d] 23)) 1).trans rfl
  have x20 := (blk_cell (blk_new y6 (.cells #[.int .i64 n, .int .i64 d] 23)) 0).trans rfl
  have x21 := (blk_cell (blk_new y6 (.cells #[.int .i64 n, .int .i64 d] 23)) 1).trans rfl
  go_upto_region 12 with (fail)
  clear x00 x01 x10 x11 x20 x21
  go_upto_region 13 with (first
    | (go_at_call 17; with_reducible refine (HG.out _ _ _ (HL.out.below HB8.out)).mono ?_; rintro e z1 ⟨rfl, hb⟩; have HC1 := Aside0.mk (below_step HB8.out hb); clear hb))
  have HC2 := Aside0.mk (HC1.out.alloc HC1.out.size (.cells #[.int .i64 x1, .int .i64 x2] 23))
  have x30 := (blk_cell (blk_new z1 (.cells #[.int .i64 x1, .int .i64 x2] 23)) 0).trans rfl
  have x31 := (blk_cell (blk_new z1 (.cells #[.int .i64 x1, .int .i64 x2] 23)) 1).trans rfl
  go_upto_region 14 with (first
    | (go_at_call 15; with_reducible refine (HQ.out _).mono ?_; rintro e z2 ⟨A3, c3, rfl, hq2, hb⟩; have HC3 := Aside0.mk (below_step HC2.out hb); have HQ3 := Aside0.mk hq2; clear hb hq2 x30 x31))
  go_upto_region 16 with (first
    | (go_at_call 18; with_reducible refine (HS.out _ _ _ _ _ HQ3.out (HL.out.below HC3.out)).mono ?_; rintro e z3 ⟨rfl, hb⟩; have HC4 := Aside0.mk (below_step HC3.out hb); clear hb))
  go_wp2_with (first
    | (go_at_call 10; with_reducible refine (HDC.out _ HC4.out).mono ?_; rintro e z4 ⟨rfl, hb⟩; have HC5 := Aside0.mk (below_step HC4.out hb); clear hb)
    | (go_at_call 12; with_reducible refine (HPD.out _ HC5.out).mono ?_; rintro e z5 ⟨rfl, hb⟩; have HC6 := Aside0.mk (below_step HC5.out hb); clear hb)
    | (go_at_call 5; with_reducible refine (alive_any _ (HE.out.below HC6.out)).mono ?_; rintro e z6 ⟨rfl, hb⟩; have HC7 := Aside0.mk (below_step HC6.out hb); clear hb))
  go_ret
  exact ⟨rfl, HC7.out⟩
set_option maxHeartbeats 16000000 in
set_option maxRecDepth 100000 in
theorem back_v_o_u (n d a p : Int) (A1 : Option Addr) (c1 : Nat) (l : List Int) (r q : List Int) (x1 x2 xe qe : Int) (s : ByteArray) (te : Int) (m g : Int) (w : World) (hE : Env w) (hl : Held w A1 c1 l) (hfew : true = decide ((l.length : Int) ≤ 300)) (hp : PathC n d r 0) (hv : true = decide (valid n d)) (hf : FromC r (n, d, 0)) (tx : List UInt8) (htx : ∀ y, Below w.heap.size w y → Calls Tryz.prog 6 #[.agg #[.int .i64 n, .int .i64 d]] y fun e w' => e = .returned (.tuple #[.string (ba tx), .int .i64 0]) ∧ Below y.heap.size y w') (hps : ∀ y, Below w.heap.size w y → Calls Tryz.prog 8 #[.string (ba tx)] y fun e w' => e = .returned (.tuple #[.agg #[.int .i64 n, .int .i64 d], .int .i64 0]) ∧ Below y.heap.size y w') (hg : FromC l (x1, x2, 0)) (hq : PathC x1 x2 l 0) (hs : SameC l) (hdc : ∀ y, Below w.heap.size w y → Calls Tryz.prog 10 #[.int .i64 a, .int .i64 p] y fun e w' => e = .returned (.tuple #[.string s, .int .i64 0]) ∧ Below y.heap.size y w') (hpd : ∀ y, Below w.heap.size w y → Calls Tryz.prog 12 #[.string s, .int .i64 p] y fun e w' => e = .returned (.tuple #[.int .i64 0, .int .i64 4]) ∧ Below y.heap.size y w') (h1 : decide (a < -1125899906842624) = true) :
    Calls Tryz.prog 4 #[.agg #[.int .i64 n, .int .i64 d], .slice A1 l.length c1, .int .i64 a, .int .i64 p] w fun e w' => e = .returned (.bool true) ∧ Below w.heap.size w w' := by
  have HE := Aside0.mk hE
  have HL := Aside0.mk hl
  have HV := Aside0.mk hv
  have HFEW := Aside0.mk hfew
  have HP := Aside0.mk hp
  have HG := Aside0.mk hg
  have HQ := Aside0.mk hq
  have HDC := Aside0.mk hdc
  have HPD := Aside0.mk hpd
  have HF := Aside0.mk hf
  have HTX := Aside0.mk htx
  have HPS := Aside0.mk hps
  clear hf htx hps
  have en : (n == n) = true := by simp
  have ed : (d == d) = true := by simp
  have HS := Aside0.mk hs
  clear hs
  have HB0 := Aside0.mk ((Below.refl w.heap.size w).alloc (Nat.le_refl _) (.cells #[.int .i64 n, .int .i64 d] 23))
  have HT0 := Aside0.mk (blk_new w (.cells #[.int .i64 n, .int .i64 d] 23))
  clear hE hl hv hfew hp hg hq hdc hpd
  go_enter Tryz.func4, Tryz.ntmps4
  go_upto_region 3 with (first
    | (go_at_call 14; with_reducible refine (few_any true HFEW.out _ _ _ (HL.out.below HB0.out)).mono ?_; rintro e y1 ⟨rfl, hb⟩; have HB1 := Aside0.mk (below_step HB0.out hb); have HT1 := Aside0.mk (blk_below HT0.out hb); clear hb))
  have x00 := (blk_cell HT1.out 0).trans rfl
  have x01 := (blk_cell HT1.out 1).trans rfl
  go_upto_region 4 with (first
    | (go_at_call 15; with_reducible refine (HP.out _).mono ?_; rintro e y2 ⟨A2, c2, rfl, hr2, hb⟩; have HB2 := Aside0.mk (below_step HB1.out hb); have HT2 := Aside0.mk (blk_below HT1.out hb); have HR2 := Aside0.mk hr2; clear hb hr2 x00 x01))
  have x00 := (blk_cell HT2.out 0).trans rfl
  have x01 := (blk_cell HT2.out 1).trans rfl
  go_upto_region 7 with (first
    | (go_at_call 16; with_reducible refine (valid_any n d _ HV.out _).mono ?_; rintro e y3 ⟨rfl, hb⟩; have HB3 := Aside0.mk (below_step HB2.out hb); have HT3 := Aside0.mk (blk_below HT2.out hb); have HR3 := Aside0.mk (HR2.out.below hb); clear hb x00 x01))
  go_upto_region 8 with (first
    | (go_at_call 17; with_reducible refine (HF.out _ _ _ HR3.out).mono ?_; rintro e y4 ⟨rfl, hb⟩; have HB4 := Aside0.mk (below_step HB3.out hb); have HT4 := Aside0.mk (blk_below HT3.out hb); clear hb))
  have HB5 := Aside0.mk (HB4.out.alloc HB4.out.size (.cells #[.int .i64 n, .int .i64 d] 23))
  have HT5 := Aside0.mk (blk_alloc HT4.out (.cells #[.int .i64 n, .int .i64 d] 23))
  have HX5 := Aside0.mk (blk_new y4 (.cells #[.int .i64 n, .int .i64 d] 23))
  have x00 := (blk_cell HT5.out 0).trans rfl
  have x01 := (blk_cell HT5.out 1).trans rfl
  go_upto_region 9 with (first
    | (go_at_call 6; with_reducible refine (HTX.out _ HB5.out).mono ?_; rintro e y5 ⟨rfl, hb⟩; have HB6 := Aside0.mk (below_step HB5.out hb); have HT6 := Aside0.mk (blk_below HT5.out hb); have HX6 := Aside0.mk (blk_below HX5.out hb); clear hb x00 x01))
  go_upto_region 10 with (first
    | (go_at_call 8; with_reducible refine (HPS.out _ HB6.out).mono ?_; rintro e y6 ⟨rfl, hb⟩; have HB7 := Aside0.mk (below_step HB6.out hb); have HT7 := Aside0.mk (blk_below HT6.out hb); have HX7 := Aside0.mk (blk_below HX6.out hb); clear hb))
  have HB8 := Aside0.mk (HB7.out.alloc HB7.out.size (.cells #[.int .i64 n, .int .i64 d] 23))
  have x00 := (blk_cell (blk_alloc HT7.out (.cells #[.int .i64 n, .int .i64 d] 23)) 0).trans rfl
  have x01 := (blk_cell (blk_alloc HT7.out (.cells #[.int .i64 n, .int .i64 d] 23)) 1).trans rfl
  have x10 := (blk_cell (blk_alloc HX7.out (.cells #[.int .i64 n, .int .i64 d] 23)) 0).trans rfl
  have x11 := (blk_cell (blk_alloc HX7.out (.cells #[.int .i64 n, .int .i64 d] 23)) 1).trans rfl
  have x20 := (blk_cell (blk_new y6 (.cells #[.int .i64 n, .int .i64 d] 23)) 0).trans rfl
  have x21 := (blk_cell (blk_new y6 (.cells #[.int .i64 n, .int .i64 d] 23)) 1).trans rfl
  go_upto_region 12 with (fail)
  clear x00 x01 x10 x11 x20 x21
  go_upto_region 13 with (first
    | (go_at_call 17; with_reducible refine (HG.out _ _ _ (HL.out.below HB8.out)).mono ?_; rintro e z1 ⟨rfl, hb⟩; have HC1 := Aside0.mk (below_step HB8.out hb); clear hb))
  have HC2 := Aside0.mk (HC1.out.alloc HC1.out.size (.cells #[.int .i64 x1, .int .i64 x2] 23))
  have x30 := (blk_cell (blk_new z1 (.cells #[.int .i64 x1, .int .i64 x2] 23)) 0).trans rfl
  have x31 := (blk_cell (blk_new z1 (.cells #[.int .i64 x1, .int .i64 x2] 23)) 1).trans rfl
  go_upto_region 14 with (first
    | (go_at_call 15; with_reducible refine (HQ.out _).mono ?_; rintro e z2 ⟨A3, c3, rfl, hq2, hb⟩; have HC3 := Aside0.mk (below_step HC2.out hb); have HQ3 := Aside0.mk hq2; clear hb hq2 x30 x31))
  go_upto_region 16 with (first
    | (go_at_call 18; with_reducible refine (HS.out _ _ _ _ _ HQ3.out (HL.out.below HC3.out)).mono ?_; rintro e z3 ⟨rfl, hb⟩; have HC4 := Aside0.mk (below_step HC3.out hb); clear hb))
  go_wp2_with (first
    | (go_at_call 10; with_reducible refine (HDC.out _ HC4.out).mono ?_; rintro e z4 ⟨rfl, hb⟩; have HC5 := Aside0.mk (below_step HC4.out hb); clear hb)
    | (go_at_call 12; with_reducible refine (HPD.out _ HC5.out).mono ?_; rintro e z5 ⟨rfl, hb⟩; have HC6 := Aside0.mk (below_step HC5.out hb); clear hb)
    | (go_at_call 5; with_reducible refine (alive_any _ (HE.out.below HC6.out)).mono ?_; rintro e z6 ⟨rfl, hb⟩; have HC7 := Aside0.mk (below_step HC6.out hb); clear hb))
  go_ret
  exact ⟨rfl, HC7.out⟩
set_option maxHeartbeats 16000000 in
set_option maxRecDepth 100000 in
theorem back_v_o_o (n d a p : Int) (A1 : Option Addr) (c1 : Nat) (l : List Int) (r q : List Int) (x1 x2 xe qe : Int) (s : ByteArray) (te : Int) (m g : Int) (w : World) (hE : Env w) (hl : Held w A1 c1 l) (hfew : true = decide ((l.length : Int) ≤ 300)) (hp : PathC n d r 0) (hv : true = decide (valid n d)) (hf : FromC r (n, d, 0)) (tx : List UInt8) (htx : ∀ y, Below w.heap.size w y → Calls Tryz.prog 6 #[.agg #[.int .i64 n, .int .i64 d]] y fun e w' => e = .returned (.tuple #[.string (ba tx), .int .i64 0]) ∧ Below y.heap.size y w') (hps : ∀ y, Below w.heap.size w y → Calls Tryz.prog 8 #[.string (ba tx)] y fun e w' => e = .returned (.tuple #[.agg #[.int .i64 n, .int .i64 d], .int .i64 0]) ∧ Below y.heap.size y w') (hg : FromC l (x1, x2, 0)) (hq : PathC x1 x2 l 0) (hs : SameC l) (hdc : ∀ y, Below w.heap.size w y → Calls Tryz.prog 10 #[.int .i64 a, .int .i64 p] y fun e w' => e = .returned (.tuple #[.string s, .int .i64 0]) ∧ Below y.heap.size y w') (hpd : ∀ y, Below w.heap.size w y → Calls Tryz.prog 12 #[.string s, .int .i64 p] y fun e w' => e = .returned (.tuple #[.int .i64 0, .int .i64 4]) ∧ Below y.heap.size y w') (h1 : decide (a < -1125899906842624) = false) (h2 : decide (a > 1125899906842624) = true) :
    Calls Tryz.prog 4 #[.agg #[.int .i64 n, .int .i64 d], .slice A1 l.length c1, .int .i64 a, .int .i64 p] w fun e w' => e = .returned (.bool true) ∧ Below w.heap.size w w' := by
  have HE := Aside0.mk hE
  have HL := Aside0.mk hl
  have HV := Aside0.mk hv
  have HFEW := Aside0.mk hfew
  have HP := Aside0.mk hp
  have HG := Aside0.mk hg
  have HQ := Aside0.mk hq
  have HDC := Aside0.mk hdc
  have HPD := Aside0.mk hpd
  have HF := Aside0.mk hf
  have HTX := Aside0.mk htx
  have HPS := Aside0.mk hps
  clear hf htx hps
  have en : (n == n) = true := by simp
  have ed : (d == d) = true := by simp
  have HS := Aside0.mk hs
  clear hs
  have HB0 := Aside0.mk ((Below.refl w.heap.size w).alloc (Nat.le_refl _) (.cells #[.int .i64 n, .int .i64 d] 23))
  have HT0 := Aside0.mk (blk_new w (.cells #[.int .i64 n, .int .i64 d] 23))
  clear hE hl hv hfew hp hg hq hdc hpd
  go_enter Tryz.func4, Tryz.ntmps4
  go_upto_region 3 with (first
    | (go_at_call 14; with_reducible refine (few_any true HFEW.out _ _ _ (HL.out.below HB0.out)).mono ?_; rintro e y1 ⟨rfl, hb⟩; have HB1 := Aside0.mk (below_step HB0.out hb); have HT1 := Aside0.mk (blk_below HT0.out hb); clear hb))
  have x00 := (blk_cell HT1.out 0).trans rfl
  have x01 := (blk_cell HT1.out 1).trans rfl
  go_upto_region 4 with (first
    | (go_at_call 15; with_reducible refine (HP.out _).mono ?_; rintro e y2 ⟨A2, c2, rfl, hr2, hb⟩; have HB2 := Aside0.mk (below_step HB1.out hb); have HT2 := Aside0.mk (blk_below HT1.out hb); have HR2 := Aside0.mk hr2; clear hb hr2 x00 x01))
  have x00 := (blk_cell HT2.out 0).trans rfl
  have x01 := (blk_cell HT2.out 1).trans rfl
  go_upto_region 7 with (first
    | (go_at_call 16; with_reducible refine (valid_any n d _ HV.out _).mono ?_; rintro e y3 ⟨rfl, hb⟩; have HB3 := Aside0.mk (below_step HB2.out hb); have HT3 := Aside0.mk (blk_below HT2.out hb); have HR3 := Aside0.mk (HR2.out.below hb); clear hb x00 x01))
  go_upto_region 8 with (first
    | (go_at_call 17; with_reducible refine (HF.out _ _ _ HR3.out).mono ?_; rintro e y4 ⟨rfl, hb⟩; have HB4 := Aside0.mk (below_step HB3.out hb); have HT4 := Aside0.mk (blk_below HT3.out hb); clear hb))
  have HB5 := Aside0.mk (HB4.out.alloc HB4.out.size (.cells #[.int .i64 n, .int .i64 d] 23))
  have HT5 := Aside0.mk (blk_alloc HT4.out (.cells #[.int .i64 n, .int .i64 d] 23))
  have HX5 := Aside0.mk (blk_new y4 (.cells #[.int .i64 n, .int .i64 d] 23))
  have x00 := (blk_cell HT5.out 0).trans rfl
  have x01 := (blk_cell HT5.out 1).trans rfl
  go_upto_region 9 with (first
    | (go_at_call 6; with_reducible refine (HTX.out _ HB5.out).mono ?_; rintro e y5 ⟨rfl, hb⟩; have HB6 := Aside0.mk (below_step HB5.out hb); have HT6 := Aside0.mk (blk_below HT5.out hb); have HX6 := Aside0.mk (blk_below HX5.out hb); clear hb x00 x01))
  go_upto_region 10 with (first
    | (go_at_call 8; with_reducible refine (HPS.out _ HB6.out).mono ?_; rintro e y6 ⟨rfl, hb⟩; have HB7 := Aside0.mk (below_step HB6.out hb); have HT7 := Aside0.mk (blk_below HT6.out hb); have HX7 := Aside0.mk (blk_below HX6.out hb); clear hb))
  have HB8 := Aside0.mk (HB7.out.alloc HB7.out.size (.cells #[.int .i64 n, .int .i64 d] 23))
  have x00 := (blk_cell (blk_alloc HT7.out (.cells #[.int .i64 n, .int .i64 d] 23)) 0).trans rfl
  have x01 := (blk_cell (blk_alloc HT7.out (.cells #[.int .i64 n, .int .i64 d] 23)) 1).trans rfl
  have x10 := (blk_cell (blk_alloc HX7.out (.cells #[.int .i64 n, .int .i64 d] 23)) 0).trans rfl
  have x11 := (blk_cell (blk_alloc HX7.out (.cells #[.int .i64 n, .int .i64 d] 23)) 1).trans rfl
  have x20 := (blk_cell (blk_new y6 (.cells #[.int .i64 n, .int .i64 d] 23)) 0).trans rfl
  have x21 := (blk_cell (blk_new y6 (.cells #[.int .i64 n, .int .i64 d] 23)) 1).trans rfl
  go_upto_region 12 with (fail)
  clear x00 x01 x10 x11 x20 x21
  go_upto_region 13 with (first
    | (go_at_call 17; with_reducible refine (HG.out _ _ _ (HL.out.below HB8.out)).mono ?_; rintro e z1 ⟨rfl, hb⟩; have HC1 := Aside0.mk (below_step HB8.out hb); clear hb))
  have HC2 := Aside0.mk (HC1.out.alloc HC1.out.size (.cells #[.int .i64 x1, .int .i64 x2] 23))
  have x30 := (blk_cell (blk_new z1 (.cells #[.int .i64 x1, .int .i64 x2] 23)) 0).trans rfl
  have x31 := (blk_cell (blk_new z1 (.cells #[.int .i64 x1, .int .i64 x2] 23)) 1).trans rfl
  go_upto_region 14 with (first
    | (go_at_call 15; with_reducible refine (HQ.out _).mono ?_; rintro e z2 ⟨A3, c3, rfl, hq2, hb⟩; have HC3 := Aside0.mk (below_step HC2.out hb); have HQ3 := Aside0.mk hq2; clear hb hq2 x30 x31))
  go_upto_region 16 with (first
    | (go_at_call 18; with_reducible refine (HS.out _ _ _ _ _ HQ3.out (HL.out.below HC3.out)).mono ?_; rintro e z3 ⟨rfl, hb⟩; have HC4 := Aside0.mk (below_step HC3.out hb); clear hb))
  go_wp2_with (first
    | (go_at_call 10; with_reducible refine (HDC.out _ HC4.out).mono ?_; rintro e z4 ⟨rfl, hb⟩; have HC5 := Aside0.mk (below_step HC4.out hb); clear hb)
    | (go_at_call 12; with_reducible refine (HPD.out _ HC5.out).mono ?_; rintro e z5 ⟨rfl, hb⟩; have HC6 := Aside0.mk (below_step HC5.out hb); clear hb)
    | (go_at_call 5; with_reducible refine (alive_any _ (HE.out.below HC6.out)).mono ?_; rintro e z6 ⟨rfl, hb⟩; have HC7 := Aside0.mk (below_step HC6.out hb); clear hb))
  go_ret
  exact ⟨rfl, HC7.out⟩
set_option maxHeartbeats 16000000 in
set_option maxRecDepth 100000 in
theorem back_v_o_f (n d a p : Int) (A1 : Option Addr) (c1 : Nat) (l : List Int) (r q : List Int) (x1 x2 xe qe : Int) (s : ByteArray) (te : Int) (m g : Int) (w : World) (hE : Env w) (hl : Held w A1 c1 l) (hfew : true = decide ((l.length : Int) ≤ 300)) (hp : PathC n d r 0) (hv : true = decide (valid n d)) (hf : FromC r (n, d, 0)) (tx : List UInt8) (htx : ∀ y, Below w.heap.size w y → Calls Tryz.prog 6 #[.agg #[.int .i64 n, .int .i64 d]] y fun e w' => e = .returned (.tuple #[.string (ba tx), .int .i64 0]) ∧ Below y.heap.size y w') (hps : ∀ y, Below w.heap.size w y → Calls Tryz.prog 8 #[.string (ba tx)] y fun e w' => e = .returned (.tuple #[.agg #[.int .i64 n, .int .i64 d], .int .i64 0]) ∧ Below y.heap.size y w') (hg : FromC l (x1, x2, 0)) (hq : PathC x1 x2 l 0) (hs : SameC l) (hdc : ∀ y, Below w.heap.size w y → Calls Tryz.prog 10 #[.int .i64 a, .int .i64 p] y fun e w' => e = .returned (.tuple #[.string s, .int .i64 0]) ∧ Below y.heap.size y w') (hpd : ∀ y, Below w.heap.size w y → Calls Tryz.prog 12 #[.string s, .int .i64 p] y fun e w' => e = .returned (.tuple #[.int .i64 a, .int .i64 0]) ∧ Below y.heap.size y w') (h1 : decide (a < -1125899906842624) = false) (h2 : decide (a > 1125899906842624) = false) :
    Calls Tryz.prog 4 #[.agg #[.int .i64 n, .int .i64 d], .slice A1 l.length c1, .int .i64 a, .int .i64 p] w fun e w' => e = .returned (.bool true) ∧ Below w.heap.size w w' := by
  have HE := Aside0.mk hE
  have HL := Aside0.mk hl
  have HV := Aside0.mk hv
  have HFEW := Aside0.mk hfew
  have HP := Aside0.mk hp
  have HG := Aside0.mk hg
  have HQ := Aside0.mk hq
  have HDC := Aside0.mk hdc
  have HPD := Aside0.mk hpd
  have HF := Aside0.mk hf
  have HTX := Aside0.mk htx
  have HPS := Aside0.mk hps
  clear hf htx hps
  have en : (n == n) = true := by simp
  have ed : (d == d) = true := by simp
  have HS := Aside0.mk hs
  clear hs
  have ea : (a == a) = true := by simp
  have HB0 := Aside0.mk ((Below.refl w.heap.size w).alloc (Nat.le_refl _) (.cells #[.int .i64 n, .int .i64 d] 23))
  have HT0 := Aside0.mk (blk_new w (.cells #[.int .i64 n, .int .i64 d] 23))
  clear hE hl hv hfew hp hg hq hdc hpd
  go_enter Tryz.func4, Tryz.ntmps4
  go_upto_region 3 with (first
    | (go_at_call 14; with_reducible refine (few_any true HFEW.out _ _ _ (HL.out.below HB0.out)).mono ?_; rintro e y1 ⟨rfl, hb⟩; have HB1 := Aside0.mk (below_step HB0.out hb); have HT1 := Aside0.mk (blk_below HT0.out hb); clear hb))
  have x00 := (blk_cell HT1.out 0).trans rfl
  have x01 := (blk_cell HT1.out 1).trans rfl
  go_upto_region 4 with (first
    | (go_at_call 15; with_reducible refine (HP.out _).mono ?_; rintro e y2 ⟨A2, c2, rfl, hr2, hb⟩; have HB2 := Aside0.mk (below_step HB1.out hb); have HT2 := Aside0.mk (blk_below HT1.out hb); have HR2 := Aside0.mk hr2; clear hb hr2 x00 x01))
  have x00 := (blk_cell HT2.out 0).trans rfl
  have x01 := (blk_cell HT2.out 1).trans rfl
  go_upto_region 7 with (first
    | (go_at_call 16; with_reducible refine (valid_any n d _ HV.out _).mono ?_; rintro e y3 ⟨rfl, hb⟩; have HB3 := Aside0.mk (below_step HB2.out hb); have HT3 := Aside0.mk (blk_below HT2.out hb); have HR3 := Aside0.mk (HR2.out.below hb); clear hb x00 x01))
  go_upto_region 8 with (first
    | (go_at_call 17; with_reducible refine (HF.out _ _ _ HR3.out).mono ?_; rintro e y4 ⟨rfl, hb⟩; have HB4 := Aside0.mk (below_step HB3.out hb); have HT4 := Aside0.mk (blk_below HT3.out hb); clear hb))
  have HB5 := Aside0.mk (HB4.out.alloc HB4.out.size (.cells #[.int .i64 n, .int .i64 d] 23))
  have HT5 := Aside0.mk (blk_alloc HT4.out (.cells #[.int .i64 n, .int .i64 d] 23))
  have HX5 := Aside0.mk (blk_new y4 (.cells #[.int .i64 n, .int .i64 d] 23))
  have x00 := (blk_cell HT5.out 0).trans rfl
  have x01 := (blk_cell HT5.out 1).trans rfl
  go_upto_region 9 with (first
    | (go_at_call 6; with_reducible refine (HTX.out _ HB5.out).mono ?_; rintro e y5 ⟨rfl, hb⟩; have HB6 := Aside0.mk (below_step HB5.out hb); have HT6 := Aside0.mk (blk_below HT5.out hb); have HX6 := Aside0.mk (blk_below HX5.out hb); clear hb x00 x01))
  go_upto_region 10 with (first
    | (go_at_call 8; with_reducible refine (HPS.out _ HB6.out).mono ?_; rintro e y6 ⟨rfl, hb⟩; have HB7 := Aside0.mk (below_step HB6.out hb); have HT7 := Aside0.mk (blk_below HT6.out hb); have HX7 := Aside0.mk (blk_below HX6.out hb); clear hb))
  have HB8 := Aside0.mk (HB7.out.alloc HB7.out.size (.cells #[.int .i64 n, .int .i64 d] 23))
  have x00 := (blk_cell (blk_alloc HT7.out (.cells #[.int .i64 n, .int .i64 d] 23)) 0).trans rfl
  have x01 := (blk_cell (blk_alloc HT7.out (.cells #[.int .i64 n, .int .i64 d] 23)) 1).trans rfl
  have x10 := (blk_cell (blk_alloc HX7.out (.cells #[.int .i64 n, .int .i64 d] 23)) 0).trans rfl
  have x11 := (blk_cell (blk_alloc HX7.out (.cells #[.int .i64 n, .int .i64 d] 23)) 1).trans rfl
  have x20 := (blk_cell (blk_new y6 (.cells #[.int .i64 n, .int .i64 d] 23)) 0).trans rfl
  have x21 := (blk_cell (blk_new y6 (.cells #[.int .i64 n, .int .i64 d] 23)) 1).trans rfl
  go_upto_region 12 with (fail)
  clear x00 x01 x10 x11 x20 x21
  go_upto_region 13 with (first
    | (go_at_call 17; with_reducible refine (HG.out _ _ _ (HL.out.below HB8.out)).mono ?_; rintro e z1 ⟨rfl, hb⟩; have HC1 := Aside0.mk (below_step HB8.out hb); clear hb))
  have HC2 := Aside0.mk (HC1.out.alloc HC1.out.size (.cells #[.int .i64 x1, .int .i64 x2] 23))
  have x30 := (blk_cell (blk_new z1 (.cells #[.int .i64 x1, .int .i64 x2] 23)) 0).trans rfl
  have x31 := (blk_cell (blk_new z1 (.cells #[.int .i64 x1, .int .i64 x2] 23)) 1).trans rfl
  go_upto_region 14 with (first
    | (go_at_call 15; with_reducible refine (HQ.out _).mono ?_; rintro e z2 ⟨A3, c3, rfl, hq2, hb⟩; have HC3 := Aside0.mk (below_step HC2.out hb); have HQ3 := Aside0.mk hq2; clear hb hq2 x30 x31))
  go_upto_region 16 with (first
    | (go_at_call 18; with_reducible refine (HS.out _ _ _ _ _ HQ3.out (HL.out.below HC3.out)).mono ?_; rintro e z3 ⟨rfl, hb⟩; have HC4 := Aside0.mk (below_step HC3.out hb); clear hb))
  go_wp2_with (first
    | (go_at_call 10; with_reducible refine (HDC.out _ HC4.out).mono ?_; rintro e z4 ⟨rfl, hb⟩; have HC5 := Aside0.mk (below_step HC4.out hb); clear hb)
    | (go_at_call 12; with_reducible refine (HPD.out _ HC5.out).mono ?_; rintro e z5 ⟨rfl, hb⟩; have HC6 := Aside0.mk (below_step HC5.out hb); clear hb)
    | (go_at_call 5; with_reducible refine (alive_any _ (HE.out.below HC6.out)).mono ?_; rintro e z6 ⟨rfl, hb⟩; have HC7 := Aside0.mk (below_step HC6.out hb); clear hb))
  go_ret
  exact ⟨rfl, HC7.out⟩
set_option maxHeartbeats 16000000 in
set_option maxRecDepth 100000 in
theorem back_v_x_b (n d a p : Int) (A1 : Option Addr) (c1 : Nat) (l : List Int) (r q : List Int) (x1 x2 xe qe : Int) (s : ByteArray) (te : Int) (m g : Int) (w : World) (hE : Env w) (hl : Held w A1 c1 l) (hfew : true = decide ((l.length : Int) ≤ 300)) (hp : PathC n d r 0) (hv : true = decide (valid n d)) (hf : FromC r (n, d, 0)) (tx : List UInt8) (htx : ∀ y, Below w.heap.size w y → Calls Tryz.prog 6 #[.agg #[.int .i64 n, .int .i64 d]] y fun e w' => e = .returned (.tuple #[.string (ba tx), .int .i64 0]) ∧ Below y.heap.size y w') (hps : ∀ y, Below w.heap.size w y → Calls Tryz.prog 8 #[.string (ba tx)] y fun e w' => e = .returned (.tuple #[.agg #[.int .i64 n, .int .i64 d], .int .i64 0]) ∧ Below y.heap.size y w') (hg : FromC l (x1, x2, xe)) (hxe : (xe == 0) = false) (hq : PathC x1 x2 q qe) (hdc : ∀ y, Below w.heap.size w y → Calls Tryz.prog 10 #[.int .i64 a, .int .i64 p] y fun e w' => e = .returned (.tuple #[.string ⟨#[]⟩, .int .i64 2]) ∧ Below y.heap.size y w') (hpd : ∀ y, Below w.heap.size w y → Calls Tryz.prog 12 #[.string ⟨#[]⟩, .int .i64 p] y fun e w' => e = .returned (.tuple #[.int .i64 m, .int .i64 2]) ∧ Below y.heap.size y w') :
    Calls Tryz.prog 4 #[.agg #[.int .i64 n, .int .i64 d], .slice A1 l.length c1, .int .i64 a, .int .i64 p] w fun e w' => e = .returned (.bool true) ∧ Below w.heap.size w w' := by
  have HE := Aside0.mk hE
  have HL := Aside0.mk hl
  have HV := Aside0.mk hv
  have HFEW := Aside0.mk hfew
  have HP := Aside0.mk hp
  have HG := Aside0.mk hg
  have HQ := Aside0.mk hq
  have HDC := Aside0.mk hdc
  have HPD := Aside0.mk hpd
  have HF := Aside0.mk hf
  have HTX := Aside0.mk htx
  have HPS := Aside0.mk hps
  clear hf htx hps
  have en : (n == n) = true := by simp
  have ed : (d == d) = true := by simp
  have HB0 := Aside0.mk ((Below.refl w.heap.size w).alloc (Nat.le_refl _) (.cells #[.int .i64 n, .int .i64 d] 23))
  have HT0 := Aside0.mk (blk_new w (.cells #[.int .i64 n, .int .i64 d] 23))
  clear hE hl hv hfew hp hg hq hdc hpd
  go_enter Tryz.func4, Tryz.ntmps4
  go_upto_region 3 with (first
    | (go_at_call 14; with_reducible refine (few_any true HFEW.out _ _ _ (HL.out.below HB0.out)).mono ?_; rintro e y1 ⟨rfl, hb⟩; have HB1 := Aside0.mk (below_step HB0.out hb); have HT1 := Aside0.mk (blk_below HT0.out hb); clear hb))
  have x00 := (blk_cell HT1.out 0).trans rfl
  have x01 := (blk_cell HT1.out 1).trans rfl
  go_upto_region 4 with (first
    | (go_at_call 15; with_reducible refine (HP.out _).mono ?_; rintro e y2 ⟨A2, c2, rfl, hr2, hb⟩; have HB2 := Aside0.mk (below_step HB1.out hb); have HT2 := Aside0.mk (blk_below HT1.out hb); have HR2 := Aside0.mk hr2; clear hb hr2 x00 x01))
  have x00 := (blk_cell HT2.out 0).trans rfl
  have x01 := (blk_cell HT2.out 1).trans rfl
  go_upto_region 7 with (first
    | (go_at_call 16; with_reducible refine (valid_any n d _ HV.out _).mono ?_; rintro e y3 ⟨rfl, hb⟩; have HB3 := Aside0.mk (below_step HB2.out hb); have HT3 := Aside0.mk (blk_below HT2.out hb); have HR3 := Aside0.mk (HR2.out.below hb); clear hb x00 x01))
  go_upto_region 8 with (first
    | (go_at_call 17; with_reducible refine (HF.out _ _ _ HR3.out).mono ?_; rintro e y4 ⟨rfl, hb⟩; have HB4 := Aside0.mk (below_step HB3.out hb); have HT4 := Aside0.mk (blk_below HT3.out hb); clear hb))
  have HB5 := Aside0.mk (HB4.out.alloc HB4.out.size (.cells #[.int .i64 n, .int .i64 d] 23))
  have HT5 := Aside0.mk (blk_alloc HT4.out (.cells #[.int .i64 n, .int .i64 d] 23))
  have HX5 := Aside0.mk (blk_new y4 (.cells #[.int .i64 n, .int .i64 d] 23))
  have x00 := (blk_cell HT5.out 0).trans rfl
  have x01 := (blk_cell HT5.out 1).trans rfl
  go_upto_region 9 with (first
    | (go_at_call 6; with_reducible refine (HTX.out _ HB5.out).mono ?_; rintro e y5 ⟨rfl, hb⟩; have HB6 := Aside0.mk (below_step HB5.out hb); have HT6 := Aside0.mk (blk_below HT5.out hb); have HX6 := Aside0.mk (blk_below HX5.out hb); clear hb x00 x01))
  go_upto_region 10 with (first
    | (go_at_call 8; with_reducible refine (HPS.out _ HB6.out).mono ?_; rintro e y6 ⟨rfl, hb⟩; have HB7 := Aside0.mk (below_step HB6.out hb); have HT7 := Aside0.mk (blk_below HT6.out hb); have HX7 := Aside0.mk (blk_below HX6.out hb); clear hb))
  have HB8 := Aside0.mk (HB7.out.alloc HB7.out.size (.cells #[.int .i64 n, .int .i64 d] 23))
  have x00 := (blk_cell (blk_alloc HT7.out (.cells #[.int .i64 n, .int .i64 d] 23)) 0).trans rfl
  have x01 := (blk_cell (blk_alloc HT7.out (.cells #[.int .i64 n, .int .i64 d] 23)) 1).trans rfl
  have x10 := (blk_cell (blk_alloc HX7.out (.cells #[.int .i64 n, .int .i64 d] 23)) 0).trans rfl
  have x11 := (blk_cell (blk_alloc HX7.out (.cells #[.int .i64 n, .int .i64 d] 23)) 1).trans rfl
  have x20 := (blk_cell (blk_new y6 (.cells #[.int .i64 n, .int .i64 d] 23)) 0).trans rfl
  have x21 := (blk_cell (blk_new y6 (.cells #[.int .i64 n, .int .i64 d] 23)) 1).trans rfl
  go_upto_region 12 with (fail)
  clear x00 x01 x10 x11 x20 x21
  go_upto_region 13 with (first
    | (go_at_call 17; with_reducible refine (HG.out _ _ _ (HL.out.below HB8.out)).mono ?_; rintro e z1 ⟨rfl, hb⟩; have HC1 := Aside0.mk (below_step HB8.out hb); clear hb))
  have HC2 := Aside0.mk (HC1.out.alloc HC1.out.size (.cells #[.int .i64 x1, .int .i64 x2] 23))
  have x30 := (blk_cell (blk_new z1 (.cells #[.int .i64 x1, .int .i64 x2] 23)) 0).trans rfl
  have x31 := (blk_cell (blk_new z1 (.cells #[.int .i64 x1, .int .i64 x2] 23)) 1).trans rfl
  go_upto_region 14 with (first
    | (go_at_call 15; with_reducible refine (HQ.out _).mono ?_; rintro e z2 ⟨A3, c3, rfl, hq2, hb⟩; have HC3 := Aside0.mk (below_step HC2.out hb); have HQ3 := Aside0.mk hq2; clear hb hq2 x30 x31))
  go_upto_region 16 with (fail)
  go_wp2_with (first
    | (go_at_call 10; with_reducible refine (HDC.out _ HC3.out).mono ?_; rintro e z4 ⟨rfl, hb⟩; have HC5 := Aside0.mk (below_step HC3.out hb); clear hb)
    | (go_at_call 12; with_reducible refine (HPD.out _ HC5.out).mono ?_; rintro e z5 ⟨rfl, hb⟩; have HC6 := Aside0.mk (below_step HC5.out hb); clear hb)
    | (go_at_call 5; with_reducible refine (alive_any _ (HE.out.below HC6.out)).mono ?_; rintro e z6 ⟨rfl, hb⟩; have HC7 := Aside0.mk (below_step HC6.out hb); clear hb))
  go_ret
  exact ⟨rfl, HC7.out⟩
set_option maxHeartbeats 16000000 in
set_option maxRecDepth 100000 in
theorem back_v_x_u (n d a p : Int) (A1 : Option Addr) (c1 : Nat) (l : List Int) (r q : List Int) (x1 x2 xe qe : Int) (s : ByteArray) (te : Int) (m g : Int) (w : World) (hE : Env w) (hl : Held w A1 c1 l) (hfew : true = decide ((l.length : Int) ≤ 300)) (hp : PathC n d r 0) (hv : true = decide (valid n d)) (hf : FromC r (n, d, 0)) (tx : List UInt8) (htx : ∀ y, Below w.heap.size w y → Calls Tryz.prog 6 #[.agg #[.int .i64 n, .int .i64 d]] y fun e w' => e = .returned (.tuple #[.string (ba tx), .int .i64 0]) ∧ Below y.heap.size y w') (hps : ∀ y, Below w.heap.size w y → Calls Tryz.prog 8 #[.string (ba tx)] y fun e w' => e = .returned (.tuple #[.agg #[.int .i64 n, .int .i64 d], .int .i64 0]) ∧ Below y.heap.size y w') (hg : FromC l (x1, x2, xe)) (hxe : (xe == 0) = false) (hq : PathC x1 x2 q qe) (hdc : ∀ y, Below w.heap.size w y → Calls Tryz.prog 10 #[.int .i64 a, .int .i64 p] y fun e w' => e = .returned (.tuple #[.string s, .int .i64 0]) ∧ Below y.heap.size y w') (hpd : ∀ y, Below w.heap.size w y → Calls Tryz.prog 12 #[.string s, .int .i64 p] y fun e w' => e = .returned (.tuple #[.int .i64 0, .int .i64 4]) ∧ Below y.heap.size y w') (h1 : decide (a < -1125899906842624) = true) :
    Calls Tryz.prog 4 #[.agg #[.int .i64 n, .int .i64 d], .slice A1 l.length c1, .int .i64 a, .int .i64 p] w fun e w' => e = .returned (.bool true) ∧ Below w.heap.size w w' := by
  have HE := Aside0.mk hE
  have HL := Aside0.mk hl
  have HV := Aside0.mk hv
  have HFEW := Aside0.mk hfew
  have HP := Aside0.mk hp
  have HG := Aside0.mk hg
  have HQ := Aside0.mk hq
  have HDC := Aside0.mk hdc
  have HPD := Aside0.mk hpd
  have HF := Aside0.mk hf
  have HTX := Aside0.mk htx
  have HPS := Aside0.mk hps
  clear hf htx hps
  have en : (n == n) = true := by simp
  have ed : (d == d) = true := by simp
  have HB0 := Aside0.mk ((Below.refl w.heap.size w).alloc (Nat.le_refl _) (.cells #[.int .i64 n, .int .i64 d] 23))
  have HT0 := Aside0.mk (blk_new w (.cells #[.int .i64 n, .int .i64 d] 23))
  clear hE hl hv hfew hp hg hq hdc hpd
  go_enter Tryz.func4, Tryz.ntmps4
  go_upto_region 3 with (first
    | (go_at_call 14; with_reducible refine (few_any true HFEW.out _ _ _ (HL.out.below HB0.out)).mono ?_; rintro e y1 ⟨rfl, hb⟩; have HB1 := Aside0.mk (below_step HB0.out hb); have HT1 := Aside0.mk (blk_below HT0.out hb); clear hb))
  have x00 := (blk_cell HT1.out 0).trans rfl
  have x01 := (blk_cell HT1.out 1).trans rfl
  go_upto_region 4 with (first
    | (go_at_call 15; with_reducible refine (HP.out _).mono ?_; rintro e y2 ⟨A2, c2, rfl, hr2, hb⟩; have HB2 := Aside0.mk (below_step HB1.out hb); have HT2 := Aside0.mk (blk_below HT1.out hb); have HR2 := Aside0.mk hr2; clear hb hr2 x00 x01))
  have x00 := (blk_cell HT2.out 0).trans rfl
  have x01 := (blk_cell HT2.out 1).trans rfl
  go_upto_region 7 with (first
    | (go_at_call 16; with_reducible refine (valid_any n d _ HV.out _).mono ?_; rintro e y3 ⟨rfl, hb⟩; have HB3 := Aside0.mk (below_step HB2.out hb); have HT3 := Aside0.mk (blk_below HT2.out hb); have HR3 := Aside0.mk (HR2.out.below hb); clear hb x00 x01))
  go_upto_region 8 with (first
    | (go_at_call 17; with_reducible refine (HF.out _ _ _ HR3.out).mono ?_; rintro e y4 ⟨rfl, hb⟩; have HB4 := Aside0.mk (below_step HB3.out hb); have HT4 := Aside0.mk (blk_below HT3.out hb); clear hb))
  have HB5 := Aside0.mk (HB4.out.alloc HB4.out.size (.cells #[.int .i64 n, .int .i64 d] 23))
  have HT5 := Aside0.mk (blk_alloc HT4.out (.cells #[.int .i64 n, .int .i64 d] 23))
  have HX5 := Aside0.mk (blk_new y4 (.cells #[.int .i64 n, .int .i64 d] 23))
  have x00 := (blk_cell HT5.out 0).trans rfl
  have x01 := (blk_cell HT5.out 1).trans rfl
  go_upto_region 9 with (first
    | (go_at_call 6; with_reducible refine (HTX.out _ HB5.out).mono ?_; rintro e y5 ⟨rfl, hb⟩; have HB6 := Aside0.mk (below_step HB5.out hb); have HT6 := Aside0.mk (blk_below HT5.out hb); have HX6 := Aside0.mk (blk_below HX5.out hb); clear hb x00 x01))
  go_upto_region 10 with (first
    | (go_at_call 8; with_reducible refine (HPS.out _ HB6.out).mono ?_; rintro e y6 ⟨rfl, hb⟩; have HB7 := Aside0.mk (below_step HB6.out hb); have HT7 := Aside0.mk (blk_below HT6.out hb); have HX7 := Aside0.mk (blk_below HX6.out hb); clear hb))
  have HB8 := Aside0.mk (HB7.out.alloc HB7.out.size (.cells #[.int .i64 n, .int .i64 d] 23))
  have x00 := (blk_cell (blk_alloc HT7.out (.cells #[.int .i64 n, .int .i64 d] 23)) 0).trans rfl
  have x01 := (blk_cell (blk_alloc HT7.out (.cells #[.int .i64 n, .int .i64 d] 23)) 1).trans rfl
  have x10 := (blk_cell (blk_alloc HX7.out (.cells #[.int .i64 n, .int .i64 d] 23)) 0).trans rfl
  have x11 := (blk_cell (blk_alloc HX7.out (.cells #[.int .i64 n, .int .i64 d] 23)) 1).trans rfl
  have x20 := (blk_cell (blk_new y6 (.cells #[.int .i64 n, .int .i64 d] 23)) 0).trans rfl
  have x21 := (blk_cell (blk_new y6 (.cells #[.int .i64 n, .int .i64 d] 23)) 1).trans rfl
  go_upto_region 12 with (fail)
  clear x00 x01 x10 x11 x20 x21
  go_upto_region 13 with (first
    | (go_at_call 17; with_reducible refine (HG.out _ _ _ (HL.out.below HB8.out)).mono ?_; rintro e z1 ⟨rfl, hb⟩; have HC1 := Aside0.mk (below_step HB8.out hb); clear hb))
  have HC2 := Aside0.mk (HC1.out.alloc HC1.out.size (.cells #[.int .i64 x1, .int .i64 x2] 23))
  have x30 := (blk_cell (blk_new z1 (.cells #[.int .i64 x1, .int .i64 x2] 23)) 0).trans rfl
  have x31 := (blk_cell (blk_new z1 (.cells #[.int .i64 x1, .int .i64 x2] 23)) 1).trans rfl
  go_upto_region 14 with (first
    | (go_at_call 15; with_reducible refine (HQ.out _).mono ?_; rintro e z2 ⟨A3, c3, rfl, hq2, hb⟩; have HC3 := Aside0.mk (below_step HC2.out hb); have HQ3 := Aside0.mk hq2; clear hb hq2 x30 x31))
  go_upto_region 16 with (fail)
  go_wp2_with (first
    | (go_at_call 10; with_reducible refine (HDC.out _ HC3.out).mono ?_; rintro e z4 ⟨rfl, hb⟩; have HC5 := Aside0.mk (below_step HC3.out hb); clear hb)
    | (go_at_call 12; with_reducible refine (HPD.out _ HC5.out).mono ?_; rintro e z5 ⟨rfl, hb⟩; have HC6 := Aside0.mk (below_step HC5.out hb); clear hb)
    | (go_at_call 5; with_reducible refine (alive_any _ (HE.out.below HC6.out)).mono ?_; rintro e z6 ⟨rfl, hb⟩; have HC7 := Aside0.mk (below_step HC6.out hb); clear hb))
  go_ret
  exact ⟨rfl, HC7.out⟩
set_option maxHeartbeats 16000000 in
set_option maxRecDepth 100000 in
theorem back_v_x_o (n d a p : Int) (A1 : Option Addr) (c1 : Nat) (l : List Int) (r q : List Int) (x1 x2 xe qe : Int) (s : ByteArray) (te : Int) (m g : Int) (w : World) (hE : Env w) (hl : Held w A1 c1 l) (hfew : true = decide ((l.length : Int) ≤ 300)) (hp : PathC n d r 0) (hv : true = decide (valid n d)) (hf : FromC r (n, d, 0)) (tx : List UInt8) (htx : ∀ y, Below w.heap.size w y → Calls Tryz.prog 6 #[.agg #[.int .i64 n, .int .i64 d]] y fun e w' => e = .returned (.tuple #[.string (ba tx), .int .i64 0]) ∧ Below y.heap.size y w') (hps : ∀ y, Below w.heap.size w y → Calls Tryz.prog 8 #[.string (ba tx)] y fun e w' => e = .returned (.tuple #[.agg #[.int .i64 n, .int .i64 d], .int .i64 0]) ∧ Below y.heap.size y w') (hg : FromC l (x1, x2, xe)) (hxe : (xe == 0) = false) (hq : PathC x1 x2 q qe) (hdc : ∀ y, Below w.heap.size w y → Calls Tryz.prog 10 #[.int .i64 a, .int .i64 p] y fun e w' => e = .returned (.tuple #[.string s, .int .i64 0]) ∧ Below y.heap.size y w') (hpd : ∀ y, Below w.heap.size w y → Calls Tryz.prog 12 #[.string s, .int .i64 p] y fun e w' => e = .returned (.tuple #[.int .i64 0, .int .i64 4]) ∧ Below y.heap.size y w') (h1 : decide (a < -1125899906842624) = false) (h2 : decide (a > 1125899906842624) = true) :
    Calls Tryz.prog 4 #[.agg #[.int .i64 n, .int .i64 d], .slice A1 l.length c1, .int .i64 a, .int .i64 p] w fun e w' => e = .returned (.bool true) ∧ Below w.heap.size w w' := by
  have HE := Aside0.mk hE
  have HL := Aside0.mk hl
  have HV := Aside0.mk hv
  have HFEW := Aside0.mk hfew
  have HP := Aside0.mk hp
  have HG := Aside0.mk hg
  have HQ := Aside0.mk hq
  have HDC := Aside0.mk hdc
  have HPD := Aside0.mk hpd
  have HF := Aside0.mk hf
  have HTX := Aside0.mk htx
  have HPS := Aside0.mk hps
  clear hf htx hps
  have en : (n == n) = true := by simp
  have ed : (d == d) = true := by simp
  have HB0 := Aside0.mk ((Below.refl w.heap.size w).alloc (Nat.le_refl _) (.cells #[.int .i64 n, .int .i64 d] 23))
  have HT0 := Aside0.mk (blk_new w (.cells #[.int .i64 n, .int .i64 d] 23))
  clear hE hl hv hfew hp hg hq hdc hpd
  go_enter Tryz.func4, Tryz.ntmps4
  go_upto_region 3 with (first
    | (go_at_call 14; with_reducible refine (few_any true HFEW.out _ _ _ (HL.out.below HB0.out)).mono ?_; rintro e y1 ⟨rfl, hb⟩; have HB1 := Aside0.mk (below_step HB0.out hb); have HT1 := Aside0.mk (blk_below HT0.out hb); clear hb))
  have x00 := (blk_cell HT1.out 0).trans rfl
  have x01 := (blk_cell HT1.out 1).trans rfl
  go_upto_region 4 with (first
    | (go_at_call 15; with_reducible refine (HP.out _).mono ?_; rintro e y2 ⟨A2, c2, rfl, hr2, hb⟩; have HB2 := Aside0.mk (below_step HB1.out hb); have HT2 := Aside0.mk (blk_below HT1.out hb); have HR2 := Aside0.mk hr2; clear hb hr2 x00 x01))
  have x00 := (blk_cell HT2.out 0).trans rfl
  have x01 := (blk_cell HT2.out 1).trans rfl
  go_upto_region 7 with (first
    | (go_at_call 16; with_reducible refine (valid_any n d _ HV.out _).mono ?_; rintro e y3 ⟨rfl, hb⟩; have HB3 := Aside0.mk (below_step HB2.out hb); have HT3 := Aside0.mk (blk_below HT2.out hb); have HR3 := Aside0.mk (HR2.out.below hb); clear hb x00 x01))
  go_upto_region 8 with (first
    | (go_at_call 17; with_reducible refine (HF.out _ _ _ HR3.out).mono ?_; rintro e y4 ⟨rfl, hb⟩; have HB4 := Aside0.mk (below_step HB3.out hb); have HT4 := Aside0.mk (blk_below HT3.out hb); clear hb))
  have HB5 := Aside0.mk (HB4.out.alloc HB4.out.size (.cells #[.int .i64 n, .int .i64 d] 23))
  have HT5 := Aside0.mk (blk_alloc HT4.out (.cells #[.int .i64 n, .int .i64 d] 23))
  have HX5 := Aside0.mk (blk_new y4 (.cells #[.int .i64 n, .int .i64 d] 23))
  have x00 := (blk_cell HT5.out 0).trans rfl
  have x01 := (blk_cell HT5.out 1).trans rfl
  go_upto_region 9 with (first
    | (go_at_call 6; with_reducible refine (HTX.out _ HB5.out).mono ?_; rintro e y5 ⟨rfl, hb⟩; have HB6 := Aside0.mk (below_step HB5.out hb); have HT6 := Aside0.mk (blk_below HT5.out hb); have HX6 := Aside0.mk (blk_below HX5.out hb); clear hb x00 x01))
  go_upto_region 10 with (first
    | (go_at_call 8; with_reducible refine (HPS.out _ HB6.out).mono ?_; rintro e y6 ⟨rfl, hb⟩; have HB7 := Aside0.mk (below_step HB6.out hb); have HT7 := Aside0.mk (blk_below HT6.out hb); have HX7 := Aside0.mk (blk_below HX6.out hb); clear hb))
  have HB8 := Aside0.mk (HB7.out.alloc HB7.out.size (.cells #[.int .i64 n, .int .i64 d] 23))
  have x00 := (blk_cell (blk_alloc HT7.out (.cells #[.int .i64 n, .int .i64 d] 23)) 0).trans rfl
  have x01 := (blk_cell (blk_alloc HT7.out (.cells #[.int .i64 n, .int .i64 d] 23)) 1).trans rfl
  have x10 := (blk_cell (blk_alloc HX7.out (.cells #[.int .i64 n, .int .i64 d] 23)) 0).trans rfl
  have x11 := (blk_cell (blk_alloc HX7.out (.cells #[.int .i64 n, .int .i64 d] 23)) 1).trans rfl
  have x20 := (blk_cell (blk_new y6 (.cells #[.int .i64 n, .int .i64 d] 23)) 0).trans rfl
  have x21 := (blk_cell (blk_new y6 (.cells #[.int .i64 n, .int .i64 d] 23)) 1).trans rfl
  go_upto_region 12 with (fail)
  clear x00 x01 x10 x11 x20 x21
  go_upto_region 13 with (first
    | (go_at_call 17; with_reducible refine (HG.out _ _ _ (HL.out.below HB8.out)).mono ?_; rintro e z1 ⟨rfl, hb⟩; have HC1 := Aside0.mk (below_step HB8.out hb); clear hb))
  have HC2 := Aside0.mk (HC1.out.alloc HC1.out.size (.cells #[.int .i64 x1, .int .i64 x2] 23))
  have x30 := (blk_cell (blk_new z1 (.cells #[.int .i64 x1, .int .i64 x2] 23)) 0).trans rfl
  have x31 := (blk_cell (blk_new z1 (.cells #[.int .i64 x1, .int .i64 x2] 23)) 1).trans rfl
  go_upto_region 14 with (first
    | (go_at_call 15; with_reducible refine (HQ.out _).mono ?_; rintro e z2 ⟨A3, c3, rfl, hq2, hb⟩; have HC3 := Aside0.mk (below_step HC2.out hb); have HQ3 := Aside0.mk hq2; clear hb hq2 x30 x31))
  go_upto_region 16 with (fail)
  go_wp2_with (first
    | (go_at_call 10; with_reducible refine (HDC.out _ HC3.out).mono ?_; rintro e z4 ⟨rfl, hb⟩; have HC5 := Aside0.mk (below_step HC3.out hb); clear hb)
    | (go_at_call 12; with_reducible refine (HPD.out _ HC5.out).mono ?_; rintro e z5 ⟨rfl, hb⟩; have HC6 := Aside0.mk (below_step HC5.out hb); clear hb)
    | (go_at_call 5; with_reducible refine (alive_any _ (HE.out.below HC6.out)).mono ?_; rintro e z6 ⟨rfl, hb⟩; have HC7 := Aside0.mk (below_step HC6.out hb); clear hb))
  go_ret
  exact ⟨rfl, HC7.out⟩
set_option maxHeartbeats 16000000 in
set_option maxRecDepth 100000 in
theorem back_v_x_f (n d a p : Int) (A1 : Option Addr) (c1 : Nat) (l : List Int) (r q : List Int) (x1 x2 xe qe : Int) (s : ByteArray) (te : Int) (m g : Int) (w : World) (hE : Env w) (hl : Held w A1 c1 l) (hfew : true = decide ((l.length : Int) ≤ 300)) (hp : PathC n d r 0) (hv : true = decide (valid n d)) (hf : FromC r (n, d, 0)) (tx : List UInt8) (htx : ∀ y, Below w.heap.size w y → Calls Tryz.prog 6 #[.agg #[.int .i64 n, .int .i64 d]] y fun e w' => e = .returned (.tuple #[.string (ba tx), .int .i64 0]) ∧ Below y.heap.size y w') (hps : ∀ y, Below w.heap.size w y → Calls Tryz.prog 8 #[.string (ba tx)] y fun e w' => e = .returned (.tuple #[.agg #[.int .i64 n, .int .i64 d], .int .i64 0]) ∧ Below y.heap.size y w') (hg : FromC l (x1, x2, xe)) (hxe : (xe == 0) = false) (hq : PathC x1 x2 q qe) (hdc : ∀ y, Below w.heap.size w y → Calls Tryz.prog 10 #[.int .i64 a, .int .i64 p] y fun e w' => e = .returned (.tuple #[.string s, .int .i64 0]) ∧ Below y.heap.size y w') (hpd : ∀ y, Below w.heap.size w y → Calls Tryz.prog 12 #[.string s, .int .i64 p] y fun e w' => e = .returned (.tuple #[.int .i64 a, .int .i64 0]) ∧ Below y.heap.size y w') (h1 : decide (a < -1125899906842624) = false) (h2 : decide (a > 1125899906842624) = false) :
    Calls Tryz.prog 4 #[.agg #[.int .i64 n, .int .i64 d], .slice A1 l.length c1, .int .i64 a, .int .i64 p] w fun e w' => e = .returned (.bool true) ∧ Below w.heap.size w w' := by
  have HE := Aside0.mk hE
  have HL := Aside0.mk hl
  have HV := Aside0.mk hv
  have HFEW := Aside0.mk hfew
  have HP := Aside0.mk hp
  have HG := Aside0.mk hg
  have HQ := Aside0.mk hq
  have HDC := Aside0.mk hdc
  have HPD := Aside0.mk hpd
  have HF := Aside0.mk hf
  have HTX := Aside0.mk htx
  have HPS := Aside0.mk hps
  clear hf htx hps
  have en : (n == n) = true := by simp
  have ed : (d == d) = true := by simp
  have ea : (a == a) = true := by simp
  have HB0 := Aside0.mk ((Below.refl w.heap.size w).alloc (Nat.le_refl _) (.cells #[.int .i64 n, .int .i64 d] 23))
  have HT0 := Aside0.mk (blk_new w (.cells #[.int .i64 n, .int .i64 d] 23))
  clear hE hl hv hfew hp hg hq hdc hpd
  go_enter Tryz.func4, Tryz.ntmps4
  go_upto_region 3 with (first
    | (go_at_call 14; with_reducible refine (few_any true HFEW.out _ _ _ (HL.out.below HB0.out)).mono ?_; rintro e y1 ⟨rfl, hb⟩; have HB1 := Aside0.mk (below_step HB0.out hb); have HT1 := Aside0.mk (blk_below HT0.out hb); clear hb))
  have x00 := (blk_cell HT1.out 0).trans rfl
  have x01 := (blk_cell HT1.out 1).trans rfl
  go_upto_region 4 with (first
    | (go_at_call 15; with_reducible refine (HP.out _).mono ?_; rintro e y2 ⟨A2, c2, rfl, hr2, hb⟩; have HB2 := Aside0.mk (below_step HB1.out hb); have HT2 := Aside0.mk (blk_below HT1.out hb); have HR2 := Aside0.mk hr2; clear hb hr2 x00 x01))
  have x00 := (blk_cell HT2.out 0).trans rfl
  have x01 := (blk_cell HT2.out 1).trans rfl
  go_upto_region 7 with (first
    | (go_at_call 16; with_reducible refine (valid_any n d _ HV.out _).mono ?_; rintro e y3 ⟨rfl, hb⟩; have HB3 := Aside0.mk (below_step HB2.out hb); have HT3 := Aside0.mk (blk_below HT2.out hb); have HR3 := Aside0.mk (HR2.out.below hb); clear hb x00 x01))
  go_upto_region 8 with (first
    | (go_at_call 17; with_reducible refine (HF.out _ _ _ HR3.out).mono ?_; rintro e y4 ⟨rfl, hb⟩; have HB4 := Aside0.mk (below_step HB3.out hb); have HT4 := Aside0.mk (blk_below HT3.out hb); clear hb))
  have HB5 := Aside0.mk (HB4.out.alloc HB4.out.size (.cells #[.int .i64 n, .int .i64 d] 23))
  have HT5 := Aside0.mk (blk_alloc HT4.out (.cells #[.int .i64 n, .int .i64 d] 23))
  have HX5 := Aside0.mk (blk_new y4 (.cells #[.int .i64 n, .int .i64 d] 23))
  have x00 := (blk_cell HT5.out 0).trans rfl
  have x01 := (blk_cell HT5.out 1).trans rfl
  go_upto_region 9 with (first
    | (go_at_call 6; with_reducible refine (HTX.out _ HB5.out).mono ?_; rintro e y5 ⟨rfl, hb⟩; have HB6 := Aside0.mk (below_step HB5.out hb); have HT6 := Aside0.mk (blk_below HT5.out hb); have HX6 := Aside0.mk (blk_below HX5.out hb); clear hb x00 x01))
  go_upto_region 10 with (first
    | (go_at_call 8; with_reducible refine (HPS.out _ HB6.out).mono ?_; rintro e y6 ⟨rfl, hb⟩; have HB7 := Aside0.mk (below_step HB6.out hb); have HT7 := Aside0.mk (blk_below HT6.out hb); have HX7 := Aside0.mk (blk_below HX6.out hb); clear hb))
  have HB8 := Aside0.mk (HB7.out.alloc HB7.out.size (.cells #[.int .i64 n, .int .i64 d] 23))
  have x00 := (blk_cell (blk_alloc HT7.out (.cells #[.int .i64 n, .int .i64 d] 23)) 0).trans rfl
  have x01 := (blk_cell (blk_alloc HT7.out (.cells #[.int .i64 n, .int .i64 d] 23)) 1).trans rfl
  have x10 := (blk_cell (blk_alloc HX7.out (.cells #[.int .i64 n, .int .i64 d] 23)) 0).trans rfl
  have x11 := (blk_cell (blk_alloc HX7.out (.cells #[.int .i64 n, .int .i64 d] 23)) 1).trans rfl
  have x20 := (blk_cell (blk_new y6 (.cells #[.int .i64 n, .int .i64 d] 23)) 0).trans rfl
  have x21 := (blk_cell (blk_new y6 (.cells #[.int .i64 n, .int .i64 d] 23)) 1).trans rfl
  go_upto_region 12 with (fail)
  clear x00 x01 x10 x11 x20 x21
  go_upto_region 13 with (first
    | (go_at_call 17; with_reducible refine (HG.out _ _ _ (HL.out.below HB8.out)).mono ?_; rintro e z1 ⟨rfl, hb⟩; have HC1 := Aside0.mk (below_step HB8.out hb); clear hb))
  have HC2 := Aside0.mk (HC1.out.alloc HC1.out.size (.cells #[.int .i64 x1, .int .i64 x2] 23))
  have x30 := (blk_cell (blk_new z1 (.cells #[.int .i64 x1, .int .i64 x2] 23)) 0).trans rfl
  have x31 := (blk_cell (blk_new z1 (.cells #[.int .i64 x1, .int .i64 x2] 23)) 1).trans rfl
  go_upto_region 14 with (first
    | (go_at_call 15; with_reducible refine (HQ.out _).mono ?_; rintro e z2 ⟨A3, c3, rfl, hq2, hb⟩; have HC3 := Aside0.mk (below_step HC2.out hb); have HQ3 := Aside0.mk hq2; clear hb hq2 x30 x31))
  go_upto_region 16 with (fail)
  go_wp2_with (first
    | (go_at_call 10; with_reducible refine (HDC.out _ HC3.out).mono ?_; rintro e z4 ⟨rfl, hb⟩; have HC5 := Aside0.mk (below_step HC3.out hb); clear hb)
    | (go_at_call 12; with_reducible refine (HPD.out _ HC5.out).mono ?_; rintro e z5 ⟨rfl, hb⟩; have HC6 := Aside0.mk (below_step HC5.out hb); clear hb)
    | (go_at_call 5; with_reducible refine (alive_any _ (HE.out.below HC6.out)).mono ?_; rintro e z6 ⟨rfl, hb⟩; have HC7 := Aside0.mk (below_step HC6.out hb); clear hb))
  go_ret
  exact ⟨rfl, HC7.out⟩
set_option maxHeartbeats 16000000 in
set_option maxRecDepth 100000 in
theorem back_i_o_b (n d a p : Int) (A1 : Option Addr) (c1 : Nat) (l : List Int) (r q : List Int) (x1 x2 xe qe : Int) (s : ByteArray) (te : Int) (m g : Int) (w : World) (hE : Env w) (hl : Held w A1 c1 l) (hfew : true = decide ((l.length : Int) ≤ 300)) (hp : PathC n d r 2) (hv : false = decide (valid n d)) (hg : FromC l (x1, x2, 0)) (hq : PathC x1 x2 l 0) (hs : SameC l) (hdc : ∀ y, Below w.heap.size w y → Calls Tryz.prog 10 #[.int .i64 a, .int .i64 p] y fun e w' => e = .returned (.tuple #[.string ⟨#[]⟩, .int .i64 2]) ∧ Below y.heap.size y w') (hpd : ∀ y, Below w.heap.size w y → Calls Tryz.prog 12 #[.string ⟨#[]⟩, .int .i64 p] y fun e w' => e = .returned (.tuple #[.int .i64 m, .int .i64 2]) ∧ Below y.heap.size y w') :
    Calls Tryz.prog 4 #[.agg #[.int .i64 n, .int .i64 d], .slice A1 l.length c1, .int .i64 a, .int .i64 p] w fun e w' => e = .returned (.bool true) ∧ Below w.heap.size w w' := by
  have HE := Aside0.mk hE
  have HL := Aside0.mk hl
  have HV := Aside0.mk hv
  have HFEW := Aside0.mk hfew
  have HP := Aside0.mk hp
  have HG := Aside0.mk hg
  have HQ := Aside0.mk hq
  have HDC := Aside0.mk hdc
  have HPD := Aside0.mk hpd
  have HS := Aside0.mk hs
  clear hs
  have HB0 := Aside0.mk ((Below.refl w.heap.size w).alloc (Nat.le_refl _) (.cells #[.int .i64 n, .int .i64 d] 23))
  have HT0 := Aside0.mk (blk_new w (.cells #[.int .i64 n, .int .i64 d] 23))
  clear hE hl hv hfew hp hg hq hdc hpd
  go_enter Tryz.func4, Tryz.ntmps4
  go_upto_region 3 with (first
    | (go_at_call 14; with_reducible refine (few_any true HFEW.out _ _ _ (HL.out.below HB0.out)).mono ?_; rintro e y1 ⟨rfl, hb⟩; have HB1 := Aside0.mk (below_step HB0.out hb); have HT1 := Aside0.mk (blk_below HT0.out hb); clear hb))
  have x00 := (blk_cell HT1.out 0).trans rfl
  have x01 := (blk_cell HT1.out 1).trans rfl
  go_upto_region 4 with (first
    | (go_at_call 15; with_reducible refine (HP.out _).mono ?_; rintro e y2 ⟨A2, c2, rfl, hr2, hb⟩; have HB2 := Aside0.mk (below_step HB1.out hb); have HT2 := Aside0.mk (blk_below HT1.out hb); have HR2 := Aside0.mk hr2; clear hb hr2 x00 x01))
  have x00 := (blk_cell HT2.out 0).trans rfl
  have x01 := (blk_cell HT2.out 1).trans rfl
  go_upto_region 12 with (first
    | (go_at_call 16; with_reducible refine (valid_any n d _ HV.out _).mono ?_; rintro e y3 ⟨rfl, hb⟩; have HB3 := Aside0.mk (below_step HB2.out hb); have HT3 := Aside0.mk (blk_below HT2.out hb); have HR3 := Aside0.mk (HR2.out.below hb); clear hb x00 x01))
  go_upto_region 13 with (first
    | (go_at_call 17; with_reducible refine (HG.out _ _ _ (HL.out.below HB3.out)).mono ?_; rintro e z1 ⟨rfl, hb⟩; have HC1 := Aside0.mk (below_step HB3.out hb); clear hb))
  have HC2 := Aside0.mk (HC1.out.alloc HC1.out.size (.cells #[.int .i64 x1, .int .i64 x2] 23))
  have x30 := (blk_cell (blk_new z1 (.cells #[.int .i64 x1, .int .i64 x2] 23)) 0).trans rfl
  have x31 := (blk_cell (blk_new z1 (.cells #[.int .i64 x1, .int .i64 x2] 23)) 1).trans rfl
  go_upto_region 14 with (first
    | (go_at_call 15; with_reducible refine (HQ.out _).mono ?_; rintro e z2 ⟨A3, c3, rfl, hq2, hb⟩; have HC3 := Aside0.mk (below_step HC2.out hb); have HQ3 := Aside0.mk hq2; clear hb hq2 x30 x31))
  go_upto_region 16 with (first
    | (go_at_call 18; with_reducible refine (HS.out _ _ _ _ _ HQ3.out (HL.out.below HC3.out)).mono ?_; rintro e z3 ⟨rfl, hb⟩; have HC4 := Aside0.mk (below_step HC3.out hb); clear hb))
  go_wp2_with (first
    | (go_at_call 10; with_reducible refine (HDC.out _ HC4.out).mono ?_; rintro e z4 ⟨rfl, hb⟩; have HC5 := Aside0.mk (below_step HC4.out hb); clear hb)
    | (go_at_call 12; with_reducible refine (HPD.out _ HC5.out).mono ?_; rintro e z5 ⟨rfl, hb⟩; have HC6 := Aside0.mk (below_step HC5.out hb); clear hb)
    | (go_at_call 5; with_reducible refine (alive_any _ (HE.out.below HC6.out)).mono ?_; rintro e z6 ⟨rfl, hb⟩; have HC7 := Aside0.mk (below_step HC6.out hb); clear hb))
  go_ret
  exact ⟨rfl, HC7.out⟩
set_option maxHeartbeats 16000000 in
set_option maxRecDepth 100000 in
theorem back_i_o_u (n d a p : Int) (A1 : Option Addr) (c1 : Nat) (l : List Int) (r q : List Int) (x1 x2 xe qe : Int) (s : ByteArray) (te : Int) (m g : Int) (w : World) (hE : Env w) (hl : Held w A1 c1 l) (hfew : true = decide ((l.length : Int) ≤ 300)) (hp : PathC n d r 2) (hv : false = decide (valid n d)) (hg : FromC l (x1, x2, 0)) (hq : PathC x1 x2 l 0) (hs : SameC l) (hdc : ∀ y, Below w.heap.size w y → Calls Tryz.prog 10 #[.int .i64 a, .int .i64 p] y fun e w' => e = .returned (.tuple #[.string s, .int .i64 0]) ∧ Below y.heap.size y w') (hpd : ∀ y, Below w.heap.size w y → Calls Tryz.prog 12 #[.string s, .int .i64 p] y fun e w' => e = .returned (.tuple #[.int .i64 0, .int .i64 4]) ∧ Below y.heap.size y w') (h1 : decide (a < -1125899906842624) = true) :
    Calls Tryz.prog 4 #[.agg #[.int .i64 n, .int .i64 d], .slice A1 l.length c1, .int .i64 a, .int .i64 p] w fun e w' => e = .returned (.bool true) ∧ Below w.heap.size w w' := by
  have HE := Aside0.mk hE
  have HL := Aside0.mk hl
  have HV := Aside0.mk hv
  have HFEW := Aside0.mk hfew
  have HP := Aside0.mk hp
  have HG := Aside0.mk hg
  have HQ := Aside0.mk hq
  have HDC := Aside0.mk hdc
  have HPD := Aside0.mk hpd
  have HS := Aside0.mk hs
  clear hs
  have HB0 := Aside0.mk ((Below.refl w.heap.size w).alloc (Nat.le_refl _) (.cells #[.int .i64 n, .int .i64 d] 23))
  have HT0 := Aside0.mk (blk_new w (.cells #[.int .i64 n, .int .i64 d] 23))
  clear hE hl hv hfew hp hg hq hdc hpd
  go_enter Tryz.func4, Tryz.ntmps4
  go_upto_region 3 with (first
    | (go_at_call 14; with_reducible refine (few_any true HFEW.out _ _ _ (HL.out.below HB0.out)).mono ?_; rintro e y1 ⟨rfl, hb⟩; have HB1 := Aside0.mk (below_step HB0.out hb); have HT1 := Aside0.mk (blk_below HT0.out hb); clear hb))
  have x00 := (blk_cell HT1.out 0).trans rfl
  have x01 := (blk_cell HT1.out 1).trans rfl
  go_upto_region 4 with (first
    | (go_at_call 15; with_reducible refine (HP.out _).mono ?_; rintro e y2 ⟨A2, c2, rfl, hr2, hb⟩; have HB2 := Aside0.mk (below_step HB1.out hb); have HT2 := Aside0.mk (blk_below HT1.out hb); have HR2 := Aside0.mk hr2; clear hb hr2 x00 x01))
  have x00 := (blk_cell HT2.out 0).trans rfl
  have x01 := (blk_cell HT2.out 1).trans rfl
  go_upto_region 12 with (first
    | (go_at_call 16; with_reducible refine (valid_any n d _ HV.out _).mono ?_; rintro e y3 ⟨rfl, hb⟩; have HB3 := Aside0.mk (below_step HB2.out hb); have HT3 := Aside0.mk (blk_below HT2.out hb); have HR3 := Aside0.mk (HR2.out.below hb); clear hb x00 x01))
  go_upto_region 13 with (first
    | (go_at_call 17; with_reducible refine (HG.out _ _ _ (HL.out.below HB3.out)).mono ?_; rintro e z1 ⟨rfl, hb⟩; have HC1 := Aside0.mk (below_step HB3.out hb); clear hb))
  have HC2 := Aside0.mk (HC1.out.alloc HC1.out.size (.cells #[.int .i64 x1, .int .i64 x2] 23))
  have x30 := (blk_cell (blk_new z1 (.cells #[.int .i64 x1, .int .i64 x2] 23)) 0).trans rfl
  have x31 := (blk_cell (blk_new z1 (.cells #[.int .i64 x1, .int .i64 x2] 23)) 1).trans rfl
  go_upto_region 14 with (first
    | (go_at_call 15; with_reducible refine (HQ.out _).mono ?_; rintro e z2 ⟨A3, c3, rfl, hq2, hb⟩; have HC3 := Aside0.mk (below_step HC2.out hb); have HQ3 := Aside0.mk hq2; clear hb hq2 x30 x31))
  go_upto_region 16 with (first
    | (go_at_call 18; with_reducible refine (HS.out _ _ _ _ _ HQ3.out (HL.out.below HC3.out)).mono ?_; rintro e z3 ⟨rfl, hb⟩; have HC4 := Aside0.mk (below_step HC3.out hb); clear hb))
  go_wp2_with (first
    | (go_at_call 10; with_reducible refine (HDC.out _ HC4.out).mono ?_; rintro e z4 ⟨rfl, hb⟩; have HC5 := Aside0.mk (below_step HC4.out hb); clear hb)
    | (go_at_call 12; with_reducible refine (HPD.out _ HC5.out).mono ?_; rintro e z5 ⟨rfl, hb⟩; have HC6 := Aside0.mk (below_step HC5.out hb); clear hb)
    | (go_at_call 5; with_reducible refine (alive_any _ (HE.out.below HC6.out)).mono ?_; rintro e z6 ⟨rfl, hb⟩; have HC7 := Aside0.mk (below_step HC6.out hb); clear hb))
  go_ret
  exact ⟨rfl, HC7.out⟩
set_option maxHeartbeats 16000000 in
set_option maxRecDepth 100000 in
theorem back_i_o_o (n d a p : Int) (A1 : Option Addr) (c1 : Nat) (l : List Int) (r q : List Int) (x1 x2 xe qe : Int) (s : ByteArray) (te : Int) (m g : Int) (w : World) (hE : Env w) (hl : Held w A1 c1 l) (hfew : true = decide ((l.length : Int) ≤ 300)) (hp : PathC n d r 2) (hv : false = decide (valid n d)) (hg : FromC l (x1, x2, 0)) (hq : PathC x1 x2 l 0) (hs : SameC l) (hdc : ∀ y, Below w.heap.size w y → Calls Tryz.prog 10 #[.int .i64 a, .int .i64 p] y fun e w' => e = .returned (.tuple #[.string s, .int .i64 0]) ∧ Below y.heap.size y w') (hpd : ∀ y, Below w.heap.size w y → Calls Tryz.prog 12 #[.string s, .int .i64 p] y fun e w' => e = .returned (.tuple #[.int .i64 0, .int .i64 4]) ∧ Below y.heap.size y w') (h1 : decide (a < -1125899906842624) = false) (h2 : decide (a > 1125899906842624) = true) :
    Calls Tryz.prog 4 #[.agg #[.int .i64 n, .int .i64 d], .slice A1 l.length c1, .int .i64 a, .int .i64 p] w fun e w' => e = .returned (.bool true) ∧ Below w.heap.size w w' := by
  have HE := Aside0.mk hE
  have HL := Aside0.mk hl
  have HV := Aside0.mk hv
  have HFEW := Aside0.mk hfew
  have HP := Aside0.mk hp
  have HG := Aside0.mk hg
  have HQ := Aside0.mk hq
  have HDC := Aside0.mk hdc
  have HPD := Aside0.mk hpd
  have HS := Aside0.mk hs
  clear hs
  have HB0 := Aside0.mk ((Below.refl w.heap.size w).alloc (Nat.le_refl _) (.cells #[.int .i64 n, .int .i64 d] 23))
  have HT0 := Aside0.mk (blk_new w (.cells #[.int .i64 n, .int .i64 d] 23))
  clear hE hl hv hfew hp hg hq hdc hpd
  go_enter Tryz.func4, Tryz.ntmps4
  go_upto_region 3 with (first
    | (go_at_call 14; with_reducible refine (few_any true HFEW.out _ _ _ (HL.out.below HB0.out)).mono ?_; rintro e y1 ⟨rfl, hb⟩; have HB1 := Aside0.mk (below_step HB0.out hb); have HT1 := Aside0.mk (blk_below HT0.out hb); clear hb))
  have x00 := (blk_cell HT1.out 0).trans rfl
  have x01 := (blk_cell HT1.out 1).trans rfl
  go_upto_region 4 with (first
    | (go_at_call 15; with_reducible refine (HP.out _).mono ?_; rintro e y2 ⟨A2, c2, rfl, hr2, hb⟩; have HB2 := Aside0.mk (below_step HB1.out hb); have HT2 := Aside0.mk (blk_below HT1.out hb); have HR2 := Aside0.mk hr2; clear hb hr2 x00 x01))
  have x00 := (blk_cell HT2.out 0).trans rfl
  have x01 := (blk_cell HT2.out 1).trans rfl
  go_upto_region 12 with (first
    | (go_at_call 16; with_reducible refine (valid_any n d _ HV.out _).mono ?_; rintro e y3 ⟨rfl, hb⟩; have HB3 := Aside0.mk (below_step HB2.out hb); have HT3 := Aside0.mk (blk_below HT2.out hb); have HR3 := Aside0.mk (HR2.out.below hb); clear hb x00 x01))
  go_upto_region 13 with (first
    | (go_at_call 17; with_reducible refine (HG.out _ _ _ (HL.out.below HB3.out)).mono ?_; rintro e z1 ⟨rfl, hb⟩; have HC1 := Aside0.mk (below_step HB3.out hb); clear hb))
  have HC2 := Aside0.mk (HC1.out.alloc HC1.out.size (.cells #[.int .i64 x1, .int .i64 x2] 23))
  have x30 := (blk_cell (blk_new z1 (.cells #[.int .i64 x1, .int .i64 x2] 23)) 0).trans rfl
  have x31 := (blk_cell (blk_new z1 (.cells #[.int .i64 x1, .int .i64 x2] 23)) 1).trans rfl
  go_upto_region 14 with (first
    | (go_at_call 15; with_reducible refine (HQ.out _).mono ?_; rintro e z2 ⟨A3, c3, rfl, hq2, hb⟩; have HC3 := Aside0.mk (below_step HC2.out hb); have HQ3 := Aside0.mk hq2; clear hb hq2 x30 x31))
  go_upto_region 16 with (first
    | (go_at_call 18; with_reducible refine (HS.out _ _ _ _ _ HQ3.out (HL.out.below HC3.out)).mono ?_; rintro e z3 ⟨rfl, hb⟩; have HC4 := Aside0.mk (below_step HC3.out hb); clear hb))
  go_wp2_with (first
    | (go_at_call 10; with_reducible refine (HDC.out _ HC4.out).mono ?_; rintro e z4 ⟨rfl, hb⟩; have HC5 := Aside0.mk (below_step HC4.out hb); clear hb)
    | (go_at_call 12; with_reducible refine (HPD.out _ HC5.out).mono ?_; rintro e z5 ⟨rfl, hb⟩; have HC6 := Aside0.mk (below_step HC5.out hb); clear hb)
    | (go_at_call 5; with_reducible refine (alive_any _ (HE.out.below HC6.out)).mono ?_; rintro e z6 ⟨rfl, hb⟩; have HC7 := Aside0.mk (below_step HC6.out hb); clear hb))
  go_ret
  exact ⟨rfl, HC7.out⟩
set_option maxHeartbeats 16000000 in
set_option maxRecDepth 100000 in
theorem back_i_o_f (n d a p : Int) (A1 : Option Addr) (c1 : Nat) (l : List Int) (r q : List Int) (x1 x2 xe qe : Int) (s : ByteArray) (te : Int) (m g : Int) (w : World) (hE : Env w) (hl : Held w A1 c1 l) (hfew : true = decide ((l.length : Int) ≤ 300)) (hp : PathC n d r 2) (hv : false = decide (valid n d)) (hg : FromC l (x1, x2, 0)) (hq : PathC x1 x2 l 0) (hs : SameC l) (hdc : ∀ y, Below w.heap.size w y → Calls Tryz.prog 10 #[.int .i64 a, .int .i64 p] y fun e w' => e = .returned (.tuple #[.string s, .int .i64 0]) ∧ Below y.heap.size y w') (hpd : ∀ y, Below w.heap.size w y → Calls Tryz.prog 12 #[.string s, .int .i64 p] y fun e w' => e = .returned (.tuple #[.int .i64 a, .int .i64 0]) ∧ Below y.heap.size y w') (h1 : decide (a < -1125899906842624) = false) (h2 : decide (a > 1125899906842624) = false) :
    Calls Tryz.prog 4 #[.agg #[.int .i64 n, .int .i64 d], .slice A1 l.length c1, .int .i64 a, .int .i64 p] w fun e w' => e = .returned (.bool true) ∧ Below w.heap.size w w' := by
  have HE := Aside0.mk hE
  have HL := Aside0.mk hl
  have HV := Aside0.mk hv
  have HFEW := Aside0.mk hfew
  have HP := Aside0.mk hp
  have HG := Aside0.mk hg
  have HQ := Aside0.mk hq
  have HDC := Aside0.mk hdc
  have HPD := Aside0.mk hpd
  have HS := Aside0.mk hs
  clear hs
  have ea : (a == a) = true := by simp
  have HB0 := Aside0.mk ((Below.refl w.heap.size w).alloc (Nat.le_refl _) (.cells #[.int .i64 n, .int .i64 d] 23))
  have HT0 := Aside0.mk (blk_new w (.cells #[.int .i64 n, .int .i64 d] 23))
  clear hE hl hv hfew hp hg hq hdc hpd
  go_enter Tryz.func4, Tryz.ntmps4
  go_upto_region 3 with (first
    | (go_at_call 14; with_reducible refine (few_any true HFEW.out _ _ _ (HL.out.below HB0.out)).mono ?_; rintro e y1 ⟨rfl, hb⟩; have HB1 := Aside0.mk (below_step HB0.out hb); have HT1 := Aside0.mk (blk_below HT0.out hb); clear hb))
  have x00 := (blk_cell HT1.out 0).trans rfl
  have x01 := (blk_cell HT1.out 1).trans rfl
  go_upto_region 4 with (first
    | (go_at_call 15; with_reducible refine (HP.out _).mono ?_; rintro e y2 ⟨A2, c2, rfl, hr2, hb⟩; have HB2 := Aside0.mk (below_step HB1.out hb); have HT2 := Aside0.mk (blk_below HT1.out hb); have HR2 := Aside0.mk hr2; clear hb hr2 x00 x01))
  have x00 := (blk_cell HT2.out 0).trans rfl
  have x01 := (blk_cell HT2.out 1).trans rfl
  go_upto_region 12 with (first
    | (go_at_call 16; with_reducible refine (valid_any n d _ HV.out _).mono ?_; rintro e y3 ⟨rfl, hb⟩; have HB3 := Aside0.mk (below_step HB2.out hb); have HT3 := Aside0.mk (blk_below HT2.out hb); have HR3 := Aside0.mk (HR2.out.below hb); clear hb x00 x01))
  go_upto_region 13 with (first
    | (go_at_call 17; with_reducible refine (HG.out _ _ _ (HL.out.below HB3.out)).mono ?_; rintro e z1 ⟨rfl, hb⟩; have HC1 := Aside0.mk (below_step HB3.out hb); clear hb))
  have HC2 := Aside0.mk (HC1.out.alloc HC1.out.size (.cells #[.int .i64 x1, .int .i64 x2] 23))
  have x30 := (blk_cell (blk_new z1 (.cells #[.int .i64 x1, .int .i64 x2] 23)) 0).trans rfl
  have x31 := (blk_cell (blk_new z1 (.cells #[.int .i64 x1, .int .i64 x2] 23)) 1).trans rfl
  go_upto_region 14 with (first
    | (go_at_call 15; with_reducible refine (HQ.out _).mono ?_; rintro e z2 ⟨A3, c3, rfl, hq2, hb⟩; have HC3 := Aside0.mk (below_step HC2.out hb); have HQ3 := Aside0.mk hq2; clear hb hq2 x30 x31))
  go_upto_region 16 with (first
    | (go_at_call 18; with_reducible refine (HS.out _ _ _ _ _ HQ3.out (HL.out.below HC3.out)).mono ?_; rintro e z3 ⟨rfl, hb⟩; have HC4 := Aside0.mk (below_step HC3.out hb); clear hb))
  go_wp2_with (first
    | (go_at_call 10; with_reducible refine (HDC.out _ HC4.out).mono ?_; rintro e z4 ⟨rfl, hb⟩; have HC5 := Aside0.mk (below_step HC4.out hb); clear hb)
    | (go_at_call 12; with_reducible refine (HPD.out _ HC5.out).mono ?_; rintro e z5 ⟨rfl, hb⟩; have HC6 := Aside0.mk (below_step HC5.out hb); clear hb)
    | (go_at_call 5; with_reducible refine (alive_any _ (HE.out.below HC6.out)).mono ?_; rintro e z6 ⟨rfl, hb⟩; have HC7 := Aside0.mk (below_step HC6.out hb); clear hb))
  go_ret
  exact ⟨rfl, HC7.out⟩
set_option maxHeartbeats 16000000 in
set_option maxRecDepth 100000 in
theorem back_i_x_b (n d a p : Int) (A1 : Option Addr) (c1 : Nat) (l : List Int) (r q : List Int) (x1 x2 xe qe : Int) (s : ByteArray) (te : Int) (m g : Int) (w : World) (hE : Env w) (hl : Held w A1 c1 l) (hfew : true = decide ((l.length : Int) ≤ 300)) (hp : PathC n d r 2) (hv : false = decide (valid n d)) (hg : FromC l (x1, x2, xe)) (hxe : (xe == 0) = false) (hq : PathC x1 x2 q qe) (hdc : ∀ y, Below w.heap.size w y → Calls Tryz.prog 10 #[.int .i64 a, .int .i64 p] y fun e w' => e = .returned (.tuple #[.string ⟨#[]⟩, .int .i64 2]) ∧ Below y.heap.size y w') (hpd : ∀ y, Below w.heap.size w y → Calls Tryz.prog 12 #[.string ⟨#[]⟩, .int .i64 p] y fun e w' => e = .returned (.tuple #[.int .i64 m, .int .i64 2]) ∧ Below y.heap.size y w') :
    Calls Tryz.prog 4 #[.agg #[.int .i64 n, .int .i64 d], .slice A1 l.length c1, .int .i64 a, .int .i64 p] w fun e w' => e = .returned (.bool true) ∧ Below w.heap.size w w' := by
  have HE := Aside0.mk hE
  have HL := Aside0.mk hl
  have HV := Aside0.mk hv
  have HFEW := Aside0.mk hfew
  have HP := Aside0.mk hp
  have HG := Aside0.mk hg
  have HQ := Aside0.mk hq
  have HDC := Aside0.mk hdc
  have HPD := Aside0.mk hpd
  have HB0 := Aside0.mk ((Below.refl w.heap.size w).alloc (Nat.le_refl _) (.cells #[.int .i64 n, .int .i64 d] 23))
  have HT0 := Aside0.mk (blk_new w (.cells #[.int .i64 n, .int .i64 d] 23))
  clear hE hl hv hfew hp hg hq hdc hpd
  go_enter Tryz.func4, Tryz.ntmps4
  go_upto_region 3 with (first
    | (go_at_call 14; with_reducible refine (few_any true HFEW.out _ _ _ (HL.out.below HB0.out)).mono ?_; rintro e y1 ⟨rfl, hb⟩; have HB1 := Aside0.mk (below_step HB0.out hb); have HT1 := Aside0.mk (blk_below HT0.out hb); clear hb))
  have x00 := (blk_cell HT1.out 0).trans rfl
  have x01 := (blk_cell HT1.out 1).trans rfl
  go_upto_region 4 with (first
    | (go_at_call 15; with_reducible refine (HP.out _).mono ?_; rintro e y2 ⟨A2, c2, rfl, hr2, hb⟩; have HB2 := Aside0.mk (below_step HB1.out hb); have HT2 := Aside0.mk (blk_below HT1.out hb); have HR2 := Aside0.mk hr2; clear hb hr2 x00 x01))
  have x00 := (blk_cell HT2.out 0).trans rfl
  have x01 := (blk_cell HT2.out 1).trans rfl
  go_upto_region 12 with (first
    | (go_at_call 16; with_reducible refine (valid_any n d _ HV.out _).mono ?_; rintro e y3 ⟨rfl, hb⟩; have HB3 := Aside0.mk (below_step HB2.out hb); have HT3 := Aside0.mk (blk_below HT2.out hb); have HR3 := Aside0.mk (HR2.out.below hb); clear hb x00 x01))
  go_upto_region 13 with (first
    | (go_at_call 17; with_reducible refine (HG.out _ _ _ (HL.out.below HB3.out)).mono ?_; rintro e z1 ⟨rfl, hb⟩; have HC1 := Aside0.mk (below_step HB3.out hb); clear hb))
  have HC2 := Aside0.mk (HC1.out.alloc HC1.out.size (.cells #[.int .i64 x1, .int .i64 x2] 23))
  have x30 := (blk_cell (blk_new z1 (.cells #[.int .i64 x1, .int .i64 x2] 23)) 0).trans rfl
  have x31 := (blk_cell (blk_new z1 (.cells #[.int .i64 x1, .int .i64 x2] 23)) 1).trans rfl
  go_upto_region 14 with (first
    | (go_at_call 15; with_reducible refine (HQ.out _).mono ?_; rintro e z2 ⟨A3, c3, rfl, hq2, hb⟩; have HC3 := Aside0.mk (below_step HC2.out hb); have HQ3 := Aside0.mk hq2; clear hb hq2 x30 x31))
  go_upto_region 16 with (fail)
  go_wp2_with (first
    | (go_at_call 10; with_reducible refine (HDC.out _ HC3.out).mono ?_; rintro e z4 ⟨rfl, hb⟩; have HC5 := Aside0.mk (below_step HC3.out hb); clear hb)
    | (go_at_call 12; with_reducible refine (HPD.out _ HC5.out).mono ?_; rintro e z5 ⟨rfl, hb⟩; have HC6 := Aside0.mk (below_step HC5.out hb); clear hb)
    | (go_at_call 5; with_reducible refine (alive_any _ (HE.out.below HC6.out)).mono ?_; rintro e z6 ⟨rfl, hb⟩; have HC7 := Aside0.mk (below_step HC6.out hb); clear hb))
  go_ret
  exact ⟨rfl, HC7.out⟩
set_option maxHeartbeats 16000000 in
set_option maxRecDepth 100000 in
theorem back_i_x_u (n d a p : Int) (A1 : Option Addr) (c1 : Nat) (l : List Int) (r q : List Int) (x1 x2 xe qe : Int) (s : ByteArray) (te : Int) (m g : Int) (w : World) (hE : Env w) (hl : Held w A1 c1 l) (hfew : true = decide ((l.length : Int) ≤ 300)) (hp : PathC n d r 2) (hv : false = decide (valid n d)) (hg : FromC l (x1, x2, xe)) (hxe : (xe == 0) = false) (hq : PathC x1 x2 q qe) (hdc : ∀ y, Below w.heap.size w y → Calls Tryz.prog 10 #[.int .i64 a, .int .i64 p] y fun e w' => e = .returned (.tuple #[.string s, .int .i64 0]) ∧ Below y.heap.size y w') (hpd : ∀ y, Below w.heap.size w y → Calls Tryz.prog 12 #[.string s, .int .i64 p] y fun e w' => e = .returned (.tuple #[.int .i64 0, .int .i64 4]) ∧ Below y.heap.size y w') (h1 : decide (a < -1125899906842624) = true) :
    Calls Tryz.prog 4 #[.agg #[.int .i64 n, .int .i64 d], .slice A1 l.length c1, .int .i64 a, .int .i64 p] w fun e w' => e = .returned (.bool true) ∧ Below w.heap.size w w' := by
  have HE := Aside0.mk hE
  have HL := Aside0.mk hl
  have HV := Aside0.mk hv
  have HFEW := Aside0.mk hfew
  have HP := Aside0.mk hp
  have HG := Aside0.mk hg
  have HQ := Aside0.mk hq
  have HDC := Aside0.mk hdc
  have HPD := Aside0.mk hpd
  have HB0 := Aside0.mk ((Below.refl w.heap.size w).alloc (Nat.le_refl _) (.cells #[.int .i64 n, .int .i64 d] 23))
  have HT0 := Aside0.mk (blk_new w (.cells #[.int .i64 n, .int .i64 d] 23))
  clear hE hl hv hfew hp hg hq hdc hpd
  go_enter Tryz.func4, Tryz.ntmps4
  go_upto_region 3 with (first
    | (go_at_call 14; with_reducible refine (few_any true HFEW.out _ _ _ (HL.out.below HB0.out)).mono ?_; rintro e y1 ⟨rfl, hb⟩; have HB1 := Aside0.mk (below_step HB0.out hb); have HT1 := Aside0.mk (blk_below HT0.out hb); clear hb))
  have x00 := (blk_cell HT1.out 0).trans rfl
  have x01 := (blk_cell HT1.out 1).trans rfl
  go_upto_region 4 with (first
    | (go_at_call 15; with_reducible refine (HP.out _).mono ?_; rintro e y2 ⟨A2, c2, rfl, hr2, hb⟩; have HB2 := Aside0.mk (below_step HB1.out hb); have HT2 := Aside0.mk (blk_below HT1.out hb); have HR2 := Aside0.mk hr2; clear hb hr2 x00 x01))
  have x00 := (blk_cell HT2.out 0).trans rfl
  have x01 := (blk_cell HT2.out 1).trans rfl
  go_upto_region 12 with (first
    | (go_at_call 16; with_reducible refine (valid_any n d _ HV.out _).mono ?_; rintro e y3 ⟨rfl, hb⟩; have HB3 := Aside0.mk (below_step HB2.out hb); have HT3 := Aside0.mk (blk_below HT2.out hb); have HR3 := Aside0.mk (HR2.out.below hb); clear hb x00 x01))
  go_upto_region 13 with (first
    | (go_at_call 17; with_reducible refine (HG.out _ _ _ (HL.out.below HB3.out)).mono ?_; rintro e z1 ⟨rfl, hb⟩; have HC1 := Aside0.mk (below_step HB3.out hb); clear hb))
  have HC2 := Aside0.mk (HC1.out.alloc HC1.out.size (.cells #[.int .i64 x1, .int .i64 x2] 23))
  have x30 := (blk_cell (blk_new z1 (.cells #[.int .i64 x1, .int .i64 x2] 23)) 0).trans rfl
  have x31 := (blk_cell (blk_new z1 (.cells #[.int .i64 x1, .int .i64 x2] 23)) 1).trans rfl
  go_upto_region 14 with (first
    | (go_at_call 15; with_reducible refine (HQ.out _).mono ?_; rintro e z2 ⟨A3, c3, rfl, hq2, hb⟩; have HC3 := Aside0.mk (below_step HC2.out hb); have HQ3 := Aside0.mk hq2; clear hb hq2 x30 x31))
  go_upto_region 16 with (fail)
  go_wp2_with (first
    | (go_at_call 10; with_reducible refine (HDC.out _ HC3.out).mono ?_; rintro e z4 ⟨rfl, hb⟩; have HC5 := Aside0.mk (below_step HC3.out hb); clear hb)
    | (go_at_call 12; with_reducible refine (HPD.out _ HC5.out).mono ?_; rintro e z5 ⟨rfl, hb⟩; have HC6 := Aside0.mk (below_step HC5.out hb); clear hb)
    | (go_at_call 5; with_reducible refine (alive_any _ (HE.out.below HC6.out)).mono ?_; rintro e z6 ⟨rfl, hb⟩; have HC7 := Aside0.mk (below_step HC6.out hb); clear hb))
  go_ret
  exact ⟨rfl, HC7.out⟩
set_option maxHeartbeats 16000000 in
set_option maxRecDepth 100000 in
theorem back_i_x_o (n d a p : Int) (A1 : Option Addr) (c1 : Nat) (l : List Int) (r q : List Int) (x1 x2 xe qe : Int) (s : ByteArray) (te : Int) (m g : Int) (w : World) (hE : Env w) (hl : Held w A1 c1 l) (hfew : true = decide ((l.length : Int) ≤ 300)) (hp : PathC n d r 2) (hv : false = decide (valid n d)) (hg : FromC l (x1, x2, xe)) (hxe : (xe == 0) = false) (hq : PathC x1 x2 q qe) (hdc : ∀ y, Below w.heap.size w y → Calls Tryz.prog 10 #[.int .i64 a, .int .i64 p] y fun e w' => e = .returned (.tuple #[.string s, .int .i64 0]) ∧ Below y.heap.size y w') (hpd : ∀ y, Below w.heap.size w y → Calls Tryz.prog 12 #[.string s, .int .i64 p] y fun e w' => e = .returned (.tuple #[.int .i64 0, .int .i64 4]) ∧ Below y.heap.size y w') (h1 : decide (a < -1125899906842624) = false) (h2 : decide (a > 1125899906842624) = true) :
    Calls Tryz.prog 4 #[.agg #[.int .i64 n, .int .i64 d], .slice A1 l.length c1, .int .i64 a, .int .i64 p] w fun e w' => e = .returned (.bool true) ∧ Below w.heap.size w w' := by
  have HE := Aside0.mk hE
  have HL := Aside0.mk hl
  have HV := Aside0.mk hv
  have HFEW := Aside0.mk hfew
  have HP := Aside0.mk hp
  have HG := Aside0.mk hg
  have HQ := Aside0.mk hq
  have HDC := Aside0.mk hdc
  have HPD := Aside0.mk hpd
  have HB0 := Aside0.mk ((Below.refl w.heap.size w).alloc (Nat.le_refl _) (.cells #[.int .i64 n, .int .i64 d] 23))
  have HT0 := Aside0.mk (blk_new w (.cells #[.int .i64 n, .int .i64 d] 23))
  clear hE hl hv hfew hp hg hq hdc hpd
  go_enter Tryz.func4, Tryz.ntmps4
  go_upto_region 3 with (first
    | (go_at_call 14; with_reducible refine (few_any true HFEW.out _ _ _ (HL.out.below HB0.out)).mono ?_; rintro e y1 ⟨rfl, hb⟩; have HB1 := Aside0.mk (below_step HB0.out hb); have HT1 := Aside0.mk (blk_below HT0.out hb); clear hb))
  have x00 := (blk_cell HT1.out 0).trans rfl
  have x01 := (blk_cell HT1.out 1).trans rfl
  go_upto_region 4 with (first
    | (go_at_call 15; with_reducible refine (HP.out _).mono ?_; rintro e y2 ⟨A2, c2, rfl, hr2, hb⟩; have HB2 := Aside0.mk (below_step HB1.out hb); have HT2 := Aside0.mk (blk_below HT1.out hb); have HR2 := Aside0.mk hr2; clear hb hr2 x00 x01))
  have x00 := (blk_cell HT2.out 0).trans rfl
  have x01 := (blk_cell HT2.out 1).trans rfl
  go_upto_region 12 with (first
    | (go_at_call 16; with_reducible refine (valid_any n d _ HV.out _).mono ?_; rintro e y3 ⟨rfl, hb⟩; have HB3 := Aside0.mk (below_step HB2.out hb); have HT3 := Aside0.mk (blk_below HT2.out hb); have HR3 := Aside0.mk (HR2.out.below hb); clear hb x00 x01))
  go_upto_region 13 with (first
    | (go_at_call 17; with_reducible refine (HG.out _ _ _ (HL.out.below HB3.out)).mono ?_; rintro e z1 ⟨rfl, hb⟩; have HC1 := Aside0.mk (below_step HB3.out hb); clear hb))
  have HC2 := Aside0.mk (HC1.out.alloc HC1.out.size (.cells #[.int .i64 x1, .int .i64 x2] 23))
  have x30 := (blk_cell (blk_new z1 (.cells #[.int .i64 x1, .int .i64 x2] 23)) 0).trans rfl
  have x31 := (blk_cell (blk_new z1 (.cells #[.int .i64 x1, .int .i64 x2] 23)) 1).trans rfl
  go_upto_region 14 with (first
    | (go_at_call 15; with_reducible refine (HQ.out _).mono ?_; rintro e z2 ⟨A3, c3, rfl, hq2, hb⟩; have HC3 := Aside0.mk (below_step HC2.out hb); have HQ3 := Aside0.mk hq2; clear hb hq2 x30 x31))
  go_upto_region 16 with (fail)
  go_wp2_with (first
    | (go_at_call 10; with_reducible refine (HDC.out _ HC3.out).mono ?_; rintro e z4 ⟨rfl, hb⟩; have HC5 := Aside0.mk (below_step HC3.out hb); clear hb)
    | (go_at_call 12; with_reducible refine (HPD.out _ HC5.out).mono ?_; rintro e z5 ⟨rfl, hb⟩; have HC6 := Aside0.mk (below_step HC5.out hb); clear hb)
    | (go_at_call 5; with_reducible refine (alive_any _ (HE.out.below HC6.out)).mono ?_; rintro e z6 ⟨rfl, hb⟩; have HC7 := Aside0.mk (below_step HC6.out hb); clear hb))
  go_ret
  exact ⟨rfl, HC7.out⟩
set_option maxHeartbeats 16000000 in
set_option maxRecDepth 100000 in
theorem back_i_x_f (n d a p : Int) (A1 : Option Addr) (c1 : Nat) (l : List Int) (r q : List Int) (x1 x2 xe qe : Int) (s : ByteArray) (te : Int) (m g : Int) (w : World) (hE : Env w) (hl : Held w A1 c1 l) (hfew : true = decide ((l.length : Int) ≤ 300)) (hp : PathC n d r 2) (hv : false = decide (valid n d)) (hg : FromC l (x1, x2, xe)) (hxe : (xe == 0) = false) (hq : PathC x1 x2 q qe) (hdc : ∀ y, Below w.heap.size w y → Calls Tryz.prog 10 #[.int .i64 a, .int .i64 p] y fun e w' => e = .returned (.tuple #[.string s, .int .i64 0]) ∧ Below y.heap.size y w') (hpd : ∀ y, Below w.heap.size w y → Calls Tryz.prog 12 #[.string s, .int .i64 p] y fun e w' => e = .returned (.tuple #[.int .i64 a, .int .i64 0]) ∧ Below y.heap.size y w') (h1 : decide (a < -1125899906842624) = false) (h2 : decide (a > 1125899906842624) = false) :
    Calls Tryz.prog 4 #[.agg #[.int .i64 n, .int .i64 d], .slice A1 l.length c1, .int .i64 a, .int .i64 p] w fun e w' => e = .returned (.bool true) ∧ Below w.heap.size w w' := by
  have HE := Aside0.mk hE
  have HL := Aside0.mk hl
  have HV := Aside0.mk hv
  have HFEW := Aside0.mk hfew
  have HP := Aside0.mk hp
  have HG := Aside0.mk hg
  have HQ := Aside0.mk hq
  have HDC := Aside0.mk hdc
  have HPD := Aside0.mk hpd
  have ea : (a == a) = true := by simp
  have HB0 := Aside0.mk ((Below.refl w.heap.size w).alloc (Nat.le_refl _) (.cells #[.int .i64 n, .int .i64 d] 23))
  have HT0 := Aside0.mk (blk_new w (.cells #[.int .i64 n, .int .i64 d] 23))
  clear hE hl hv hfew hp hg hq hdc hpd
  go_enter Tryz.func4, Tryz.ntmps4
  go_upto_region 3 with (first
    | (go_at_call 14; with_reducible refine (few_any true HFEW.out _ _ _ (HL.out.below HB0.out)).mono ?_; rintro e y1 ⟨rfl, hb⟩; have HB1 := Aside0.mk (below_step HB0.out hb); have HT1 := Aside0.mk (blk_below HT0.out hb); clear hb))
  have x00 := (blk_cell HT1.out 0).trans rfl
  have x01 := (blk_cell HT1.out 1).trans rfl
  go_upto_region 4 with (first
    | (go_at_call 15; with_reducible refine (HP.out _).mono ?_; rintro e y2 ⟨A2, c2, rfl, hr2, hb⟩; have HB2 := Aside0.mk (below_step HB1.out hb); have HT2 := Aside0.mk (blk_below HT1.out hb); have HR2 := Aside0.mk hr2; clear hb hr2 x00 x01))
  have x00 := (blk_cell HT2.out 0).trans rfl
  have x01 := (blk_cell HT2.out 1).trans rfl
  go_upto_region 12 with (first
    | (go_at_call 16; with_reducible refine (valid_any n d _ HV.out _).mono ?_; rintro e y3 ⟨rfl, hb⟩; have HB3 := Aside0.mk (below_step HB2.out hb); have HT3 := Aside0.mk (blk_below HT2.out hb); have HR3 := Aside0.mk (HR2.out.below hb); clear hb x00 x01))
  go_upto_region 13 with (first
    | (go_at_call 17; with_reducible refine (HG.out _ _ _ (HL.out.below HB3.out)).mono ?_; rintro e z1 ⟨rfl, hb⟩; have HC1 := Aside0.mk (below_step HB3.out hb); clear hb))
  have HC2 := Aside0.mk (HC1.out.alloc HC1.out.size (.cells #[.int .i64 x1, .int .i64 x2] 23))
  have x30 := (blk_cell (blk_new z1 (.cells #[.int .i64 x1, .int .i64 x2] 23)) 0).trans rfl
  have x31 := (blk_cell (blk_new z1 (.cells #[.int .i64 x1, .int .i64 x2] 23)) 1).trans rfl
  go_upto_region 14 with (first
    | (go_at_call 15; with_reducible refine (HQ.out _).mono ?_; rintro e z2 ⟨A3, c3, rfl, hq2, hb⟩; have HC3 := Aside0.mk (below_step HC2.out hb); have HQ3 := Aside0.mk hq2; clear hb hq2 x30 x31))
  go_upto_region 16 with (fail)
  go_wp2_with (first
    | (go_at_call 10; with_reducible refine (HDC.out _ HC3.out).mono ?_; rintro e z4 ⟨rfl, hb⟩; have HC5 := Aside0.mk (below_step HC3.out hb); clear hb)
    | (go_at_call 12; with_reducible refine (HPD.out _ HC5.out).mono ?_; rintro e z5 ⟨rfl, hb⟩; have HC6 := Aside0.mk (below_step HC5.out hb); clear hb)
    | (go_at_call 5; with_reducible refine (alive_any _ (HE.out.below HC6.out)).mono ?_; rintro e z6 ⟨rfl, hb⟩; have HC7 := Aside0.mk (below_step HC6.out hb); clear hb))
  go_ret
  exact ⟨rfl, HC7.out⟩
end Go.Proofs.Num

namespace Go.Proofs.Num
open Go.RowKit Go.Proofs.YtdjnneflpkllmaaGreatDoorW.PrintWords Go.Proofs.YtdjnneflpkllmaaGreatDoorW.PrintLast Go.Proofs.YtdjnneflpkllmaaGreatDoorW.PrintMore Go.Proofs.YtdjnneflpkllmaaGreatDoor.Q
attribute [local go_sem high] eqA23
set_option linter.unusedVariables false
set_option linter.unusedSimpArgs false
set_option maxHeartbeats 6400000 in
set_option maxRecDepth 100000 in
theorem back_long (n d a p : Int) (A1 : Option Addr) (c1 : Nat) (l : List Int) (w : World) (hE : Env w) (hl : Held w A1 c1 l) (hfew : false = decide ((l.length : Int) ≤ 300)) :
    Calls Tryz.prog 4 #[.agg #[.int .i64 n, .int .i64 d], .slice A1 l.length c1, .int .i64 a, .int .i64 p] w fun e w' => e = .returned (.bool true) ∧ Below w.heap.size w w' := by
  have HE := Aside0.mk hE
  have HL := Aside0.mk hl
  have HFEW := Aside0.mk hfew
  have HB0 := Aside0.mk ((Below.refl w.heap.size w).alloc (Nat.le_refl _) (.cells #[.int .i64 n, .int .i64 d] 23))
  clear hE hl hfew
  go_enter Tryz.func4, Tryz.ntmps4
  go_wp2_with (first
    | (go_at_call 14; with_reducible refine (few_any false HFEW.out _ _ _ (HL.out.below HB0.out)).mono ?_; rintro e y1 ⟨rfl, hb⟩; have HB1 := Aside0.mk (below_step HB0.out hb); clear hb)
    | (go_at_call 5; with_reducible refine (alive_any _ (HE.out.below HB1.out)).mono ?_; rintro e y2 ⟨rfl, hb⟩; have HB2 := Aside0.mk (below_step HB1.out hb); clear hb))
  go_ret
  exact ⟨rfl, HB2.out⟩
def BackA (n d : Int) (w : World) : Prop :=
  (∃ r tx, PathC n d r 0 ∧ true = decide (valid n d) ∧ FromC r (n, d, 0) ∧ (∀ y, Below w.heap.size w y → Calls Tryz.prog 6 #[.agg #[.int .i64 n, .int .i64 d]] y fun e w' => e = .returned (.tuple #[.string (ba tx), .int .i64 0]) ∧ Below y.heap.size y w') ∧ (∀ y, Below w.heap.size w y → Calls Tryz.prog 8 #[.string (ba tx)] y fun e w' => e = .returned (.tuple #[.agg #[.int .i64 n, .int .i64 d], .int .i64 0]) ∧ Below y.heap.size y w')) ∨
  (∃ r, PathC n d r 2 ∧ false = decide (valid n d))
def BackB (l : List Int) : Prop :=
  (∃ x1 x2, FromC l (x1, x2, 0) ∧ PathC x1 x2 l 0 ∧ SameC l) ∨
  (∃ x1 x2 xe q qe, FromC l (x1, x2, xe) ∧ (xe == 0) = false ∧ PathC x1 x2 q qe)
def BackD (a p : Int) (w : World) (s : ByteArray) (de m g : Int) : Prop := (∀ y, Below w.heap.size w y → Calls Tryz.prog 10 #[.int .i64 a, .int .i64 p] y fun e w' => e = .returned (.tuple #[.string s, .int .i64 de]) ∧ Below y.heap.size y w') ∧
  (∀ y, Below w.heap.size w y → Calls Tryz.prog 12 #[.string s, .int .i64 p] y fun e w' => e = .returned (.tuple #[.int .i64 m, .int .i64 g]) ∧ Below y.heap.size y w')
def BackC (a p : Int) (w : World) : Prop :=
  (∃ m, BackD a p w ⟨#[]⟩ 2 m 2) ∨ (∃ s, BackD a p w s 0 0 4 ∧ decide (a < -1125899906842624) = true) ∨
  (∃ s, BackD a p w s 0 0 4 ∧ decide (a < -1125899906842624) = false ∧ decide (a > 1125899906842624) = true) ∨
  (∃ s, BackD a p w s 0 a 0 ∧ decide (a < -1125899906842624) = false ∧ decide (a > 1125899906842624) = false)
theorem backA (n d : Int) (w : World) (hE : Env w) : BackA n d w := by
  obtain ⟨r, e, HP, hv, hn, hr⟩ := path_any n d
  by_cases h : valid n d
  · obtain ⟨rfl, P, _⟩ := hv h
    left
    refine ⟨r, txt n d, HP, (decide_eq_true h).symm, ?_, fun y hy => ?_, fun y hy => ?_⟩
    · have h64 : ∀ i, -9223372036854775808 ≤ at_ r i ∧ at_ r i ≤ 9223372036854775807 := path_bounds h P
      obtain ⟨v, F, ok, _⟩ := from_any h64 (by omega)
      have := ok P.some hr P.ok
      rw [from_path h P] at this
      rw [← this]
      exact F
    · have := text_any n d y (hE.below hy)
      rw [if_pos h, if_pos h] at this
      exact this
    · have ln : (txt n d).length ≤ 1000000 := by
        obtain ⟨v1, v2, v3, v4, _⟩ := h
        have a := itoa_len (n := n) (by omega) (by omega)
        have b := itoa_len (n := d) (by omega) (by omega)
        unfold txt
        split
        · omega
        · rw [List.length_append, List.length_cons]; omega
      refine (parse_any ln y (hE.below hy)).mono ?_
      rintro o w' ⟨v, rfl, hs, hb⟩
      obtain rfl := hs.one (ParseSaid.found h rfl)
      exact ⟨rfl, hb⟩
  · obtain ⟨rfl, _⟩ := hn h
    exact Or.inr ⟨r, HP, (decide_eq_false h).symm⟩
theorem backB {l : List Int} (h64 : ∀ i, -9223372036854775808 ≤ at_ l i ∧ at_ l i ≤ 9223372036854775807) (hs : l.length ≤ 300) : BackB l := by
  obtain ⟨⟨x1, x2, xe⟩, F, ok, bad⟩ := from_any h64 (by omega)
  obtain ⟨q, qe, HP, hv, _, _⟩ := path_any x1 x2
  by_cases z : xe = 0
  · subst z
    left
    by_cases c : 1 ≤ l.length ∧ l.length ≤ 64 ∧ pathOk l
    · obtain ⟨v, u⟩ := path_from c.1 c.2.2 (ok c.1 c.2.1 c.2.2).symm rfl
      obtain ⟨rfl, P, _⟩ := hv v
      obtain rfl := u _ P
      exact ⟨x1, x2, F, HP, same_any (by omega)⟩
    · exact absurd rfl (bad c).1
  · exact Or.inr ⟨x1, x2, xe, q, qe, F, by simpa using z, HP⟩
theorem backC {a : Int} (h0 : -9223372036854775808 ≤ a) (h1 : a ≤ 9223372036854775807) (p : Int) (w : World) (hE : Env w) : BackC a p w := by
  have D : BackD a p w (ba (decV a p).1) (decV a p).2 (pdR (decV a p).1 p).1 (pdR (decV a p).1 p).2 := by
    refine ⟨fun y hy => decimal_any h0 h1 p y (hE.below hy), fun y hy => pdec_any ?_ p y (hE.below hy)⟩
    unfold decV decS
    split
    · decide
    · have ln := nd_le (u := a.natAbs) (by omega)
      rw [← Lib.decDigits_length] at ln
      have pl := (padded_len p.toNat (Lib.decDigits a.natAbs)).2
      have s1 : (sgn (decide (a < 0))).length ≤ 1 := by unfold sgn; split <;> decide
      have : (point p.toNat (padded p.toNat (Lib.decDigits a.natAbs))).length ≤ (padded p.toNat (Lib.decDigits a.natAbs)).length + 1 := by
        unfold point
        split
        · omega
        · rw [List.length_append, List.length_cons, List.length_take, List.length_drop]; omega
      rw [List.length_append]
      omega
  unfold decV pdR at D
  by_cases c : p < 0 ∨ 9 < p
  · rw [if_pos c, if_pos c] at D
    exact Or.inl ⟨_, D⟩
  · rw [if_neg c, if_neg c] at D
    simp only [pdV_back] at D
    by_cases b : 1125899906842624 < a.natAbs
    · rw [if_pos b] at D
      by_cases g : a < -1125899906842624
      · exact Or.inr (Or.inl ⟨_, D, decide_eq_true g⟩)
      · exact Or.inr (Or.inr (Or.inl ⟨_, D, decide_eq_false g, decide_eq_true (by omega)⟩))
    · rw [if_neg b] at D
      exact Or.inr (Or.inr (Or.inr ⟨_, D, decide_eq_false (by omega), decide_eq_false (by omega)⟩))
theorem walk_NumBack (n d : Int) (A1 : Option Addr) (c1 : Nat) (l : List Int) (a p : Int) (h0 : -9223372036854775808 ≤ a) (h1 : a ≤ 9223372036854775807) (w : World) (hE : Env w) (hr1 : Kd.C (Kd.int .i64) w A1 l.length l) (hc1 : l.length ≤ c1) (h64 : ∀ i, -9223372036854775808 ≤ at_ l i ∧ at_ l i ≤ 9223372036854775807) :
    Calls Tryz.prog 4 #[.agg #[.int .i64 n, .int .i64 d], .slice A1 l.length c1, .int .i64 a, .int .i64 p] w fun e w' => e = .returned (.bool true) ∧ Below w.heap.size w w' := by
  have hl : Held w A1 c1 l := ⟨hr1, hc1⟩
  by_cases hs : l.length ≤ 300
  · have hf : true = decide ((l.length : Int) ≤ 300) := (decide_eq_true (by omega)).symm
    rcases backA n d w hE with ⟨r, tx, a1, a2, a3, a4, a5⟩ | ⟨r, a1, a2⟩ <;> rcases backB h64 hs with ⟨x1, x2, b1, b2, b3⟩ | ⟨x1, x2, xe, q, qe, b1, b2, b3⟩ <;> rcases backC h0 h1 p w hE with ⟨m, g1, g2⟩ | ⟨s, ⟨g1, g2⟩, g3⟩ | ⟨s, ⟨g1, g2⟩, g3, g4⟩ | ⟨s, ⟨g1, g2⟩, g3, g4⟩
    · exact back_v_o_b n d a p A1 c1 l r [] x1 x2 0 0 ⟨#[]⟩ 0 m 0 w hE hl hf a1 a2 a3 tx a4 a5 b1 b2 b3 g1 g2
    · exact back_v_o_u n d a p A1 c1 l r [] x1 x2 0 0 s 0 0 0 w hE hl hf a1 a2 a3 tx a4 a5 b1 b2 b3 g1 g2 g3
    · exact back_v_o_o n d a p A1 c1 l r [] x1 x2 0 0 s 0 0 0 w hE hl hf a1 a2 a3 tx a4 a5 b1 b2 b3 g1 g2 g3 g4
    · exact back_v_o_f n d a p A1 c1 l r [] x1 x2 0 0 s 0 0 0 w hE hl hf a1 a2 a3 tx a4 a5 b1 b2 b3 g1 g2 g3 g4
    · exact back_v_x_b n d a p A1 c1 l r q x1 x2 xe qe ⟨#[]⟩ 0 m 0 w hE hl hf a1 a2 a3 tx a4 a5 b1 b2 b3 g1 g2
    · exact back_v_x_u n d a p A1 c1 l r q x1 x2 xe qe s 0 0 0 w hE hl hf a1 a2 a3 tx a4 a5 b1 b2 b3 g1 g2 g3
    · exact back_v_x_o n d a p A1 c1 l r q x1 x2 xe qe s 0 0 0 w hE hl hf a1 a2 a3 tx a4 a5 b1 b2 b3 g1 g2 g3 g4
    · exact back_v_x_f n d a p A1 c1 l r q x1 x2 xe qe s 0 0 0 w hE hl hf a1 a2 a3 tx a4 a5 b1 b2 b3 g1 g2 g3 g4
    · exact back_i_o_b n d a p A1 c1 l r [] x1 x2 0 0 ⟨#[]⟩ 0 m 0 w hE hl hf a1 a2 b1 b2 b3 g1 g2
    · exact back_i_o_u n d a p A1 c1 l r [] x1 x2 0 0 s 0 0 0 w hE hl hf a1 a2 b1 b2 b3 g1 g2 g3
    · exact back_i_o_o n d a p A1 c1 l r [] x1 x2 0 0 s 0 0 0 w hE hl hf a1 a2 b1 b2 b3 g1 g2 g3 g4
    · exact back_i_o_f n d a p A1 c1 l r [] x1 x2 0 0 s 0 0 0 w hE hl hf a1 a2 b1 b2 b3 g1 g2 g3 g4
    · exact back_i_x_b n d a p A1 c1 l r q x1 x2 xe qe ⟨#[]⟩ 0 m 0 w hE hl hf a1 a2 b1 b2 b3 g1 g2
    · exact back_i_x_u n d a p A1 c1 l r q x1 x2 xe qe s 0 0 0 w hE hl hf a1 a2 b1 b2 b3 g1 g2 g3
    · exact back_i_x_o n d a p A1 c1 l r q x1 x2 xe qe s 0 0 0 w hE hl hf a1 a2 b1 b2 b3 g1 g2 g3 g4
    · exact back_i_x_f n d a p A1 c1 l r q x1 x2 xe qe s 0 0 0 w hE hl hf a1 a2 b1 b2 b3 g1 g2 g3 g4
  · exact back_long n d a p A1 c1 l w hE hl (decide_eq_false (by omega)).symm
end Go.Proofs.Num
