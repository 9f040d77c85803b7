/- The digit functions of the reference: what they come to. -/
import Derived.Test.YtdjnneflpkllmaaDoorDigits
import Derived.Test.YtdjnneflpkllmaaDoorR2
import Derived.Test.YtdjnneflpkllmaaDoorR5
import Derived.Test.YtdjnneflpkllmaaDoorR9
namespace Go.Proofs.Num
open Go.RowKit Go.Proofs.YtdjnneflpkllmaaDoorW.PrintWords Go.Proofs.YtdjnneflpkllmaaDoorW.PrintMore Go.Proofs.YtdjnneflpkllmaaDoor.Q
set_option linter.unusedVariables false
set_option linter.unusedSimpArgs false

theorem wd64 {x : Int} (h0 : -9223372036854775808 ≤ x) (h1 : x ≤ 9223372036854775807) : wrap64 x = x := by unfold wrap64; omega
theorem rd_nat (l : List Int) (i : Nat) : rd l (i : Int) = at_ l i := by simp [rd, at_]
/-- Short lists: no counter wraps. -/
def short (l : List Int) : Prop := l.length ≤ 1000
theorem trim_l1 (l : List Int) (hs : short l) (m : Nat) (hm : m ≤ l.length) : ∀ (c i : Nat), m - i = c → i ≤ m → Ev (fun k => merinoref01_trim.l1 k l (m : Int) (l.take i) (i : Int)) (l.take m) := by
  unfold short at hs
  intro c
  induction c with
  | zero =>
    intro i hc hi
    obtain rfl : i = m := by omega
    exact Ev.step (f := fun _ => some (l.take i)) (fun k => by rw [merinoref01_trim.l1, if_neg (by omega)]) (Ev.now _)
  | succ c ih =>
    intro i hc hi
    refine Ev.step (f := fun k => merinoref01_trim.l1 k l (m : Int) (l.take (i + 1)) ((i + 1 : Nat) : Int)) (fun k => ?_) (ih (i + 1) (by omega) (by omega))
    have e : l.take i ++ [rd l (i : Int)] = l.take (i + 1) := by
      rw [rd_nat, List.take_add_one, List.getElem?_eq_getElem (by omega)]
      simp [at_, List.getD_eq_getElem?_getD, List.getElem?_eq_getElem (show i < l.length by omega)]
    rw [merinoref01_trim.l1, if_pos (by omega), if_pos (by omega), if_pos (by omega), if_pos (by rw [List.length_take]; omega), e, wd64 (by omega) (by omega)]
    rfl
theorem trim_l0 (l : List Int) (hs : short l) (hd : Dig l) : ∀ (m : Nat), m ≤ l.length → (∀ i, m ≤ i → i < l.length → at_ l i = 0) → ∃ r, Ev (fun k => merinoref01_trim.l0 k l (m : Int)) r ∧ Good r (valD l) ∧ r.length ≤ l.length := by
  have hs' := hs
  unfold short at hs
  intro m
  induction m with
  | zero =>
    intro hm hz
    refine ⟨l.take 0, ?_, good_take hd hm (.inl rfl) hz, by simp⟩
    refine Ev.step (f := fun k => merinoref01_trim.j1 k l ((0 : Nat) : Int)) (fun k => by rw [merinoref01_trim.l0, if_neg (by omega)]) ?_
    exact Ev.step (f := fun k => merinoref01_trim.l1 k l ((0 : Nat) : Int) (l.take 0) ((0 : Nat) : Int)) (fun k => by rw [merinoref01_trim.j1]; rfl) (trim_l1 l hs' 0 hm 0 0 rfl (by omega))
  | succ m ih =>
    intro hm hz
    have e : ((m + 1 : Nat) : Int) - 1 = (m : Int) := by omega
    by_cases h0 : at_ l m = 0
    · obtain ⟨r, E, g⟩ := ih (by omega) (fun i h1 h2 => by
        rcases Nat.lt_or_ge m i with h | h
        · exact hz i h h2
        · obtain rfl : i = m := by omega
          exact h0)
      refine ⟨r, Ev.step (f := fun k => merinoref01_trim.l0 k l (m : Int)) (fun k => ?_) E, g⟩
      rw [merinoref01_trim.l0, if_pos (by omega), wd64 (x := ((m + 1 : Nat) : Int) - 1) (by omega) (by omega), e, if_pos (by omega), if_pos (by omega), if_pos (by rw [rd_nat]; exact h0)]
    · refine ⟨l.take (m + 1), ?_, good_take hd hm (.inr (by simpa using h0)) hz, by simp; omega⟩
      refine Ev.step (f := fun k => merinoref01_trim.j1 k l ((m + 1 : Nat) : Int)) (fun k => ?_) ?_
      · rw [merinoref01_trim.l0, if_pos (by omega), wd64 (x := ((m + 1 : Nat) : Int) - 1) (by omega) (by omega), e, if_pos (by omega), if_pos (by omega), if_neg (by rw [rd_nat]; exact h0)]
      · exact Ev.step (f := fun k => merinoref01_trim.l1 k l ((m + 1 : Nat) : Int) (l.take 0) ((0 : Nat) : Int)) (fun k => by rw [merinoref01_trim.j1]; rfl) (trim_l1 l hs' (m + 1) hm (m + 1) 0 rfl (by omega))
theorem trim_ok {l : List Int} (hs : short l) (hd : Dig l) : ∃ r, Ev (fun k => merinoref01_trim.f k l) r ∧ Good r (valD l) ∧ r.length ≤ l.length :=
  trim_l0 l hs hd l.length (Nat.le_refl _) (fun i h1 h2 => by omega)
/-- Digits and a sign of the number x. -/
structure Rep (b : Bool) (l : List Int) (x : Int) : Prop where
  good : Good l (x.natAbs : Int)
  sign : b = decide (x < 0)
theorem whole_ok {b : Bool} {l : List Int} {x : Int} (hs : short l) (hd : Dig l) (hv : valD l = (x.natAbs : Int)) (hb : x ≠ 0 → b = decide (x < 0)) : ∃ r, Ev (fun k => merinoref01_whole.f k b l) (decide (x < 0), r) ∧ Rep (decide (x < 0)) r x ∧ r.length ≤ l.length := by
  obtain ⟨r, E, g, hl⟩ := trim_ok hs hd
  rw [hv] at g
  refine ⟨r, ?_, ⟨g, rfl⟩, hl⟩
  unfold merinoref01_whole.f
  refine Ev.bind E ?_
  by_cases h0 : x = 0
  · have : r = [] := g.zero_iff.2 (by omega)
    subst this h0
    cases b <;> exact Ev.now _
  · have hr : r ≠ [] := fun h => h0 (by have := g.zero_iff.1 h; omega)
    have hlen : (r.length : Int) > 0 := by
      cases r with
      | nil => exact (hr rfl).elim
      | cons => simp
    rw [hb h0]
    by_cases hx : x < 0
    · simp only [decide_eq_true hx, if_true, decide_eq_true hlen]
      exact Ev.now _
    · simp only [decide_eq_false hx, Bool.false_eq_true, if_false]
      exact Ev.now _
theorem of_l0 (b : Bool) : ∀ (c : Nat) (x : Int) (l : List Int) (y : Int), x.natAbs < 10000 ^ c → l.length + c ≤ 100 → Dig l → (x < 0 → b = true) → (0 < x → b = false) →
    valD l + (x.natAbs : Int) * pw l.length = (y.natAbs : Int) → (y ≠ 0 → b = decide (y < 0)) → -9223372036854775808 ≤ x → x ≤ 9223372036854775807 →
    ∃ r, Ev (fun k => merinoref01_Of.l0 k x l b) (decide (y < 0), r) ∧ Rep (decide (y < 0)) r y ∧ r.length ≤ l.length + c := by
  intro c
  induction c with
  | zero =>
    intro x l y hx hl hd b1 b2 hv hb x1 x2
    obtain rfl : x = 0 := by rw [Nat.pow_zero] at hx; omega
    obtain ⟨r, E, R, hr⟩ := whole_ok (b := b) (x := y) (show short l by unfold short; omega) hd (by simpa using hv) hb
    refine ⟨r, ?_, R, hr⟩
    refine Ev.step (f := fun k => (merinoref01_whole.f k b l).bind fun bt203 => some (bt203.1, bt203.2)) (fun k => by rw [merinoref01_Of.l0, if_pos rfl]) (Ev.bind E (Ev.now _))
  | succ c ih =>
    intro x l y hx hl hd b1 b2 hv hb x1 x2
    by_cases h0 : x = 0
    · subst h0
      obtain ⟨r, E, R, hr⟩ := whole_ok (b := b) (x := y) (show short l by unfold short; omega) hd (by simpa using hv) hb
      refine ⟨r, ?_, R, by omega⟩
      refine Ev.step (f := fun k => (merinoref01_whole.f k b l).bind fun bt203 => some (bt203.1, bt203.2)) (fun k => by rw [merinoref01_Of.l0, if_pos rfl]) (Ev.bind E (Ev.now _))
    · obtain ⟨D, hD⟩ : ∃ D : Int, D = ((x.natAbs % 10000 : Nat) : Int) := ⟨_, rfl⟩
      obtain ⟨q, hq⟩ : ∃ q : Int, q = x.tdiv 10000 := ⟨_, rfl⟩
      have hqn : q.natAbs = x.natAbs / 10000 := by rw [hq, Int.natAbs_tdiv]; rfl
      have hD0 : 0 ≤ D ∧ D < 10000 := by omega
      have hpc : x.natAbs / 10000 < 10000 ^ c := by rw [Nat.pow_succ] at hx; omega
      have hdd : Dig (l ++ [D]) := fun z hz => by
        rcases List.mem_append.1 hz with h | h
        · exact hd z h
        · rw [List.mem_singleton] at h; subst h; exact hD0
      have hsg : (x < 0 → q ≤ 0) ∧ (0 < x → 0 ≤ q) := by
        constructor
        · intro h
          have := Int.tdiv_nonneg (a := -x) (b := 10000) (by omega) (by omega)
          rw [Int.neg_tdiv] at this
          omega
        · intro h
          rw [hq]
          exact Int.tdiv_nonneg (by omega) (by omega)
      have hval : valD (l ++ [D]) = valD l + D * pw l.length := by
        rw [← vt_all (l ++ [D]) (i := l.length + 1) (by simp), vt_succ]
        congr 1
        · unfold vt; rw [List.take_left']; rfl
        · congr 1
          unfold at_; simp
      obtain ⟨r, E, R, hr⟩ := ih q (l ++ [D]) y (by omega) (by simp; omega) hdd (fun h => b1 (by omega)) (fun h => b2 (by omega)) (by
        rw [hval]
        rw [← hv]
        have e1 : (x.natAbs : Int) = D + 10000 * (q.natAbs : Int) := by omega
        rw [e1]
        simp only [List.length_append, List.length_singleton, pw_succ]
        grind) hb (by omega) (by omega)
      refine ⟨r, Ev.step (f := fun k => merinoref01_Of.l0 k q (l ++ [D]) b) (fun k => ?_) E, R, by simp at hr; omega⟩
      have hlen : l.length < 17592186044416 := by omega
      rw [merinoref01_Of.l0, if_neg h0, ← hq, wd64 (x := q) (by omega) (by omega)]
      have ht : x.tmod 10000 = if x < 0 then -D else D := by
        rw [hD]
        split
        · rename_i h
          obtain ⟨z, rfl⟩ : ∃ z : Nat, x = -(z : Int) := ⟨x.natAbs, by omega⟩
          rw [Int.neg_tmod]
          simp
          rfl
        · rename_i h
          obtain ⟨z, rfl⟩ : ∃ z : Nat, x = (z : Int) := ⟨x.natAbs, by omega⟩
          simp
          rfl
      rw [ht]
      by_cases hx0 : x < 0
      · rw [if_pos hx0]
        by_cases hDz : D = 0
        · rw [if_neg (by omega), if_pos hlen, hDz]; rfl
        · rw [if_pos (by omega), if_pos hlen, Int.neg_neg, wd64 (by omega) (by omega)]
      · rw [if_neg hx0, if_neg (by omega), if_pos hlen]
/-- Of: the digits of any number of 64 bits, at most five. -/
theorem of_ok {x : Int} (h1 : -9223372036854775808 ≤ x) (h2 : x ≤ 9223372036854775807) : ∃ r, Ev (fun k => merinoref01_Of.f k x) (decide (x < 0), r) ∧ Rep (decide (x < 0)) r x ∧ r.length ≤ 5 := by
  have := of_l0 (decide (x < 0)) 5 x [] x (by omega) (by simp) (fun z h => by cases h) (fun h => decide_eq_true h) (fun h => decide_eq_false (by omega)) (by simp [valD, pw]) (fun _ => rfl) h1 h2
  obtain ⟨r, E, R, hr⟩ := this
  exact ⟨r, E, R, by simpa using hr⟩
theorem mul_l1 {a b : List Int} (ha : Dig a) (hb : Dig b) (hs : a.length + b.length ≤ 1000) {Q : List Int → Prop} {T : Int} (i : Nat) (hi : i < a.length)
    (K : ∀ out, Dig out → out.length = a.length + b.length → (∀ j, i + 1 + b.length ≤ j → at_ out j = 0) → valD out = T → ∃ r, Ev (fun k => merinoref01_mulD.l0 k a b out ((i + 1 : Nat) : Int)) r ∧ Q r) :
    ∀ (c j : Nat), b.length - j = c → j ≤ b.length → ∀ (out : List Int) (cy : Int), Dig out → out.length = a.length + b.length → (∀ j, i + b.length ≤ j → at_ out j = 0) → 0 ≤ cy → cy < 10000 →
      valD out + cy * pw (i + j) + at_ a i * pw i * (valD b - vt b j) = T → ∃ r, Ev (fun k => merinoref01_mulD.l1 k a b out (i : Int) cy (j : Int)) r ∧ Q r := by
  intro c
  induction c with
  | zero =>
    intro j hc hj out cy hd hl hz c0 c1 hv
    obtain rfl : j = b.length := by omega
    have hx : at_ out (i + b.length) = 0 := hz _ (Nat.le_refl _)
    obtain ⟨r, E, q⟩ := K (out.set (i + b.length) cy) (hd.set _ c0 c1) (by simpa using hl) (fun j hj => by rw [at_set_ne (by omega)]; exact hz j (by omega)) (by
      rw [valD_set _ _ _ (by omega), hx, ← hv, vt_all b (Nat.le_refl _)]
      grind)
    refine ⟨r, Ev.step (f := fun k => merinoref01_mulD.l0 k a b (out.set (i + b.length) cy) ((i + 1 : Nat) : Int)) (fun k => ?_) E, q⟩
    rw [merinoref01_mulD.l1, if_neg (by omega), wd64 (x := (i : Int) + (b.length : Int)) (by omega) (by omega), if_pos (by omega), if_pos (by omega), wd64 (x := (i : Int) + 1) (by omega) (by omega)]
    rfl
  | succ c ih =>
    intro j hc hj out cy hd hl hz c0 c1 hv
    have o := hd.at_ (i + j)
    have x := ha.at_ i
    have y := hb.at_ j
    obtain ⟨p0, p1⟩ : 0 ≤ at_ a i * at_ b j ∧ at_ a i * at_ b j ≤ 9999 * 9999 := ⟨Int.mul_nonneg x.1 y.1, Int.mul_le_mul (by omega) (by omega) y.1 (by omega)⟩
    obtain ⟨S, hS⟩ : ∃ S, S = at_ out (i + j) + at_ a i * at_ b j + cy := ⟨_, rfl⟩
    have hS0 : 0 ≤ S ∧ S < 100000000 := by omega
    obtain ⟨r, E, q⟩ := ih (j + 1) (by omega) (by omega) (out.set (i + j) (S % 10000)) (S / 10000) (hd.set _ (by omega) (by omega)) (by simpa using hl) (fun j' hj' => by rw [at_set_ne (by omega)]; exact hz j' hj') (by omega) (by omega) (by
      rw [valD_set _ _ _ (by omega), ← hv, vt_succ, ← Nat.add_assoc, pw_succ, pw_add]
      have e : S % 10000 = S - 10000 * (S / 10000) := by omega
      rw [e, hS]
      grind)
    refine ⟨r, Ev.step (f := fun k => merinoref01_mulD.l1 k a b (out.set (i + j) (S % 10000)) (i : Int) (S / 10000) ((j + 1 : Nat) : Int)) (fun k => ?_) E, q⟩
    rw [merinoref01_mulD.l1, if_pos (by omega), wd64 (x := (i : Int) + (j : Int)) (by omega) (by omega), if_pos (by omega), if_pos (by omega), if_pos (by omega), if_pos (by omega), if_pos (by omega), wd64 (x := (j : Int) + 1) (by omega) (by omega)]
    rw [show (i : Int) + (j : Int) = ((i + j : Nat) : Int) by omega, rd_nat, rd_nat, rd_nat, wd64 (x := at_ a i * at_ b j) (by omega) (by omega), wd64 (x := at_ out (i + j) + at_ a i * at_ b j) (by omega) (by omega), ← hS, wd64 (x := S) (by omega) (by omega), Int.tmod_eq_emod_of_nonneg hS0.1, Int.tdiv_eq_ediv_of_nonneg hS0.1, wd64 (x := S / 10000) (by omega) (by omega)]
    rfl
theorem mul_l0 {a b : List Int} (ha : Dig a) (hb : Dig b) (hs : a.length + b.length ≤ 1000) : ∀ (c i : Nat), a.length - i = c → i ≤ a.length → ∀ out, Dig out → out.length = a.length + b.length → (∀ j, i + b.length ≤ j → at_ out j = 0) → valD out = vt a i * valD b →
    ∃ r, Ev (fun k => merinoref01_mulD.l0 k a b out (i : Int)) r ∧ (Good r (valD a * valD b) ∧ r.length ≤ a.length + b.length) := by
  intro c
  induction c with
  | zero =>
    intro i hc hi out hd hl hz hv
    obtain rfl : i = a.length := by omega
    obtain ⟨r, E, g, hr⟩ := trim_ok (l := out) (by unfold short; omega) hd
    rw [hv, vt_all a (Nat.le_refl _)] at g
    refine ⟨r, ?_, g, by omega⟩
    refine Ev.step (f := fun k => (merinoref01_trim.f k out).bind fun t184 => some t184) (fun k => by rw [merinoref01_mulD.l0, if_neg (by omega)]) (Ev.bind E (Ev.now _))
  | succ c ih =>
    intro i hc hi out hd hl hz hv
    obtain ⟨r, E, q⟩ := mul_l1 ha hb hs (T := vt a (i + 1) * valD b) i (by omega) (fun out' d1 l1 z1 v1 => ih (i + 1) (by omega) (by omega) out' d1 l1 z1 v1) b.length 0 (by omega) (by omega) out 0 hd hl hz (by omega) (by omega) (by
      rw [hv, vt_succ, vt_zero]
      grind)
    refine ⟨r, Ev.step (f := fun k => merinoref01_mulD.l1 k a b out (i : Int) 0 ((0 : Nat) : Int)) (fun k => ?_) E, q⟩
    rw [merinoref01_mulD.l0, if_pos (by omega)]
    rfl
theorem mul_ok {a b : List Int} (ha : Dig a) (hb : Dig b) (hs : a.length + b.length ≤ 1000) : ∃ r, Ev (fun k => merinoref01_mulD.f k a b) r ∧ (Good r (valD a * valD b) ∧ r.length ≤ a.length + b.length) := by
  obtain ⟨r, E, q⟩ := mul_l0 ha hb hs a.length 0 rfl (by omega) (List.replicate (a.length + b.length) 0) (fun x hx => by rw [List.mem_replicate] at hx; omega) (by simp) (fun j _ => at_replicate _ _) (by rw [valD_replicate, vt_zero, Int.zero_mul])
  refine ⟨r, ?_, q⟩
  have : (fun k => merinoref01_mulD.f k a b) = fun k => merinoref01_mulD.l0 k a b (List.replicate (a.length + b.length) 0) ((0 : Nat) : Int) := funext fun k => by
    unfold merinoref01_mulD.f
    rw [wd64 (x := (a.length : Int) + (b.length : Int)) (by omega) (by omega), if_pos (by omega), if_pos (by omega), show ((a.length : Int) + (b.length : Int)).toNat = a.length + b.length by omega]
    rfl
  rw [this]
  exact E
theorem times_ok {b1 b2 : Bool} {l1 l2 : List Int} {x y : Int} (r1 : Rep b1 l1 x) (r2 : Rep b2 l2 y) (hs : l1.length + l2.length ≤ 1000) : ∃ r, Ev (fun k => merinoref01_Times.f k b1 l1 b2 l2) (decide (x * y < 0), r) ∧ Rep (decide (x * y < 0)) r (x * y) ∧ r.length ≤ l1.length + l2.length := by
  obtain ⟨m, E, g, hm⟩ := mul_ok r1.good.dig r2.good.dig hs
  obtain ⟨r, E2, R, hr⟩ := whole_ok (b := b1 != b2) (x := x * y) (show short m by unfold short; omega) g.dig (by rw [g.val, r1.good.val, r2.good.val, Int.natAbs_mul]; simp) (fun hne => by
    rw [r1.sign, r2.sign]
    have hx : x ≠ 0 := fun h => hne (by rw [h, Int.zero_mul])
    have hy : y ≠ 0 := fun h => hne (by rw [h, Int.mul_zero])
    rcases Int.lt_or_le x 0 with h1 | h1 <;> rcases Int.lt_or_le y 0 with h2 | h2
    · have := Int.mul_pos_of_neg_of_neg h1 h2
      rw [decide_eq_true h1, decide_eq_true h2, decide_eq_false (by omega)]; rfl
    · have := Int.mul_neg_of_neg_of_pos h1 (show 0 < y by omega)
      rw [decide_eq_true h1, decide_eq_false (show ¬ y < 0 by omega), decide_eq_true this]; rfl
    · have := Int.mul_neg_of_pos_of_neg (show 0 < x by omega) h2
      rw [decide_eq_false (show ¬ x < 0 by omega), decide_eq_true h2, decide_eq_true this]; rfl
    · have := Int.mul_pos (show 0 < x by omega) (show 0 < y by omega)
      rw [decide_eq_false (show ¬ x < 0 by omega), decide_eq_false (show ¬ y < 0 by omega), decide_eq_false (by omega)]; rfl)
  refine ⟨r, ?_, R, by omega⟩
  unfold merinoref01_Times.f
  exact Ev.bind E (Ev.bind E2 (Ev.now _))
theorem cmp_l0 {a b : List Int} (ha : Dig a) (hb : Dig b) (hs : a.length ≤ 1000) (hl : a.length = b.length) : ∀ m : Nat, m ≤ a.length → Ev (fun k => merinoref01_cmpD.l0 k a b ((m : Int) - 1)) (cmpI (vt a m) (vt b m)) := by
  intro m
  induction m with
  | zero =>
    intro _
    rw [vt_zero, vt_zero]
    exact Ev.step (f := fun _ => some (cmpI 0 0)) (fun k => by rw [merinoref01_cmpD.l0, if_neg (by omega)]; rfl) (Ev.now _)
  | succ m ih =>
    intro hm
    have e : ((m + 1 : Nat) : Int) - 1 = (m : Int) := by omega
    have va := vt_bd ha m
    have vb := vt_bd hb m
    have pp := pw_pos m
    rw [e, vt_succ, vt_succ]
    rcases Int.lt_trichotomy (at_ a m) (at_ b m) with h | h | h
    · have l1 : (at_ a m + 1) * pw m ≤ at_ b m * pw m := Int.mul_le_mul_of_nonneg_right (by omega) (by omega)
      rw [Int.add_mul, Int.one_mul] at l1
      have : cmpI (vt a m + at_ a m * pw m) (vt b m + at_ b m * pw m) = -1 := by unfold cmpI; rw [if_pos (by omega)]
      rw [this]
      exact Ev.step (f := fun _ => some (-1)) (fun k => by rw [merinoref01_cmpD.l0, if_pos (by omega), if_pos (by omega), if_pos (by omega), if_pos (by omega), rd_nat, rd_nat, if_pos h]) (Ev.now _)
    · have : cmpI (vt a m + at_ a m * pw m) (vt b m + at_ b m * pw m) = cmpI (vt a m) (vt b m) := by
        unfold cmpI
        rw [h]
        (repeat' split) <;> omega
      rw [this]
      refine Ev.step (f := fun k => merinoref01_cmpD.l0 k a b ((m : Int) - 1)) (fun k => ?_) (ih (by omega))
      rw [merinoref01_cmpD.l0, if_pos (by omega), if_pos (by omega), if_pos (by omega), if_pos (by omega), rd_nat, rd_nat, if_neg (by omega), if_neg (by omega), wd64 (by omega) (by omega)]
    · have l1 : (at_ b m + 1) * pw m ≤ at_ a m * pw m := Int.mul_le_mul_of_nonneg_right (by omega) (by omega)
      rw [Int.add_mul, Int.one_mul] at l1
      have : cmpI (vt a m + at_ a m * pw m) (vt b m + at_ b m * pw m) = 1 := by unfold cmpI; rw [if_neg (by omega), if_pos (by omega)]
      rw [this]
      exact Ev.step (f := fun _ => some 1) (fun k => by rw [merinoref01_cmpD.l0, if_pos (by omega), if_pos (by omega), if_pos (by omega), if_pos (by omega), rd_nat, rd_nat, if_neg (by omega), if_pos h]) (Ev.now _)
theorem lt_of_len {a b : List Int} (ha : Dig a) (hb : Dig b) (nb : Norm b) (h : a.length < b.length) : valD a < valD b := by
  have h1 := (valD_bd ha).2
  have h2 := norm_ge hb nb (fun e => by subst e; simp at h)
  have h3 := pw_mono (show a.length ≤ b.length - 1 by omega)
  omega
theorem cmpD_ok {a b : List Int} {x y : Int} (ga : Good a x) (gb : Good b y) (hs : a.length ≤ 1000) : Ev (fun k => merinoref01_cmpD.f k a b) (cmpI x y) := by
  unfold merinoref01_cmpD.f
  rw [← ga.val, ← gb.val]
  by_cases h1 : (a.length : Int) < (b.length : Int)
  · simp only [if_pos h1]
    have := lt_of_len ga.dig gb.dig gb.norm (by omega)
    rw [show cmpI (valD a) (valD b) = -1 by unfold cmpI; rw [if_pos this]]
    exact Ev.now _
  · by_cases h2 : (a.length : Int) > (b.length : Int)
    · simp only [if_neg h1, if_pos h2]
      have := lt_of_len gb.dig ga.dig ga.norm (by omega)
      rw [show cmpI (valD a) (valD b) = 1 by unfold cmpI; rw [if_neg (by omega), if_pos this]]
      exact Ev.now _
    · simp only [if_neg h1, if_neg h2, wd64 (x := (a.length : Int) - 1) (by omega) (by omega)]
      have := cmp_l0 ga.dig gb.dig hs (by omega) a.length (Nat.le_refl _)
      rw [vt_all a (Nat.le_refl _), vt_all b (by omega)] at this
      exact this
theorem compare_ok {b1 b2 : Bool} {l1 l2 : List Int} {x y : Int} (r1 : Rep b1 l1 x) (r2 : Rep b2 l2 y) (hs : l1.length ≤ 1000) : Ev (fun k => merinoref01_Compare.f k b1 l1 b2 l2) (cmpI x y) := by
  unfold merinoref01_Compare.f
  have E := cmpD_ok r1.good r2.good hs
  rw [r1.sign, r2.sign]
  rcases Int.lt_or_le x 0 with h1 | h1 <;> rcases Int.lt_or_le y 0 with h2 | h2
  · rw [decide_eq_true h1, decide_eq_true h2]
    simp only [bne_self_eq_false, Bool.false_eq_true, if_false, if_true]
    refine Ev.bind E ?_
    have : wrap64 (-(cmpI (x.natAbs : Int) (y.natAbs : Int))) = cmpI x y := by
      unfold cmpI
      (repeat' split) <;> first | omega | (rw [wd64 (by omega) (by omega)]; done) | (rw [wd64 (by omega) (by omega)]; rfl)
    rw [this]
    exact Ev.now _
  · rw [decide_eq_true h1, decide_eq_false (show ¬ y < 0 by omega)]
    rw [show cmpI x y = -1 by unfold cmpI; rw [if_pos (by omega)]]
    exact Ev.now _
  · rw [decide_eq_false (show ¬ x < 0 by omega), decide_eq_true h2]
    rw [show cmpI x y = 1 by unfold cmpI; rw [if_neg (by omega), if_pos (by omega)]]
    exact Ev.now _
  · rw [decide_eq_false (show ¬ x < 0 by omega), decide_eq_false (show ¬ y < 0 by omega)]
    simp only [bne_self_eq_false, Bool.false_eq_true, if_false]
    refine Ev.bind E ?_
    rw [show (x.natAbs : Int) = x by omega, show (y.natAbs : Int) = y by omega]
    exact Ev.now _
end Go.Proofs.Num
