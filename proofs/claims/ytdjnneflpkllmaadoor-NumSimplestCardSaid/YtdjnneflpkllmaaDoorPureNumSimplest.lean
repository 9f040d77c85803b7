/- NumSimplest in numbers. -/
import Derived.Test.YtdjnneflpkllmaaDoorSimpleRun
import Derived.Test.YtdjnneflpkllmaaDoorDigitsRun
import Derived.Test.YtdjnneflpkllmaaDoorRNumSimplest
namespace Go.Proofs.Num
open Go.RowKit Go.Proofs.YtdjnneflpkllmaaDoorW.PrintWords Go.Proofs.YtdjnneflpkllmaaDoorW.PrintMore Go.Proofs.YtdjnneflpkllmaaDoor.Q
set_option linter.unusedVariables false
set_option linter.unusedSimpArgs false

/-- A number of 64 bits. -/
def i64 (x : Int) : Prop := -9223372036854775808 ≤ x ∧ x ≤ 9223372036854775807
theorem before_ok {n d p q : Int} (hn : i64 n) (hd : i64 d) (hp : i64 p) (hq : i64 q) : Ev (fun k => merinolaw01_before.f k n d p q) (decide (n * q < p * d)) := by
  obtain ⟨rn, En, Rn, ln⟩ := of_ok hn.1 hn.2
  obtain ⟨rd, Ed, Rd, ld⟩ := of_ok hd.1 hd.2
  obtain ⟨rp, Ep, Rp, lp⟩ := of_ok hp.1 hp.2
  obtain ⟨rq, Eq, Rq, lq⟩ := of_ok hq.1 hq.2
  obtain ⟨r1, E1, R1, l1⟩ := times_ok Rn Rq (by omega)
  obtain ⟨r2, E2, R2, l2⟩ := times_ok Rp Rd (by omega)
  unfold merinolaw01_before.f
  refine Ev.bind En (Ev.bind Eq (Ev.bind E1 (Ev.bind Ep (Ev.bind Ed (Ev.bind E2 (Ev.bind (compare_ok R1 R2 (show r1.length ≤ 1000 by omega)) ?_))))))
  have : decide (cmpI (n * q) (p * d) < 0) = decide (n * q < p * d) := by
    unfold cmpI
    by_cases h : n * q < p * d
    · rw [if_pos h, decide_eq_true h]; rfl
    · rw [if_neg h, decide_eq_false h]; split <;> rfl
  rw [this]
  exact Ev.now _
theorem distance_ok {x : Int} (hx : i64 x) : ∃ r, Ev (fun k => merinolaw01_distance.f k x) (false, r) ∧ Rep false r (x.natAbs : Int) ∧ r.length ≤ 5 := by
  obtain ⟨r, E, R, l⟩ := of_ok hx.1 hx.2
  unfold merinolaw01_distance.f
  rcases Int.lt_or_le x 0 with h | h
  · rw [decide_eq_true h] at E R
    obtain ⟨r2, E2, R2, l2⟩ := whole_ok (b := !true) (l := r) (x := (x.natAbs : Int)) (by unfold short; omega) R.good.dig (by rw [R.good.val]; omega) (fun _ => (decide_eq_false (by omega)).symm)
    rw [decide_eq_false (by omega)] at E2 R2
    refine ⟨r2, Ev.bind E ?_, R2, by omega⟩
    simp only [if_true]
    refine Ev.bind (a := (false, r2)) ?_ (Ev.now _)
    unfold merinoref01_Neg.f
    exact Ev.bind E2 (Ev.now _)
  · rw [decide_eq_false (by omega)] at E R
    refine ⟨r, Ev.bind E ?_, ?_, l⟩
    · simp only [Bool.false_eq_true, if_false]
      exact Ev.now _
    · rw [show (x.natAbs : Int) = x by omega]
      exact R
theorem pure_simplest {n d p q s t : Int} (hn : i64 n) (hd : i64 d) (hp : i64 p) (hq : i64 q) (hs : i64 s) (ht : i64 t) : ∃ k, merinolaw01_NumSimplest.f k n d p q s t = some true := by
  refine Ev.rounds ?_
  have A : merinolaw01_alive.f = some true := rfl
  unfold merinolaw01_NumSimplest.f
  rcases between_ok n d p q with ⟨x, y, E, hv, hw, hlt, hxy, S⟩ | ⟨E, _⟩ | ⟨x, y, E, _⟩
  · refine Ev.bind E ?_
    have C1 := cmp_ok n d x y
    have C2 := cmp_ok x y p q
    rw [if_pos ⟨hv, hxy⟩] at C1
    rw [if_pos ⟨hxy, hw⟩] at C2
    obtain ⟨sy, s1, s2⟩ := S.btw
    rw [show cmpI (n * y) (x * d) = -1 by unfold cmpI; rw [if_pos s1]] at C1
    rw [show cmpI (x * q) (p * y) = -1 by unfold cmpI; rw [if_pos s2]] at C2
    simp only [if_true]
    refine Ev.bind C1 (Ev.bind C2 (Ev.bind (valid_ok x y) ?_))
    simp only [hxy, decide_true, if_true]
    have ix : i64 x := by
      obtain ⟨a1, a2, a3, a4, _⟩ := hxy
      exact ⟨by omega, by omega⟩
    have J1 : ∀ f : Bool, (f = false → Btw n d p q s t) → Ev (fun k => merinolaw01_NumSimplest.j1 k s t f x y) true := fun f hf => by
      cases f with
      | true => exact Ev.step (f := fun _ => some true) (fun k => by rw [merinolaw01_NumSimplest.j1, if_pos rfl, A]; rfl) (Ev.now _)
      | false =>
        obtain ⟨l1, l2⟩ := S.least s t (hf rfl)
        by_cases hyt : y = t
        · obtain ⟨r1, E1, R1, _⟩ := distance_ok ix
          obtain ⟨r2, E2, R2, _⟩ := distance_ok hs
          refine Ev.step (f := fun k => (merinolaw01_distance.f k x).bind fun bt599 => ((merinolaw01_distance.f k s).bind fun bt603 => ((merinoref01_Compare.f k bt599.1 bt599.2 bt603.1 bt603.2).bind fun t607 => (if t607 ≤ 0 then ((merinolaw01_alive.f).bind fun t608 => (some t608)) else (some false))))) (fun k => by rw [merinolaw01_NumSimplest.j1, if_neg (by decide), if_pos hyt]) ?_
          refine Ev.bind E1 (Ev.bind E2 (Ev.bind (compare_ok R1 R2 (show r1.length ≤ 1000 by omega)) ?_))
          have := l2 hyt.symm
          have hc : cmpI (x.natAbs : Int) (s.natAbs : Int) ≤ 0 := by
            unfold cmpI
            (repeat' split) <;> omega
          simp only [if_pos hc, A]
          exact Ev.now _
        · exact Ev.step (f := fun _ => some true) (fun k => by rw [merinolaw01_NumSimplest.j1, if_neg (by decide), if_neg hyt, if_pos (by omega), A]; rfl) (Ev.now _)
    have J0 : Ev (fun k => merinolaw01_NumSimplest.j0 k s t false n d p q x y) true := by
      by_cases h1 : t < 1
      · exact Ev.step (f := fun k => merinolaw01_NumSimplest.j1 k s t true x y) (fun k => by rw [merinolaw01_NumSimplest.j0, if_neg (by decide), if_pos h1]) (J1 true (fun h => by cases h))
      · refine Ev.step (f := fun k => (merinolaw01_before.f k n d s t).bind fun t595 => (if t595 = true then ((merinolaw01_before.f k s t p q).bind fun t596 => (merinolaw01_NumSimplest.j1 k s t (!t596) x y)) else (merinolaw01_NumSimplest.j1 k s t true x y))) (fun k => by rw [merinolaw01_NumSimplest.j0, if_neg (by decide), if_neg h1]) ?_
        refine Ev.bind (before_ok hn hd hs ht) ?_
        by_cases h2 : n * t < s * d
        · simp only [decide_eq_true h2, if_true]
          refine Ev.bind (before_ok hs ht hp hq) ?_
          by_cases h3 : s * q < p * t
          · rw [decide_eq_true h3]
            exact J1 _ (fun _ => ⟨by omega, h2, h3⟩)
          · rw [decide_eq_false h3]
            exact J1 _ (fun h => by cases h)
        · simp only [decide_eq_false h2, Bool.false_eq_true, if_false]
          exact J1 _ (fun h => by cases h)
    exact J0
  · refine Ev.bind E ?_
    simp only [show ¬ ((2 : Int) = 0) by decide, if_false, A]
    exact Ev.now _
  · refine Ev.bind E ?_
    simp only [show ¬ ((4 : Int) = 0) by decide, if_false, A]
    exact Ev.now _
end Go.Proofs.Num
