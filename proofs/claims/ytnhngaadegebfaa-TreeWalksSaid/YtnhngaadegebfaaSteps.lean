/- Inside a fence: steps of a region that draws its order, where one operation alone may come up, or two that only read. -/
import Derived.OrdersIn
import Derived.WalkKit
import Derived.RangeFuncKeeps
import Derived.RangeFuncBound
namespace Go.Proofs.MT
open Go
section
variable {F : Fence} {n : Nat} {P : Program} {ops : Array Oper} {Q : Exit → Act → World → Prop} {md : Region.Mode}

/-- The one operation that may come up now. -/
theorem onlyP {i : Nat} {o : Oper} {fuel : Nat} {listed : Array Bool} {a : Act} {w : World} (ho : ops[i]? = some o) (hr : Region.ready md ops listed = [i])
    (hw : Region.wanted o (yielded ops a.tmps) = true)
    (h : ∀ K : Act → World → Prop, (∀ a' w', wpAnyIn F n P md ops Q fuel (listed.setIfInBounds i true) a' w' → K a' w') → o.wpIn F n P a w K Q) : wpAnyIn F n P md ops Q (fuel + 1) listed a w := by
  refine wpAnyIn_all hr (by simp) ?_
  intro j hj
  simp only [List.mem_singleton] at hj
  subst hj
  unfold wpOpIn
  rw [ho]
  simp only [hw, if_true]
  exact h _ fun _ _ h => h

/-- It is passed over: its guard says no. -/
theorem skipP {i : Nat} {o : Oper} {fuel : Nat} {listed : Array Bool} {a : Act} {w : World} (ho : ops[i]? = some o) (hr : Region.ready md ops listed = [i])
    (hw : Region.wanted o (yielded ops a.tmps) = false) (hF : ∀ f, F.fn f)
    (h : wpAnyIn F n P md ops Q fuel (listed.setIfInBounds i true) (a.put o.dst undef) w) : wpAnyIn F n P md ops Q (fuel + 1) listed a w := by
  refine wpAnyIn_all hr (by simp) ?_
  intro j hj
  simp only [List.mem_singleton] at hj
  subst hj
  unfold wpOpIn
  rw [ho]
  simp only [hw, Bool.false_eq_true, if_false]
  exact ⟨fun f _ => hF f, h⟩

/-- It reads, and leaves its value. -/
theorem readOp {i : Nat} {o : Oper} {a : Act} {w : World} {v : Value} {K : Act → World → Prop} (hro : F.round = none) (ho : ops[i]? = some o) (hw : Region.wanted o (yielded ops a.tmps) = true)
    (hab : o.about P w a.eval = none) (hv : (execOp a.eval o).run P w = .ok (.value v) w) (h : K (a.put o.dst v) w) : wpOpIn F n P ops Q i K a w := by
  unfold wpOpIn
  rw [ho]
  simp only [hw, if_true, Oper.wpIn, hro, Oper.semAt_none, hv, Oper.uponIn]
  exact ⟨(fun f hf => (by rw [hab] at hf; cases hf)), h⟩

theorem readP {i : Nat} {o : Oper} {fuel : Nat} {listed : Array Bool} {a : Act} {w : World} {v : Value} (hro : F.round = none) (ho : ops[i]? = some o) (hr : Region.ready md ops listed = [i])
    (hw : Region.wanted o (yielded ops a.tmps) = true) (hab : o.about P w a.eval = none) (hv : (execOp a.eval o).run P w = .ok (.value v) w)
    (h : wpAnyIn F n P md ops Q fuel (listed.setIfInBounds i true) (a.put o.dst v) w) : wpAnyIn F n P md ops Q (fuel + 1) listed a w := by
  refine wpAnyIn_all hr (by simp) ?_
  intro j hj
  simp only [List.mem_singleton] at hj
  subst hj
  exact readOp hro ho hw hab hv h

/-- Two that only read, in either order. -/
theorem twoP {i j : Nat} {oi oj : Oper} {di dj : Tmp} {fuel : Nat} {listed : Array Bool} {a : Act} {w : World} {vi vj : Value} (hro : F.round = none) (hoi : ops[i]? = some oi) (hoj : ops[j]? = some oj)
    (hdi : oi.dst = some di) (hdj : oj.dst = some dj) (hne : di ≠ dj) (hij : i ≠ j)
    (hr : Region.ready md ops listed = [i, j]) (hri : Region.ready md ops (listed.setIfInBounds i true) = [j]) (hrj : Region.ready md ops (listed.setIfInBounds j true) = [i])
    (wi : Region.wanted oi (yielded ops a.tmps) = true) (wj : Region.wanted oj (yielded ops a.tmps) = true)
    (wi' : Region.wanted oi (yielded ops (a.put (some dj) vj).tmps) = true) (wj' : Region.wanted oj (yielded ops (a.put (some di) vi).tmps) = true)
    (bi : ∀ a : Act, oi.about P w a.eval = none) (bj : ∀ a : Act, oj.about P w a.eval = none)
    (ri : (execOp a.eval oi).run P w = .ok (.value vi) w) (rj : (execOp a.eval oj).run P w = .ok (.value vj) w)
    (ri' : (execOp (a.put (some dj) vj).eval oi).run P w = .ok (.value vi) w) (rj' : (execOp (a.put (some di) vi).eval oj).run P w = .ok (.value vj) w)
    (h : wpAnyIn F n P md ops Q fuel ((listed.setIfInBounds i true).setIfInBounds j true) ((a.put (some di) vi).put (some dj) vj) w) : wpAnyIn F n P md ops Q (fuel + 2) listed a w := by
  refine wpAnyIn_all hr (by simp) ?_
  intro k hk
  simp only [List.mem_cons, List.not_mem_nil, or_false] at hk
  rcases hk with rfl | rfl
  · refine readOp hro hoi wi (bi _) ri ?_
    rw [hdi]
    exact readP hro hoj hri wj' (bj _) rj' (by rw [hdj]; exact h)
  · refine readOp hro hoj wj (bj _) rj ?_
    rw [hdj]
    refine readP hro hoi hrj wi' (bi _) ri' ?_
    rw [hdi, Array.setIfInBounds_comm _ _ (Ne.symm hij)]
    have e : (a.put (some dj) vj).put (some di) vi = (a.put (some di) vi).put (some dj) vj := by
      simp only [Act.put]
      rw [Array.setIfInBounds_comm _ _ (Ne.symm hne)]
    rw [e]
    exact h

end
/-- Under the wide fence no depth is asked. -/
theorem yield_any {m : Nat} (m' : Nat) {P : Program} {l : Nat} {args : Array Value} {W : World} {R : Ending → World → Prop} (h : YieldAt Fence.wide m P l args W R) : YieldAt Fence.wide m' P l args W R := by
  obtain ⟨fn, tmps, assign, body, hy, hR⟩ := h
  exact ⟨fn, tmps, assign, body, hy, hR.1, fun c cs _ => hR.2 c cs (fun d h => (by cases h))⟩

end Go.Proofs.MT
