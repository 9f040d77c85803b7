/- The reference's Valid and Cmp: what they come to. -/
import Derived.Test.YtdjnneflpkllmaaGreatDoorPv
import Derived.Test.YtdjnneflpkllmaaGreatDoorRB
namespace Go.Proofs.Num
open Go.RowKit Go.Proofs.YtdjnneflpkllmaaGreatDoorW.PrintWords Go.Proofs.YtdjnneflpkllmaaGreatDoorW.PrintMore Go.Proofs.YtdjnneflpkllmaaGreatDoor.Q
set_option linter.unusedVariables false
set_option linter.unusedSimpArgs false
theorem rv_l0 : ∀ (b a : Nat), Ev (fun k => merinoref01_Valid.l0 k (a : Int) (b : Int)) ((Nat.gcd a b : Int) == 1) := by
  intro b
  induction b using Nat.strongRecOn with
  | ind b ih =>
    intro a
    by_cases h : b = 0
    · subst h
      rw [Nat.gcd_zero_right]
      exact Ev.step (f := fun _ => some ((a : Int) == 1)) (fun k => by rw [merinoref01_Valid.l0, if_neg (by omega)]) (Ev.now _)
    · refine Ev.step (f := fun k => merinoref01_Valid.l0 k (b : Int) ((a % b : Nat) : Int)) (fun k => by rw [merinoref01_Valid.l0, if_pos (by omega), if_neg (by omega), tmod_nat]) ?_
      have := ih (a % b) (Nat.mod_lt _ (by omega)) b
      rw [Nat.gcd_comm b, ← Nat.gcd_rec, Nat.gcd_comm] at this
      exact this
theorem rvalid_ok (n d : Int) : Ev (fun k => merinoref01_Valid.f k n d) (decide (valid n d)) := by
  have hj : ¬ valid n d → Ev (fun k => merinoref01_Valid.j0 k true n d) (decide (valid n d)) := fun h => by
    rw [decide_eq_false h]
    exact Ev.step (f := fun _ => some false) (fun k => by rw [merinoref01_Valid.j0, if_pos rfl]) (Ev.now _)
  unfold merinoref01_Valid.f
  by_cases h1 : d < 1
  · simp only [if_pos h1]; exact hj (fun h => by have := h.1; omega)
  · by_cases h2 : d > 1048576
    · simp only [if_neg h1, if_pos h2]; exact hj (fun h => by have := h.2.1; omega)
    · by_cases h3 : n < -1099511627776
      · simp only [if_neg h1, if_neg h2, if_pos h3]; exact hj (fun h => by have := h.2.2.1; omega)
      · by_cases h4 : n > 1099511627776
        · simp only [if_neg h1, if_neg h2, if_neg h3, decide_eq_true h4]; exact hj (fun h => by have := h.2.2.2.1; omega)
        · simp only [if_neg h1, if_neg h2, if_neg h3, decide_eq_false h4]
          refine Ev.step (f := fun k => merinoref01_Valid.j1 k (n.natAbs : Int) (d.natAbs : Int)) (fun k => ?_) ?_
          · rw [merinoref01_Valid.j0, if_neg (by decide)]
            have hd : (d.natAbs : Int) = d := by omega
            rw [hd]
            by_cases hn : n < 0
            · rw [if_pos hn, w64 (by omega) (by omega)]
              congr 1
              omega
            · rw [if_neg hn]
              congr 1
              omega
          · refine Ev.step (f := fun k => merinoref01_Valid.l0 k (n.natAbs : Int) (d.natAbs : Int)) (fun k => by rw [merinoref01_Valid.j1]) ?_
            have : ((Nat.gcd n.natAbs d.natAbs : Int) == 1) = decide (valid n d) := by
              by_cases hg : Nat.gcd n.natAbs d.natAbs = 1
              · rw [decide_eq_true (show valid n d from ⟨by omega, by omega, by omega, by omega, hg⟩), hg]; rfl
              · rw [decide_eq_false (fun h : valid n d => hg h.2.2.2.2)]
                exact beq_eq_false_iff_ne.mpr (by omega)
            rw [← this]
            exact rv_l0 _ _
end Go.Proofs.Num
