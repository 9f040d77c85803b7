/- The law NumModes in numbers: every fraction's roundings. -/
import Derived.Test.YtdjnneflpkllmaaDoorPn
import Derived.Test.YtdjnneflpkllmaaDoorRNumModes
namespace Go.Proofs.Num
open Go.RowKit Go.Proofs.YtdjnneflpkllmaaDoorW.PrintWords Go.Proofs.YtdjnneflpkllmaaDoor.Q
set_option linter.unusedVariables false
set_option linter.unusedSimpArgs false

/-- What a valid fraction's quotient and rest are. -/
theorem valid_rest {n d : Int} (h : valid n d) : ∃ q r : Int, (n.natAbs : Int) / d = q ∧ (n.natAbs : Int) % d = r ∧ 0 ≤ q ∧ q ≤ 1099511627776 ∧ 0 ≤ r ∧ r < d ∧ (r = 0 ↔ d = 1) ∧ (2 * r = d → d = 2) ∧ (d = 2 → r = 1) ∧ (n = 0 → q = 0 ∧ r = 0) := by
  obtain ⟨h1, h2, h3, h4, h5⟩ := h
  obtain ⟨D, rfl⟩ : ∃ D : Nat, d = D := ⟨d.toNat, by omega⟩
  have hD : (D : Int).natAbs = D := by omega
  rw [hD] at h5
  have hD0 : 0 < D := by omega
  have e1 : ((n.natAbs : Int) / (D : Int)) = ((n.natAbs / D : Nat) : Int) := by rw [Int.natCast_ediv]
  have e2 : ((n.natAbs : Int) % (D : Int)) = ((n.natAbs % D : Nat) : Int) := by rw [Int.natCast_emod]
  have hlt := Nat.mod_lt n.natAbs hD0
  have hle := Nat.div_le_self n.natAbs D
  have hg : Nat.gcd (n.natAbs % D) D = 1 := by rw [← Nat.gcd_rec, Nat.gcd_comm]; exact h5
  have b1 : n.natAbs ≤ 1099511627776 := by omega
  refine ⟨_, _, e1, e2, Int.natCast_nonneg _, Int.le_trans (Int.ofNat_le.mpr hle) (by omega), Int.natCast_nonneg _, Int.ofNat_lt.mpr hlt, ⟨fun h => ?_, fun h => ?_⟩, fun h => ?_, fun h => ?_, fun h => ?_⟩
  · have : n.natAbs % D = 0 := by omega
    rw [this, Nat.gcd_zero_left] at hg
    omega
  · have : D = 1 := by omega
    subst this
    omega
  · have h' : D = 2 * (n.natAbs % D) := by omega
    have hd : (n.natAbs % D) ∣ D := ⟨2, by omega⟩
    rw [Nat.gcd_eq_left hd] at hg
    omega
  · have h' : D = 2 := by omega
    subst h'
    rcases Nat.mod_two_eq_zero_or_one n.natAbs with h0 | h1
    · rw [h0] at hg; simp at hg
    · omega
  · subst h
    simp
theorem pure_modes (n d : Int) : ∃ k, merinolaw01_NumModes.f k n d = some true := by
  refine Ev.rounds ?_
  unfold merinolaw01_NumModes.f
  refine Ev.bind (valid_ok n d) ?_
  by_cases hv : valid n d
  · obtain ⟨q, r, hq, hr, q0, q1, r0, r1, r2, r3, r4, r5⟩ := valid_rest hv
    have hn : valid (-n) d := by
      obtain ⟨v1, v2, v3, v4, v5⟩ := hv
      exact ⟨v1, v2, by omega, by omega, by rw [Int.natAbs_neg]; exact v5⟩
    have hn' : ((-n).natAbs : Int) = (n.natAbs : Int) := by rw [Int.natAbs_neg]
    obtain ⟨v1, v2, v3, v4, v5⟩ := id hv
    have RD : ∀ m : Int, 0 ≤ m ∧ m ≤ 4 → Ev (fun k => num_Round.f k n d m) (rnd (decide (n < 0)) q r d m, 0) := fun m hm => by
      have := round_ok n d m
      rwa [if_pos ⟨hv, hm⟩, hq, hr] at this
    have RN : Ev (fun k => num_Round.f k (-n) d 0) (rnd (decide (-n < 0)) q r d 0, 0) := by
      have := round_ok (-n) d 0
      rwa [if_pos ⟨hn, by omega⟩, hn', hq, hr] at this
    have NG := neg_ok n d
    rw [if_pos hv] at NG
    simp only [hv, decide_true, if_true]
    refine Ev.bind NG ?_
    refine Ev.bind (RD 0 (by omega)) ?_
    refine Ev.bind (RD 1 (by omega)) ?_
    refine Ev.bind RN ?_
    refine Ev.bind (RD 2 (by omega)) ?_
    refine Ev.bind (RD 3 (by omega)) ?_
    refine Ev.bind (RD 4 (by omega)) ?_
    simp only [if_true]
    clear RD RN NG
    have e1 : wrap64 (-(rnd (decide (-n < 0)) q r d 0)) = rnd (decide (n < 0)) q r d 1 := by
      unfold rnd
      rcases Int.lt_trichotomy n 0 with hn0 | hn0 | hn0
      · simp only [show ¬ (-n < 0) by omega, hn0, decide_true, decide_false, Bool.false_eq_true, if_false, if_true, show ¬ ((1 : Int) = 0) by omega]
        (repeat' split) <;> first | rw [w64 (by omega) (by omega)] | omega
      · obtain ⟨z1, z2⟩ := r5 hn0
        subst hn0 z1 z2
        simp [wrap64]
      · simp only [show (-n < 0) by omega, show ¬ n < 0 by omega, decide_true, decide_false, Bool.false_eq_true, if_false, if_true, show ¬ ((1 : Int) = 0) by omega]
        (repeat' split) <;> first | (rw [w64 (by omega) (by omega)]; omega) | omega
    have A : merinolaw01_alive.f = some true := rfl
    have tm : ∀ x : Int, x.tmod 2 = 0 ↔ x % 2 = 0 := fun x => by rw [← Int.dvd_iff_tmod_eq_zero, Int.dvd_iff_emod_eq_zero]
    generalize hlo : rnd (decide (n < 0)) q r d 0 = lo at *
    generalize hhi : rnd (decide (n < 0)) q r d 1 = hi at *
    generalize hct : rnd (decide (n < 0)) q r d 2 = ct at *
    generalize hup : rnd (decide (n < 0)) q r d 3 = up at *
    generalize hev : rnd (decide (n < 0)) q r d 4 = ev at *
    generalize hbk : rnd (decide (-n < 0)) q r d 0 = bk at *
    have fa : ((lo = hi ∧ d = 1 ∨ hi = lo + 1 ∧ d ≠ 1) ∧ -1099511627777 ≤ lo ∧ lo ≤ 1099511627777) ∧ (lo ≠ hi → ((n < 0 → ct = hi) ∧ (0 ≤ n → ct = lo))) ∧ (lo = hi → ct = lo) ∧ (up = lo ∨ up = hi) ∧ (ev = lo ∨ ev = hi) ∧ (d = 2 → up = hi ∧ ev % 2 = 0) ∧ (up ≠ ev → d = 2) := by
      subst hlo hhi hct hup hev
      unfold rnd
      clear hbk e1 A tm hn hn' hv v5 hq hr
      by_cases hr0 : r = 0
      · have := r2.1 hr0
        simp only [hr0, if_true, eq_self]
        by_cases hn0 : n < 0
        · simp only [eq_self, decide_eq_true hn0, if_true]; refine ⟨⟨?_, ?_, ?_⟩, fun h => ⟨fun h => ?_, fun h => ?_⟩, fun h => ?_, ?_, ?_, fun h => ⟨?_, ?_⟩, fun h => ?_⟩ <;> first | omega | (simp only [true_and, true_or, or_true]; done) | (simp only [true_and, true_or, or_true]; omega) | (simp at *; done)
        · simp only [eq_self, decide_eq_false hn0, Bool.false_eq_true, if_false]; refine ⟨⟨?_, ?_, ?_⟩, fun h => ⟨fun h => ?_, fun h => ?_⟩, fun h => ?_, ?_, ?_, fun h => ⟨?_, ?_⟩, fun h => ?_⟩ <;> first | omega | (simp only [true_and, true_or, or_true]; done) | (simp only [true_and, true_or, or_true]; omega) | (simp at *; done)
      · have hd1 : d ≠ 1 := fun h => hr0 (r2.2 h)
        simp only [hr0, if_false, if_true, eq_self, show ¬ (1 : Int) = 0 by omega, show ¬ (2 : Int) = 0 by omega, show ¬ (2 : Int) = 1 by omega, show ¬ (3 : Int) = 0 by omega, show ¬ (3 : Int) = 1 by omega, show ¬ (3 : Int) = 2 by omega, show ¬ (4 : Int) = 0 by omega, show ¬ (4 : Int) = 1 by omega, show ¬ (4 : Int) = 2 by omega, show ¬ (4 : Int) = 3 by omega]
        by_cases hn0 : n < 0
        · simp only [eq_self, decide_eq_true hn0, if_true]
          by_cases c1 : d < 2 * r
          · simp only [c1, if_true]; refine ⟨⟨?_, ?_, ?_⟩, fun h => ⟨fun h => ?_, fun h => ?_⟩, fun h => ?_, ?_, ?_, fun h => ⟨?_, ?_⟩, fun h => ?_⟩ <;> first | omega | (simp only [true_and, true_or, or_true]; done) | (simp only [true_and, true_or, or_true]; omega) | (simp at *; done)
          · by_cases c2 : 2 * r < d
            · simp only [c1, c2, if_true, if_false]; refine ⟨⟨?_, ?_, ?_⟩, fun h => ⟨fun h => ?_, fun h => ?_⟩, fun h => ?_, ?_, ?_, fun h => ⟨?_, ?_⟩, fun h => ?_⟩ <;> first | omega | (simp only [true_and, true_or, or_true]; done) | (simp only [true_and, true_or, or_true]; omega) | (simp at *; done)
            · simp only [c1, c2, if_false]
              by_cases c3 : q % 2 = 1
              · simp only [c3, if_true]; refine ⟨⟨?_, ?_, ?_⟩, fun h => ⟨fun h => ?_, fun h => ?_⟩, fun h => ?_, ?_, ?_, fun h => ⟨?_, ?_⟩, fun h => ?_⟩ <;> first | omega | (simp only [true_and, true_or, or_true]; done) | (simp only [true_and, true_or, or_true]; omega) | (simp at *; done)
              · simp only [c3, if_false]; refine ⟨⟨?_, ?_, ?_⟩, fun h => ⟨fun h => ?_, fun h => ?_⟩, fun h => ?_, ?_, ?_, fun h => ⟨?_, ?_⟩, fun h => ?_⟩ <;> first | omega | (simp only [true_and, true_or, or_true]; done) | (simp only [true_and, true_or, or_true]; omega) | (simp at *; done)
        · simp only [eq_self, decide_eq_false hn0, Bool.false_eq_true, if_false]
          by_cases c1 : d < 2 * r
          · simp only [c1, if_true]; refine ⟨⟨?_, ?_, ?_⟩, fun h => ⟨fun h => ?_, fun h => ?_⟩, fun h => ?_, ?_, ?_, fun h => ⟨?_, ?_⟩, fun h => ?_⟩ <;> first | omega | (simp only [true_and, true_or, or_true]; done) | (simp only [true_and, true_or, or_true]; omega) | (simp at *; done)
          · by_cases c2 : 2 * r < d
            · simp only [c1, c2, if_true, if_false]; refine ⟨⟨?_, ?_, ?_⟩, fun h => ⟨fun h => ?_, fun h => ?_⟩, fun h => ?_, ?_, ?_, fun h => ⟨?_, ?_⟩, fun h => ?_⟩ <;> first | omega | (simp only [true_and, true_or, or_true]; done) | (simp only [true_and, true_or, or_true]; omega) | (simp at *; done)
            · simp only [c1, c2, if_false]
              by_cases c3 : q % 2 = 1
              · simp only [c3, if_true]; refine ⟨⟨?_, ?_, ?_⟩, fun h => ⟨fun h => ?_, fun h => ?_⟩, fun h => ?_, ?_, ?_, fun h => ⟨?_, ?_⟩, fun h => ?_⟩ <;> first | omega | (simp only [true_and, true_or, or_true]; done) | (simp only [true_and, true_or, or_true]; omega) | (simp at *; done)
              · simp only [c3, if_false]; refine ⟨⟨?_, ?_, ?_⟩, fun h => ⟨fun h => ?_, fun h => ?_⟩, fun h => ?_, ?_, ?_, fun h => ⟨?_, ?_⟩, fun h => ?_⟩ <;> first | omega | (simp only [true_and, true_or, or_true]; done) | (simp only [true_and, true_or, or_true]; omega) | (simp at *; done)
    clear hlo hhi hct hup hev hbk hn hn' r5 r4 r3 r2 v5 hq hr hv
    obtain ⟨⟨f1, f2, f3⟩, f4, f5, f6, f7, f8, f9⟩ := fa
    have e2 : Ev (fun k => merinolaw01_NumModes.j1 k lo hi up ev false n d) true := by
      refine Ev.step (f := fun k => some true) (fun k => ?_) (Ev.now _)
      rw [merinolaw01_NumModes.j1]
      simp only [A, Option.bind_some, tm, Bool.false_eq_true, if_false]
      clear A tm e1 f4 f5
      (repeat' split) <;> first | rfl | omega
    have hw : wrap64 (hi - lo) = hi - lo := w64 (by omega) (by omega)
    have hne : ((hi - lo == 0) != (d == 1)) = false := by
      rcases f1 with ⟨g1, g2⟩ | ⟨g1, g2⟩
      · subst g1 g2; simp
      · subst g1
        have a1 : (lo + 1 - lo == 0) = false := by rw [beq_eq_false_iff_ne]; omega
        have a2 : (d == 1) = false := by rw [beq_eq_false_iff_ne]; exact g2
        rw [a1, a2]; rfl
    refine Ev.step (f := fun k => merinolaw01_NumModes.j1 k lo hi up ev false n d) (fun k => ?_) e2
    rw [merinolaw01_NumModes.j0, hw, hne, if_neg (by decide), if_pos e1.symm, if_neg (by decide), if_neg (by omega), if_neg (by omega)]
    by_cases g1 : ct = lo
    · rw [if_pos g1]
      by_cases g2 : ct = hi
      · rw [if_pos g2]
      · rw [if_neg g2, decide_eq_false (show ¬ n < 0 by omega)]
    · rw [if_neg g1, if_neg (show ¬ n ≥ 0 by omega), if_pos (by omega)]
  · simp only [hv, decide_false, Bool.false_eq_true, if_false]
    have := round_ok n d 0
    rw [if_neg (fun h => hv h.1)] at this
    refine Ev.bind this ?_
    exact Ev.now _
end Go.Proofs.Num
