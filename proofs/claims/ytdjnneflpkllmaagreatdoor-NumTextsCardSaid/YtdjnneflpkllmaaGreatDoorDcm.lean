/- Decimal: what the reference's comes to, and num.Decimal walked. -/
import Derived.Test.YtdjnneflpkllmaaGreatDoorEnv
import Derived.Test.YtdjnneflpkllmaaGreatDoorRC
namespace Go.Proofs.Num
open Go.RowKit Go.Proofs.YtdjnneflpkllmaaGreatDoorW.PrintWords Go.Proofs.YtdjnneflpkllmaaGreatDoorW.PrintLast Go.Proofs.YtdjnneflpkllmaaGreatDoorW.PrintMore Go.Proofs.YtdjnneflpkllmaaGreatDoor.Q
set_option linter.unusedVariables false
set_option linter.unusedSimpArgs false
/-- Zeros ahead, so that more than p digits stand. -/
def padded (p : Nat) (l : List UInt8) : List UInt8 := List.replicate (p + 1 - l.length) 48 ++ l
/-- The point, p digits from the right. -/
def point (p : Nat) (l : List UInt8) : List UInt8 := if p = 0 then l else l.take (l.length - p) ++ 46 :: l.drop (l.length - p)
def decS (n : Int) (p : Nat) : List UInt8 := sgn (decide (n < 0)) ++ point p (padded p (Lib.decDigits n.natAbs))
def decV (n p : Int) : List UInt8 × Int := if p < 0 ∨ 9 < p then ([], 2) else (decS n p.toNat, 0)
theorem padded_len (p : Nat) (l : List UInt8) : p < (padded p l).length ∧ (padded p l).length ≤ p + 1 + l.length := by
  unfold padded
  rw [List.length_append, List.length_replicate]
  omega
theorem rdec_l0 {p : Nat} (hp : p ≤ 9) {sg : List UInt8} (hs : sg.length ≤ 1) : ∀ (c : Nat) (l : List UInt8), p + 1 - l.length = c → l.length ≤ 100 → Ev (fun k => merinoref01_Decimal.l0 k (p : Int) (ba l) (ba sg)) (ba (sg ++ point p (padded p l)), 0) := by
  intro c
  induction c with
  | zero =>
    intro l hc hl
    have e : padded p l = l := by unfold padded; rw [hc]; rfl
    rw [e]
    refine Ev.step (f := fun _ => some (ba (sg ++ point p l), 0)) (fun k => ?_) (Ev.now _)
    rw [merinoref01_Decimal.l0, if_neg (by rw [ba_size]; omega)]
    unfold point
    by_cases z : p = 0
    · subst z
      rw [if_pos (by rfl), if_pos rfl, if_pos (by rw [ba_size, ba_size]; omega), ba_app]
    · have w1 : wrap64 (((ba l).size : Int) - (p : Int)) = ((l.length - p : Nat) : Int) := by rw [ba_size, w64 (by omega) (by omega)]; omega
      have e1 : (ba l).extract 0 (l.length - p) = ba (l.take (l.length - p)) := by rw [ba_ext]; simp
      have e2 : (ba l).extract (l.length - p) (ba l).size = ba (l.drop (l.length - p)) := by
        rw [ba_ext, ba_size]
        congr 1
        rw [List.take_of_length_le (by simp)]
      have p1 : ba sg ++ ba (l.take (l.length - p)) = ba (sg ++ l.take (l.length - p)) := ba_app _ _
      have p2 : ba (sg ++ l.take (l.length - p)) ++ (⟨#[46]⟩ : ByteArray) = ba (sg ++ l.take (l.length - p) ++ [46]) := ba_app _ [46]
      rw [if_neg (by omega), if_neg z]
      simp only [w1, Int.toNat_natCast, e1, e2, p1, p2, ba_app]
      rw [if_pos (by omega), if_pos (by rw [ba_size]; omega), if_pos (by rw [ba_size, ba_size, List.length_take]; omega), if_pos (by rw [ba_size, List.length_append, List.length_take]; omega), if_pos (by rw [ba_size, ba_size, List.length_append, List.length_append, List.length_take, List.length_drop]; simp; omega)]
      simp
  | succ c ih =>
    intro l hc hl
    have e : padded p l = padded p (48 :: l) := by
      unfold padded
      rw [List.length_cons, show p + 1 - l.length = (p + 1 - (l.length + 1)) + 1 by omega, List.replicate_succ']
      simp
    rw [e]
    have E := ih (48 :: l) (by rw [List.length_cons]; omega) (by rw [List.length_cons]; omega)
    refine Ev.step (f := fun k => merinoref01_Decimal.l0 k (p : Int) (ba (48 :: l)) (ba sg)) (fun k => ?_) E
    rw [merinoref01_Decimal.l0, if_pos (by rw [ba_size]; omega), if_pos (by rw [ba_size]; omega), show (⟨#[48]⟩ : ByteArray) ++ ba l = ba (48 :: l) from ba_app [48] l]
theorem rdec_ok {n : Int} (h0 : -9223372036854775808 ≤ n) (h1 : n ≤ 9223372036854775807) (p : Int) : Ev (fun k => merinoref01_Decimal.f k n p) (ba (decV n p).1, (decV n p).2) := by
  unfold merinoref01_Decimal.f decV
  have bad : Ev (fun k => merinoref01_Decimal.j0 k n p true) (ba [], 2) := Ev.step (f := fun _ => some (ba [], 2)) (fun k => by rw [merinoref01_Decimal.j0, if_pos rfl]; rfl) (Ev.now _)
  by_cases c1 : p < 0
  · rw [if_pos (Or.inl c1)]
    simp only [if_pos c1]
    exact bad
  · by_cases c2 : p > 9
    · rw [if_pos (Or.inr c2)]
      simp only [if_neg c1, decide_eq_true c2]
      exact bad
    · rw [if_neg (by omega)]
      simp only [if_neg c1, decide_eq_false c2]
      obtain ⟨q, rfl⟩ : ∃ q : Nat, p = (q : Int) := ⟨p.toNat, by omega⟩
      have hq : q ≤ 9 := by omega
      rw [Int.toNat_natCast]
      have D := digits_ok h0 h1
      have ln := nd_le (u := n.natAbs) (by omega)
      rw [← Lib.decDigits_length] at ln
      refine Ev.step (f := fun k => (merinoref01_Digits.f k n).bind fun t => (if n < 0 then (if 1 ≤ (t.size : Int) then (merinoref01_Decimal.j1 k (q : Int) (t.extract 1 t.size) (⟨#[45]⟩ : ByteArray)) else (none)) else (merinoref01_Decimal.j1 k (q : Int) t (⟨#[]⟩ : ByteArray)))) (fun k => by rw [merinoref01_Decimal.j0, if_neg (by decide)]) (Ev.bind D ?_)
      unfold decS
      by_cases hn : n < 0
      · rw [decide_eq_true hn]
        have e : Lib.itoa n = 45 :: Lib.decDigits n.natAbs := by unfold Lib.itoa; rw [if_pos hn]
        have e4 : (ba (45 :: Lib.decDigits n.natAbs)).extract 1 (ba (45 :: Lib.decDigits n.natAbs)).size = ba (Lib.decDigits n.natAbs) := by
          rw [ba_ext, ba_size]
          congr 1
          simp
        simp only [if_pos hn, e, e4]
        simp only [if_pos (show 1 ≤ ((ba (45 :: Lib.decDigits n.natAbs)).size : Int) by rw [ba_size, List.length_cons]; omega)]
        exact Ev.step (f := fun k => merinoref01_Decimal.l0 k (q : Int) (ba (Lib.decDigits n.natAbs)) (ba [45])) (fun k => by rw [merinoref01_Decimal.j1]; rfl) (rdec_l0 hq (by decide) _ _ rfl (by omega))
      · rw [decide_eq_false hn]
        have e : Lib.itoa n = Lib.decDigits n.natAbs := by unfold Lib.itoa; rw [if_neg hn, show n.natAbs = n.toNat by omega]
        simp only [if_neg hn, e]
        exact Ev.step (f := fun k => merinoref01_Decimal.l0 k (q : Int) (ba (Lib.decDigits n.natAbs)) (ba [])) (fun k => by rw [merinoref01_Decimal.j1]; rfl) (rdec_l0 hq (by decide) _ _ rfl (by omega))
end Go.Proofs.Num
