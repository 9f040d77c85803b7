/- ParseDecimal in plain lists, and what the reference's form and ParseDecimal come to. -/
import Derived.Test.YtdjnneflpkllmaaGreatDoorTxt3
import Derived.Test.YtdjnneflpkllmaaGreatDoorRC
namespace Go.Proofs.Num
open Go.RowKit Go.Proofs.YtdjnneflpkllmaaGreatDoorW.PrintWords Go.Proofs.YtdjnneflpkllmaaGreatDoorW.PrintMore Go.Proofs.YtdjnneflpkllmaaGreatDoor.Q
set_option linter.unusedVariables false
set_option linter.unusedSimpArgs false
/-- The number that digits spell, behind n. -/
def natD : List UInt8 → Nat → Nat
  | [], n => n
  | c :: r, n => natD r (10 * n + (c.toNat - 48))
theorem natD_ge : ∀ (l : List UInt8) (n : Nat), n ≤ natD l n
  | [], n => Nat.le_refl _
  | c :: r, n => by
    have := natD_ge r (10 * n + (c.toNat - 48))
    rw [natD]; omega
theorem natD_drop : ∀ (l : List UInt8), natD (l.dropWhile (· == 48)) 0 = natD l 0
  | [] => rfl
  | c :: r => by
    by_cases h : (c == 48) = true
    · rw [show (List.dropWhile (· == 48) (c :: r)) = List.dropWhile (· == 48) r from List.dropWhile_cons_of_pos (p := (· == 48)) h, natD_drop r]
      have : c = 48 := by simpa using h
      subst this
      rfl
    · rw [show (List.dropWhile (· == 48) (c :: r)) = c :: r from List.dropWhile_cons_of_neg (p := (· == 48)) h]
theorem natD_pos : ∀ (l : List UInt8) (n : Nat), 0 < n → 0 < natD l n := fun l n h => Nat.lt_of_lt_of_le h (natD_ge l n)
theorem natD_zero {l : List UInt8} (hd : l.all isD = true) : natD l 0 = 0 ↔ l.dropWhile (· == 48) = [] := by
  induction l with
  | nil => simp [natD]
  | cons c r ih =>
    rw [List.all_cons, Bool.and_eq_true] at hd
    by_cases h : (c == 48) = true
    · rw [show (List.dropWhile (· == 48) (c :: r)) = List.dropWhile (· == 48) r from List.dropWhile_cons_of_pos (p := (· == 48)) h]
      have : c = 48 := by simpa using h
      subst this
      exact ih hd.2
    · rw [show (List.dropWhile (· == 48) (c :: r)) = c :: r from List.dropWhile_cons_of_neg (p := (· == 48)) h]
      have hc : c ≠ 48 := by simpa using h
      have h1 := isD_iff.1 hd.1
      have h2 : c.toNat ≠ 48 := fun g => hc (UInt8.toNat_inj.1 g)
      have p := natD_pos r (10 * 0 + (c.toNat - 48)) (by omega)
      rw [natD]
      constructor
      · intro g; omega
      · intro g; cases g
/-- The digits read as a uint64. -/
theorem pu_digits : ∀ (l : List UInt8) (n : Nat), l.all isD = true → n < 18446744073709551616 → Lib.parseUint10 n l = if natD l n < 18446744073709551616 then .ok (natD l n) else .range
  | [], n, _, hn => by rw [Lib.parseUint10, natD, if_pos hn]
  | c :: r, n, hd, hn => by
    rw [List.all_cons, Bool.and_eq_true] at hd
    have h1 := isD_iff.1 hd.1
    rw [Lib.parseUint10, if_pos h1, natD]
    have g := natD_ge r (10 * n + (c.toNat - 48))
    by_cases c1 : 1844674407370955162 ≤ n
    · rw [if_pos c1, if_neg (by omega)]
    · rw [if_neg c1]
      by_cases c2 : 18446744073709551616 ≤ n * 10 + (c.toNat - 48)
      · rw [if_pos c2, if_neg (by omega)]
      · rw [if_neg c2, pu_digits r _ hd.2 (by omega), Nat.mul_comm n 10]
theorem atoi_digits {l : List UInt8} (hd : l.all isD = true) (hn : l ≠ []) : (natD l 0 < 9223372036854775808 ∧ Lib.atoiAll l = .ok (natD l 0 : Int)) ∨ (9223372036854775808 ≤ natD l 0 ∧ ∀ v, Lib.atoiAll l ≠ .ok v) := by
  cases l with
  | nil => exact (hn rfl).elim
  | cons c r =>
    have hd2 := hd
    rw [List.all_cons, Bool.and_eq_true] at hd2
    have h1 := isD_iff.1 hd2.1
    rw [Lib.atoiAll_plain c r (by omega) (by omega)]
    have e : Lib.parseMag (c :: r) = if natD (c :: r) 0 < 18446744073709551616 then .ok (natD (c :: r) 0) else .range := by
      unfold Lib.parseMag
      rw [if_neg (by simp), pu_digits _ _ hd (by decide)]
    rw [e]
    by_cases c1 : natD (c :: r) 0 < 18446744073709551616
    · rw [if_pos c1]
      unfold Lib.signless
      simp only
      by_cases c2 : 9223372036854775808 ≤ natD (c :: r) 0
      · right
        rw [if_pos c2]
        exact ⟨c2, fun v g => by simp at g⟩
      · left
        rw [if_neg c2]
        exact ⟨by omega, rfl⟩
    · right
      rw [if_neg c1]
      refine ⟨by omega, fun v g => ?_⟩
      unfold Lib.signless at g
      simp at g
/-! The shape -/
def negB (l : List UInt8) : Bool := decide (l.head? = some 45)
def rest (l : List UInt8) : List UInt8 := if l.head? = some 45 then l.drop 1 else l
def okP (r : List UInt8) (p : Nat) : Prop := (Lib.cut r [46]).2.2 = decide (0 < p) ∧ (Lib.cut r [46]).2.1.length = p ∧ ((Lib.cut r [46]).1 ++ (Lib.cut r [46]).2.1).all isD = true ∧ (Lib.cut r [46]).1 ≠ [] ∧ ¬ (1 < (Lib.cut r [46]).1.length ∧ (Lib.cut r [46]).1.head? = some 48)
instance (r : List UInt8) (p : Nat) : Decidable (okP r p) := by unfold okP; infer_instance
def digs (r : List UInt8) : List UInt8 := (Lib.cut r [46]).1 ++ (Lib.cut r [46]).2.1
/-- What both return. -/
def pdV (l : List UInt8) (p : Nat) : Int × Int :=
  if okP (rest l) p then
    (if natD (digs (rest l)) 0 = 0 then (if negB l then (0, 6) else (0, 0))
    else if 1125899906842624 < natD (digs (rest l)) 0 then (0, 4)
    else (if negB l then -(natD (digs (rest l)) 0 : Int) else (natD (digs (rest l)) 0 : Int), 0))
  else (0, 6)
theorem isD_46 : isD 46 = false := by decide
theorem no46 {l : List UInt8} (h : l.all isD = true) : (46 : UInt8) ∉ l := fun m => by
  have := List.all_eq_true.1 h 46 m
  rw [isD_46] at this
  cases this
/-! form's loop over the digits, but for the place of the point -/
def zeroF : List UInt8 → Bool → Bool
  | [], z => z
  | c :: r, z => zeroF r (z && c == 48)
theorem form_l0 {l : List UInt8} (hlen : l.length ≤ 9000000000000000000) (neg : Bool) (h : Int) : ∀ (c i : Nat) (z : Bool), l.length - i = c → i ≤ l.length → ((l.length : Int) ≤ h ∨ h < (i : Int)) →
    Ev (fun k => merinoref01_form.l0 k (ba l) neg h z (i : Int)) (if (l.drop i).all isD then (!neg || !(zeroF (l.drop i) z)) else false) := by
  intro c
  induction c with
  | zero =>
    intro i z hc hi hh
    obtain rfl : i = l.length := by omega
    rw [List.drop_length]
    refine Ev.step (f := fun _ => some (!neg || !z)) (fun k => ?_) (by simpa [zeroF] using Ev.now _)
    rw [merinoref01_form.l0, if_neg (by rw [ba_size]; omega)]
    cases neg <;> rfl
  | succ c ih =>
    intro i z hc hi hh
    have hlt : i < l.length := by omega
    have ed : l.drop i = l[i] :: l.drop (i + 1) := List.drop_eq_getElem_cons hlt
    have eb : bt (ba l) (i : Int) = (l[i].toNat : Int) := by rw [ba_bt, List.getD_eq_getElem?_getD, List.getElem?_eq_getElem hlt]; rfl
    have wi : wrap64 ((i : Int) + 1) = ((i + 1 : Nat) : Int) := by rw [w64 (by omega) (by omega)]; omega
    rw [ed, List.all_cons, zeroF]
    have first : ∀ k, merinoref01_form.l0 (k + 1) (ba l) neg h z (i : Int) = if (l[i].toNat : Int) < 48 then some false else if (l[i].toNat : Int) > 57 then some false else if z = true then merinoref01_form.l0 k (ba l) neg h ((l[i].toNat : Int) == 48) ((i + 1 : Nat) : Int) else merinoref01_form.l0 k (ba l) neg h false ((i + 1 : Nat) : Int) := by
      intro k
      rw [merinoref01_form.l0, if_pos (by rw [ba_size]; omega), if_neg (by omega), if_pos (by omega), eb, wi]
    by_cases dg : isD l[i] = true
    · have d2 := isD_iff.1 dg
      have E := ih (i + 1) (z && l[i] == 48) (by omega) (by omega) (by omega)
      rw [dg, Bool.true_and]
      refine Ev.step (f := fun k => merinoref01_form.l0 k (ba l) neg h (z && l[i] == 48) ((i + 1 : Nat) : Int)) (fun k => ?_) E
      rw [first, if_neg (by omega), if_neg (by omega)]
      have e8 : ((l[i].toNat : Int) == 48) = (l[i] == 48) := by
        rw [Bool.eq_iff_iff, beq_iff_eq, beq_iff_eq]
        constructor
        · intro g; exact UInt8.toNat_inj.1 (by show l[i].toNat = 48; omega)
        · intro g; rw [g]; rfl
      cases z with
      | true => rw [if_pos rfl, e8, Bool.true_and]
      | false => rw [if_neg (by decide), Bool.false_and]
    · rw [Bool.eq_false_iff.2 dg, Bool.false_and, if_neg (by decide)]
      refine Ev.step (f := fun _ => some false) (fun k => ?_) (Ev.now _)
      rw [first]
      have : ¬ (48 ≤ l[i].toNat ∧ l[i].toNat ≤ 57) := fun g => dg (isD_iff.2 g)
      by_cases h1 : (l[i].toNat : Int) < 48
      · rw [if_pos h1]
      · rw [if_neg h1, if_pos (by omega)]
end Go.Proofs.Num
