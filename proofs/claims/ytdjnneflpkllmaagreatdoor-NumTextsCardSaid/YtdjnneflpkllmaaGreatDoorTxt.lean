/- Strings as lists of bytes; what the reference's Digits and Text come to. -/
import Derived.Test.YtdjnneflpkllmaaGreatDoorRefValid
import Derived.Lib.ItoaNum
import Derived.Lib.ItoaMem
import Derived.Lib.Strings
namespace Go.Proofs.Num
open Go.RowKit Go.Proofs.YtdjnneflpkllmaaGreatDoorW.PrintWords Go.Proofs.YtdjnneflpkllmaaGreatDoorW.PrintMore Go.Proofs.YtdjnneflpkllmaaGreatDoor.Q
set_option linter.unusedVariables false
set_option linter.unusedSimpArgs false
def ba (l : List UInt8) : ByteArray := ⟨l.toArray⟩
theorem ba_data (l : List UInt8) : (ba l).data.toList = l := by simp [ba]
theorem ba_size (l : List UInt8) : (ba l).size = l.length := by show l.toArray.size = _; simp
theorem ba_of (s : ByteArray) : ba s.data.toList = s := by simp [ba]
theorem ba_app (a b : List UInt8) : ba a ++ ba b = ba (a ++ b) := by
  apply ByteArray.ext
  rw [ByteArray.data_append]
  simp [ba]
theorem ba_ext (l : List UInt8) (i j : Nat) : (ba l).extract i j = ba ((l.drop i).take (j - i)) := by
  rw [Lib.extract_eq, ba_data]; rfl
theorem ba_toList (l : List UInt8) : (ba l).toList = l := by rw [ByteArray.toList_eq, ba_data]
theorem ba_inj {a b : List UInt8} (h : ba a = ba b) : a = b := by rw [← ba_data a, h, ba_data]
theorem ba_bt (l : List UInt8) (i : Nat) : bt (ba l) (i : Int) = ((l.getD i 0).toNat : Int) := by
  unfold bt
  have hs := ba_size l
  by_cases h : i < l.length
  · rw [dif_pos (by simp only [Int.toNat_natCast]; omega)]
    simp only [Int.toNat_natCast]
    rw [List.getD_eq_getElem?_getD, List.getElem?_eq_getElem h]
    have : (ba l)[i]'(by omega) = l[i] := by show l.toArray[i]'(by simpa using h) = _; simp
    rw [this]; rfl
  · rw [dif_neg (by simp only [Int.toNat_natCast]; omega), List.getD_eq_getElem?_getD, List.getElem?_eq_none (by omega)]; rfl
theorem ten_digits : ∀ c : Fin 10, (⟨#[48, 49, 50, 51, 52, 53, 54, 55, 56, 57]⟩ : ByteArray).extract c.val (c.val + 1) = ba [UInt8.ofNat (48 + c.val)] := by decide
theorem ten_digit {c : Nat} (h : c < 10) : (⟨#[48, 49, 50, 51, 52, 53, 54, 55, 56, 57]⟩ : ByteArray).extract c (c + 1) = ba [UInt8.ofNat (48 + c)] := ten_digits ⟨c, h⟩
theorem tmod_ten (x : Int) : Int.tmod x 10 = if x < 0 then -((x.natAbs % 10 : Nat) : Int) else ((x.natAbs % 10 : Nat) : Int) := by
  by_cases h : x < 0
  · rw [if_pos h]
    obtain ⟨u, rfl⟩ : ∃ u : Nat, x = -(u : Int) := ⟨x.natAbs, by omega⟩
    rw [Int.neg_tmod, show Int.tmod (u : Int) 10 = ((u % 10 : Nat) : Int) from tmod_nat u 10, show (-(u : Int)).natAbs = u by omega]
  · rw [if_neg h]
    obtain ⟨u, rfl⟩ : ∃ u : Nat, x = (u : Int) := ⟨x.natAbs, by omega⟩
    exact tmod_nat u 10
theorem tdiv_ten (x : Int) : (Int.tdiv x 10).natAbs = x.natAbs / 10 := by
  rw [Int.natAbs_tdiv]; rfl
theorem digits_piece {c : Nat} (hc : c < 10) {acc : List UInt8} (ha : acc.length ≤ 1000) : (⟨#[48, 49, 50, 51, 52, 53, 54, 55, 56, 57]⟩ : ByteArray).extract c (c + 1) ++ ba acc = ba (UInt8.ofNat (48 + c) :: acc) ∧
    ((⟨#[48, 49, 50, 51, 52, 53, 54, 55, 56, 57]⟩ : ByteArray).extract c (c + 1)).size + (ba acc).size ≤ 9223372036854775807 := by
  rw [ten_digit hc, ba_app, ba_size, ba_size]
  exact ⟨rfl, by simp; omega⟩
theorem wr_succ {c : Nat} (hc : c < 10) : wrap64 ((c : Int) + 1) = ((c + 1 : Nat) : Int) := by rw [w64 (by omega) (by omega)]; omega
theorem wr_neg {c : Nat} (hc : c < 10) {y : Int} (e : y = -(c : Int)) : wrap64 (-y) = (c : Int) := by rw [e, w64 (by omega) (by omega)]; omega
theorem digits_step {x : Int} (h0 : -9223372036854775808 ≤ x) (h1 : x ≤ 9223372036854775807) {acc : List UInt8} (ha : acc.length ≤ 1000) (neg : Bool) (k : Nat) :
    merinoref01_Digits.j1 (k + 1) x (ba acc) neg true = merinoref01_Digits.l0 k (Int.tdiv x 10) (ba (UInt8.ofNat (48 + x.natAbs % 10) :: acc)) neg := by
  have hd := tdiv_ten x
  have hd1 : -9223372036854775808 ≤ Int.tdiv x 10 ∧ Int.tdiv x 10 ≤ 9223372036854775807 := by omega
  have hm := tmod_ten x
  obtain ⟨c, hcc⟩ : ∃ c, c = x.natAbs % 10 := ⟨_, rfl⟩
  have hc : c < 10 := by omega
  rw [← hcc] at hm ⊢
  clear hd
  have f1 : (0 : Int) ≤ (c : Int) := by omega
  have f2 : (c : Int) ≤ ((c + 1 : Nat) : Int) := by omega
  have f3 : ((c + 1 : Nat) : Int) ≤ 10 := by omega
  have two : Int.tmod x 10 = -(c : Int) ∧ Int.tmod x 10 < 0 ∨ Int.tmod x 10 = (c : Int) ∧ ¬ Int.tmod x 10 < 0 := by
    by_cases hx : x < 0
    · rw [if_pos hx] at hm; omega
    · rw [if_neg hx] at hm; omega
  clear hm hcc
  have e3 := wr_succ hc
  have e2 := fun e => wr_neg hc (y := Int.tmod x 10) e
  have hd2 : wrap64 (Int.tdiv x 10) = Int.tdiv x 10 := w64 hd1.1 hd1.2
  obtain ⟨key, sz⟩ := digits_piece hc ha
  rw [merinoref01_Digits.j1, if_pos rfl]
  generalize (⟨#[48, 49, 50, 51, 52, 53, 54, 55, 56, 57]⟩ : ByteArray) = tens at key sz ⊢
  generalize Int.tdiv x 10 = y at hd2 ⊢
  rcases two with ⟨e, hn⟩ | ⟨e, hn⟩
  · simp only [if_pos hn, e2 e, e3, if_pos f1, if_pos f2, if_pos f3, Int.toNat_natCast, if_pos sz, key, hd2]
  · rw [if_neg hn]
    simp only [e, e3, if_pos f1, if_pos f2, if_pos f3, Int.toNat_natCast, if_pos sz, key, hd2]
def sgn (neg : Bool) : List UInt8 := if neg then [45] else []
theorem digits_end {acc : List UInt8} (ha : acc.length ≤ 1000) (hn : acc ≠ []) (neg : Bool) : Ev (fun k => merinoref01_Digits.l0 k 0 (ba acc) neg) (ba (sgn neg ++ acc)) := by
  refine Ev.step (f := fun k => merinoref01_Digits.j1 k 0 (ba acc) neg false) (fun k => ?_) (Ev.step (f := fun _ => some (ba (sgn neg ++ acc))) (fun k => ?_) (Ev.now _))
  · rw [merinoref01_Digits.l0, if_pos rfl, ba_toList]
    congr 1
    cases acc with
    | nil => exact (hn rfl).elim
    | cons a r => rfl
  · rw [merinoref01_Digits.j1, if_neg (by decide)]
    cases neg with
    | true =>
      rw [if_pos rfl, if_pos (by rw [ba_size]; omega)]
      exact congrArg some (ba_app [45] acc)
    | false => rw [if_neg (by decide)]; rfl
theorem digits_loop (neg : Bool) : ∀ (u : Nat) (x : Int) (acc : List UInt8), x.natAbs = u → -9223372036854775808 ≤ x → x ≤ 9223372036854775807 → acc.length + Lib.nDigits u ≤ 1000 → (u ≠ 0 ∨ acc = []) →
    Ev (fun k => merinoref01_Digits.l0 k x (ba acc) neg) (ba (sgn neg ++ (Lib.decDigits u ++ acc))) := by
  intro u
  induction u using Nat.strongRecOn with
  | ind u ih =>
    intro x acc hu h0 h1 hl hz
    have np := Lib.nDigits_pos u
    have first : ∀ k, merinoref01_Digits.l0 (k + 1) x (ba acc) neg = merinoref01_Digits.j1 k x (ba acc) neg true := by
      intro k
      rw [merinoref01_Digits.l0]
      by_cases x0 : x = 0
      · rw [if_pos x0, ba_toList]
        have : acc = [] := hz.resolve_left (by omega)
        subst this
        rfl
      · rw [if_neg x0]
    refine Ev.step (f := fun k => merinoref01_Digits.j1 k x (ba acc) neg true) first (Ev.step (f := fun k => merinoref01_Digits.l0 k (Int.tdiv x 10) (ba (UInt8.ofNat (48 + x.natAbs % 10) :: acc)) neg) (fun k => digits_step h0 h1 (by omega) neg k) ?_)
    have hd := tdiv_ten x
    by_cases big : u < 10
    · have t0 : Int.tdiv x 10 = 0 := by omega
      rw [t0]
      have e := digits_end (acc := UInt8.ofNat (48 + x.natAbs % 10) :: acc) (by simp; omega) (by simp) neg
      rw [Lib.decDigits_one big]
      rw [show x.natAbs % 10 = u by omega] at e ⊢
      exact e
    · have e := ih (u / 10) (by omega) (Int.tdiv x 10) (UInt8.ofNat (48 + x.natAbs % 10) :: acc) (by omega) (by omega) (by omega) (by rw [Lib.nDigits_big big] at hl; simp; omega) (Or.inl (by omega))
      rw [Lib.decDigits, dif_neg big, List.append_assoc]
      rw [show x.natAbs % 10 = u % 10 by omega] at e ⊢
      exact e
theorem nd_le {u : Nat} (h : u ≤ 18446744073709551615) : Lib.nDigits u ≤ 20 := by
  by_cases h0 : u = 0
  · subst h0; decide +kernel
  · have := Lib.numDigits_eq u (by omega) (by omega)
    split at this <;> omega
theorem digits_ok {n : Int} (h0 : -9223372036854775808 ≤ n) (h1 : n ≤ 9223372036854775807) : Ev (fun k => merinoref01_Digits.f k n) (ba (Lib.itoa n)) := by
  have e := digits_loop (decide (n < 0)) n.natAbs n [] rfl h0 h1 (by have := nd_le (u := n.natAbs) (by omega); simp; omega) (Or.inr rfl)
  have : sgn (decide (n < 0)) ++ (Lib.decDigits n.natAbs ++ []) = Lib.itoa n := by
    unfold Lib.itoa sgn
    by_cases h : n < 0
    · rw [decide_eq_true h, if_pos rfl, if_pos h]; simp
    · rw [decide_eq_false h, if_neg (by decide), if_neg h, show n.natAbs = n.toNat by omega]; simp
  rw [this] at e
  exact e
/-- The text of a fraction. -/
def txt (n d : Int) : List UInt8 := if d = 1 then Lib.itoa n else Lib.itoa n ++ 47 :: Lib.itoa d
theorem itoa_len {n : Int} (h0 : -9223372036854775808 ≤ n) (h1 : n ≤ 9223372036854775807) : (Lib.itoa n).length ≤ 21 := by
  unfold Lib.itoa
  split
  · rw [List.length_cons, Lib.decDigits_length]; have := nd_le (u := n.natAbs) (by omega); omega
  · rw [Lib.decDigits_length]; have := nd_le (u := n.toNat) (by omega); omega
theorem rtext_ok (n d : Int) : Ev (fun k => merinoref01_Text.f k n d) (if valid n d then (ba (txt n d), 0) else (ba [], 2)) := by
  unfold merinoref01_Text.f
  by_cases hv : valid n d
  · rw [if_pos hv]
    obtain ⟨h1, h2, h3, h4, h5⟩ := hv
    have Dn := digits_ok (n := n) (by omega) (by omega)
    have Dd := digits_ok (n := d) (by omega) (by omega)
    have ln := itoa_len (n := n) (by omega) (by omega)
    have ld := itoa_len (n := d) (by omega) (by omega)
    have V := rvalid_ok n d
    rw [decide_eq_true (show valid n d from ⟨h1, h2, h3, h4, h5⟩)] at V
    refine Ev.bind V ?_
    simp only [if_true]
    by_cases hd : d = 1
    · simp only [if_pos hd]
      unfold txt
      rw [if_pos hd]
      exact Ev.bind Dn (Ev.now _)
    · simp only [if_neg hd]
      refine Ev.bind Dn ?_
      simp only [if_pos (show (ba (Lib.itoa n)).size + 1 ≤ 9223372036854775807 by rw [ba_size]; omega)]
      refine Ev.bind Dd ?_
      have e : ba (Lib.itoa n) ++ (⟨#[47]⟩ : ByteArray) = ba (Lib.itoa n ++ [47]) := ba_app _ [47]
      simp only [e, if_pos (show (ba (Lib.itoa n ++ [47])).size + (ba (Lib.itoa d)).size ≤ 9223372036854775807 by rw [ba_size, ba_size]; simp; omega), ba_app]
      unfold txt
      rw [if_neg hd, List.append_assoc]
      exact Ev.now _
  · rw [if_neg hv]
    have V := rvalid_ok n d
    rw [decide_eq_false hv] at V
    refine Ev.bind V ?_
    simp only [Bool.false_eq_true, if_false]
    exact Ev.now _
end Go.Proofs.Num
