/- The reference's number and Parse: what they come to; Text has one inverse. -/
import Derived.Test.YtdjnneflpkllmaaGreatDoorTxt
import Derived.Lib.AtoiAllCases
namespace Go.Proofs.Num
open Go.RowKit Go.Proofs.YtdjnneflpkllmaaGreatDoorW.PrintWords Go.Proofs.YtdjnneflpkllmaaGreatDoorW.PrintMore Go.Proofs.YtdjnneflpkllmaaGreatDoor.Q
set_option linter.unusedVariables false
set_option linter.unusedSimpArgs false
/-! Digits -/
def isD (c : UInt8) : Bool := decide (48 ≤ c.toNat ∧ c.toNat ≤ 57)
theorem isD_iff {c : UInt8} : isD c = true ↔ 48 ≤ c.toNat ∧ c.toNat ≤ 57 := by simp [isD]
theorem digit_nat {k : Nat} (h : k < 10) : (UInt8.ofNat (48 + k)).toNat = 48 + k := by
  rw [UInt8.toNat_ofNat']; omega
theorem dec_all (u : Nat) : (Lib.decDigits u).all isD = true := by
  induction u using Nat.strongRecOn with
  | ind u ih =>
    by_cases h : u < 10
    · rw [Lib.decDigits_one h]
      simp [isD, digit_nat h]; omega
    · rw [Lib.decDigits, dif_neg h, List.all_append, ih (u / 10) (by omega)]
      have := digit_nat (k := u % 10) (by omega)
      simp [isD, this]; omega
theorem dec_ne (u : Nat) : Lib.decDigits u ≠ [] := by
  intro h
  have a := Lib.decDigits_length u
  have b := Lib.nDigits_pos u
  rw [h] at a
  simp at a; omega
theorem dec_head (u : Nat) : ∃ c r, Lib.decDigits u = c :: r ∧ isD c = true := by
  cases h : Lib.decDigits u with
  | nil => exact (dec_ne u h).elim
  | cons c r =>
    have a := dec_all u
    rw [h, List.all_cons, Bool.and_eq_true] at a
    exact ⟨c, r, rfl, a.1⟩
def numD : List UInt8 → Int → Option Int
  | [], n => some n
  | c :: r, n => if isD c then numD r (10 * n + ((c.toNat : Int) - 48)) else none
theorem numD_dec : ∀ (u : Nat) (r : List UInt8), numD (Lib.decDigits u ++ r) 0 = numD r (u : Int) := by
  intro u
  induction u using Nat.strongRecOn with
  | ind u ih =>
    intro r
    by_cases h : u < 10
    · rw [Lib.decDigits_one h]
      have e := digit_nat h
      have d : isD (UInt8.ofNat (48 + u)) = true := isD_iff.2 (by omega)
      rw [List.singleton_append, numD, if_pos d, e]
      congr 1
      omega
    · rw [Lib.decDigits, dif_neg h, List.append_assoc, ih (u / 10) (by omega)]
      have e := digit_nat (k := u % 10) (by omega)
      have d : isD (UInt8.ofNat (48 + u % 10)) = true := isD_iff.2 (by omega)
      rw [List.singleton_append, numD, if_pos d, e]
      congr 1
      omega
theorem pu_dec : ∀ (u : Nat) (r : List UInt8), u < 18446744073709551616 → Lib.parseUint10 0 (Lib.decDigits u ++ r) = Lib.parseUint10 u r := by
  intro u
  induction u using Nat.strongRecOn with
  | ind u ih =>
    intro r hu
    by_cases h : u < 10
    · rw [Lib.decDigits_one h]
      have e := digit_nat h
      rw [List.singleton_append, Lib.parseUint10, e, if_pos (by omega), if_neg (by omega), if_neg (by omega)]
      congr 1
      omega
    · rw [Lib.decDigits, dif_neg h, List.append_assoc, ih (u / 10) (by omega) _ (by omega)]
      have e := digit_nat (k := u % 10) (by omega)
      rw [List.singleton_append, Lib.parseUint10, e, if_pos (by omega), if_neg (by omega), if_neg (by omega)]
      congr 1
      omega
theorem mag_dec {u : Nat} (hu : u < 18446744073709551616) : Lib.parseMag (Lib.decDigits u) = .ok u := by
  unfold Lib.parseMag
  rw [if_neg (dec_ne u)]
  have := pu_dec u [] hu
  rw [List.append_nil] at this
  rw [this]; rfl
theorem atoi_itoa {n : Int} (h0 : -9223372036854775808 ≤ n) (h1 : n ≤ 9223372036854775807) : Lib.atoiAll (Lib.itoa n) = .ok n := by
  unfold Lib.itoa
  by_cases h : n < 0
  · rw [if_pos h, Lib.atoiAll_minus, mag_dec (by omega)]
    unfold Lib.signed
    simp only
    rw [if_neg (by omega)]
    congr 1
    omega
  · rw [if_neg h]
    obtain ⟨c, r, e, d⟩ := dec_head n.toNat
    have d2 := isD_iff.1 d
    rw [e, Lib.atoiAll_plain c r (by omega) (by omega), ← e, mag_dec (by omega)]
    unfold Lib.signless
    simp only
    rw [if_neg (by omega)]
    congr 1
    omega
theorem itoa_inj {n m : Int} (hn : -9223372036854775808 ≤ n ∧ n ≤ 9223372036854775807) (hm : -9223372036854775808 ≤ m ∧ m ≤ 9223372036854775807) (h : Lib.itoa n = Lib.itoa m) : n = m := by
  have a := atoi_itoa hn.1 hn.2
  rw [h, atoi_itoa hm.1 hm.2] at a
  injection a with a
  exact a.symm
theorem itoa_no {n : Int} {c : UInt8} (h : c ∈ Lib.itoa n) : c.toNat = 45 ∨ isD c = true := by
  unfold Lib.itoa at h
  split at h
  · rcases List.mem_cons.1 h with rfl | h
    · exact Or.inl rfl
    · exact Or.inr (List.all_eq_true.1 (dec_all _) c h)
  · exact Or.inr (List.all_eq_true.1 (dec_all _) c h)
theorem itoa_47 (n : Int) : (47 : UInt8) ∉ Lib.itoa n := fun h => by
  rcases itoa_no h with e | e
  · exact absurd e (by decide)
  · exact absurd e (by decide)
theorem itoa_ne (n : Int) : Lib.itoa n ≠ [] := by
  unfold Lib.itoa
  split
  · simp
  · exact dec_ne _
/-- Two texts cut at the first slash. -/
theorem cut_uniq : ∀ {a b x y : List UInt8}, (47 : UInt8) ∉ a → (47 : UInt8) ∉ b → a ++ 47 :: x = b ++ 47 :: y → a = b ∧ x = y
  | [], [], x, y, _, _, h => by simpa using h
  | [], c :: b, x, y, _, hb, h => by
    rw [List.nil_append, List.cons_append] at h
    injection h with h1 h2
    exact (hb (by rw [← h1]; simp)).elim
  | c :: a, [], x, y, ha, _, h => by
    rw [List.nil_append, List.cons_append] at h
    injection h with h1 h2
    exact (ha (by rw [h1]; simp)).elim
  | c :: a, d :: b, x, y, ha, hb, h => by
    rw [List.cons_append, List.cons_append] at h
    injection h with h1 h2
    obtain ⟨e1, e2⟩ := cut_uniq (fun m => ha (List.mem_cons_of_mem _ m)) (fun m => hb (List.mem_cons_of_mem _ m)) h2
    exact ⟨by rw [h1, e1], e2⟩
theorem txt_inj {n d m e : Int} (h : valid n d) (g : valid m e) (t : txt n d = txt m e) : n = m ∧ d = e := by
  obtain ⟨h1, h2, h3, h4, -⟩ := h
  obtain ⟨g1, g2, g3, g4, -⟩ := g
  unfold txt at t
  by_cases c1 : d = 1
  · rw [if_pos c1] at t
    by_cases c2 : e = 1
    · rw [if_pos c2] at t
      exact ⟨itoa_inj (by omega) (by omega) t, by omega⟩
    · rw [if_neg c2] at t
      exact (itoa_47 n (by rw [t]; simp)).elim
  · rw [if_neg c1] at t
    by_cases c2 : e = 1
    · rw [if_pos c2] at t
      exact (itoa_47 m (by rw [← t]; simp)).elim
    · rw [if_neg c2] at t
      obtain ⟨a, b⟩ := cut_uniq (itoa_47 n) (itoa_47 m) t
      exact ⟨itoa_inj (by omega) (by omega) a, itoa_inj (by omega) (by omega) b⟩
/-! number -/
def numB (l : List UInt8) : Int × Bool :=
  if (if l.head? = some 45 then l.drop 1 else l).length < 1 ∨ 17 < (if l.head? = some 45 then l.drop 1 else l).length then (0, false)
  else match numD (if l.head? = some 45 then l.drop 1 else l) 0 with
    | some m => (if l.head? = some 45 then -m else m, true)
    | none => (0, false)
theorem number_l0 {l : List UInt8} (hl : l.length ≤ 17) (neg : Bool) : ∀ (c i : Nat) (n : Int), l.length - i = c → i ≤ l.length → 0 ≤ n → n < 10 ^ i →
    Ev (fun k => merinoref01_number.l0 k (ba l) neg n (i : Int)) (match numD (l.drop i) n with | some m => (if neg then -m else m, true) | none => (0, false)) := by
  intro c
  induction c with
  | zero =>
    intro i n hc hi n0 n1
    obtain rfl : i = l.length := by omega
    have p : (10 : Int) ^ l.length ≤ 10 ^ 17 := by exact_mod_cast Nat.pow_le_pow_right (by decide) hl
    rw [List.drop_length, numD]
    refine Ev.step (f := fun _ => some (if neg then -n else n, true)) (fun k => ?_) (Ev.now _)
    rw [merinoref01_number.l0, if_neg (by rw [ba_size]; omega)]
    cases neg with
    | true => rw [if_pos rfl, w64 (by omega) (by omega)]; rfl
    | false => rw [if_neg (by decide)]; rfl
  | succ c ih =>
    intro i n hc hi n0 n1
    have p : (10 : Int) ^ i ≤ 10 ^ 16 := by exact_mod_cast Nat.pow_le_pow_right (by decide) (by omega)
    have hlt : i < l.length := by omega
    have ed : l.drop i = l[i] :: l.drop (i + 1) := List.drop_eq_getElem_cons hlt
    have eb : bt (ba l) (i : Int) = (l[i].toNat : Int) := by rw [ba_bt, List.getD_eq_getElem?_getD, List.getElem?_eq_getElem hlt]; rfl
    rw [ed, numD]
    have wi : wrap64 ((i : Int) + 1) = ((i + 1 : Nat) : Int) := by rw [w64 (by omega) (by omega)]; omega
    have hb := l[i].toNat_lt
    obtain ⟨b, hbb⟩ : ∃ b, b = l[i].toNat := ⟨_, rfl⟩
    have first : ∀ k, merinoref01_number.l0 (k + 1) (ba l) neg n (i : Int) = if (b : Int) < 48 then some (0, false) else if (b : Int) > 57 then some (0, false) else merinoref01_number.l0 k (ba l) neg (wrap64 (wrap64 (10 * n) + (((b : Int) - 48) % 256))) ((i + 1 : Nat) : Int) := by
      intro k
      rw [merinoref01_number.l0, if_pos (by rw [ba_size]; omega), if_pos (by omega), eb, ← hbb, wi]
    clear wi
    by_cases dg : isD l[i] = true
    · rw [if_pos dg]
      have d2 := isD_iff.1 dg
      rw [← hbb] at d2 ⊢
      have pe : (10 : Int) ^ (i + 1) = 10 ^ i * 10 := Int.pow_succ _ _
      have E := ih (i + 1) (10 * n + ((b : Int) - 48)) (by omega) (by omega) (by omega) (by omega)
      refine Ev.step (f := fun k => merinoref01_number.l0 k (ba l) neg (10 * n + ((b : Int) - 48)) ((i + 1 : Nat) : Int)) (fun k => ?_) E
      rw [first, if_neg (by omega), if_neg (by omega), w64 (x := 10 * n) (by omega) (by omega), show ((b : Int) - 48) % 256 = (b : Int) - 48 by omega, w64 (by omega) (by omega)]
    · rw [if_neg dg]
      refine Ev.step (f := fun _ => some (0, false)) (fun k => ?_) (Ev.now _)
      rw [first]
      have : ¬ (48 ≤ b ∧ b ≤ 57) := fun h => dg (isD_iff.2 (by rw [← hbb]; exact h))
      by_cases h1 : (b : Int) < 48
      · rw [if_pos h1]
      · rw [if_neg h1, if_pos (by omega)]
theorem number_j1 {l : List UInt8} (neg : Bool) : Ev (fun k => merinoref01_number.j1 k (ba l) neg) (if l.length < 1 ∨ 17 < l.length then (0, false) else match numD l 0 with | some m => (if neg then -m else m, true) | none => (0, false)) := by
  have bad : Ev (fun k => merinoref01_number.j2 k (ba l) neg true) (0, false) := Ev.step (f := fun _ => some (0, false)) (fun k => by rw [merinoref01_number.j2, if_pos rfl]) (Ev.now _)
  by_cases h1 : l.length < 1
  · rw [if_pos (Or.inl h1)]
    exact Ev.step (f := fun k => merinoref01_number.j2 k (ba l) neg true) (fun k => by rw [merinoref01_number.j1, if_pos (by rw [ba_size]; omega)]) bad
  · by_cases h2 : 17 < l.length
    · rw [if_pos (Or.inr h2)]
      exact Ev.step (f := fun k => merinoref01_number.j2 k (ba l) neg true) (fun k => by rw [merinoref01_number.j1, if_neg (by rw [ba_size]; omega), decide_eq_true (by rw [ba_size]; omega)]) bad
    · rw [if_neg (by omega)]
      have E := number_l0 (l := l) (by omega) neg l.length 0 0 (by omega) (by omega) (by omega) (by decide)
      rw [List.drop_zero] at E
      refine Ev.step (f := fun k => merinoref01_number.j2 k (ba l) neg false) (fun k => by rw [merinoref01_number.j1, if_neg (by rw [ba_size]; omega), decide_eq_false (by rw [ba_size]; omega)]) (Ev.step (f := fun k => merinoref01_number.l0 k (ba l) neg 0 0) (fun k => by rw [merinoref01_number.j2, if_neg (by decide)]) E)
theorem number_ok (l : List UInt8) : Ev (fun k => merinoref01_number.f k (ba l)) (numB l) := by
  unfold merinoref01_number.f numB
  cases l with
  | nil =>
    have e : ¬ ((ba []).size : Int) > 0 := by rw [ba_size]; simp
    simp only [if_neg e]
    refine Ev.step (f := fun k => merinoref01_number.j1 k (ba []) false) (fun k => by rw [merinoref01_number.j0, if_neg (by decide)]) ?_
    exact number_j1 false
  | cons c r =>
    have e1 : ((ba (c :: r)).size : Int) > 0 := by rw [ba_size, List.length_cons]; omega
    have e2 : bt (ba (c :: r)) 0 = (c.toNat : Int) := ba_bt (c :: r) 0
    simp only [if_pos e1, if_pos (show 0 < ((ba (c :: r)).size : Int) from e1), e2]
    by_cases h : c = 45
    · subst h
      have e3 : (((45 : UInt8).toNat : Int) == 45) = true := by decide
      simp only [e3, List.head?_cons, if_true, List.drop_one, List.tail_cons]
      have e4 : (ba (45 :: r)).extract 1 (ba (45 :: r)).size = ba r := by
        rw [ba_ext, ba_size]
        congr 1
        simp
      refine Ev.step (f := fun k => merinoref01_number.j1 k (ba r) true) (fun k => by rw [merinoref01_number.j0, if_pos rfl, if_pos (by rw [ba_size, List.length_cons]; omega), e4]) ?_
      exact number_j1 true
    · have e3 : ((c.toNat : Int) == 45) = false := beq_eq_false_iff_ne.mpr (fun g => h (UInt8.toNat_inj.1 (by show c.toNat = 45; omega)))
      have e5 : ¬ (some c = some (45 : UInt8)) := fun g => h (Option.some.inj g)
      simp only [e3, List.head?_cons, eq_false e5, if_false]
      refine Ev.step (f := fun k => merinoref01_number.j1 k (ba (c :: r)) false) (fun k => by rw [merinoref01_number.j0, if_neg (by decide)]) ?_
      exact number_j1 (l := c :: r) false
theorem nd_pow {u k : Nat} (h : u < 10 ^ k) (hk : 1 ≤ k) : Lib.nDigits u ≤ k := by
  induction k generalizing u with
  | zero => omega
  | succ k ih =>
    by_cases s : u < 10
    · rw [Lib.nDigits_small s]; omega
    · rw [Lib.nDigits_big s]
      have hk1 : 1 ≤ k := by
        rcases Nat.eq_zero_or_pos k with z | z
        · subst z; simp at h; omega
        · exact z
      have := ih (u := u / 10) (by rw [Nat.pow_succ] at h; omega) hk1
      omega
theorem number_itoa {n : Int} (h0 : -100000000000000000 < n) (h1 : n < 100000000000000000) : numB (Lib.itoa n) = (n, true) := by
  have hd : ∀ u : Nat, u < 100000000000000000 → numD (Lib.decDigits u) 0 = some (u : Int) ∧ 1 ≤ (Lib.decDigits u).length ∧ (Lib.decDigits u).length ≤ 17 := by
    intro u hu
    have a := numD_dec u []
    rw [List.append_nil] at a
    refine ⟨a, ?_, ?_⟩
    · rw [Lib.decDigits_length]; exact Lib.nDigits_pos u
    · rw [Lib.decDigits_length]; exact nd_pow (k := 17) (by omega) (by decide)
  unfold numB Lib.itoa
  by_cases h : n < 0
  · obtain ⟨a, b, c⟩ := hd n.natAbs (by omega)
    simp only [if_pos h, List.head?_cons, if_true, List.drop_one, List.tail_cons]
    rw [if_neg (by omega), a]
    simp only
    congr 1
    omega
  · obtain ⟨a, b, c⟩ := hd n.toNat (by omega)
    obtain ⟨x, r, e, d⟩ := dec_head n.toNat
    have e5 : ¬ ((Lib.decDigits n.toNat).head? = some (45 : UInt8)) := by
      rw [e, List.head?_cons]
      intro g
      rw [Option.some.inj g] at d
      exact absurd d (by decide)
    simp only [if_neg h, if_neg e5]
    rw [if_neg (by omega), a]
    simp only
    congr 1
    omega
end Go.Proofs.Num
