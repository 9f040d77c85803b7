/- The reference's Parse: the one fraction of which the string is the Text, or none. -/
import Derived.Test.YtdjnneflpkllmaaGreatDoorTxt2
import Derived.Lib.IndexMore
namespace Go.Proofs.Num
open Go.RowKit Go.Proofs.YtdjnneflpkllmaaGreatDoorW.PrintWords Go.Proofs.YtdjnneflpkllmaaGreatDoorW.PrintMore Go.Proofs.YtdjnneflpkllmaaGreatDoor.Q
set_option linter.unusedVariables false
set_option linter.unusedSimpArgs false
/-- What both Parses return. -/
def ParseSaid (l : List UInt8) (v : Int × Int × Int) : Prop :=
  (∀ n d, valid n d → txt n d = l → v = (n, d, 0)) ∧ ((∀ n d, valid n d → txt n d ≠ l) → v = (0, 0, 6))
theorem ParseSaid.one {l : List UInt8} {u v : Int × Int × Int} (h : ParseSaid l u) (g : ParseSaid l v) : u = v := by
  by_cases e : ∃ n d, valid n d ∧ txt n d = l
  · obtain ⟨n, d, a, b⟩ := e
    rw [h.1 n d a b, g.1 n d a b]
  · have no : ∀ n d, valid n d → txt n d ≠ l := fun n d a b => e ⟨n, d, a, b⟩
    rw [h.2 no, g.2 no]
theorem ParseSaid.found {l : List UInt8} {n d : Int} (h : valid n d) (t : txt n d = l) : ParseSaid l (n, d, 0) :=
  ⟨fun m e g u => by obtain ⟨a, b⟩ := txt_inj h g (t.trans u.symm); rw [a, b], fun no => (no n d h t).elim⟩
theorem ParseSaid.none {l : List UInt8} (no : ∀ n d, valid n d → txt n d ≠ l) : ParseSaid l (0, 0, 6) := ⟨fun n d h t => (no n d h t).elim, fun _ => rfl⟩
theorem valid_small {n d : Int} (h : valid n d) : (-100000000000000000 < n ∧ n < 100000000000000000) ∧ (-100000000000000000 < d ∧ d < 100000000000000000) ∧ (Lib.itoa n).length ≤ 21 := by
  obtain ⟨h1, h2, h3, h4, -⟩ := h
  exact ⟨by omega, by omega, itoa_len (by omega) (by omega)⟩
/-- The cut of a Text. -/
theorem txt_cut {n d : Int} (hd : valid n d) {l : List UInt8} (h : txt n d = l) : (Lib.itoa n).length ≤ l.length ∧ l.take (Lib.itoa n).length = Lib.itoa n ∧ ((Lib.itoa n).length < l.length → d ≠ 1 ∧ l.drop ((Lib.itoa n).length + 1) = Lib.itoa d) ∧ (¬ (Lib.itoa n).length < l.length → d = 1) := by
  unfold txt at h
  by_cases c : d = 1
  · rw [if_pos c] at h
    subst h
    exact ⟨Nat.le_refl _, List.take_length, fun g => absurd g (Nat.lt_irrefl _), fun _ => c⟩
  · rw [if_neg c] at h
    subst h
    refine ⟨by simp, by simp, fun _ => ⟨c, ?_⟩, fun g => absurd (by simp) g⟩
    rw [List.drop_append, List.drop_eq_nil_of_le (by omega), show (Lib.itoa n).length + 1 - (Lib.itoa n).length = 1 by omega]
    rfl
theorem rparse_l0 {l : List UInt8} (hlen : l.length ≤ 9000000000000000000) : ∀ (c i : Nat), 40 - i = c → i ≤ 40 → (∀ n d, valid n d → txt n d = l → i ≤ (Lib.itoa n).length) →
    ∃ v, Ev (fun k => merinoref01_Parse.l0 k (ba l) (i : Int)) v ∧ ParseSaid l v := by
  intro c
  induction c with
  | zero =>
    intro i hc hi H
    obtain rfl : i = 40 := by omega
    refine ⟨(0, 0, 6), ?_, ParseSaid.none (fun n d h t => by have := H n d h t; have := (valid_small h).2.2; omega)⟩
    refine Ev.step (f := fun k => merinoref01_Parse.j1 k (ba l) ((40 : Nat) : Int) false) (fun k => ?_) (Ev.step (f := fun _ => some (0, 0, 6)) (fun k => by rw [merinoref01_Parse.j1, if_neg (by decide)]) (Ev.now _))
    rw [merinoref01_Parse.l0]
    split
    · rw [decide_eq_false (by omega)]
    · rfl
  | succ c ih =>
    intro i hc hi H
    by_cases hin : i ≤ l.length
    · have more : (∀ n d, valid n d → txt n d = l → i ≠ (Lib.itoa n).length) → ∃ v, Ev (fun k => merinoref01_Parse.l0 k (ba l) ((i + 1 : Nat) : Int)) v ∧ ParseSaid l v := fun g =>
        ih (i + 1) (by omega) (by omega) (fun n d h t => by have := H n d h t; have := g n d h t; omega)
      have w1 : wrap64 ((i : Int) + 1) = ((i + 1 : Nat) : Int) := by rw [w64 (by omega) (by omega)]; omega
      have e1 : (ba l).extract 0 i = ba (l.take i) := by rw [ba_ext]; simp
      have N1 := number_ok (l.take i)
      have start : ∀ (v1 : Int × Bool) (v2 : Int × Bool), numB (l.take i) = v1 → (if i < l.length then numB (l.drop (i + 1)) else (1, true)) = v2 → ∀ u, Ev (fun k => merinoref01_Parse.j2 k (ba l) (i : Int) v1.1 v1.2 v2.1 v2.2) u → Ev (fun k => merinoref01_Parse.l0 k (ba l) (i : Int)) u := by
        intro v1 v2 hv1 hv2 u hu
        rw [hv1] at N1
        refine Ev.step (f := fun k => merinoref01_Parse.j1 k (ba l) (i : Int) true) (fun k => by rw [merinoref01_Parse.l0, if_pos (by rw [ba_size]; omega), decide_eq_true (by omega)]) ?_
        by_cases hlt : i < l.length
        · rw [if_pos hlt] at hv2
          have e2 : (ba l).extract (i + 1) (ba l).size = ba (l.drop (i + 1)) := by
            rw [ba_ext, ba_size]
            congr 1
            rw [List.take_of_length_le (by simp)]
          have N2 := number_ok (l.drop (i + 1))
          rw [hv2] at N2
          refine Ev.step (f := fun k => (merinoref01_number.f k (ba (l.take i))).bind fun b1 => (merinoref01_number.f k (ba (l.drop (i + 1)))).bind fun b2 => merinoref01_Parse.j2 k (ba l) (i : Int) b1.1 b1.2 b2.1 b2.2) (fun k => ?_) (Ev.bind N1 (Ev.bind N2 hu))
          rw [merinoref01_Parse.j1, if_pos rfl, if_pos (by omega), if_pos (by rw [ba_size]; omega), Int.toNat_natCast, e1]
          simp only [w1, Int.toNat_natCast, if_pos (show (i : Int) < ((ba l).size : Int) by rw [ba_size]; omega), if_pos (show (0 : Int) ≤ ((i + 1 : Nat) : Int) by omega), if_pos (show ((i + 1 : Nat) : Int) ≤ ((ba l).size : Int) by rw [ba_size]; omega), e2]
        · rw [if_neg hlt] at hv2
          subst hv2
          refine Ev.step (f := fun k => (merinoref01_number.f k (ba (l.take i))).bind fun b1 => merinoref01_Parse.j2 k (ba l) (i : Int) b1.1 b1.2 1 true) (fun k => ?_) (Ev.bind N1 hu)
          rw [merinoref01_Parse.j1, if_pos rfl, if_pos (by omega), if_pos (by rw [ba_size]; omega), Int.toNat_natCast, e1]
          simp only [if_neg (show ¬ (i : Int) < ((ba l).size : Int) by rw [ba_size]; omega)]
      have skip : ∀ n d u, Ev (fun k => merinoref01_Parse.l0 k (ba l) ((i + 1 : Nat) : Int)) u → Ev (fun k => merinoref01_Parse.j3 k (ba l) (i : Int) n d true) u := fun n d u hu =>
        Ev.step (f := fun k => merinoref01_Parse.l0 k (ba l) ((i + 1 : Nat) : Int)) (fun k => by rw [merinoref01_Parse.j3, if_pos rfl, w1]) hu
      obtain ⟨⟨n, b1⟩, hv1⟩ : ∃ v, numB (l.take i) = v := ⟨_, rfl⟩
      obtain ⟨⟨d, b2⟩, hv2⟩ : ∃ v, (if i < l.length then numB (l.drop (i + 1)) else (1, true)) = v := ⟨_, rfl⟩
      have at_cut : ∀ m e, valid m e → txt m e = l → i = (Lib.itoa m).length → n = m ∧ b1 = true ∧ d = e ∧ b2 = true := by
        intro m e h t hi2
        obtain ⟨p1, p2, p3, p4⟩ := txt_cut h t
        obtain ⟨⟨s1, s2⟩, ⟨s3, s4⟩, -⟩ := valid_small h
        rw [hi2, p2, number_itoa s1 s2] at hv1
        injection hv1 with q1 q2
        by_cases hlt : i < l.length
        · rw [if_pos hlt, hi2, (p3 (by omega)).2, number_itoa s3 s4] at hv2
          injection hv2 with q3 q4
          exact ⟨q1.symm, q2.symm, q3.symm, q4.symm⟩
        · rw [if_neg hlt] at hv2
          injection hv2 with q3 q4
          exact ⟨q1.symm, q2.symm, by have := p4 (by omega); omega, q4.symm⟩
      have go := start _ _ hv1 hv2
      by_cases ok : b1 = true ∧ b2 = true
      · obtain ⟨rfl, rfl⟩ := ok
        have T := rtext_ok n d
        by_cases hv : valid n d
        · rw [if_pos hv] at T
          by_cases ht : txt n d = l
          · refine ⟨(n, d, 0), go _ ?_, ParseSaid.found hv ht⟩
            refine Ev.step (f := fun k => merinoref01_Parse.j3 k (ba l) (i : Int) n d false) (fun k => by rw [merinoref01_Parse.j2, if_pos rfl]; rfl) ?_
            refine Ev.step (f := fun k => (merinoref01_Text.f k n d).bind fun b => (if b.2 = 0 then (if b.1.toList = (ba l).toList then (some (n, d, 0)) else (merinoref01_Parse.l0 k (ba l) (wrap64 ((i : Int) + 1)))) else (merinoref01_Parse.l0 k (ba l) (wrap64 ((i : Int) + 1))))) (fun k => by rw [merinoref01_Parse.j3, if_neg (by decide)]) (Ev.bind T ?_)
            simp only [if_true, ht]
            exact Ev.now _
          · obtain ⟨u, Eu, hu⟩ := more (fun m e h t g => by
              obtain ⟨rfl, -, rfl, -⟩ := at_cut m e h t g
              exact ht t)
            refine ⟨u, go _ ?_, hu⟩
            refine Ev.step (f := fun k => merinoref01_Parse.j3 k (ba l) (i : Int) n d false) (fun k => by rw [merinoref01_Parse.j2, if_pos rfl]; rfl) ?_
            refine Ev.step (f := fun k => (merinoref01_Text.f k n d).bind fun b => (if b.2 = 0 then (if b.1.toList = (ba l).toList then (some (n, d, 0)) else (merinoref01_Parse.l0 k (ba l) ((i + 1 : Nat) : Int))) else (merinoref01_Parse.l0 k (ba l) ((i + 1 : Nat) : Int)))) (fun k => by rw [merinoref01_Parse.j3, if_neg (by decide), w1]) (Ev.bind T ?_)
            simp only [if_true, ba_toList, if_neg ht]
            exact Eu
        · rw [if_neg hv] at T
          obtain ⟨u, Eu, hu⟩ := more (fun m e h t g => by
            obtain ⟨rfl, -, rfl, -⟩ := at_cut m e h t g
            exact hv h)
          refine ⟨u, go _ ?_, hu⟩
          refine Ev.step (f := fun k => merinoref01_Parse.j3 k (ba l) (i : Int) n d false) (fun k => by rw [merinoref01_Parse.j2, if_pos rfl]; rfl) ?_
          refine Ev.step (f := fun k => (merinoref01_Text.f k n d).bind fun b => (if b.2 = 0 then (if b.1.toList = (ba l).toList then (some (n, d, 0)) else (merinoref01_Parse.l0 k (ba l) ((i + 1 : Nat) : Int))) else (merinoref01_Parse.l0 k (ba l) ((i + 1 : Nat) : Int)))) (fun k => by rw [merinoref01_Parse.j3, if_neg (by decide), w1]) (Ev.bind T ?_)
          simp only [show ¬ ((2 : Int) = 0) by decide, if_false]
          exact Eu
      · obtain ⟨u, Eu, hu⟩ := more (fun m e h t g => by
          obtain ⟨-, g1, -, g2⟩ := at_cut m e h t g
          exact ok ⟨g1, g2⟩)
        refine ⟨u, go _ ?_, hu⟩
        refine Ev.step (f := fun k => merinoref01_Parse.j3 k (ba l) (i : Int) n d true) (fun k => ?_) (skip n d u Eu)
        rw [merinoref01_Parse.j2]
        cases b1 with
        | true =>
          cases b2 with
          | true => exact (ok ⟨rfl, rfl⟩).elim
          | false => rw [if_pos rfl]; rfl
        | false => rw [if_neg (show ¬ ((n, false).2 = true) from fun h => absurd h Bool.false_ne_true)]
    · refine ⟨(0, 0, 6), ?_, ParseSaid.none (fun n d h t => by have := H n d h t; have := (txt_cut h t).1; omega)⟩
      exact Ev.step (f := fun k => merinoref01_Parse.j1 k (ba l) (i : Int) false) (fun k => by rw [merinoref01_Parse.l0, if_neg (by rw [ba_size]; omega)]) (Ev.step (f := fun _ => some (0, 0, 6)) (fun k => by rw [merinoref01_Parse.j1, if_neg (by decide)]) (Ev.now _))
theorem rparse_ok {l : List UInt8} (hlen : l.length ≤ 9000000000000000000) : ∃ v, Ev (fun k => merinoref01_Parse.f k (ba l)) v ∧ ParseSaid l v :=
  rparse_l0 hlen 40 0 rfl (by omega) (fun _ _ _ _ => Nat.zero_le _)
/-! Cut at a byte -/
theorem index_hit {c : UInt8} : ∀ {a b : List UInt8}, c ∉ a → Lib.index (a ++ c :: b) [c] = (a.length : Int)
  | [], b, _ => by simp [Lib.index]
  | x :: a, b, h => by
    have ih := index_hit (a := a) (b := b) (fun m => h (List.mem_cons_of_mem _ m))
    have hx : ¬ (c = x) := fun e => h (by rw [e]; simp)
    rw [List.cons_append, Lib.index, if_neg (by simp [hx]), ih, if_neg (by simp), List.length_cons]
    omega
theorem index_miss {c : UInt8} : ∀ {a : List UInt8}, c ∉ a → Lib.index a [c] = -1
  | [], _ => by simp [Lib.index]
  | x :: a, h => by
    have ih := index_miss (a := a) (fun m => h (List.mem_cons_of_mem _ m))
    have hx : ¬ (c = x) := fun e => h (by rw [e]; simp)
    rw [Lib.index, if_neg (by simp [hx]), ih, if_pos (by decide)]
theorem cut_hit {c : UInt8} {a b : List UInt8} (h : c ∉ a) : Lib.cut (a ++ c :: b) [c] = (a, b, true) := by
  unfold Lib.cut
  rw [index_hit h, if_pos (by omega), Int.toNat_natCast]
  simp
theorem cut_miss {c : UInt8} {a : List UInt8} (h : c ∉ a) : Lib.cut a [c] = (a, [], false) := by
  unfold Lib.cut
  rw [index_miss h, if_neg (by decide)]
theorem cut_cases (c : UInt8) : ∀ s : List UInt8, (∃ a b, c ∉ a ∧ s = a ++ c :: b) ∨ c ∉ s
  | [] => Or.inr (by simp)
  | x :: s => by
    by_cases e : x = c
    · exact Or.inl ⟨[], s, by simp, by rw [e]; rfl⟩
    · rcases cut_cases c s with ⟨a, b, h, rfl⟩ | h
      · exact Or.inl ⟨x :: a, b, fun m => by rcases List.mem_cons.1 m with g | g; exact e g.symm; exact h g, rfl⟩
      · exact Or.inr (fun m => by rcases List.mem_cons.1 m with g | g; exact e g.symm; exact h g)
end Go.Proofs.Num
