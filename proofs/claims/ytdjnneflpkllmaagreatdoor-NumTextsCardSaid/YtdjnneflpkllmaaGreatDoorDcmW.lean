/- num.Decimal, walked. -/
import Derived.Test.YtdjnneflpkllmaaGreatDoorDcm
namespace Go.Proofs.Num
open Go.RowKit Go.Proofs.YtdjnneflpkllmaaGreatDoorW.PrintWords Go.Proofs.YtdjnneflpkllmaaGreatDoorW.PrintLast Go.Proofs.YtdjnneflpkllmaaGreatDoorW.PrintMore Go.Proofs.YtdjnneflpkllmaaGreatDoor.Q
set_option linter.unusedVariables false
set_option linter.unusedSimpArgs false
theorem repeat_zero (c : Nat) : Lib.repeatL [48] c = List.replicate c 48 := by
  induction c with
  | zero => rfl
  | succ c ih => rw [Lib.repeatL, ih, List.replicate_succ]; rfl
theorem repeat_c (c : Nat) (hc : c ≤ 1000) (w : World) : Calls Tryz.prog 29 #[.string ⟨#[48]⟩, .int .i64 (c : Int)] w fun e w' => e = .returned (.string (ba (List.replicate c 48))) ∧ Below w.heap.size w w' := by
  refine (Tryz.strings_Repeat ⟨#[48]⟩ c w (by omega) (by show 1 * c ≤ _; omega)).mono ?_
  rintro e w' ⟨rfl, hb⟩
  refine ⟨?_, hb⟩
  rw [← repeat_zero]; rfl
set_option maxHeartbeats 6400000 in
set_option maxRecDepth 100000 in
theorem decimal_any {n : Int} (h0 : -9223372036854775808 ≤ n) (h1 : n ≤ 9223372036854775807) (p : Int) (w : World) (hE : Env w) : Calls Tryz.prog 10 #[.int .i64 n, .int .i64 p] w fun e w' => e = .returned (.tuple #[.string (ba (decV n p).1), .int .i64 (decV n p).2]) ∧ Below w.heap.size w w' := by
  unfold decV
  by_cases c1 : p < 0
  · rw [if_pos (Or.inl c1)]
    clear hE
    go_enter Tryz.func10, Tryz.ntmps10
    go_wp2
    go_ret2
    exact ⟨rfl, Below.refl _ _⟩
  · by_cases c2 : p > 9
    · rw [if_pos (Or.inr c2)]
      clear hE
      have d1 : decide (p > 9) = true := decide_eq_true c2
      go_enter Tryz.func10, Tryz.ntmps10
      go_wp2
      go_ret2
      exact ⟨rfl, Below.refl _ _⟩
    · rw [if_neg (by omega)]
      obtain ⟨q, rfl⟩ : ∃ q : Nat, p = (q : Int) := ⟨p.toNat, by omega⟩
      have hq : q ≤ 9 := by omega
      rw [Int.toNat_natCast]
      have ln := nd_le (u := n.natAbs) (by omega)
      rw [← Lib.decDigits_length] at ln
      have K1 := Aside0.mk (size_ok h0 h1)
      have K2 : Aside0 (∀ y, Below w.heap.size w y → Calls Tryz.prog 27 #[.int .u64 (n.natAbs : Int), .int .i64 10] y fun e w' => e = .returned (.string (ba (Lib.decDigits n.natAbs))) ∧ Below y.heap.size y w') := ⟨fun y hy => Txt.formatUint n.natAbs (by omega) y (hE.below hy).tab⟩
      unfold decS
      have lD1 : 1 ≤ (Lib.decDigits n.natAbs).length := by rw [Lib.decDigits_length]; exact Lib.nDigits_pos _
      obtain ⟨D, hD⟩ : ∃ D, D = Lib.decDigits n.natAbs := ⟨_, rfl⟩
      rw [← hD] at ln lD1 K2 ⊢
      have hs1 : (ba D).size = D.length := ba_size D
      obtain ⟨s1, e1⟩ : ∃ s, s = ba D := ⟨_, rfl⟩
      rw [← e1] at hs1 K2
      obtain ⟨L, hL⟩ : ∃ L, L = padded q D := ⟨_, rfl⟩
      have lL := padded_len q D
      rw [← hL] at lL ⊢
      have hs2 : (ba L).size = L.length := ba_size L
      obtain ⟨s2, e2⟩ : ∃ s, s = ba L := ⟨_, rfl⟩
      rw [← e2] at hs2
      -- up to the padded text
      have part : (Code.wp Tryz.prog Code.skip (fun _ _ _ => True) ⟨#[], []⟩ w) → True := fun _ => trivial
      clear part
      have nd : decide ((q : Int) < 0) = false := decide_eq_false (by omega)
      have n9 : decide ((q : Int) > 9) = false := decide_eq_false (by omega)
      clear hE hD
      by_cases hA : D.length ≤ q
      · skip
        have a1 : ((D.length : Nat) : Int) ≤ (q : Int) := by omega
        obtain ⟨c, hc⟩ : ∃ c : Nat, (q : Int) + 1 - (D.length : Int) = (c : Int) := ⟨q + 1 - D.length, by omega⟩
        have KR : Aside0 (∀ y, Calls Tryz.prog 29 #[.string ⟨#[48]⟩, .int .i64 (c : Int)] y fun e w' => e = .returned (.string (ba (List.replicate c 48))) ∧ Below y.heap.size y w') := ⟨fun y => repeat_c c (by omega) y⟩
        have er : ba (List.replicate c 48) ++ s1 = s2 := by
          rw [e1, ba_app, e2, hL]
          unfold padded
          rw [show q + 1 - D.length = c by omega]
        have hr : (ba (List.replicate c 48)).size = c := by rw [ba_size, List.length_replicate]
        obtain ⟨r, hrr⟩ : ∃ r, r = ba (List.replicate c 48) := ⟨_, rfl⟩
        rw [← hrr] at KR er hr
        have sum : c + D.length ≤ 9223372036854775807 := by omega
        clear hrr e1 hL
        by_cases hz : q = 0
        · by_cases hn : n < 0
          · omega
          · omega
        · by_cases hn : n < 0
          · have hz0 : (0 : Int) < (q : Int) := by omega
            obtain ⟨m, hm⟩ : ∃ m : Nat, (L.length : Int) - (q : Int) = (m : Int) := ⟨L.length - q, by omega⟩
            have hmn : L.length - q = m := by omega
            have xA : s2.extract 0 m = ba (L.take m) := by rw [e2, ba_ext]; simp
            have xB : s2.extract m L.length = ba (L.drop m) := by rw [e2, ba_ext, List.take_of_length_le (by simp)]
            have zA : (ba (L.take m)).size = m := by rw [ba_size, List.length_take]; omega
            have zB : (ba (L.drop m)).size = q := by rw [ba_size, List.length_drop]; omega
            have ej : (ba (L.take m) ++ (⟨#[46]⟩ : ByteArray)) ++ ba (L.drop m) = ba (point q L) := by
              rw [show (⟨#[46]⟩ : ByteArray) = ba [46] from rfl, ba_app, ba_app]
              unfold point
              rw [if_neg hz, hmn, List.append_assoc]; rfl
            obtain ⟨sA, hA2⟩ : ∃ s, s = ba (L.take m) := ⟨_, rfl⟩
            obtain ⟨sB, hB2⟩ : ∃ s, s = ba (L.drop m) := ⟨_, rfl⟩
            rw [← hA2] at xA zA ej
            rw [← hB2] at xB zB ej
            have zp : (ba (point q L)).size = m + 1 + q := by rw [← ej, ByteArray.size_append, ByteArray.size_append, zA, zB]; rfl
            obtain ⟨s3, h3⟩ : ∃ s, s = ba (point q L) := ⟨_, rfl⟩
            rw [← h3] at ej zp
            have q1 : m + 1 ≤ 9223372036854775807 := by omega
            have q2 : m + 1 + q ≤ 9223372036854775807 := by omega
            have b1 : (0 : Int) ≤ (m : Int) := by omega
            have b2 : (m : Int) ≤ (L.length : Int) := by omega
            have q3 : 1 + (m + 1 + q) ≤ 9223372036854775807 := by omega
            have es : (⟨#[45]⟩ : ByteArray) ++ s3 = ba (sgn true ++ point q L) := by rw [h3, show (⟨#[45]⟩ : ByteArray) = ba [45] from rfl, ba_app]; rfl
            clear h3 hA2 hB2 hmn hz
            rw [decide_eq_true hn, ← es]
            have hn1 : decide (n < 0) = true := decide_eq_true hn
            clear es e2 lL ln lD1
            clear hA
            go_enter Tryz.func10, Tryz.ntmps10
            go_upto_region 6 with (first
              | (go_at_call 28; with_reducible refine (num_size.calls n _ _ K1.out).mono ?_; rintro e y1 ⟨rfl, hb⟩; have HB1 := Aside0.mk (show Below w.heap.size w y1 from hb.below); clear hb)
              | (go_at_call 27; with_reducible refine (K2.out _ HB1.out).mono ?_; rintro e y2 ⟨rfl, hb⟩; have HB2 := Aside0.mk (below_step HB1.out hb); clear hb)
              | (go_at_call 29; with_reducible refine (KR.out _).mono ?_; rintro e y3 ⟨rfl, hb⟩; have HB3 := Aside0.mk (below_step HB2.out hb); clear hb))
            go_upto_region 7 with (fail)
            go_quiet (fail)
            go_wp2
            go_ret2
            exact ⟨rfl, below_step HB3.out (drew_below _ _)⟩
          · have hz0 : (0 : Int) < (q : Int) := by omega
            obtain ⟨m, hm⟩ : ∃ m : Nat, (L.length : Int) - (q : Int) = (m : Int) := ⟨L.length - q, by omega⟩
            have hmn : L.length - q = m := by omega
            have xA : s2.extract 0 m = ba (L.take m) := by rw [e2, ba_ext]; simp
            have xB : s2.extract m L.length = ba (L.drop m) := by rw [e2, ba_ext, List.take_of_length_le (by simp)]
            have zA : (ba (L.take m)).size = m := by rw [ba_size, List.length_take]; omega
            have zB : (ba (L.drop m)).size = q := by rw [ba_size, List.length_drop]; omega
            have ej : (ba (L.take m) ++ (⟨#[46]⟩ : ByteArray)) ++ ba (L.drop m) = ba (point q L) := by
              rw [show (⟨#[46]⟩ : ByteArray) = ba [46] from rfl, ba_app, ba_app]
              unfold point
              rw [if_neg hz, hmn, List.append_assoc]; rfl
            obtain ⟨sA, hA2⟩ : ∃ s, s = ba (L.take m) := ⟨_, rfl⟩
            obtain ⟨sB, hB2⟩ : ∃ s, s = ba (L.drop m) := ⟨_, rfl⟩
            rw [← hA2] at xA zA ej
            rw [← hB2] at xB zB ej
            have zp : (ba (point q L)).size = m + 1 + q := by rw [← ej, ByteArray.size_append, ByteArray.size_append, zA, zB]; rfl
            obtain ⟨s3, h3⟩ : ∃ s, s = ba (point q L) := ⟨_, rfl⟩
            rw [← h3] at ej zp
            have q1 : m + 1 ≤ 9223372036854775807 := by omega
            have q2 : m + 1 + q ≤ 9223372036854775807 := by omega
            have b1 : (0 : Int) ≤ (m : Int) := by omega
            have b2 : (m : Int) ≤ (L.length : Int) := by omega
            have es : s3 = ba (sgn false ++ point q L) := by rw [h3]; rfl
            clear h3 hA2 hB2 hmn hz
            rw [decide_eq_false hn, ← es]
            have hn1 : decide (n < 0) = false := decide_eq_false hn
            clear es e2 lL ln lD1
            clear hA
            go_enter Tryz.func10, Tryz.ntmps10
            go_upto_region 6 with (first
              | (go_at_call 28; with_reducible refine (num_size.calls n _ _ K1.out).mono ?_; rintro e y1 ⟨rfl, hb⟩; have HB1 := Aside0.mk (show Below w.heap.size w y1 from hb.below); clear hb)
              | (go_at_call 27; with_reducible refine (K2.out _ HB1.out).mono ?_; rintro e y2 ⟨rfl, hb⟩; have HB2 := Aside0.mk (below_step HB1.out hb); clear hb)
              | (go_at_call 29; with_reducible refine (KR.out _).mono ?_; rintro e y3 ⟨rfl, hb⟩; have HB3 := Aside0.mk (below_step HB2.out hb); clear hb))
            go_upto_region 7 with (fail)
            go_quiet (fail)
            go_wp2
            go_ret2
            exact ⟨rfl, below_step HB3.out (drew_below _ _)⟩
      · skip
        have a1 : ¬ ((D.length : Nat) : Int) ≤ (q : Int) := by omega
        have eLD : L = D := by
          rw [hL]
          unfold padded
          rw [show q + 1 - D.length = 0 by omega]
          rfl
        clear hL
        subst eLD
        have er : s2 = s1 := by rw [e1, e2]
        subst er
        clear e1 hA hs1
        by_cases hz : q = 0
        · by_cases hn : n < 0
          · have nz : ¬ (0 : Int) < (q : Int) := by omega
            have ep : point q L = L := by unfold point; rw [if_pos hz]
            rw [ep]
            clear ep hz
            have es : (⟨#[45]⟩ : ByteArray) ++ s2 = ba (sgn true ++ L) := by rw [e2, show (⟨#[45]⟩ : ByteArray) = ba [45] from rfl, ba_app]; rfl
            have q1 : 1 + L.length ≤ 9223372036854775807 := by omega
            rw [decide_eq_true hn, ← es]
            have hn1 : decide (n < 0) = true := decide_eq_true hn
            clear es e2 lL ln lD1
            go_enter Tryz.func10, Tryz.ntmps10
            go_upto_region 6 with (first
              | (go_at_call 28; with_reducible refine (num_size.calls n _ _ K1.out).mono ?_; rintro e y1 ⟨rfl, hb⟩; have HB1 := Aside0.mk (show Below w.heap.size w y1 from hb.below); clear hb)
              | (go_at_call 27; with_reducible refine (K2.out _ HB1.out).mono ?_; rintro e y2 ⟨rfl, hb⟩; have HB2 := Aside0.mk (below_step HB1.out hb); clear hb))
            go_wp2
            go_ret2
            exact ⟨rfl, HB2.out⟩
          · have nz : ¬ (0 : Int) < (q : Int) := by omega
            have ep : point q L = L := by unfold point; rw [if_pos hz]
            rw [ep]
            clear ep hz
            have es : s2 = ba (sgn false ++ L) := by rw [e2]; rfl
            rw [decide_eq_false hn, ← es]
            have hn1 : decide (n < 0) = false := decide_eq_false hn
            clear es e2 lL ln lD1
            go_enter Tryz.func10, Tryz.ntmps10
            go_upto_region 6 with (first
              | (go_at_call 28; with_reducible refine (num_size.calls n _ _ K1.out).mono ?_; rintro e y1 ⟨rfl, hb⟩; have HB1 := Aside0.mk (show Below w.heap.size w y1 from hb.below); clear hb)
              | (go_at_call 27; with_reducible refine (K2.out _ HB1.out).mono ?_; rintro e y2 ⟨rfl, hb⟩; have HB2 := Aside0.mk (below_step HB1.out hb); clear hb))
            go_wp2
            go_ret2
            exact ⟨rfl, HB2.out⟩
        · by_cases hn : n < 0
          · have hz0 : (0 : Int) < (q : Int) := by omega
            obtain ⟨m, hm⟩ : ∃ m : Nat, (L.length : Int) - (q : Int) = (m : Int) := ⟨L.length - q, by omega⟩
            have hmn : L.length - q = m := by omega
            have xA : s2.extract 0 m = ba (L.take m) := by rw [e2, ba_ext]; simp
            have xB : s2.extract m L.length = ba (L.drop m) := by rw [e2, ba_ext, List.take_of_length_le (by simp)]
            have zA : (ba (L.take m)).size = m := by rw [ba_size, List.length_take]; omega
            have zB : (ba (L.drop m)).size = q := by rw [ba_size, List.length_drop]; omega
            have ej : (ba (L.take m) ++ (⟨#[46]⟩ : ByteArray)) ++ ba (L.drop m) = ba (point q L) := by
              rw [show (⟨#[46]⟩ : ByteArray) = ba [46] from rfl, ba_app, ba_app]
              unfold point
              rw [if_neg hz, hmn, List.append_assoc]; rfl
            obtain ⟨sA, hA2⟩ : ∃ s, s = ba (L.take m) := ⟨_, rfl⟩
            obtain ⟨sB, hB2⟩ : ∃ s, s = ba (L.drop m) := ⟨_, rfl⟩
            rw [← hA2] at xA zA ej
            rw [← hB2] at xB zB ej
            have zp : (ba (point q L)).size = m + 1 + q := by rw [← ej, ByteArray.size_append, ByteArray.size_append, zA, zB]; rfl
            obtain ⟨s3, h3⟩ : ∃ s, s = ba (point q L) := ⟨_, rfl⟩
            rw [← h3] at ej zp
            have q1 : m + 1 ≤ 9223372036854775807 := by omega
            have q2 : m + 1 + q ≤ 9223372036854775807 := by omega
            have b1 : (0 : Int) ≤ (m : Int) := by omega
            have b2 : (m : Int) ≤ (L.length : Int) := by omega
            have q3 : 1 + (m + 1 + q) ≤ 9223372036854775807 := by omega
            have es : (⟨#[45]⟩ : ByteArray) ++ s3 = ba (sgn true ++ point q L) := by rw [h3, show (⟨#[45]⟩ : ByteArray) = ba [45] from rfl, ba_app]; rfl
            clear h3 hA2 hB2 hmn hz
            rw [decide_eq_true hn, ← es]
            have hn1 : decide (n < 0) = true := decide_eq_true hn
            clear es e2 lL ln lD1
            go_enter Tryz.func10, Tryz.ntmps10
            go_upto_region 6 with (first
              | (go_at_call 28; with_reducible refine (num_size.calls n _ _ K1.out).mono ?_; rintro e y1 ⟨rfl, hb⟩; have HB1 := Aside0.mk (show Below w.heap.size w y1 from hb.below); clear hb)
              | (go_at_call 27; with_reducible refine (K2.out _ HB1.out).mono ?_; rintro e y2 ⟨rfl, hb⟩; have HB2 := Aside0.mk (below_step HB1.out hb); clear hb))
            go_upto_region 7 with (fail)
            go_quiet (fail)
            go_wp2
            go_ret2
            exact ⟨rfl, below_step HB2.out (drew_below _ _)⟩
          · have hz0 : (0 : Int) < (q : Int) := by omega
            obtain ⟨m, hm⟩ : ∃ m : Nat, (L.length : Int) - (q : Int) = (m : Int) := ⟨L.length - q, by omega⟩
            have hmn : L.length - q = m := by omega
            have xA : s2.extract 0 m = ba (L.take m) := by rw [e2, ba_ext]; simp
            have xB : s2.extract m L.length = ba (L.drop m) := by rw [e2, ba_ext, List.take_of_length_le (by simp)]
            have zA : (ba (L.take m)).size = m := by rw [ba_size, List.length_take]; omega
            have zB : (ba (L.drop m)).size = q := by rw [ba_size, List.length_drop]; omega
            have ej : (ba (L.take m) ++ (⟨#[46]⟩ : ByteArray)) ++ ba (L.drop m) = ba (point q L) := by
              rw [show (⟨#[46]⟩ : ByteArray) = ba [46] from rfl, ba_app, ba_app]
              unfold point
              rw [if_neg hz, hmn, List.append_assoc]; rfl
            obtain ⟨sA, hA2⟩ : ∃ s, s = ba (L.take m) := ⟨_, rfl⟩
            obtain ⟨sB, hB2⟩ : ∃ s, s = ba (L.drop m) := ⟨_, rfl⟩
            rw [← hA2] at xA zA ej
            rw [← hB2] at xB zB ej
            have zp : (ba (point q L)).size = m + 1 + q := by rw [← ej, ByteArray.size_append, ByteArray.size_append, zA, zB]; rfl
            obtain ⟨s3, h3⟩ : ∃ s, s = ba (point q L) := ⟨_, rfl⟩
            rw [← h3] at ej zp
            have q1 : m + 1 ≤ 9223372036854775807 := by omega
            have q2 : m + 1 + q ≤ 9223372036854775807 := by omega
            have b1 : (0 : Int) ≤ (m : Int) := by omega
            have b2 : (m : Int) ≤ (L.length : Int) := by omega
            have es : s3 = ba (sgn false ++ point q L) := by rw [h3]; rfl
            clear h3 hA2 hB2 hmn hz
            rw [decide_eq_false hn, ← es]
            have hn1 : decide (n < 0) = false := decide_eq_false hn
            clear es e2 lL ln lD1
            go_enter Tryz.func10, Tryz.ntmps10
            go_upto_region 6 with (first
              | (go_at_call 28; with_reducible refine (num_size.calls n _ _ K1.out).mono ?_; rintro e y1 ⟨rfl, hb⟩; have HB1 := Aside0.mk (show Below w.heap.size w y1 from hb.below); clear hb)
              | (go_at_call 27; with_reducible refine (K2.out _ HB1.out).mono ?_; rintro e y2 ⟨rfl, hb⟩; have HB2 := Aside0.mk (below_step HB1.out hb); clear hb))
            go_upto_region 7 with (fail)
            go_quiet (fail)
            go_wp2
            go_ret2
            exact ⟨rfl, below_step HB2.out (drew_below _ _)⟩
end Go.Proofs.Num
