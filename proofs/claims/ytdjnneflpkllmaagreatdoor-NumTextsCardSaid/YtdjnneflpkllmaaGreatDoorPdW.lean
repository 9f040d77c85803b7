/- num.ParseDecimal, walked. -/
import Derived.Test.YtdjnneflpkllmaaGreatDoorPd3
namespace Go.Proofs.Num
open Go.RowKit Go.Proofs.YtdjnneflpkllmaaGreatDoorW.PrintWords Go.Proofs.YtdjnneflpkllmaaGreatDoorW.PrintLast Go.Proofs.YtdjnneflpkllmaaGreatDoorW.PrintMore Go.Proofs.YtdjnneflpkllmaaGreatDoor.Q
set_option linter.unusedVariables false
set_option linter.unusedSimpArgs false
theorem prefix_neg (l : List UInt8) : Lib.hasPrefix l [45] = negB l ∧ Lib.trimPrefix l [45] = rest l := by
  have a : Lib.hasPrefix l [45] = negB l := by
    unfold Lib.hasPrefix negB
    cases l with
    | nil => rfl
    | cons c r =>
      simp only [List.isPrefixOf, List.head?_cons, Bool.and_true, Option.some.injEq]
      rw [Bool.eq_iff_iff, beq_iff_eq, decide_eq_true_iff]
      exact eq_comm
  refine ⟨a, ?_⟩
  unfold Lib.trimPrefix rest
  rw [a]
  unfold negB
  by_cases h : l.head? = some 45
  · rw [decide_eq_true h, if_pos rfl, if_pos h]; rfl
  · rw [decide_eq_false h, if_neg (by decide), if_neg h]
theorem cutp_c (l : List UInt8) (w : World) : Calls Tryz.prog 30 #[.string (ba l), .string ⟨#[45]⟩] w fun e w' => e = .returned (.tuple #[.string (ba (rest l)), .bool (negB l)]) ∧ w' = w := by
  refine (Tryz.strings_CutPrefix (ba l) ⟨#[45]⟩ w).mono ?_
  rintro e w' ⟨rfl, rfl⟩
  rw [ba_data, (prefix_neg l).1, (prefix_neg l).2]
  exact ⟨rfl, rfl⟩
theorem trim_c (l : List UInt8) (w : World) : Calls Tryz.prog 32 #[.string (ba l), .string ⟨#[48]⟩] w fun e w' => e = .returned (.string (ba (l.dropWhile (· == 48)))) ∧ w' = w := by
  refine (Tryz.strings_TrimLeft_one (ba l) 48 (by decide) w).mono ?_
  rintro e w' ⟨rfl, rfl⟩
  rw [ba_data]
  exact ⟨rfl, rfl⟩
theorem rest_len (l : List UInt8) : (rest l).length ≤ l.length := by
  unfold rest
  split
  · simp
  · exact Nat.le_refl _
theorem cut_len (r : List UInt8) : (Lib.cut r [46]).1.length + (Lib.cut r [46]).2.1.length ≤ r.length := by
  rcases cut_cases 46 r with ⟨a, b, h, rfl⟩ | h
  · rw [cut_hit h]; simp
  · rw [cut_miss h]; simp
theorem drop_len (l : List UInt8) : (l.dropWhile (· == 48)).length ≤ l.length := (List.dropWhile_sublist _).length_le
theorem digits_c (l : List UInt8) (hl : l.length ≤ 1000000) (w : World) : Calls Tryz.prog 31 #[.string (ba l)] w fun e w' => e = .returned (.bool (isDec l)) ∧ Below w.heap.size w w' := by
  have h := digits_any (ba l) (by rw [ba_size]; omega) w
  rw [ba_data] at h
  exact h
set_option maxHeartbeats 6400000 in
set_option maxRecDepth 100000 in
theorem pdec_bad {l : List UInt8} (hl : l.length ≤ 100000) {q : Nat} (hq : q ≤ 9) (w : World) (hE : Env w) (ok : ¬ okP (rest l) q) : Calls Tryz.prog 12 #[.string (ba l), .int .i64 (q : Int)] w fun e w' => e = .returned (.tuple #[.int .i64 (pdV l q).1, .int .i64 (pdV l q).2]) ∧ Below w.heap.size w w' := by
  rw [show pdV l q = (0, 6) by unfold pdV; rw [if_neg ok]]
  have HE := Aside0.mk hE
  have lr := rest_len l
  have lc := cut_len (rest l)
  obtain ⟨neg, hneg⟩ : ∃ n, n = negB l := ⟨_, rfl⟩
  obtain ⟨R, hR⟩ : ∃ r, r = rest l := ⟨_, rfl⟩
  have KP := cutp_c l
  unfold okP at ok
  rw [← hR] at lc ok KP
  rw [← hR] at lr
  rw [← hneg] at KP
  clear hneg hR
  have KC := fun y (hy : Below w.heap.size w y) => cut_c R 46 (by omega) y (hE.below hy)
  obtain ⟨⟨A, B, c⟩, hcut⟩ : ∃ v, v = Lib.cut R [46] := ⟨_, rfl⟩
  rw [← hcut] at lc KC ok
  simp only at lc KC ok
  clear hcut
  have KPP := Aside0.mk KP
  have KCC := Aside0.mk KC
  have n0 : decide ((q : Int) < 0) = false := decide_eq_false (by omega)
  have n9 : decide ((q : Int) > 9) = false := decide_eq_false (by omega)
  have HB0 := Aside0.mk (Below.refl w.heap.size w)
  have z1 : (ba A).size = A.length := ba_size A
  have z2 : (ba B).size = B.length := ba_size B
  have jn : ba A ++ ba B = ba (A ++ B) := ba_app A B
  have KD := Aside0.mk (fun y => digits_c (A ++ B) (by rw [List.length_append]; omega) y)
  have KT := Aside0.mk (fun y => trim_c (A ++ B) y)
  have lA : A.length + B.length ≤ 9223372036854775807 := by omega
  obtain ⟨s1, hs1⟩ : ∃ s, s = ba A := ⟨_, rfl⟩
  obtain ⟨s2, hs2⟩ : ∃ s, s = ba B := ⟨_, rfl⟩
  rw [← hs1, ← hs2] at jn KCC
  rw [← hs1] at z1
  rw [← hs2] at z2
  clear KP KC hE
  have main : ∀ (b : Bool), (b = decide ((q : Int) > 0)) → c = b → (¬ (B.length = q ∧ (A ++ B).all isD = true ∧ A ≠ [] ∧ ¬(1 < A.length ∧ A.head? = some 48))) → Calls Tryz.prog 12 #[.string (ba l), .int .i64 (q : Int)] w fun e w' => e = .returned (.tuple #[.int .i64 0, .int .i64 6]) ∧ Below w.heap.size w w' := by
    intro b hb hcb ok
    rw [← hcb] at hb
    clear hcb b
    have qd : (c != decide ((q : Int) > 0)) = false := by rw [← hb]; simp
    clear hb
    by_cases hB : B.length = q
    · have eB : ((B.length : Int) != (q : Int)) = false := by rw [hB]; simp
      cases hd : isDec (A ++ B) with
      | false =>
        rw [hd] at KD
        clear hd hB
        clear ok hs1 hs2 lr lc
        go_enter Tryz.func12, Tryz.ntmps12
        go_wp2_with (first
          | (go_at_call 30; with_reducible refine (KPP.out _).mono ?_; rintro e y1 ⟨rfl, rfl⟩)
          | (go_at_call 24; with_reducible refine (KCC.out _ HB0.out).mono ?_; rintro e y2 ⟨rfl, hb⟩; have HB2 := Aside0.mk hb; clear hb)
          | (go_at_call 31; with_reducible refine (KD.out _).mono ?_; rintro e y3 ⟨rfl, hb⟩; have HB3 := Aside0.mk (below_step HB2.out hb); clear hb))
        all_goals go_ret2
        all_goals first | exact ⟨rfl, HB3.out⟩ | exact ⟨rfl, HB2.out⟩
      | true =>
        rw [hd] at KD
        have all : (A ++ B).all isD = true := by unfold isDec at hd; rw [Bool.and_eq_true] at hd; exact hd.2
        clear hd
        by_cases hA : A = []
        · have eA : s1.toList.isEmpty = true := by rw [hs1, ba_toList, hA]; rfl
          have eA2 : (s1.toList == []) = true := by rw [hs1, ba_toList, hA]; rfl
          clear all hA hB
          clear ok hs1 hs2 lr lc
          go_enter Tryz.func12, Tryz.ntmps12
          go_wp2_with (first
            | (go_at_call 30; with_reducible refine (KPP.out _).mono ?_; rintro e y1 ⟨rfl, rfl⟩)
            | (go_at_call 24; with_reducible refine (KCC.out _ HB0.out).mono ?_; rintro e y2 ⟨rfl, hb⟩; have HB2 := Aside0.mk hb; clear hb)
            | (go_at_call 31; with_reducible refine (KD.out _).mono ?_; rintro e y3 ⟨rfl, hb⟩; have HB3 := Aside0.mk (below_step HB2.out hb); clear hb))
          all_goals go_ret2
          all_goals first | exact ⟨rfl, HB3.out⟩ | exact ⟨rfl, HB2.out⟩
        · have eA : s1.toList.isEmpty = false := by rw [hs1, ba_toList]; cases A with | nil => exact (hA rfl).elim | cons x y => rfl
          have eA2 : (s1.toList == []) = false := by rw [hs1, ba_toList]; cases A with | nil => exact (hA rfl).elim | cons x y => rfl
          have h6 : 1 < A.length ∧ A.head? = some 48 := Classical.byContradiction fun g => ok ⟨hB, all, hA, g⟩
          have d1 : decide ((A.length : Int) > 1) = true := decide_eq_true (by have := h6.1; omega)
          have p1 : 0 < A.length := by have := h6.1; omega
          have i0 : ∀ h : 0 < s1.size, s1[0]'h = 48 := fun h => by
            have := h6.2
            subst hs1
            have e : (ba A)[0]'h = A[0]'p1 := by show A.toArray[0]'(by simpa using p1) = _; simp
            rw [e]
            rw [List.head?_eq_getElem?, List.getElem?_eq_getElem p1] at this
            exact Option.some.inj this
          have p2 : 0 < s1.size := by omega
          have i1 := i0 p2
          clear all hA hB h6 i0
          clear ok hs1 hs2 lr lc
          go_enter Tryz.func12, Tryz.ntmps12
          go_wp2_with (first
            | (go_at_call 30; with_reducible refine (KPP.out _).mono ?_; rintro e y1 ⟨rfl, rfl⟩)
            | (go_at_call 24; with_reducible refine (KCC.out _ HB0.out).mono ?_; rintro e y2 ⟨rfl, hb⟩; have HB2 := Aside0.mk hb; clear hb)
            | (go_at_call 31; with_reducible refine (KD.out _).mono ?_; rintro e y3 ⟨rfl, hb⟩; have HB3 := Aside0.mk (below_step HB2.out hb); clear hb))
          all_goals go_ret2
          all_goals first | exact ⟨rfl, HB3.out⟩ | exact ⟨rfl, HB2.out⟩
    · have eB : ((B.length : Int) != (q : Int)) = true := by rw [bne_iff_ne]; omega
      clear hB
      clear ok hs1 hs2 lr lc
      go_enter Tryz.func12, Tryz.ntmps12
      go_wp2_with (first
        | (go_at_call 30; with_reducible refine (KPP.out _).mono ?_; rintro e y1 ⟨rfl, rfl⟩)
        | (go_at_call 24; with_reducible refine (KCC.out _ HB0.out).mono ?_; rintro e y2 ⟨rfl, hb⟩; have HB2 := Aside0.mk hb; clear hb)
        | (go_at_call 31; with_reducible refine (KD.out _).mono ?_; rintro e y3 ⟨rfl, hb⟩; have HB3 := Aside0.mk (below_step HB2.out hb); clear hb))
      all_goals go_ret2
      all_goals first | exact ⟨rfl, HB3.out⟩ | exact ⟨rfl, HB2.out⟩
  by_cases h0 : 0 < q
  · have qd : decide ((q : Int) > 0) = true := decide_eq_true (by omega)
    cases c with
    | true => exact main true qd.symm rfl (fun g => ok ⟨(decide_eq_true h0).symm, g⟩)
    | false =>
      clear main
      clear ok hs1 hs2 lr lc
      go_enter Tryz.func12, Tryz.ntmps12
      go_wp2_with (first
        | (go_at_call 30; with_reducible refine (KPP.out _).mono ?_; rintro e y1 ⟨rfl, rfl⟩)
        | (go_at_call 24; with_reducible refine (KCC.out _ HB0.out).mono ?_; rintro e y2 ⟨rfl, hb⟩; have HB2 := Aside0.mk hb; clear hb)
        | (go_at_call 31; with_reducible refine (KD.out _).mono ?_; rintro e y3 ⟨rfl, hb⟩; have HB3 := Aside0.mk (below_step HB2.out hb); clear hb))
      all_goals go_ret2
      all_goals first | exact ⟨rfl, HB3.out⟩ | exact ⟨rfl, HB2.out⟩
  · have qd : decide ((q : Int) > 0) = false := decide_eq_false (by omega)
    cases c with
    | false => exact main false qd.symm rfl (fun g => ok ⟨(decide_eq_false h0).symm, g⟩)
    | true =>
      clear main
      clear ok hs1 hs2 lr lc
      go_enter Tryz.func12, Tryz.ntmps12
      go_wp2_with (first
        | (go_at_call 30; with_reducible refine (KPP.out _).mono ?_; rintro e y1 ⟨rfl, rfl⟩)
        | (go_at_call 24; with_reducible refine (KCC.out _ HB0.out).mono ?_; rintro e y2 ⟨rfl, hb⟩; have HB2 := Aside0.mk hb; clear hb)
        | (go_at_call 31; with_reducible refine (KD.out _).mono ?_; rintro e y3 ⟨rfl, hb⟩; have HB3 := Aside0.mk (below_step HB2.out hb); clear hb))
      all_goals go_ret2
      all_goals first | exact ⟨rfl, HB3.out⟩ | exact ⟨rfl, HB2.out⟩
/-- The result where the shape is right. -/
def pdG (neg : Bool) (u : Nat) : Int × Int := if u = 0 then (if neg then (0, 6) else (0, 0)) else if 1125899906842624 < u then (0, 4) else (if neg then -(u : Int) else (u : Int), 0)
set_option maxHeartbeats 6400000 in
set_option maxRecDepth 100000 in
theorem pdec_good {l : List UInt8} (hl : l.length ≤ 100000) {q : Nat} (hq : q ≤ 9) (w : World) (hE : Env w) (ok : okP (rest l) q) : Calls Tryz.prog 12 #[.string (ba l), .int .i64 (q : Int)] w fun e w' => e = .returned (.tuple #[.int .i64 (pdV l q).1, .int .i64 (pdV l q).2]) ∧ Below w.heap.size w w' := by
  rw [show pdV l q = pdG (negB l) (natD (digs (rest l)) 0) by unfold pdV pdG; rw [if_pos ok]]
  have HE := Aside0.mk hE
  have lr := rest_len l
  have lc := cut_len (rest l)
  unfold digs
  obtain ⟨neg, hneg⟩ : ∃ n, n = negB l := ⟨_, rfl⟩
  obtain ⟨R, hR⟩ : ∃ r, r = rest l := ⟨_, rfl⟩
  have KP := cutp_c l
  unfold okP at ok
  rw [← hR] at lc ok KP
  rw [← hR] at lr ⊢
  rw [← hneg] at KP ⊢
  clear hneg hR
  have KC := fun y (hy : Below w.heap.size w y) => cut_c R 46 (by omega) y (hE.below hy)
  obtain ⟨⟨A, B, c⟩, hcut⟩ : ∃ v, v = Lib.cut R [46] := ⟨_, rfl⟩
  rw [← hcut] at lc KC ok ⊢
  simp only at lc KC ok ⊢
  clear hcut
  have KPP := Aside0.mk KP
  have KCC := Aside0.mk KC
  have n0 : decide ((q : Int) < 0) = false := decide_eq_false (by omega)
  have n9 : decide ((q : Int) > 9) = false := decide_eq_false (by omega)
  have HB0 := Aside0.mk (Below.refl w.heap.size w)
  have z1 : (ba A).size = A.length := ba_size A
  have z2 : (ba B).size = B.length := ba_size B
  have jn : ba A ++ ba B = ba (A ++ B) := ba_app A B
  have KD := Aside0.mk (fun y => digits_c (A ++ B) (by rw [List.length_append]; omega) y)
  have KT := Aside0.mk (fun y => trim_c (A ++ B) y)
  have lA : A.length + B.length ≤ 9223372036854775807 := by omega
  obtain ⟨s1, hs1⟩ : ∃ s, s = ba A := ⟨_, rfl⟩
  obtain ⟨s2, hs2⟩ : ∃ s, s = ba B := ⟨_, rfl⟩
  rw [← hs1, ← hs2] at jn KCC
  rw [← hs1] at z1
  rw [← hs2] at z2
  clear KP KC hE
  obtain ⟨o1, o2, o3, o4, o5⟩ := ok
  have qq : (c = true ∧ (0 : Int) < (q : Int)) ∨ (c = false ∧ ¬ (0 : Int) < (q : Int)) := by
    rw [o1]
    by_cases h : 0 < q
    · exact Or.inl ⟨decide_eq_true h, by omega⟩
    · exact Or.inr ⟨decide_eq_false h, by omega⟩
  have eB : ((q : Int) != (q : Int)) = false := by simp
  rw [o2] at z2 lA
  have dd : isDec (A ++ B) = true := by
    unfold isDec
    rw [o3, Bool.and_true]
    cases A with
    | nil => exact (o4 rfl).elim
    | cons x y => rfl
  rw [dd] at KD
  have eA : s1.toList.isEmpty = false := by rw [hs1, ba_toList]; cases A with | nil => exact (o4 rfl).elim | cons x y => rfl
  have eA2 : (s1.toList == []) = false := by rw [hs1, ba_toList]; cases A with | nil => exact (o4 rfl).elim | cons x y => rfl
  have p1 : 0 < A.length := List.length_pos_iff.2 o4
  have p2 : 0 < s1.size := by omega
  have i0 : ∀ h : 0 < s1.size, s1[0]'h = A[0]'p1 := fun h => by
    subst hs1
    show A.toArray[0]'(by simpa using p1) = _
    simp
  have i1 := i0 p2
  obtain ⟨x0, hx0⟩ : ∃ x, x = A[0]'p1 := ⟨_, rfl⟩
  rw [← hx0] at i1
  have i2 : 1 < A.length → ((x0.toNat : Int) == 48) = false ∧ (x0 == 48) = false := fun h => by
    have ne : x0 ≠ 48 := fun g => o5 ⟨h, by rw [List.head?_eq_getElem?, List.getElem?_eq_getElem p1, ← hx0, g]⟩
    refine ⟨?_, beq_eq_false_iff_ne.mpr ne⟩
    rw [beq_eq_false_iff_ne]
    intro g
    exact ne (UInt8.toNat_inj.1 (show x0.toNat = 48 by omega))
  have hu := natD_zero o3
  have hud := natD_drop (A ++ B)
  have ltr := drop_len (A ++ B)
  obtain ⟨T, hT⟩ : ∃ t, t = (A ++ B).dropWhile (· == 48) := ⟨_, rfl⟩
  rw [← hT] at KT hu hud ltr
  rw [List.length_append] at ltr
  have tD : T.all isD = true := by rw [hT]; exact List.all_eq_true.2 (fun x hx => List.all_eq_true.1 o3 x ((List.dropWhile_sublist _).subset hx))
  obtain ⟨u, hun⟩ : ∃ u, u = natD (A ++ B) 0 := ⟨_, rfl⟩
  rw [← hun] at hu hud ⊢
  clear hT hun dd o1 o3 o4 hx0 i0
  obtain ⟨D, hD⟩ : ∃ d, d = A ++ B := ⟨_, rfl⟩
  rw [← hD] at KD KT jn
  have hs2' := hs2
  clear hD o2 hs2 hs2'
  have body : (decide ((A.length : Int) > 1) = false ∨ (decide ((A.length : Int) > 1) = true ∧ ((x0.toNat : Int) == 48) = false ∧ (x0 == 48) = false)) := by
    by_cases h : 1 < A.length
    · exact Or.inr ⟨decide_eq_true (by omega), i2 h⟩
    · exact Or.inl (decide_eq_false (by omega))
  clear i2 o5
  unfold pdG
  by_cases hz : T = []
  · have u0 : u = 0 := hu.2 hz
    rw [hz] at KT
    rw [if_pos u0]
    have t1 : (ba []).toList.isEmpty = true := by rw [ba_toList]; rfl
    have t2 : ((ba []).toList == []) = true := by rw [ba_toList]; rfl
    obtain ⟨e0, he0⟩ : ∃ e, e = ba [] := ⟨_, rfl⟩
    rw [← he0] at KT t1 t2
    clear he0
    rcases body with d1 | ⟨d1, d2, d3⟩ <;> cases neg
    all_goals simp only [if_true, if_false, Bool.false_eq_true]
    · clear hs1 lr lc hz u0 hu hud ltr tD
      rcases qq with ⟨rfl, qd⟩ | ⟨rfl, qd⟩
      rotate_left
      obtain rfl : q = 0 := by omega
      clear qd
      rotate_left
      all_goals go_enter Tryz.func12, Tryz.ntmps12
      all_goals go_wp2_with (first
        | (go_at_call 30; with_reducible refine (KPP.out _).mono ?_; rintro e y1 ⟨rfl, rfl⟩)
        | (go_at_call 24; with_reducible refine (KCC.out _ HB0.out).mono ?_; rintro e y2 ⟨rfl, hb⟩; have HB2 := Aside0.mk hb; clear hb)
        | (go_at_call 31; with_reducible refine (KD.out _).mono ?_; rintro e y3 ⟨rfl, hb⟩; have HB3 := Aside0.mk (below_step HB2.out hb); clear hb)
        | (go_at_call 32; with_reducible refine (KT.out _).mono ?_; rintro e y4 ⟨rfl, rfl⟩))
      all_goals go_ret2
      all_goals first | exact ⟨rfl, HB5.out⟩ | exact ⟨rfl, HB3.out⟩ | exact ⟨by simp, HB5.out⟩
    · clear hs1 lr lc hz u0 hu hud ltr tD
      rcases qq with ⟨rfl, qd⟩ | ⟨rfl, qd⟩
      rotate_left
      obtain rfl : q = 0 := by omega
      clear qd
      rotate_left
      all_goals go_enter Tryz.func12, Tryz.ntmps12
      all_goals go_wp2_with (first
        | (go_at_call 30; with_reducible refine (KPP.out _).mono ?_; rintro e y1 ⟨rfl, rfl⟩)
        | (go_at_call 24; with_reducible refine (KCC.out _ HB0.out).mono ?_; rintro e y2 ⟨rfl, hb⟩; have HB2 := Aside0.mk hb; clear hb)
        | (go_at_call 31; with_reducible refine (KD.out _).mono ?_; rintro e y3 ⟨rfl, hb⟩; have HB3 := Aside0.mk (below_step HB2.out hb); clear hb)
        | (go_at_call 32; with_reducible refine (KT.out _).mono ?_; rintro e y4 ⟨rfl, rfl⟩))
      all_goals go_ret2
      all_goals first | exact ⟨rfl, HB5.out⟩ | exact ⟨rfl, HB3.out⟩ | exact ⟨by simp, HB5.out⟩
    · clear hs1 lr lc hz u0 hu hud ltr tD
      rcases qq with ⟨rfl, qd⟩ | ⟨rfl, qd⟩
      rotate_left
      obtain rfl : q = 0 := by omega
      clear qd
      rotate_left
      all_goals go_enter Tryz.func12, Tryz.ntmps12
      all_goals go_wp2_with (first
        | (go_at_call 30; with_reducible refine (KPP.out _).mono ?_; rintro e y1 ⟨rfl, rfl⟩)
        | (go_at_call 24; with_reducible refine (KCC.out _ HB0.out).mono ?_; rintro e y2 ⟨rfl, hb⟩; have HB2 := Aside0.mk hb; clear hb)
        | (go_at_call 31; with_reducible refine (KD.out _).mono ?_; rintro e y3 ⟨rfl, hb⟩; have HB3 := Aside0.mk (below_step HB2.out hb); clear hb)
        | (go_at_call 32; with_reducible refine (KT.out _).mono ?_; rintro e y4 ⟨rfl, rfl⟩))
      all_goals go_ret2
      all_goals first | exact ⟨rfl, HB5.out⟩ | exact ⟨rfl, HB3.out⟩ | exact ⟨by simp, HB5.out⟩
    · clear hs1 lr lc hz u0 hu hud ltr tD
      rcases qq with ⟨rfl, qd⟩ | ⟨rfl, qd⟩
      rotate_left
      obtain rfl : q = 0 := by omega
      clear qd
      rotate_left
      all_goals go_enter Tryz.func12, Tryz.ntmps12
      all_goals go_wp2_with (first
        | (go_at_call 30; with_reducible refine (KPP.out _).mono ?_; rintro e y1 ⟨rfl, rfl⟩)
        | (go_at_call 24; with_reducible refine (KCC.out _ HB0.out).mono ?_; rintro e y2 ⟨rfl, hb⟩; have HB2 := Aside0.mk hb; clear hb)
        | (go_at_call 31; with_reducible refine (KD.out _).mono ?_; rintro e y3 ⟨rfl, hb⟩; have HB3 := Aside0.mk (below_step HB2.out hb); clear hb)
        | (go_at_call 32; with_reducible refine (KT.out _).mono ?_; rintro e y4 ⟨rfl, rfl⟩))
      all_goals go_ret2
      all_goals first | exact ⟨rfl, HB5.out⟩ | exact ⟨rfl, HB3.out⟩ | exact ⟨by simp, HB5.out⟩
  · have u0 : ¬ u = 0 := fun g => hz (hu.1 g)
    rw [if_neg u0]
    have lT : T.length ≤ 1000000 := by omega
    have KJ := fun y (hy : Below w.heap.size w y) => atoi_c T lT y (HE.out.below hy)
    have t1 : (ba T).toList.isEmpty = false := by rw [ba_toList]; cases T with | nil => exact (hz rfl).elim | cons x y => rfl
    have t2 : ((ba T).toList == []) = false := by rw [ba_toList]; cases T with | nil => exact (hz rfl).elim | cons x y => rfl
    obtain ⟨e0, he0⟩ : ∃ e, e = ba T := ⟨_, rfl⟩
    rw [← he0] at KT t1 t2 KJ
    clear he0
    have AT := atoi_digits tD hz
    rw [hud] at AT
    rcases AT with ⟨a1, a2⟩ | ⟨a1, a2⟩
    · have KI : Aside0 (∀ y, Below w.heap.size w y → Calls Tryz.prog 25 #[.string e0] y fun e w' => e = .returned (.tuple #[.int .i64 (u : Int), .nilIface]) ∧ Below y.heap.size y w') := ⟨fun y hy => by
        refine (KJ y hy).mono ?_
        rintro e w' ⟨x, ev, rfl, hb, h | h⟩
        · rw [a2] at h
          obtain ⟨h1, rfl⟩ := h
          injection h1 with h1
          rw [← h1]
          exact ⟨rfl, hb⟩
        · exact (h.1 _ a2).elim⟩
      clear a2 KJ
      by_cases big : 1125899906842624 < u
      · rw [if_pos big]
        have b1 : decide ((u : Int) > 1125899906842624) = true := decide_eq_true (by omega)
        rcases body with d1 | ⟨d1, d2, d3⟩
        · clear hs1 lr lc hz u0 hu hud ltr tD lT big
          rcases qq with ⟨rfl, qd⟩ | ⟨rfl, qd⟩
          rotate_left
          obtain rfl : q = 0 := by omega
          clear qd
          rotate_left
          all_goals go_enter Tryz.func12, Tryz.ntmps12
          all_goals go_wp2_with (first
            | (go_at_call 30; with_reducible refine (KPP.out _).mono ?_; rintro e y1 ⟨rfl, rfl⟩)
            | (go_at_call 24; with_reducible refine (KCC.out _ HB0.out).mono ?_; rintro e y2 ⟨rfl, hb⟩; have HB2 := Aside0.mk hb; clear hb)
            | (go_at_call 31; with_reducible refine (KD.out _).mono ?_; rintro e y3 ⟨rfl, hb⟩; have HB3 := Aside0.mk (below_step HB2.out hb); clear hb)
            | (go_at_call 32; with_reducible refine (KT.out _).mono ?_; rintro e y4 ⟨rfl, rfl⟩)
            | (go_at_call 25; with_reducible refine (KI.out _ HB3.out).mono ?_; rintro e y5 ⟨rfl, hb⟩; have HB5 := Aside0.mk (below_step HB3.out hb); clear hb))
          all_goals go_ret2
          all_goals first | exact ⟨rfl, HB5.out⟩ | exact ⟨rfl, HB3.out⟩ | exact ⟨by simp, HB5.out⟩
        · clear hs1 lr lc hz u0 hu hud ltr tD lT big
          rcases qq with ⟨rfl, qd⟩ | ⟨rfl, qd⟩
          rotate_left
          obtain rfl : q = 0 := by omega
          clear qd
          rotate_left
          all_goals go_enter Tryz.func12, Tryz.ntmps12
          all_goals go_wp2_with (first
            | (go_at_call 30; with_reducible refine (KPP.out _).mono ?_; rintro e y1 ⟨rfl, rfl⟩)
            | (go_at_call 24; with_reducible refine (KCC.out _ HB0.out).mono ?_; rintro e y2 ⟨rfl, hb⟩; have HB2 := Aside0.mk hb; clear hb)
            | (go_at_call 31; with_reducible refine (KD.out _).mono ?_; rintro e y3 ⟨rfl, hb⟩; have HB3 := Aside0.mk (below_step HB2.out hb); clear hb)
            | (go_at_call 32; with_reducible refine (KT.out _).mono ?_; rintro e y4 ⟨rfl, rfl⟩)
            | (go_at_call 25; with_reducible refine (KI.out _ HB3.out).mono ?_; rintro e y5 ⟨rfl, hb⟩; have HB5 := Aside0.mk (below_step HB3.out hb); clear hb))
          all_goals go_ret2
          all_goals first | exact ⟨rfl, HB5.out⟩ | exact ⟨rfl, HB3.out⟩ | exact ⟨by simp, HB5.out⟩
      · rw [if_neg big]
        have b1 : decide ((u : Int) > 1125899906842624) = false := decide_eq_false (by omega)
        have b2 : -9223372036854775808 ≤ -(u : Int) ∧ -(u : Int) ≤ 9223372036854775807 := by omega
        rcases body with d1 | ⟨d1, d2, d3⟩ <;> cases neg
        all_goals simp only [if_true, if_false, Bool.false_eq_true]
        · clear hs1 lr lc hz u0 hu hud ltr tD lT
          rcases qq with ⟨rfl, qd⟩ | ⟨rfl, qd⟩
          rotate_left
          obtain rfl : q = 0 := by omega
          clear qd
          rotate_left
          all_goals go_enter Tryz.func12, Tryz.ntmps12
          all_goals go_wp2_with (first
            | (go_at_call 30; with_reducible refine (KPP.out _).mono ?_; rintro e y1 ⟨rfl, rfl⟩)
            | (go_at_call 24; with_reducible refine (KCC.out _ HB0.out).mono ?_; rintro e y2 ⟨rfl, hb⟩; have HB2 := Aside0.mk hb; clear hb)
            | (go_at_call 31; with_reducible refine (KD.out _).mono ?_; rintro e y3 ⟨rfl, hb⟩; have HB3 := Aside0.mk (below_step HB2.out hb); clear hb)
            | (go_at_call 32; with_reducible refine (KT.out _).mono ?_; rintro e y4 ⟨rfl, rfl⟩)
            | (go_at_call 25; with_reducible refine (KI.out _ HB3.out).mono ?_; rintro e y5 ⟨rfl, hb⟩; have HB5 := Aside0.mk (below_step HB3.out hb); clear hb))
          all_goals go_ret2
          all_goals first | exact ⟨rfl, HB5.out⟩ | exact ⟨rfl, HB3.out⟩ | exact ⟨by simp, HB5.out⟩
        · clear hs1 lr lc hz u0 hu hud ltr tD lT
          rcases qq with ⟨rfl, qd⟩ | ⟨rfl, qd⟩
          rotate_left
          obtain rfl : q = 0 := by omega
          clear qd
          rotate_left
          all_goals go_enter Tryz.func12, Tryz.ntmps12
          all_goals go_wp2_with (first
            | (go_at_call 30; with_reducible refine (KPP.out _).mono ?_; rintro e y1 ⟨rfl, rfl⟩)
            | (go_at_call 24; with_reducible refine (KCC.out _ HB0.out).mono ?_; rintro e y2 ⟨rfl, hb⟩; have HB2 := Aside0.mk hb; clear hb)
            | (go_at_call 31; with_reducible refine (KD.out _).mono ?_; rintro e y3 ⟨rfl, hb⟩; have HB3 := Aside0.mk (below_step HB2.out hb); clear hb)
            | (go_at_call 32; with_reducible refine (KT.out _).mono ?_; rintro e y4 ⟨rfl, rfl⟩)
            | (go_at_call 25; with_reducible refine (KI.out _ HB3.out).mono ?_; rintro e y5 ⟨rfl, hb⟩; have HB5 := Aside0.mk (below_step HB3.out hb); clear hb))
          all_goals go_ret2
          all_goals first | exact ⟨rfl, HB5.out⟩ | exact ⟨rfl, HB3.out⟩ | exact ⟨by simp, HB5.out⟩
        · clear hs1 lr lc hz u0 hu hud ltr tD lT
          rcases qq with ⟨rfl, qd⟩ | ⟨rfl, qd⟩
          rotate_left
          obtain rfl : q = 0 := by omega
          clear qd
          rotate_left
          all_goals go_enter Tryz.func12, Tryz.ntmps12
          all_goals go_wp2_with (first
            | (go_at_call 30; with_reducible refine (KPP.out _).mono ?_; rintro e y1 ⟨rfl, rfl⟩)
            | (go_at_call 24; with_reducible refine (KCC.out _ HB0.out).mono ?_; rintro e y2 ⟨rfl, hb⟩; have HB2 := Aside0.mk hb; clear hb)
            | (go_at_call 31; with_reducible refine (KD.out _).mono ?_; rintro e y3 ⟨rfl, hb⟩; have HB3 := Aside0.mk (below_step HB2.out hb); clear hb)
            | (go_at_call 32; with_reducible refine (KT.out _).mono ?_; rintro e y4 ⟨rfl, rfl⟩)
            | (go_at_call 25; with_reducible refine (KI.out _ HB3.out).mono ?_; rintro e y5 ⟨rfl, hb⟩; have HB5 := Aside0.mk (below_step HB3.out hb); clear hb))
          all_goals go_ret2
          all_goals first | exact ⟨rfl, HB5.out⟩ | exact ⟨rfl, HB3.out⟩ | exact ⟨by simp, HB5.out⟩
        · clear hs1 lr lc hz u0 hu hud ltr tD lT
          rcases qq with ⟨rfl, qd⟩ | ⟨rfl, qd⟩
          rotate_left
          obtain rfl : q = 0 := by omega
          clear qd
          rotate_left
          all_goals go_enter Tryz.func12, Tryz.ntmps12
          all_goals go_wp2_with (first
            | (go_at_call 30; with_reducible refine (KPP.out _).mono ?_; rintro e y1 ⟨rfl, rfl⟩)
            | (go_at_call 24; with_reducible refine (KCC.out _ HB0.out).mono ?_; rintro e y2 ⟨rfl, hb⟩; have HB2 := Aside0.mk hb; clear hb)
            | (go_at_call 31; with_reducible refine (KD.out _).mono ?_; rintro e y3 ⟨rfl, hb⟩; have HB3 := Aside0.mk (below_step HB2.out hb); clear hb)
            | (go_at_call 32; with_reducible refine (KT.out _).mono ?_; rintro e y4 ⟨rfl, rfl⟩)
            | (go_at_call 25; with_reducible refine (KI.out _ HB3.out).mono ?_; rintro e y5 ⟨rfl, hb⟩; have HB5 := Aside0.mk (below_step HB3.out hb); clear hb))
          all_goals go_ret2
          all_goals first | exact ⟨rfl, HB5.out⟩ | exact ⟨rfl, HB3.out⟩ | exact ⟨by simp, HB5.out⟩
    · rw [if_pos (show 1125899906842624 < u by omega)]
      have KI : Aside0 (∀ y, Below w.heap.size w y → Calls Tryz.prog 25 #[.string e0] y fun e w' => (∃ x N, e = .returned (.tuple #[.int .i64 x, .iface 104 (.pointer (some ⟨N, 0, none⟩))])) ∧ Below y.heap.size y w') := ⟨fun y hy => by
        refine (KJ y hy).mono ?_
        rintro e w' ⟨x, ev, rfl, hb, h | ⟨-, N, rfl⟩⟩
        · exact (a2 _ h.1).elim
        · exact ⟨⟨x, N, rfl⟩, hb⟩⟩
      clear a2 KJ
      rcases body with d1 | ⟨d1, d2, d3⟩
      · clear hs1 lr lc hz u0 hu hud ltr tD lT a1
        rcases qq with ⟨rfl, qd⟩ | ⟨rfl, qd⟩
        rotate_left
        obtain rfl : q = 0 := by omega
        clear qd
        rotate_left
        all_goals go_enter Tryz.func12, Tryz.ntmps12
        all_goals go_wp2_with (first
          | (go_at_call 30; with_reducible refine (KPP.out _).mono ?_; rintro e y1 ⟨rfl, rfl⟩)
          | (go_at_call 24; with_reducible refine (KCC.out _ HB0.out).mono ?_; rintro e y2 ⟨rfl, hb⟩; have HB2 := Aside0.mk hb; clear hb)
          | (go_at_call 31; with_reducible refine (KD.out _).mono ?_; rintro e y3 ⟨rfl, hb⟩; have HB3 := Aside0.mk (below_step HB2.out hb); clear hb)
          | (go_at_call 32; with_reducible refine (KT.out _).mono ?_; rintro e y4 ⟨rfl, rfl⟩)
          | (go_at_call 25; with_reducible refine (KI.out _ HB3.out).mono ?_; rintro e y5 ⟨⟨x5, N5, rfl⟩, hb⟩; have HB5 := Aside0.mk (below_step HB3.out hb); clear hb))
        all_goals go_ret2
        all_goals first | exact ⟨rfl, HB5.out⟩ | exact ⟨rfl, HB3.out⟩ | exact ⟨by simp, HB5.out⟩
      · clear hs1 lr lc hz u0 hu hud ltr tD lT a1
        rcases qq with ⟨rfl, qd⟩ | ⟨rfl, qd⟩
        rotate_left
        obtain rfl : q = 0 := by omega
        clear qd
        rotate_left
        all_goals go_enter Tryz.func12, Tryz.ntmps12
        all_goals go_wp2_with (first
          | (go_at_call 30; with_reducible refine (KPP.out _).mono ?_; rintro e y1 ⟨rfl, rfl⟩)
          | (go_at_call 24; with_reducible refine (KCC.out _ HB0.out).mono ?_; rintro e y2 ⟨rfl, hb⟩; have HB2 := Aside0.mk hb; clear hb)
          | (go_at_call 31; with_reducible refine (KD.out _).mono ?_; rintro e y3 ⟨rfl, hb⟩; have HB3 := Aside0.mk (below_step HB2.out hb); clear hb)
          | (go_at_call 32; with_reducible refine (KT.out _).mono ?_; rintro e y4 ⟨rfl, rfl⟩)
          | (go_at_call 25; with_reducible refine (KI.out _ HB3.out).mono ?_; rintro e y5 ⟨⟨x5, N5, rfl⟩, hb⟩; have HB5 := Aside0.mk (below_step HB3.out hb); clear hb))
        all_goals go_ret2
        all_goals first | exact ⟨rfl, HB5.out⟩ | exact ⟨rfl, HB3.out⟩ | exact ⟨by simp, HB5.out⟩
theorem pdec_any {l : List UInt8} (hl : l.length ≤ 100000) (p : Int) (w : World) (hE : Env w) : Calls Tryz.prog 12 #[.string (ba l), .int .i64 p] w fun e w' => e = .returned (.tuple #[.int .i64 (pdR l p).1, .int .i64 (pdR l p).2]) ∧ Below w.heap.size w w' := by
  unfold pdR
  by_cases c1 : p < 0
  · rw [if_pos (Or.inl c1)]
    clear hE
    go_enter Tryz.func12, Tryz.ntmps12
    go_wp2
    go_ret2
    exact ⟨rfl, Below.refl _ _⟩
  · by_cases c2 : p > 9
    · rw [if_pos (Or.inr c2)]
      clear hE
      have d1 : decide (p > 9) = true := decide_eq_true c2
      go_enter Tryz.func12, Tryz.ntmps12
      go_wp2
      go_ret2
      exact ⟨rfl, Below.refl _ _⟩
    · rw [if_neg (by omega)]
      obtain ⟨q, rfl⟩ : ∃ q : Nat, p = (q : Int) := ⟨p.toNat, by omega⟩
      rw [Int.toNat_natCast]
      by_cases ok : okP (rest l) q
      · exact pdec_good hl (by omega) w hE ok
      · exact pdec_bad hl (by omega) w hE ok
end Go.Proofs.Num
