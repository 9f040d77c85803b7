/- The law TreeSets, walked. -/
import Derived.Test.YtnhngaadegebfaaTreeRanges
import Derived.Test.YtnhngaadegebfaaSetLaws
namespace Go.Proofs.MT.II
open Go.RowKit Go.Proofs.YtnhngaadegebfaaW.PrintLast Go.Proofs.YtnhngaadegebfaaW.PrintWords
set_option linter.unusedVariables false
set_option linter.unusedSimpArgs false

section
variable {n₀ : Nat} {W y : World} {b : Nat} {p : Option Addr} {t : T Int Int}
theorem MBox.list2 (m : MBox n₀ W b p t) (hz : t.size ≤ 1000000) (hy : Below W.heap.size W y) : Calls Try.prog 40 #[.agg #[.pointer p]] y fun e z => ∃ A c, e = .returned (.slice A t.toList.length c) ∧ t.toList.length ≤ c ∧ Row2 ek ev z.heap.size z A t.toList ∧ Below y.heap.size y z ∧ Below W.heap.size W z :=
  (list_any t p y (m.below hy).tree hz).mono fun _ _ ⟨A, c, h1, h2, h3, h4⟩ => ⟨A, c, h1, h2, h3, h4, hy.trans (h4.mono hy.size)⟩
theorem same_tree {A : Option Addr} {c : Nat} {l : List (Int × Int)} (h : Tr y.heap.size y p t) (hz : t.size ≤ 1000000) (hl : t.toList = l) (hc : l.length ≤ c) (hr : Row2 ek ev y.heap.size y A l) (hy : Below W.heap.size W y) : Calls Try.prog 19 #[.agg #[.pointer p], .slice A l.length c] y fun e z => e = .returned (.bool true) ∧ Below W.heap.size W z :=
  (same_any t p l A c y h (by omega) hr hc (by rw [← hl, T.length_toList]; omega)).mono fun _ _ ⟨h1, h2⟩ => ⟨by rw [h1, decide_eq_true hl], hy.trans (h2.mono hy.size)⟩
theorem len_tree (h : Tr y.heap.size y p t) (hy : Below W.heap.size W y) : Calls Try.prog 17 #[.agg #[.pointer p]] y fun e z => e = .returned (.int .i64 t.size) ∧ Below W.heap.size W z :=
  (Len_any t p y h).mono fun _ _ ⟨h1, h2⟩ => ⟨h1, hy.trans (h2.mono hy.size)⟩
theorem MBox.lenN {N : Nat} (m : MBox n₀ W b p t) (hN : t.size = N) (hy : Below W.heap.size W y) : Calls Try.prog 17 #[.agg #[.pointer p]] y fun e z => e = .returned (.int .i64 N) ∧ Below W.heap.size W z := by
  subst hN; exact m.len hy
end

set_option maxRecDepth 100000 in
set_option maxHeartbeats 12800000 in
theorem TreeSets_walk (l : List Step) (hok : ∀ o ∈ l, o.ok) (A : Option Addr) (c : Nat) (hc : l.length ≤ c) (w : World) (hr : Steps5 w A l) (xx yy ky : Int) (hx0 : 0 ≤ xx) (hx1 : xx ≤ 255) (hy0 : 0 ≤ yy) (hy1 : yy ≤ 255) (hk0 : -9223372036854775808 ≤ ky) (hk1 : ky ≤ 9223372036854775807) :
    Calls Try.prog 7 #[.slice A l.length c, .int .u8 xx, .int .u8 yy, .int .i64 ky] w fun e w' => e = .returned (.bool true) ∧ Below w.heap.size w w' := by
  clear hk0 hk1
  go_enter Try.func7, Try.ntmps7
  by_cases h200 : (l.length : Int) ≤ 200
  · go_upto_region 4 with (first
      | (go_at_call 37; refine (few_any _ _ _ _).mono ?_; rw [decide_eq_true h200]; rintro e x ⟨rfl, rfl⟩)
      | (go_at_call 38; refine (played_any l (by omega) hok A c hc _ hr).mono ?_; rintro e x ⟨B, vm, vl, ks, es, rfl, hx, wd, hes, hks⟩))
    obtain ⟨bm, cm, bl, cl, rfl, rfl, hcm, hcl, rd⟩ := wd.opened (by omega)
    have hne : 0 < es.length := by omega
    have hks' : ks.length ≤ 1000 := by omega
    have hel : es.length ≤ 1000 := by omega
    clear hes hks
    have n0 : 0 < (es.length : Int) := by omega
    obtain ⟨i, hi, hin⟩ : ∃ i : Nat, xx % (es.length : Int) = i ∧ i < es.length := ⟨(xx % (es.length : Int)).toNat, by have := Int.emod_nonneg xx (b := (es.length : Int)) (by omega); omega, by have h1 := Int.emod_lt_of_pos xx n0; have := Int.emod_nonneg xx (b := (es.length : Int)) (by omega); omega⟩
    obtain ⟨j, hj, hjn⟩ : ∃ j : Nat, yy % (es.length : Int) = j ∧ j < es.length := ⟨(yy % (es.length : Int)).toNat, by have := Int.emod_nonneg yy (b := (es.length : Int)) (by omega); omega, by have h1 := Int.emod_lt_of_pos yy n0; have := Int.emod_nonneg yy (b := (es.length : Int)) (by omega); omega⟩
    have t1' : xx.tmod (es.length : Int) = (i : Int) := by rw [Int.tmod_eq_emod_of_nonneg hx0]; exact hi
    have t2' : yy.tmod (es.length : Int) = (j : Int) := by rw [Int.tmod_eq_emod_of_nonneg hy0]; exact hj
    have w1 : IntKind.i64.wrap xx = xx := by rw [IntKind.wrap_i64]; omega
    have w2 : IntKind.i64.wrap yy = yy := by rw [IntKind.wrap_i64]; omega
    have nn : ¬ (es.length : Int) = 0 := by omega
    have nn2 : ¬ es = [] := by intro e; rw [e] at hne; simp at hne
    have a1 : (i : Int) < (es.length : Int) := by omega
    have a2 : (0 : Int) ≤ (i : Int) := by omega
    have a3 : (j : Int) < (es.length : Int) := by omega
    have a4 : (0 : Int) ≤ (j : Int) := by omega
    obtain ⟨p1, A1, c1, t1, he1, g1, hc1, hz1, s1⟩ := wd.entry hks' hin
    obtain ⟨p2, A2, c2, t2, he2, g2, hc2, hz2, s2⟩ := wd.entry hks' hjn
    have sOf : ∀ y, Below x.heap.size x y → y.cell? ⟨B, 0, none⟩ = some (.slice (some ⟨bm, 0, none⟩) es.length cm) ∧ y.cell? ⟨bm, i, none⟩ = some (.pointer p1) ∧ y.cell? ⟨bm, j, none⟩ = some (.pointer p2) := fun y h => ⟨(rd y h).1, ((rd y h).2.2 i _ he1).1, ((rd y h).2.2 j _ he2).1⟩
    clear rd wd he1 he2 hc1 hc2 hcl
    obtain ⟨W1, hW⟩ : ∃ W, W = x := ⟨_, rfl⟩
    rw [← hW]
    rw [← hW] at sOf g1 g2 hx
    clear hW
    refine start_ (n := 32) (S := fun w' => w'.cell? ⟨B, 0, none⟩ = some (.slice (some ⟨bm, 0, none⟩) es.length cm) ∧ w'.cell? ⟨bm, i, none⟩ = some (.pointer p1) ∧ w'.cell? ⟨bm, j, none⟩ = some (.pointer p2)) (ds := []) #[false, false, false, false, false, false, false, false, false, false, false, false, false, false, false, false, false, false, false, false, false, false, false, false, false, false, false, false, false, false, false, false] (by kernel_rfl) rfl rfl (sOf _ (Below.drew (Below.refl _ _))) (fun hHeld => ?_)
    refine pure_ (i := 0) (N := some 31) (v := ?_) (a' := ?_) #[true, false, false, false, false, false, false, false, false, false, false, false, false, false, false, false, false, false, false, false, false, false, false, false, false, false, false, false, false, false, false, false] rfl rfl (by kernel_rfl) (fun _ _ _ h => h) (Or.inl ⟨by rfl, ?_⟩) ?_ ?_
    rotate_left
    · intro w'
      go_simp
      with_reducible rfl
    rotate_left
    · simp only [Act.put, List.setIfInBounds_toArray, List.set_cons_zero, List.set_cons_succ, i64_w, i32_w]
      rfl
    refine pure_ (i := 1) (N := some 32) (v := ?_) (a' := ?_) #[true, true, false, false, false, false, false, false, false, false, false, false, false, false, false, false, false, false, false, false, false, false, false, false, false, false, false, false, false, false, false, false] rfl rfl (by kernel_rfl) (fun _ _ _ h => h) (Or.inl ⟨by rfl, ?_⟩) ?_ ?_
    rotate_left
    · intro w'
      go_simp
      with_reducible rfl
    rotate_left
    · simp only [Act.put, List.setIfInBounds_toArray, List.set_cons_zero, List.set_cons_succ, i64_w, i32_w]
      rfl
    refine pure_ (i := 2) (N := some 33) (v := ?_) (a' := ?_) #[true, true, true, false, false, false, false, false, false, false, false, false, false, false, false, false, false, false, false, false, false, false, false, false, false, false, false, false, false, false, false, false] rfl rfl (by kernel_rfl) (fun _ _ _ h => h) (Or.inl ⟨by rfl, ?_⟩) ?_ ?_
    rotate_left
    · intro w'
      go_simp
      with_reducible rfl
    rotate_left
    · simp only [Act.put, List.setIfInBounds_toArray, List.set_cons_zero, List.set_cons_succ, i64_w, i32_w]
      rfl
    refine take_ (i := 3) (N := some 34) (v := ?_) (a' := ?_) #[true, true, true, true, false, false, false, false, false, false, false, false, false, false, false, false, false, false, false, false, false, false, false, false, false, false, false, false, false, false, false, false] rfl rfl (by kernel_rfl) (fun _ _ _ h => h) (Or.inl ⟨by rfl, ?_⟩) hHeld ?_ ?_
    rotate_left
    · rintro w' ⟨s0, s1, s2⟩
      go_simp
      with_reducible rfl
    rotate_left
    · simp only [Act.put, List.setIfInBounds_toArray, List.set_cons_zero, List.set_cons_succ, i64_w, i32_w]
      rfl
    refine pure_ (i := 4) (N := some 35) (v := ?_) (a' := ?_) #[true, true, true, true, true, false, false, false, false, false, false, false, false, false, false, false, false, false, false, false, false, false, false, false, false, false, false, false, false, false, false, false] rfl rfl (by kernel_rfl) (fun _ _ _ h => h) (Or.inl ⟨by rfl, ?_⟩) ?_ ?_
    rotate_left
    · intro w'
      go_simp
      with_reducible rfl
    rotate_left
    · simp only [Act.put, List.setIfInBounds_toArray, List.set_cons_zero, List.set_cons_succ, i64_w, i32_w]
      rfl
    refine pure_ (i := 5) (N := some 36) (v := ?_) (a' := ?_) #[true, true, true, true, true, true, false, false, false, false, false, false, false, false, false, false, false, false, false, false, false, false, false, false, false, false, false, false, false, false, false, false] rfl rfl (by kernel_rfl) (fun _ _ _ h => h) (Or.inl ⟨by rfl, ?_⟩) ?_ ?_
    rotate_left
    · intro w'
      go_simp
      with_reducible rfl
    rotate_left
    · simp only [Act.put, List.setIfInBounds_toArray, List.set_cons_zero, List.set_cons_succ, i64_w, i32_w]
      rfl
    refine pure_ (i := 6) (N := some 37) (v := ?_) (a' := ?_) #[true, true, true, true, true, true, true, false, false, false, false, false, false, false, false, false, false, false, false, false, false, false, false, false, false, false, false, false, false, false, false, false] rfl rfl (by kernel_rfl) (fun _ _ _ h => h) (Or.inl ⟨by rfl, ?_⟩) ?_ ?_
    rotate_left
    · intro w'
      go_simp
      with_reducible rfl
    rotate_left
    · simp only [Act.put, List.setIfInBounds_toArray, List.set_cons_zero, List.set_cons_succ, i64_w, i32_w]
      rfl
    refine pure_ (i := 7) (N := some 38) (v := ?_) (a' := ?_) #[true, true, true, true, true, true, true, true, false, false, false, false, false, false, false, false, false, false, false, false, false, false, false, false, false, false, false, false, false, false, false, false] rfl rfl (by kernel_rfl) (fun _ _ _ h => h) (Or.inl ⟨by rfl, ?_⟩) ?_ ?_
    rotate_left
    · intro w'
      go_simp
      with_reducible rfl
    rotate_left
    · simp only [Act.put, List.setIfInBounds_toArray, List.set_cons_zero, List.set_cons_succ, i64_w, i32_w]
      rfl
    refine pure_ (i := 8) (N := some 39) (v := ?_) (a' := ?_) #[true, true, true, true, true, true, true, true, true, false, false, false, false, false, false, false, false, false, false, false, false, false, false, false, false, false, false, false, false, false, false, false] rfl rfl (by kernel_rfl) (fun _ _ _ h => h) (Or.inl ⟨by rfl, ?_⟩) ?_ ?_
    rotate_left
    · intro w'
      go_simp
      with_reducible rfl
    rotate_left
    · simp only [Act.put, List.setIfInBounds_toArray, List.set_cons_zero, List.set_cons_succ, i64_w, i32_w]
      rfl
    refine take_ (i := 9) (N := some 40) (v := ?_) (a' := ?_) #[true, true, true, true, true, true, true, true, true, true, false, false, false, false, false, false, false, false, false, false, false, false, false, false, false, false, false, false, false, false, false, false] rfl rfl (by kernel_rfl) (fun _ _ _ h => h) (Or.inl ⟨by rfl, ?_⟩) hHeld ?_ ?_
    rotate_left
    · rintro w' ⟨s0, s1, s2⟩
      go_simp
      with_reducible rfl
    rotate_left
    · simp only [Act.put, List.setIfInBounds_toArray, List.set_cons_zero, List.set_cons_succ, i64_w, i32_w]
      rfl
    refine pure_ (i := 10) (N := some 41) (v := ?_) (a' := ?_) #[true, true, true, true, true, true, true, true, true, true, true, false, false, false, false, false, false, false, false, false, false, false, false, false, false, false, false, false, false, false, false, false] rfl rfl (by kernel_rfl) (fun _ _ _ h => h) (Or.inl ⟨by rfl, ?_⟩) ?_ ?_
    rotate_left
    · intro w'
      go_simp
      with_reducible rfl
    rotate_left
    · simp only [Act.put, List.setIfInBounds_toArray, List.set_cons_zero, List.set_cons_succ, i64_w, i32_w]
      rfl
    refine pure_ (i := 11) (N := some 42) (v := ?_) (a' := ?_) #[true, true, true, true, true, true, true, true, true, true, true, true, false, false, false, false, false, false, false, false, false, false, false, false, false, false, false, false, false, false, false, false] rfl rfl (by kernel_rfl) (fun _ _ _ h => h) (Or.inl ⟨by rfl, ?_⟩) ?_ ?_
    rotate_left
    · intro w'
      go_simp
      with_reducible rfl
    rotate_left
    · simp only [Act.put, List.setIfInBounds_toArray, List.set_cons_zero, List.set_cons_succ, i64_w, i32_w]
      rfl
    refine pure_ (i := 12) (N := some 43) (v := ?_) (a' := ?_) #[true, true, true, true, true, true, true, true, true, true, true, true, true, false, false, false, false, false, false, false, false, false, false, false, false, false, false, false, false, false, false, false] rfl rfl (by kernel_rfl) (fun _ _ _ h => h) (Or.inl ⟨by rfl, ?_⟩) ?_ ?_
    rotate_left
    · intro w'
      go_simp
      with_reducible rfl
    rotate_left
    · simp only [Act.put, List.setIfInBounds_toArray, List.set_cons_zero, List.set_cons_succ, i64_w, i32_w]
      rfl
    refine take_ (i := 13) (N := some 44) (v := ?_) (a' := ?_) #[true, true, true, true, true, true, true, true, true, true, true, true, true, true, false, false, false, false, false, false, false, false, false, false, false, false, false, false, false, false, false, false] rfl rfl (by kernel_rfl) (fun _ _ _ h => h) (Or.inl ⟨by rfl, ?_⟩) hHeld ?_ ?_
    rotate_left
    · rintro w' ⟨s0, s1, s2⟩
      go_simp
      with_reducible rfl
    rotate_left
    · simp only [Act.put, List.setIfInBounds_toArray, List.set_cons_zero, List.set_cons_succ, i64_w, i32_w]
      rfl
    refine pure_ (i := 14) (N := some 45) (v := ?_) (a' := ?_) #[true, true, true, true, true, true, true, true, true, true, true, true, true, true, true, false, false, false, false, false, false, false, false, false, false, false, false, false, false, false, false, false] rfl rfl (by kernel_rfl) (fun _ _ _ h => h) (Or.inl ⟨by rfl, ?_⟩) ?_ ?_
    rotate_left
    · intro w'
      go_simp
      with_reducible rfl
    rotate_left
    · simp only [Act.put, List.setIfInBounds_toArray, List.set_cons_zero, List.set_cons_succ, i64_w, i32_w]
      rfl
    refine pure_ (i := 15) (N := some 46) (v := ?_) (a' := ?_) #[true, true, true, true, true, true, true, true, true, true, true, true, true, true, true, true, false, false, false, false, false, false, false, false, false, false, false, false, false, false, false, false] rfl rfl (by kernel_rfl) (fun _ _ _ h => h) (Or.inl ⟨by rfl, ?_⟩) ?_ ?_
    rotate_left
    · intro w'
      go_simp
      with_reducible rfl
    rotate_left
    · simp only [Act.put, List.setIfInBounds_toArray, List.set_cons_zero, List.set_cons_succ, i64_w, i32_w]
      rfl
    refine pure_ (i := 16) (N := some 47) (v := ?_) (a' := ?_) #[true, true, true, true, true, true, true, true, true, true, true, true, true, true, true, true, true, false, false, false, false, false, false, false, false, false, false, false, false, false, false, false] rfl rfl (by kernel_rfl) (fun _ _ _ h => h) (Or.inl ⟨by rfl, ?_⟩) ?_ ?_
    rotate_left
    · intro w'
      go_simp
      with_reducible rfl
    rotate_left
    · simp only [Act.put, List.setIfInBounds_toArray, List.set_cons_zero, List.set_cons_succ, i64_w, i32_w]
      rfl
    refine take_ (i := 17) (N := some 48) (v := ?_) (a' := ?_) #[true, true, true, true, true, true, true, true, true, true, true, true, true, true, true, true, true, true, false, false, false, false, false, false, false, false, false, false, false, false, false, false] rfl rfl (by kernel_rfl) (fun _ _ _ h => h) (Or.inl ⟨by rfl, ?_⟩) hHeld ?_ ?_
    rotate_left
    · rintro w' ⟨s0, s1, s2⟩
      go_simp
      with_reducible rfl
    rotate_left
    · simp only [Act.put, List.setIfInBounds_toArray, List.set_cons_zero, List.set_cons_succ, i64_w, i32_w]
      rfl
    refine pure_ (i := 18) (N := some 49) (v := ?_) (a' := ?_) #[true, true, true, true, true, true, true, true, true, true, true, true, true, true, true, true, true, true, true, false, false, false, false, false, false, false, false, false, false, false, false, false] rfl rfl (by kernel_rfl) (fun _ _ _ h => h) (Or.inl ⟨by rfl, ?_⟩) ?_ ?_
    rotate_left
    · intro w'
      go_simp
      with_reducible rfl
    rotate_left
    · simp only [Act.put, List.setIfInBounds_toArray, List.set_cons_zero, List.set_cons_succ, i64_w, i32_w]
      rfl
    refine pure_ (i := 19) (N := some 50) (v := ?_) (a' := ?_) #[true, true, true, true, true, true, true, true, true, true, true, true, true, true, true, true, true, true, true, true, false, false, false, false, false, false, false, false, false, false, false, false] rfl rfl (by kernel_rfl) (fun _ _ _ h => h) (Or.inl ⟨by rfl, ?_⟩) ?_ ?_
    rotate_left
    · intro w'
      go_simp
      with_reducible rfl
    rotate_left
    · simp only [Act.put, List.setIfInBounds_toArray, List.set_cons_zero, List.set_cons_succ, i64_w, i32_w]
      rfl
    refine pure_ (i := 20) (N := some 51) (v := ?_) (a' := ?_) #[true, true, true, true, true, true, true, true, true, true, true, true, true, true, true, true, true, true, true, true, true, false, false, false, false, false, false, false, false, false, false, false] rfl rfl (by kernel_rfl) (fun _ _ _ h => h) (Or.inl ⟨by rfl, ?_⟩) ?_ ?_
    rotate_left
    · intro w'
      go_simp
      with_reducible rfl
    rotate_left
    · simp only [Act.put, List.setIfInBounds_toArray, List.set_cons_zero, List.set_cons_succ, i64_w, i32_w]
      rfl
    refine pure_ (i := 21) (N := some 52) (v := ?_) (a' := ?_) #[true, true, true, true, true, true, true, true, true, true, true, true, true, true, true, true, true, true, true, true, true, true, false, false, false, false, false, false, false, false, false, false] rfl rfl (by kernel_rfl) (fun _ _ _ h => h) (Or.inl ⟨by rfl, ?_⟩) ?_ ?_
    rotate_left
    · intro w'
      go_simp
      with_reducible rfl
    rotate_left
    · simp only [Act.put, List.setIfInBounds_toArray, List.set_cons_zero, List.set_cons_succ, i64_w, i32_w]
      rfl
    refine pure_ (i := 22) (N := some 53) (v := ?_) (a' := ?_) #[true, true, true, true, true, true, true, true, true, true, true, true, true, true, true, true, true, true, true, true, true, true, true, false, false, false, false, false, false, false, false, false] rfl rfl (by kernel_rfl) (fun _ _ _ h => h) (Or.inl ⟨by rfl, ?_⟩) ?_ ?_
    rotate_left
    · intro w'
      go_simp
      with_reducible rfl
    rotate_left
    · simp only [Act.put, List.setIfInBounds_toArray, List.set_cons_zero, List.set_cons_succ, i64_w, i32_w]
      rfl
    refine take_ (i := 23) (N := some 54) (v := ?_) (a' := ?_) #[true, true, true, true, true, true, true, true, true, true, true, true, true, true, true, true, true, true, true, true, true, true, true, true, false, false, false, false, false, false, false, false] rfl rfl (by kernel_rfl) (fun _ _ _ h => h) (Or.inl ⟨by rfl, ?_⟩) hHeld ?_ ?_
    rotate_left
    · rintro w' ⟨s0, s1, s2⟩
      go_simp
      with_reducible rfl
    rotate_left
    · simp only [Act.put, List.setIfInBounds_toArray, List.set_cons_zero, List.set_cons_succ, i64_w, i32_w]
      rfl
    refine pure_ (i := 24) (N := some 55) (v := ?_) (a' := ?_) #[true, true, true, true, true, true, true, true, true, true, true, true, true, true, true, true, true, true, true, true, true, true, true, true, true, false, false, false, false, false, false, false] rfl rfl (by kernel_rfl) (fun _ _ _ h => h) (Or.inl ⟨by rfl, ?_⟩) ?_ ?_
    rotate_left
    · intro w'
      go_simp
      with_reducible rfl
    rotate_left
    · simp only [Act.put, List.setIfInBounds_toArray, List.set_cons_zero, List.set_cons_succ, i64_w, i32_w]
      rfl
    refine pure_ (i := 25) (N := some 56) (v := ?_) (a' := ?_) #[true, true, true, true, true, true, true, true, true, true, true, true, true, true, true, true, true, true, true, true, true, true, true, true, true, true, false, false, false, false, false, false] rfl rfl (by kernel_rfl) (fun _ _ _ h => h) (Or.inl ⟨by rfl, ?_⟩) ?_ ?_
    rotate_left
    · intro w'
      go_simp
      with_reducible rfl
    rotate_left
    · simp only [Act.put, List.setIfInBounds_toArray, List.set_cons_zero, List.set_cons_succ, i64_w, i32_w]
      rfl
    refine pure_ (i := 26) (N := some 57) (v := ?_) (a' := ?_) #[true, true, true, true, true, true, true, true, true, true, true, true, true, true, true, true, true, true, true, true, true, true, true, true, true, true, true, false, false, false, false, false] rfl rfl (by kernel_rfl) (fun _ _ _ h => h) (Or.inl ⟨by rfl, ?_⟩) ?_ ?_
    rotate_left
    · intro w'
      go_simp
      with_reducible rfl
    rotate_left
    · simp only [Act.put, List.setIfInBounds_toArray, List.set_cons_zero, List.set_cons_succ, i64_w, i32_w]
      rfl
    refine take_ (i := 27) (N := some 58) (v := ?_) (a' := ?_) #[true, true, true, true, true, true, true, true, true, true, true, true, true, true, true, true, true, true, true, true, true, true, true, true, true, true, true, true, false, false, false, false] rfl rfl (by kernel_rfl) (fun _ _ _ h => h) (Or.inl ⟨by rfl, ?_⟩) hHeld ?_ ?_
    rotate_left
    · rintro w' ⟨s0, s1, s2⟩
      go_simp
      with_reducible rfl
    rotate_left
    · simp only [Act.put, List.setIfInBounds_toArray, List.set_cons_zero, List.set_cons_succ, i64_w, i32_w]
      rfl
    refine join_ (σ := Nat × Nat) 2 #[true, true, true, true, true, true, true, true, true, true, true, true, true, true, true, true, true, true, true, true, true, true, true, true, true, true, true, true, true, true, false, false] (fun s => [(11, .pointer (some ⟨s.1, 0, none⟩)), (12, .pointer (some ⟨s.2, 0, none⟩))]) (fun s y => Below W1.heap.size W1 y ∧ MBox W1.heap.size y s.1 none .nil ∧ MBox W1.heap.size y s.2 none .nil ∧ s.1 ≠ s.2) ?_ (fun hJ => ?_)
    rotate_left
    obtain ⟨hbb, bx1, bx2⟩ := two_boxes (n₀ := W1.heap.size) (W := W1) (Nat.le_refl _)
    · refine two_ (i := 28) (j := 29) (Ni := some 11) (Nj := some 12) #[true, true, true, true, true, true, true, true, true, true, true, true, true, true, true, true, true, true, true, true, true, true, true, true, true, true, true, true, true, false, false, false] #[true, true, true, true, true, true, true, true, true, true, true, true, true, true, true, true, true, true, true, true, true, true, true, true, true, true, true, true, false, true, false, false] rfl rfl rfl rfl (by kernel_rfl) (by decide) (by decide) (fun K hK => ?_) (fun K hK => ?_)
      · refine value_ (w1 := ?_) (v := ?_) (by rfl) rfl ?_ ?_
        rotate_left 2
        · go_simp
          constructor <;> with_reducible rfl
        refine hK.out _ _ (sOf _ (Below.drew (below_one W1 (.cells #[.pointer none] 28)))) (fun hHeld => ?_)
        clear hK K
        refine norm_ (a' := ?_) ?_ ?_
        rotate_left
        · show Act.put _ (some 11) _ = _
          simp only [Act.put, List.setIfInBounds_toArray, List.set_cons_zero, List.set_cons_succ, i64_w, i32_w]
          rfl
        refine one_ (i := 29) (N := some 12) #[true, true, true, true, true, true, true, true, true, true, true, true, true, true, true, true, true, true, true, true, true, true, true, true, true, true, true, true, true, true, false, false] rfl rfl (by kernel_rfl) (by decide) (fun K hK => ?_)
        refine value_ (w1 := ?_) (v := ?_) (by rfl) rfl ?_ ?_
        rotate_left 2
        · go_simp
          constructor <;> with_reducible rfl
        refine hK.out _ _ (sOf _ hbb) (fun hHeld => ?_)
        clear hK K
        refine norm_ (a' := ?_) ?_ ?_
        rotate_left
        · show Act.put _ (some 12) _ = _
          simp only [Act.put, List.setIfInBounds_toArray, List.set_cons_zero, List.set_cons_succ, i64_w, i32_w]
          rfl
        refine norm_ (a' := putAll _ _) ?_ (hJ (W1.heap.size, W1.heap.size + 1) _ ⟨hbb, bx1, bx2, by simp⟩)
        simp only [putAll, Act.put, List.setIfInBounds_toArray, List.set_cons_zero, List.set_cons_succ, i64_w, i32_w]
      · refine value_ (w1 := ?_) (v := ?_) (by rfl) rfl ?_ ?_
        rotate_left 2
        · go_simp
          constructor <;> with_reducible rfl
        refine hK.out _ _ (sOf _ (Below.drew (below_one W1 (.cells #[.pointer none] 28)))) (fun hHeld => ?_)
        clear hK K
        refine norm_ (a' := ?_) ?_ ?_
        rotate_left
        · show Act.put _ (some 12) _ = _
          simp only [Act.put, List.setIfInBounds_toArray, List.set_cons_zero, List.set_cons_succ, i64_w, i32_w]
          rfl
        refine one_ (i := 28) (N := some 11) #[true, true, true, true, true, true, true, true, true, true, true, true, true, true, true, true, true, true, true, true, true, true, true, true, true, true, true, true, true, true, false, false] rfl rfl (by kernel_rfl) (by decide) (fun K hK => ?_)
        refine value_ (w1 := ?_) (v := ?_) (by rfl) rfl ?_ ?_
        rotate_left 2
        · go_simp
          constructor <;> with_reducible rfl
        refine hK.out _ _ (sOf _ hbb) (fun hHeld => ?_)
        clear hK K
        refine norm_ (a' := ?_) ?_ ?_
        rotate_left
        · show Act.put _ (some 11) _ = _
          simp only [Act.put, List.setIfInBounds_toArray, List.set_cons_zero, List.set_cons_succ, i64_w, i32_w]
          rfl
        refine norm_ (a' := putAll _ _) ?_ (hJ (W1.heap.size + 1, W1.heap.size) _ ⟨hbb, bx2, bx1, by simp⟩)
        simp only [putAll, Act.put, List.setIfInBounds_toArray, List.set_cons_zero, List.set_cons_succ, i64_w, i32_w]
    rintro ⟨ba, bb⟩ y ⟨hy, m7, m8, h78⟩
    dsimp only at m7 m8 h78
    refine norm_ (a' := ?_) ?_ ?_
    rotate_left
    · simp only [putAll, Act.put, List.setIfInBounds_toArray, List.set_cons_zero, List.set_cons_succ, i64_w, i32_w]
      rfl
    have e7 := m7.cell
    have f7 := m7.fr
    have e8 := m8.cell
    have f8 := m8.fr
    refine one_ (i := 30) (N := none) #[true, true, true, true, true, true, true, true, true, true, true, true, true, true, true, true, true, true, true, true, true, true, true, true, true, true, true, true, true, true, true, false] rfl rfl (by kernel_rfl) (by decide) (fun K hK => ?_)
    refine skip_ (w1 := ?_) (by rfl) rfl ?_ ?_
    rotate_left
    · go_simp
      with_reducible rfl
    refine hK.out _ _ (sOf _ (hy.setCell (p := ⟨ba, 0, none⟩) m7.base _)) (fun hHeld => ?_)
    clear hK K
    have hy7 := hy.setCell (p := ⟨ba, 0, none⟩) m7.base (.pointer p1)
    have n7 := m7.set (g1.later hy).tree
    have n8 := m8.far m7.tag h78 (.pointer p1)
    have e8' := n8.cell
    have f8' := n8.fr
    refine one_ (i := 31) (N := none) #[true, true, true, true, true, true, true, true, true, true, true, true, true, true, true, true, true, true, true, true, true, true, true, true, true, true, true, true, true, true, true, true] rfl rfl (by kernel_rfl) (by decide) (fun K hK => ?_)
    refine skip_ (w1 := ?_) (by rfl) rfl ?_ ?_
    rotate_left
    · go_simp
      with_reducible rfl
    refine hK.out _ _ (sOf _ (hy7.setCell (p := ⟨bb, 0, none⟩) m8.base _)) (fun hHeld => ?_)
    clear hK K
    refine done_ (by kernel_rfl) ?_
    have hy8 := hy7.setCell (p := ⟨bb, 0, none⟩) m8.base (.pointer p2)
    have ma := n7.far n8.tag (Ne.symm h78) (.pointer p2)
    have mb := n8.set (g2.later hy7).tree
    generalize (y.setCell ⟨ba, 0, none⟩ (.pointer p1)).setCell ⟨bb, 0, none⟩ (.pointer p2) = x2 at ma mb hy8 ⊢
    have hbx := hx.trans (hy8.mono hx.size)
    clear sOf hy7 hy8 n7 n8 m7 m8 e7 e8 f7 f8 e8' f8' t1' t2' w1 w2 nn nn2 a1 a2 a3 a4 hi hj hx g1 g2 hy h78
    have sOf : ∀ y, Below x2.heap.size x2 y → y.cell? ⟨ba, 0, none⟩ = some (.pointer p1) ∧ y.cell? ⟨bb, 0, none⟩ = some (.pointer p2) := fun y h => ⟨(ma.below h).cell, (mb.below h).cell⟩
    go_upto_region 5 with fail
    refine start_ (n := 15) (S := fun w' => w'.cell? ⟨ba, 0, none⟩ = some (.pointer p1) ∧ w'.cell? ⟨bb, 0, none⟩ = some (.pointer p2)) (ds := []) #[false, false, false, false, false, false, false, false, false, false, false, false, false, false, false] (by kernel_rfl) rfl rfl (sOf _ (Below.drew (Below.refl _ _))) (fun hHeld => ?_)
    refine take_ (i := 0) (N := some 59) (v := ?_) (a' := ?_) #[true, false, false, false, false, false, false, false, false, false, false, false, false, false, false] rfl rfl (by kernel_rfl) (fun _ _ _ h => h) (Or.inl ⟨by rfl, ?_⟩) hHeld ?_ ?_
    rotate_left
    · rintro w' ⟨s0, s1⟩
      go_simp
      with_reducible rfl
    rotate_left
    · simp only [Act.put, List.setIfInBounds_toArray, List.set_cons_zero, List.set_cons_succ, i64_w, i32_w]
      rfl
    refine take_ (i := 1) (N := some 60) (v := ?_) (a' := ?_) #[true, true, false, false, false, false, false, false, false, false, false, false, false, false, false] rfl rfl (by kernel_rfl) (fun _ _ _ h => h) (Or.inl ⟨by rfl, ?_⟩) hHeld ?_ ?_
    rotate_left
    · rintro w' ⟨s0, s1⟩
      go_simp
      with_reducible rfl
    rotate_left
    · simp only [Act.put, List.setIfInBounds_toArray, List.set_cons_zero, List.set_cons_succ, i64_w, i32_w]
      rfl
    refine take_ (i := 3) (N := some 62) (v := ?_) (a' := ?_) #[true, true, false, true, false, false, false, false, false, false, false, false, false, false, false] rfl rfl (by kernel_rfl) (fun _ _ _ h => h) (Or.inl ⟨by rfl, ?_⟩) hHeld ?_ ?_
    rotate_left
    · rintro w' ⟨s0, s1⟩
      go_simp
      with_reducible rfl
    rotate_left
    · simp only [Act.put, List.setIfInBounds_toArray, List.set_cons_zero, List.set_cons_succ, i64_w, i32_w]
      rfl
    refine take_ (i := 4) (N := some 63) (v := ?_) (a' := ?_) #[true, true, false, true, true, false, false, false, false, false, false, false, false, false, false] rfl rfl (by kernel_rfl) (fun _ _ _ h => h) (Or.inl ⟨by rfl, ?_⟩) hHeld ?_ ?_
    rotate_left
    · rintro w' ⟨s0, s1⟩
      go_simp
      with_reducible rfl
    rotate_left
    · simp only [Act.put, List.setIfInBounds_toArray, List.set_cons_zero, List.set_cons_succ, i64_w, i32_w]
      rfl
    refine take_ (i := 6) (N := some 65) (v := ?_) (a' := ?_) #[true, true, false, true, true, false, true, false, false, false, false, false, false, false, false] rfl rfl (by kernel_rfl) (fun _ _ _ h => h) (Or.inl ⟨by rfl, ?_⟩) hHeld ?_ ?_
    rotate_left
    · rintro w' ⟨s0, s1⟩
      go_simp
      with_reducible rfl
    rotate_left
    · simp only [Act.put, List.setIfInBounds_toArray, List.set_cons_zero, List.set_cons_succ, i64_w, i32_w]
      rfl
    refine take_ (i := 7) (N := some 66) (v := ?_) (a' := ?_) #[true, true, false, true, true, false, true, true, false, false, false, false, false, false, false] rfl rfl (by kernel_rfl) (fun _ _ _ h => h) (Or.inl ⟨by rfl, ?_⟩) hHeld ?_ ?_
    rotate_left
    · rintro w' ⟨s0, s1⟩
      go_simp
      with_reducible rfl
    rotate_left
    · simp only [Act.put, List.setIfInBounds_toArray, List.set_cons_zero, List.set_cons_succ, i64_w, i32_w]
      rfl
    refine join_ (σ := (Option Addr × Option Addr × Option Addr) × Nat × Nat × Nat) 3 #[true, true, true, true, true, true, true, true, true, true, true, true, false, false, false] (fun s => [(61, .agg #[.pointer s.1.1]), (64, .agg #[.pointer s.1.2.1]), (67, .agg #[.pointer s.1.2.2]), (13, .pointer (some ⟨s.2.1, 0, none⟩)), (14, .pointer (some ⟨s.2.2.1, 0, none⟩)), (15, .pointer (some ⟨s.2.2.2, 0, none⟩))]) (fun s y => Below x2.heap.size x2 y ∧ Tr y.heap.size y s.1.1 (T.union t1 t2) ∧ Tr y.heap.size y s.1.2.1 (T.intersect t1 t2) ∧ Tr y.heap.size y s.1.2.2 (T.subtract t1 t2) ∧ MBox x2.heap.size y s.2.1 none .nil ∧ MBox x2.heap.size y s.2.2.1 none .nil ∧ MBox x2.heap.size y s.2.2.2 none .nil ∧ s.2.1 ≠ s.2.2.1 ∧ s.2.1 ≠ s.2.2.2 ∧ s.2.2.1 ≠ s.2.2.2 ∧ True) ?_ (fun J3012 => ?_)
    rotate_left
    refine join_ (σ := (Option Addr × Option Addr × Option Addr) × Nat × Nat × Nat) 4 #[true, true, true, true, true, true, true, true, false, true, true, true, false, false, false] (fun s => [(61, .agg #[.pointer s.1.1]), (64, .agg #[.pointer s.1.2.1]), (13, .pointer (some ⟨s.2.1, 0, none⟩)), (14, .pointer (some ⟨s.2.2.1, 0, none⟩)), (15, .pointer (some ⟨s.2.2.2, 0, none⟩))]) (fun s y => Below x2.heap.size x2 y ∧ Tr y.heap.size y s.1.1 (T.union t1 t2) ∧ Tr y.heap.size y s.1.2.1 (T.intersect t1 t2) ∧ MBox x2.heap.size y s.2.1 none .nil ∧ MBox x2.heap.size y s.2.2.1 none .nil ∧ MBox x2.heap.size y s.2.2.2 none .nil ∧ s.2.1 ≠ s.2.2.1 ∧ s.2.1 ≠ s.2.2.2 ∧ s.2.2.1 ≠ s.2.2.2 ∧ True) ?_ (fun J2012 => ?_)
    · rintro ⟨⟨q0, q1, q2⟩, b0, b1, b2⟩ y ⟨hy, tr0, tr1, m0, m1, m2, n01, n02, n12, -⟩
      refine norm_ (a' := ?_) ?_ ?_
      rotate_left
      · simp only [putAll, Act.put, List.setIfInBounds_toArray, List.set_cons_zero, List.set_cons_succ, i64_w, i32_w]
        rfl
      refine one_ (i := 8) (N := some 67) #[true, true, true, true, true, true, true, true, true, true, true, true, false, false, false] rfl rfl (by kernel_rfl) (by decide) (fun K hK => ?_)
      · refine goes_ Try.func35 (by kernel_rfl) rfl #[.agg #[.pointer p1], .agg #[.pointer p2]] (by rfl) rfl rfl (by (try simp only [List.map_toArray, List.map_cons, List.map_nil]); first | done | rfl) ?_
        refine (Subtract_any t1 t2 p1 p2 _ (ma.below hy).tree (mb.below hy).tree (by omega)).mono ?_
        rintro e z ⟨p', rfl, hp', hz⟩
        have hyz := hy.trans (hz.mono hy.size)
        refine ⟨_, rfl, ?_⟩
        refine hK.out _ _ (sOf _ hyz) (fun hHeld => ?_)
        refine norm_ (a' := putAll _ _) ?_ (J3012 ((q0, q1, p'), (b0, b1, b2)) _ ⟨hyz, tr0.later hz, tr1.later hz, hp', m0.below hz, m1.below hz, m2.below hz, n01, n02, n12, trivial⟩)
        simp only [putAll, Act.put, List.setIfInBounds_toArray, List.set_cons_zero, List.set_cons_succ, i64_w, i32_w]
    refine join_ (σ := (Option Addr × Option Addr × Option Addr) × Nat × Nat × Nat) 4 #[true, true, true, true, true, true, true, true, true, true, true, false, false, false, false] (fun s => [(61, .agg #[.pointer s.1.1]), (64, .agg #[.pointer s.1.2.1]), (67, .agg #[.pointer s.1.2.2]), (13, .pointer (some ⟨s.2.1, 0, none⟩)), (14, .pointer (some ⟨s.2.2.1, 0, none⟩))]) (fun s y => Below x2.heap.size x2 y ∧ Tr y.heap.size y s.1.1 (T.union t1 t2) ∧ Tr y.heap.size y s.1.2.1 (T.intersect t1 t2) ∧ Tr y.heap.size y s.1.2.2 (T.subtract t1 t2) ∧ MBox x2.heap.size y s.2.1 none .nil ∧ MBox x2.heap.size y s.2.2.1 none .nil ∧ s.2.1 ≠ s.2.2.1 ∧ True) ?_ (fun J301 => ?_)
    · rintro ⟨⟨q0, q1, q2⟩, b0, b1, b2⟩ y ⟨hy, tr0, tr1, tr2, m0, m1, n01, -⟩
      refine norm_ (a' := ?_) ?_ ?_
      rotate_left
      · simp only [putAll, Act.put, List.setIfInBounds_toArray, List.set_cons_zero, List.set_cons_succ, i64_w, i32_w]
        rfl
      refine one_ (i := 11) (N := some 15) #[true, true, true, true, true, true, true, true, true, true, true, true, false, false, false] rfl rfl (by kernel_rfl) (by decide) (fun K hK => ?_)
      · have hz := below_one y (.cells #[.pointer none] 28)
        have hyz := hy.trans (hz.mono hy.size)
        refine value_ (w1 := ?_) (v := ?_) (by rfl) rfl ?_ ?_
        rotate_left 2
        · go_simp
          constructor <;> with_reducible rfl
        refine hK.out _ _ (sOf _ hyz) (fun hHeld => ?_)
        refine norm_ (a' := putAll _ _) ?_ (J3012 ((q0, q1, q2), (b0, b1, y.heap.size)) _ ⟨hyz, tr0.later hz, tr1.later hz, tr2.later hz, m0.below hz, m1.below hz, MBox.new (p := none) (t := .nil) hy.size rfl, n01, (Nat.ne_of_lt m0.lt), (Nat.ne_of_lt m1.lt), trivial⟩)
        simp only [putAll, Act.put, List.setIfInBounds_toArray, List.set_cons_zero, List.set_cons_succ, i64_w, i32_w]
    refine join_ (σ := (Option Addr × Option Addr × Option Addr) × Nat × Nat × Nat) 4 #[true, true, true, true, true, true, true, true, true, true, false, true, false, false, false] (fun s => [(61, .agg #[.pointer s.1.1]), (64, .agg #[.pointer s.1.2.1]), (67, .agg #[.pointer s.1.2.2]), (13, .pointer (some ⟨s.2.1, 0, none⟩)), (15, .pointer (some ⟨s.2.2.2, 0, none⟩))]) (fun s y => Below x2.heap.size x2 y ∧ Tr y.heap.size y s.1.1 (T.union t1 t2) ∧ Tr y.heap.size y s.1.2.1 (T.intersect t1 t2) ∧ Tr y.heap.size y s.1.2.2 (T.subtract t1 t2) ∧ MBox x2.heap.size y s.2.1 none .nil ∧ MBox x2.heap.size y s.2.2.2 none .nil ∧ s.2.1 ≠ s.2.2.2 ∧ True) ?_ (fun J302 => ?_)
    · rintro ⟨⟨q0, q1, q2⟩, b0, b1, b2⟩ y ⟨hy, tr0, tr1, tr2, m0, m2, n02, -⟩
      refine norm_ (a' := ?_) ?_ ?_
      rotate_left
      · simp only [putAll, Act.put, List.setIfInBounds_toArray, List.set_cons_zero, List.set_cons_succ, i64_w, i32_w]
        rfl
      refine one_ (i := 10) (N := some 14) #[true, true, true, true, true, true, true, true, true, true, true, true, false, false, false] rfl rfl (by kernel_rfl) (by decide) (fun K hK => ?_)
      · have hz := below_one y (.cells #[.pointer none] 28)
        have hyz := hy.trans (hz.mono hy.size)
        refine value_ (w1 := ?_) (v := ?_) (by rfl) rfl ?_ ?_
        rotate_left 2
        · go_simp
          constructor <;> with_reducible rfl
        refine hK.out _ _ (sOf _ hyz) (fun hHeld => ?_)
        refine norm_ (a' := putAll _ _) ?_ (J3012 ((q0, q1, q2), (b0, y.heap.size, b2)) _ ⟨hyz, tr0.later hz, tr1.later hz, tr2.later hz, m0.below hz, MBox.new (p := none) (t := .nil) hy.size rfl, m2.below hz, (Nat.ne_of_lt m0.lt), n02, (Nat.ne_of_gt m2.lt), trivial⟩)
        simp only [putAll, Act.put, List.setIfInBounds_toArray, List.set_cons_zero, List.set_cons_succ, i64_w, i32_w]
    refine join_ (σ := (Option Addr × Option Addr × Option Addr) × Nat × Nat × Nat) 4 #[true, true, true, true, true, true, true, true, true, false, true, true, false, false, false] (fun s => [(61, .agg #[.pointer s.1.1]), (64, .agg #[.pointer s.1.2.1]), (67, .agg #[.pointer s.1.2.2]), (14, .pointer (some ⟨s.2.2.1, 0, none⟩)), (15, .pointer (some ⟨s.2.2.2, 0, none⟩))]) (fun s y => Below x2.heap.size x2 y ∧ Tr y.heap.size y s.1.1 (T.union t1 t2) ∧ Tr y.heap.size y s.1.2.1 (T.intersect t1 t2) ∧ Tr y.heap.size y s.1.2.2 (T.subtract t1 t2) ∧ MBox x2.heap.size y s.2.2.1 none .nil ∧ MBox x2.heap.size y s.2.2.2 none .nil ∧ s.2.2.1 ≠ s.2.2.2 ∧ True) ?_ (fun J312 => ?_)
    · rintro ⟨⟨q0, q1, q2⟩, b0, b1, b2⟩ y ⟨hy, tr0, tr1, tr2, m1, m2, n12, -⟩
      refine norm_ (a' := ?_) ?_ ?_
      rotate_left
      · simp only [putAll, Act.put, List.setIfInBounds_toArray, List.set_cons_zero, List.set_cons_succ, i64_w, i32_w]
        rfl
      refine one_ (i := 9) (N := some 13) #[true, true, true, true, true, true, true, true, true, true, true, true, false, false, false] rfl rfl (by kernel_rfl) (by decide) (fun K hK => ?_)
      · have hz := below_one y (.cells #[.pointer none] 28)
        have hyz := hy.trans (hz.mono hy.size)
        refine value_ (w1 := ?_) (v := ?_) (by rfl) rfl ?_ ?_
        rotate_left 2
        · go_simp
          constructor <;> with_reducible rfl
        refine hK.out _ _ (sOf _ hyz) (fun hHeld => ?_)
        refine norm_ (a' := putAll _ _) ?_ (J3012 ((q0, q1, q2), (y.heap.size, b1, b2)) _ ⟨hyz, tr0.later hz, tr1.later hz, tr2.later hz, MBox.new (p := none) (t := .nil) hy.size rfl, m1.below hz, m2.below hz, (Nat.ne_of_gt m1.lt), (Nat.ne_of_gt m2.lt), n12, trivial⟩)
        simp only [putAll, Act.put, List.setIfInBounds_toArray, List.set_cons_zero, List.set_cons_succ, i64_w, i32_w]
    refine join_ (σ := (Option Addr × Option Addr × Option Addr) × Nat × Nat × Nat) 5 #[true, true, true, true, true, false, true, true, false, true, true, true, false, false, false] (fun s => [(61, .agg #[.pointer s.1.1]), (13, .pointer (some ⟨s.2.1, 0, none⟩)), (14, .pointer (some ⟨s.2.2.1, 0, none⟩)), (15, .pointer (some ⟨s.2.2.2, 0, none⟩))]) (fun s y => Below x2.heap.size x2 y ∧ Tr y.heap.size y s.1.1 (T.union t1 t2) ∧ MBox x2.heap.size y s.2.1 none .nil ∧ MBox x2.heap.size y s.2.2.1 none .nil ∧ MBox x2.heap.size y s.2.2.2 none .nil ∧ s.2.1 ≠ s.2.2.1 ∧ s.2.1 ≠ s.2.2.2 ∧ s.2.2.1 ≠ s.2.2.2 ∧ True) ?_ (fun J1012 => ?_)
    · rintro ⟨⟨q0, q1, q2⟩, b0, b1, b2⟩ y ⟨hy, tr0, m0, m1, m2, n01, n02, n12, -⟩
      refine norm_ (a' := ?_) ?_ ?_
      rotate_left
      · simp only [putAll, Act.put, List.setIfInBounds_toArray, List.set_cons_zero, List.set_cons_succ, i64_w, i32_w]
        rfl
      refine one_ (i := 5) (N := some 64) #[true, true, true, true, true, true, true, true, false, true, true, true, false, false, false] rfl rfl (by kernel_rfl) (by decide) (fun K hK => ?_)
      · refine goes_ Try.func39 (by kernel_rfl) rfl #[.agg #[.pointer p1], .agg #[.pointer p2]] (by rfl) rfl rfl (by (try simp only [List.map_toArray, List.map_cons, List.map_nil]); first | done | rfl) ?_
        refine (Intersect_any t1 t2 p1 p2 _ (ma.below hy).tree (mb.below hy).tree (by omega)).mono ?_
        rintro e z ⟨p', rfl, hp', hz⟩
        have hyz := hy.trans (hz.mono hy.size)
        refine ⟨_, rfl, ?_⟩
        refine hK.out _ _ (sOf _ hyz) (fun hHeld => ?_)
        refine norm_ (a' := putAll _ _) ?_ (J2012 ((q0, p', q2), (b0, b1, b2)) _ ⟨hyz, tr0.later hz, hp', m0.below hz, m1.below hz, m2.below hz, n01, n02, n12, trivial⟩)
        simp only [putAll, Act.put, List.setIfInBounds_toArray, List.set_cons_zero, List.set_cons_succ, i64_w, i32_w]
    refine join_ (σ := (Option Addr × Option Addr × Option Addr) × Nat × Nat × Nat) 5 #[true, true, true, true, true, true, true, true, false, true, true, false, false, false, false] (fun s => [(61, .agg #[.pointer s.1.1]), (64, .agg #[.pointer s.1.2.1]), (13, .pointer (some ⟨s.2.1, 0, none⟩)), (14, .pointer (some ⟨s.2.2.1, 0, none⟩))]) (fun s y => Below x2.heap.size x2 y ∧ Tr y.heap.size y s.1.1 (T.union t1 t2) ∧ Tr y.heap.size y s.1.2.1 (T.intersect t1 t2) ∧ MBox x2.heap.size y s.2.1 none .nil ∧ MBox x2.heap.size y s.2.2.1 none .nil ∧ s.2.1 ≠ s.2.2.1 ∧ True) ?_ (fun J201 => ?_)
    · rintro ⟨⟨q0, q1, q2⟩, b0, b1, b2⟩ y ⟨hy, tr0, tr1, m0, m1, n01, -⟩
      refine norm_ (a' := ?_) ?_ ?_
      rotate_left
      · simp only [putAll, Act.put, List.setIfInBounds_toArray, List.set_cons_zero, List.set_cons_succ, i64_w, i32_w]
        rfl
      refine two_ (i := 8) (j := 11) (Ni := some 67) (Nj := some 15) #[true, true, true, true, true, true, true, true, true, true, true, false, false, false, false] #[true, true, true, true, true, true, true, true, false, true, true, true, false, false, false] rfl rfl rfl rfl (by kernel_rfl) (by decide) (by decide) (fun K hK => ?_) (fun K hK => ?_)
      · refine goes_ Try.func35 (by kernel_rfl) rfl #[.agg #[.pointer p1], .agg #[.pointer p2]] (by rfl) rfl rfl (by (try simp only [List.map_toArray, List.map_cons, List.map_nil]); first | done | rfl) ?_
        refine (Subtract_any t1 t2 p1 p2 _ (ma.below hy).tree (mb.below hy).tree (by omega)).mono ?_
        rintro e z ⟨p', rfl, hp', hz⟩
        have hyz := hy.trans (hz.mono hy.size)
        refine ⟨_, rfl, ?_⟩
        refine hK.out _ _ (sOf _ hyz) (fun hHeld => ?_)
        refine norm_ (a' := putAll _ _) ?_ (J301 ((q0, q1, p'), (b0, b1, b2)) _ ⟨hyz, tr0.later hz, tr1.later hz, hp', m0.below hz, m1.below hz, n01, trivial⟩)
        simp only [putAll, Act.put, List.setIfInBounds_toArray, List.set_cons_zero, List.set_cons_succ, i64_w, i32_w]
      · have hz := below_one y (.cells #[.pointer none] 28)
        have hyz := hy.trans (hz.mono hy.size)
        refine value_ (w1 := ?_) (v := ?_) (by rfl) rfl ?_ ?_
        rotate_left 2
        · go_simp
          constructor <;> with_reducible rfl
        refine hK.out _ _ (sOf _ hyz) (fun hHeld => ?_)
        refine norm_ (a' := putAll _ _) ?_ (J2012 ((q0, q1, q2), (b0, b1, y.heap.size)) _ ⟨hyz, tr0.later hz, tr1.later hz, m0.below hz, m1.below hz, MBox.new (p := none) (t := .nil) hy.size rfl, n01, (Nat.ne_of_lt m0.lt), (Nat.ne_of_lt m1.lt), trivial⟩)
        simp only [putAll, Act.put, List.setIfInBounds_toArray, List.set_cons_zero, List.set_cons_succ, i64_w, i32_w]
    refine join_ (σ := (Option Addr × Option Addr × Option Addr) × Nat × Nat × Nat) 5 #[true, true, true, true, true, true, true, true, false, true, false, true, false, false, false] (fun s => [(61, .agg #[.pointer s.1.1]), (64, .agg #[.pointer s.1.2.1]), (13, .pointer (some ⟨s.2.1, 0, none⟩)), (15, .pointer (some ⟨s.2.2.2, 0, none⟩))]) (fun s y => Below x2.heap.size x2 y ∧ Tr y.heap.size y s.1.1 (T.union t1 t2) ∧ Tr y.heap.size y s.1.2.1 (T.intersect t1 t2) ∧ MBox x2.heap.size y s.2.1 none .nil ∧ MBox x2.heap.size y s.2.2.2 none .nil ∧ s.2.1 ≠ s.2.2.2 ∧ True) ?_ (fun J202 => ?_)
    · rintro ⟨⟨q0, q1, q2⟩, b0, b1, b2⟩ y ⟨hy, tr0, tr1, m0, m2, n02, -⟩
      refine norm_ (a' := ?_) ?_ ?_
      rotate_left
      · simp only [putAll, Act.put, List.setIfInBounds_toArray, List.set_cons_zero, List.set_cons_succ, i64_w, i32_w]
        rfl
      refine two_ (i := 8) (j := 10) (Ni := some 67) (Nj := some 14) #[true, true, true, true, true, true, true, true, true, true, false, true, false, false, false] #[true, true, true, true, true, true, true, true, false, true, true, true, false, false, false] rfl rfl rfl rfl (by kernel_rfl) (by decide) (by decide) (fun K hK => ?_) (fun K hK => ?_)
      · refine goes_ Try.func35 (by kernel_rfl) rfl #[.agg #[.pointer p1], .agg #[.pointer p2]] (by rfl) rfl rfl (by (try simp only [List.map_toArray, List.map_cons, List.map_nil]); first | done | rfl) ?_
        refine (Subtract_any t1 t2 p1 p2 _ (ma.below hy).tree (mb.below hy).tree (by omega)).mono ?_
        rintro e z ⟨p', rfl, hp', hz⟩
        have hyz := hy.trans (hz.mono hy.size)
        refine ⟨_, rfl, ?_⟩
        refine hK.out _ _ (sOf _ hyz) (fun hHeld => ?_)
        refine norm_ (a' := putAll _ _) ?_ (J302 ((q0, q1, p'), (b0, b1, b2)) _ ⟨hyz, tr0.later hz, tr1.later hz, hp', m0.below hz, m2.below hz, n02, trivial⟩)
        simp only [putAll, Act.put, List.setIfInBounds_toArray, List.set_cons_zero, List.set_cons_succ, i64_w, i32_w]
      · have hz := below_one y (.cells #[.pointer none] 28)
        have hyz := hy.trans (hz.mono hy.size)
        refine value_ (w1 := ?_) (v := ?_) (by rfl) rfl ?_ ?_
        rotate_left 2
        · go_simp
          constructor <;> with_reducible rfl
        refine hK.out _ _ (sOf _ hyz) (fun hHeld => ?_)
        refine norm_ (a' := putAll _ _) ?_ (J2012 ((q0, q1, q2), (b0, y.heap.size, b2)) _ ⟨hyz, tr0.later hz, tr1.later hz, m0.below hz, MBox.new (p := none) (t := .nil) hy.size rfl, m2.below hz, (Nat.ne_of_lt m0.lt), n02, (Nat.ne_of_gt m2.lt), trivial⟩)
        simp only [putAll, Act.put, List.setIfInBounds_toArray, List.set_cons_zero, List.set_cons_succ, i64_w, i32_w]
    refine join_ (σ := (Option Addr × Option Addr × Option Addr) × Nat × Nat × Nat) 5 #[true, true, true, true, true, true, true, true, false, false, true, true, false, false, false] (fun s => [(61, .agg #[.pointer s.1.1]), (64, .agg #[.pointer s.1.2.1]), (14, .pointer (some ⟨s.2.2.1, 0, none⟩)), (15, .pointer (some ⟨s.2.2.2, 0, none⟩))]) (fun s y => Below x2.heap.size x2 y ∧ Tr y.heap.size y s.1.1 (T.union t1 t2) ∧ Tr y.heap.size y s.1.2.1 (T.intersect t1 t2) ∧ MBox x2.heap.size y s.2.2.1 none .nil ∧ MBox x2.heap.size y s.2.2.2 none .nil ∧ s.2.2.1 ≠ s.2.2.2 ∧ True) ?_ (fun J212 => ?_)
    · rintro ⟨⟨q0, q1, q2⟩, b0, b1, b2⟩ y ⟨hy, tr0, tr1, m1, m2, n12, -⟩
      refine norm_ (a' := ?_) ?_ ?_
      rotate_left
      · simp only [putAll, Act.put, List.setIfInBounds_toArray, List.set_cons_zero, List.set_cons_succ, i64_w, i32_w]
        rfl
      refine two_ (i := 8) (j := 9) (Ni := some 67) (Nj := some 13) #[true, true, true, true, true, true, true, true, true, false, true, true, false, false, false] #[true, true, true, true, true, true, true, true, false, true, true, true, false, false, false] rfl rfl rfl rfl (by kernel_rfl) (by decide) (by decide) (fun K hK => ?_) (fun K hK => ?_)
      · refine goes_ Try.func35 (by kernel_rfl) rfl #[.agg #[.pointer p1], .agg #[.pointer p2]] (by rfl) rfl rfl (by (try simp only [List.map_toArray, List.map_cons, List.map_nil]); first | done | rfl) ?_
        refine (Subtract_any t1 t2 p1 p2 _ (ma.below hy).tree (mb.below hy).tree (by omega)).mono ?_
        rintro e z ⟨p', rfl, hp', hz⟩
        have hyz := hy.trans (hz.mono hy.size)
        refine ⟨_, rfl, ?_⟩
        refine hK.out _ _ (sOf _ hyz) (fun hHeld => ?_)
        refine norm_ (a' := putAll _ _) ?_ (J312 ((q0, q1, p'), (b0, b1, b2)) _ ⟨hyz, tr0.later hz, tr1.later hz, hp', m1.below hz, m2.below hz, n12, trivial⟩)
        simp only [putAll, Act.put, List.setIfInBounds_toArray, List.set_cons_zero, List.set_cons_succ, i64_w, i32_w]
      · have hz := below_one y (.cells #[.pointer none] 28)
        have hyz := hy.trans (hz.mono hy.size)
        refine value_ (w1 := ?_) (v := ?_) (by rfl) rfl ?_ ?_
        rotate_left 2
        · go_simp
          constructor <;> with_reducible rfl
        refine hK.out _ _ (sOf _ hyz) (fun hHeld => ?_)
        refine norm_ (a' := putAll _ _) ?_ (J2012 ((q0, q1, q2), (y.heap.size, b1, b2)) _ ⟨hyz, tr0.later hz, tr1.later hz, MBox.new (p := none) (t := .nil) hy.size rfl, m1.below hz, m2.below hz, (Nat.ne_of_gt m1.lt), (Nat.ne_of_gt m2.lt), n12, trivial⟩)
        simp only [putAll, Act.put, List.setIfInBounds_toArray, List.set_cons_zero, List.set_cons_succ, i64_w, i32_w]
    refine join_ (σ := (Option Addr × Option Addr × Option Addr) × Nat × Nat × Nat) 5 #[true, true, true, true, true, true, true, true, true, true, false, false, false, false, false] (fun s => [(61, .agg #[.pointer s.1.1]), (64, .agg #[.pointer s.1.2.1]), (67, .agg #[.pointer s.1.2.2]), (13, .pointer (some ⟨s.2.1, 0, none⟩))]) (fun s y => Below x2.heap.size x2 y ∧ Tr y.heap.size y s.1.1 (T.union t1 t2) ∧ Tr y.heap.size y s.1.2.1 (T.intersect t1 t2) ∧ Tr y.heap.size y s.1.2.2 (T.subtract t1 t2) ∧ MBox x2.heap.size y s.2.1 none .nil ∧ True) ?_ (fun J30 => ?_)
    · rintro ⟨⟨q0, q1, q2⟩, b0, b1, b2⟩ y ⟨hy, tr0, tr1, tr2, m0, -⟩
      refine norm_ (a' := ?_) ?_ ?_
      rotate_left
      · simp only [putAll, Act.put, List.setIfInBounds_toArray, List.set_cons_zero, List.set_cons_succ, i64_w, i32_w]
        rfl
      refine two_ (i := 10) (j := 11) (Ni := some 14) (Nj := some 15) #[true, true, true, true, true, true, true, true, true, true, true, false, false, false, false] #[true, true, true, true, true, true, true, true, true, true, false, true, false, false, false] rfl rfl rfl rfl (by kernel_rfl) (by decide) (by decide) (fun K hK => ?_) (fun K hK => ?_)
      · have hz := below_one y (.cells #[.pointer none] 28)
        have hyz := hy.trans (hz.mono hy.size)
        refine value_ (w1 := ?_) (v := ?_) (by rfl) rfl ?_ ?_
        rotate_left 2
        · go_simp
          constructor <;> with_reducible rfl
        refine hK.out _ _ (sOf _ hyz) (fun hHeld => ?_)
        refine norm_ (a' := putAll _ _) ?_ (J301 ((q0, q1, q2), (b0, y.heap.size, b2)) _ ⟨hyz, tr0.later hz, tr1.later hz, tr2.later hz, m0.below hz, MBox.new (p := none) (t := .nil) hy.size rfl, (Nat.ne_of_lt m0.lt), trivial⟩)
        simp only [putAll, Act.put, List.setIfInBounds_toArray, List.set_cons_zero, List.set_cons_succ, i64_w, i32_w]
      · have hz := below_one y (.cells #[.pointer none] 28)
        have hyz := hy.trans (hz.mono hy.size)
        refine value_ (w1 := ?_) (v := ?_) (by rfl) rfl ?_ ?_
        rotate_left 2
        · go_simp
          constructor <;> with_reducible rfl
        refine hK.out _ _ (sOf _ hyz) (fun hHeld => ?_)
        refine norm_ (a' := putAll _ _) ?_ (J302 ((q0, q1, q2), (b0, b1, y.heap.size)) _ ⟨hyz, tr0.later hz, tr1.later hz, tr2.later hz, m0.below hz, MBox.new (p := none) (t := .nil) hy.size rfl, (Nat.ne_of_lt m0.lt), trivial⟩)
        simp only [putAll, Act.put, List.setIfInBounds_toArray, List.set_cons_zero, List.set_cons_succ, i64_w, i32_w]
    refine join_ (σ := (Option Addr × Option Addr × Option Addr) × Nat × Nat × Nat) 5 #[true, true, true, true, true, true, true, true, true, false, true, false, false, false, false] (fun s => [(61, .agg #[.pointer s.1.1]), (64, .agg #[.pointer s.1.2.1]), (67, .agg #[.pointer s.1.2.2]), (14, .pointer (some ⟨s.2.2.1, 0, none⟩))]) (fun s y => Below x2.heap.size x2 y ∧ Tr y.heap.size y s.1.1 (T.union t1 t2) ∧ Tr y.heap.size y s.1.2.1 (T.intersect t1 t2) ∧ Tr y.heap.size y s.1.2.2 (T.subtract t1 t2) ∧ MBox x2.heap.size y s.2.2.1 none .nil ∧ True) ?_ (fun J31 => ?_)
    · rintro ⟨⟨q0, q1, q2⟩, b0, b1, b2⟩ y ⟨hy, tr0, tr1, tr2, m1, -⟩
      refine norm_ (a' := ?_) ?_ ?_
      rotate_left
      · simp only [putAll, Act.put, List.setIfInBounds_toArray, List.set_cons_zero, List.set_cons_succ, i64_w, i32_w]
        rfl
      refine two_ (i := 9) (j := 11) (Ni := some 13) (Nj := some 15) #[true, true, true, true, true, true, true, true, true, true, true, false, false, false, false] #[true, true, true, true, true, true, true, true, true, false, true, true, false, false, false] rfl rfl rfl rfl (by kernel_rfl) (by decide) (by decide) (fun K hK => ?_) (fun K hK => ?_)
      · have hz := below_one y (.cells #[.pointer none] 28)
        have hyz := hy.trans (hz.mono hy.size)
        refine value_ (w1 := ?_) (v := ?_) (by rfl) rfl ?_ ?_
        rotate_left 2
        · go_simp
          constructor <;> with_reducible rfl
        refine hK.out _ _ (sOf _ hyz) (fun hHeld => ?_)
        refine norm_ (a' := putAll _ _) ?_ (J301 ((q0, q1, q2), (y.heap.size, b1, b2)) _ ⟨hyz, tr0.later hz, tr1.later hz, tr2.later hz, MBox.new (p := none) (t := .nil) hy.size rfl, m1.below hz, (Nat.ne_of_gt m1.lt), trivial⟩)
        simp only [putAll, Act.put, List.setIfInBounds_toArray, List.set_cons_zero, List.set_cons_succ, i64_w, i32_w]
      · have hz := below_one y (.cells #[.pointer none] 28)
        have hyz := hy.trans (hz.mono hy.size)
        refine value_ (w1 := ?_) (v := ?_) (by rfl) rfl ?_ ?_
        rotate_left 2
        · go_simp
          constructor <;> with_reducible rfl
        refine hK.out _ _ (sOf _ hyz) (fun hHeld => ?_)
        refine norm_ (a' := putAll _ _) ?_ (J312 ((q0, q1, q2), (b0, b1, y.heap.size)) _ ⟨hyz, tr0.later hz, tr1.later hz, tr2.later hz, m1.below hz, MBox.new (p := none) (t := .nil) hy.size rfl, (Nat.ne_of_lt m1.lt), trivial⟩)
        simp only [putAll, Act.put, List.setIfInBounds_toArray, List.set_cons_zero, List.set_cons_succ, i64_w, i32_w]
    refine join_ (σ := (Option Addr × Option Addr × Option Addr) × Nat × Nat × Nat) 5 #[true, true, true, true, true, true, true, true, true, false, false, true, false, false, false] (fun s => [(61, .agg #[.pointer s.1.1]), (64, .agg #[.pointer s.1.2.1]), (67, .agg #[.pointer s.1.2.2]), (15, .pointer (some ⟨s.2.2.2, 0, none⟩))]) (fun s y => Below x2.heap.size x2 y ∧ Tr y.heap.size y s.1.1 (T.union t1 t2) ∧ Tr y.heap.size y s.1.2.1 (T.intersect t1 t2) ∧ Tr y.heap.size y s.1.2.2 (T.subtract t1 t2) ∧ MBox x2.heap.size y s.2.2.2 none .nil ∧ True) ?_ (fun J32 => ?_)
    · rintro ⟨⟨q0, q1, q2⟩, b0, b1, b2⟩ y ⟨hy, tr0, tr1, tr2, m2, -⟩
      refine norm_ (a' := ?_) ?_ ?_
      rotate_left
      · simp only [putAll, Act.put, List.setIfInBounds_toArray, List.set_cons_zero, List.set_cons_succ, i64_w, i32_w]
        rfl
      refine two_ (i := 9) (j := 10) (Ni := some 13) (Nj := some 14) #[true, true, true, true, true, true, true, true, true, true, false, true, false, false, false] #[true, true, true, true, true, true, true, true, true, false, true, true, false, false, false] rfl rfl rfl rfl (by kernel_rfl) (by decide) (by decide) (fun K hK => ?_) (fun K hK => ?_)
      · have hz := below_one y (.cells #[.pointer none] 28)
        have hyz := hy.trans (hz.mono hy.size)
        refine value_ (w1 := ?_) (v := ?_) (by rfl) rfl ?_ ?_
        rotate_left 2
        · go_simp
          constructor <;> with_reducible rfl
        refine hK.out _ _ (sOf _ hyz) (fun hHeld => ?_)
        refine norm_ (a' := putAll _ _) ?_ (J302 ((q0, q1, q2), (y.heap.size, b1, b2)) _ ⟨hyz, tr0.later hz, tr1.later hz, tr2.later hz, MBox.new (p := none) (t := .nil) hy.size rfl, m2.below hz, (Nat.ne_of_gt m2.lt), trivial⟩)
        simp only [putAll, Act.put, List.setIfInBounds_toArray, List.set_cons_zero, List.set_cons_succ, i64_w, i32_w]
      · have hz := below_one y (.cells #[.pointer none] 28)
        have hyz := hy.trans (hz.mono hy.size)
        refine value_ (w1 := ?_) (v := ?_) (by rfl) rfl ?_ ?_
        rotate_left 2
        · go_simp
          constructor <;> with_reducible rfl
        refine hK.out _ _ (sOf _ hyz) (fun hHeld => ?_)
        refine norm_ (a' := putAll _ _) ?_ (J312 ((q0, q1, q2), (b0, y.heap.size, b2)) _ ⟨hyz, tr0.later hz, tr1.later hz, tr2.later hz, MBox.new (p := none) (t := .nil) hy.size rfl, m2.below hz, (Nat.ne_of_gt m2.lt), trivial⟩)
        simp only [putAll, Act.put, List.setIfInBounds_toArray, List.set_cons_zero, List.set_cons_succ, i64_w, i32_w]
    refine join_ (σ := (Option Addr × Option Addr × Option Addr) × Nat × Nat × Nat) 6 #[true, true, false, true, true, false, true, true, false, true, true, true, false, false, false] (fun s => [(13, .pointer (some ⟨s.2.1, 0, none⟩)), (14, .pointer (some ⟨s.2.2.1, 0, none⟩)), (15, .pointer (some ⟨s.2.2.2, 0, none⟩))]) (fun s y => Below x2.heap.size x2 y ∧ MBox x2.heap.size y s.2.1 none .nil ∧ MBox x2.heap.size y s.2.2.1 none .nil ∧ MBox x2.heap.size y s.2.2.2 none .nil ∧ s.2.1 ≠ s.2.2.1 ∧ s.2.1 ≠ s.2.2.2 ∧ s.2.2.1 ≠ s.2.2.2 ∧ True) ?_ (fun J0012 => ?_)
    · rintro ⟨⟨q0, q1, q2⟩, b0, b1, b2⟩ y ⟨hy, m0, m1, m2, n01, n02, n12, -⟩
      refine norm_ (a' := ?_) ?_ ?_
      rotate_left
      · simp only [putAll, Act.put, List.setIfInBounds_toArray, List.set_cons_zero, List.set_cons_succ, i64_w, i32_w]
        rfl
      refine one_ (i := 2) (N := some 61) #[true, true, true, true, true, false, true, true, false, true, true, true, false, false, false] rfl rfl (by kernel_rfl) (by decide) (fun K hK => ?_)
      · refine goes_ Try.func34 (by kernel_rfl) rfl #[.agg #[.pointer p1], .agg #[.pointer p2]] (by rfl) rfl rfl (by (try simp only [List.map_toArray, List.map_cons, List.map_nil]); first | done | rfl) ?_
        refine (Union_any t1 t2 p1 p2 _ (ma.below hy).tree (mb.below hy).tree (by omega)).mono ?_
        rintro e z ⟨p', rfl, hp', hz⟩
        have hyz := hy.trans (hz.mono hy.size)
        refine ⟨_, rfl, ?_⟩
        refine hK.out _ _ (sOf _ hyz) (fun hHeld => ?_)
        refine norm_ (a' := putAll _ _) ?_ (J1012 ((p', q1, q2), (b0, b1, b2)) _ ⟨hyz, hp', m0.below hz, m1.below hz, m2.below hz, n01, n02, n12, trivial⟩)
        simp only [putAll, Act.put, List.setIfInBounds_toArray, List.set_cons_zero, List.set_cons_succ, i64_w, i32_w]
    refine join_ (σ := (Option Addr × Option Addr × Option Addr) × Nat × Nat × Nat) 6 #[true, true, true, true, true, false, true, true, false, true, true, false, false, false, false] (fun s => [(61, .agg #[.pointer s.1.1]), (13, .pointer (some ⟨s.2.1, 0, none⟩)), (14, .pointer (some ⟨s.2.2.1, 0, none⟩))]) (fun s y => Below x2.heap.size x2 y ∧ Tr y.heap.size y s.1.1 (T.union t1 t2) ∧ MBox x2.heap.size y s.2.1 none .nil ∧ MBox x2.heap.size y s.2.2.1 none .nil ∧ s.2.1 ≠ s.2.2.1 ∧ True) ?_ (fun J101 => ?_)
    · rintro ⟨⟨q0, q1, q2⟩, b0, b1, b2⟩ y ⟨hy, tr0, m0, m1, n01, -⟩
      refine norm_ (a' := ?_) ?_ ?_
      rotate_left
      · simp only [putAll, Act.put, List.setIfInBounds_toArray, List.set_cons_zero, List.set_cons_succ, i64_w, i32_w]
        rfl
      refine two_ (i := 5) (j := 11) (Ni := some 64) (Nj := some 15) #[true, true, true, true, true, true, true, true, false, true, true, false, false, false, false] #[true, true, true, true, true, false, true, true, false, true, true, true, false, false, false] rfl rfl rfl rfl (by kernel_rfl) (by decide) (by decide) (fun K hK => ?_) (fun K hK => ?_)
      · refine goes_ Try.func39 (by kernel_rfl) rfl #[.agg #[.pointer p1], .agg #[.pointer p2]] (by rfl) rfl rfl (by (try simp only [List.map_toArray, List.map_cons, List.map_nil]); first | done | rfl) ?_
        refine (Intersect_any t1 t2 p1 p2 _ (ma.below hy).tree (mb.below hy).tree (by omega)).mono ?_
        rintro e z ⟨p', rfl, hp', hz⟩
        have hyz := hy.trans (hz.mono hy.size)
        refine ⟨_, rfl, ?_⟩
        refine hK.out _ _ (sOf _ hyz) (fun hHeld => ?_)
        refine norm_ (a' := putAll _ _) ?_ (J201 ((q0, p', q2), (b0, b1, b2)) _ ⟨hyz, tr0.later hz, hp', m0.below hz, m1.below hz, n01, trivial⟩)
        simp only [putAll, Act.put, List.setIfInBounds_toArray, List.set_cons_zero, List.set_cons_succ, i64_w, i32_w]
      · have hz := below_one y (.cells #[.pointer none] 28)
        have hyz := hy.trans (hz.mono hy.size)
        refine value_ (w1 := ?_) (v := ?_) (by rfl) rfl ?_ ?_
        rotate_left 2
        · go_simp
          constructor <;> with_reducible rfl
        refine hK.out _ _ (sOf _ hyz) (fun hHeld => ?_)
        refine norm_ (a' := putAll _ _) ?_ (J1012 ((q0, q1, q2), (b0, b1, y.heap.size)) _ ⟨hyz, tr0.later hz, m0.below hz, m1.below hz, MBox.new (p := none) (t := .nil) hy.size rfl, n01, (Nat.ne_of_lt m0.lt), (Nat.ne_of_lt m1.lt), trivial⟩)
        simp only [putAll, Act.put, List.setIfInBounds_toArray, List.set_cons_zero, List.set_cons_succ, i64_w, i32_w]
    refine join_ (σ := (Option Addr × Option Addr × Option Addr) × Nat × Nat × Nat) 6 #[true, true, true, true, true, false, true, true, false, true, false, true, false, false, false] (fun s => [(61, .agg #[.pointer s.1.1]), (13, .pointer (some ⟨s.2.1, 0, none⟩)), (15, .pointer (some ⟨s.2.2.2, 0, none⟩))]) (fun s y => Below x2.heap.size x2 y ∧ Tr y.heap.size y s.1.1 (T.union t1 t2) ∧ MBox x2.heap.size y s.2.1 none .nil ∧ MBox x2.heap.size y s.2.2.2 none .nil ∧ s.2.1 ≠ s.2.2.2 ∧ True) ?_ (fun J102 => ?_)
    · rintro ⟨⟨q0, q1, q2⟩, b0, b1, b2⟩ y ⟨hy, tr0, m0, m2, n02, -⟩
      refine norm_ (a' := ?_) ?_ ?_
      rotate_left
      · simp only [putAll, Act.put, List.setIfInBounds_toArray, List.set_cons_zero, List.set_cons_succ, i64_w, i32_w]
        rfl
      refine two_ (i := 5) (j := 10) (Ni := some 64) (Nj := some 14) #[true, true, true, true, true, true, true, true, false, true, false, true, false, false, false] #[true, true, true, true, true, false, true, true, false, true, true, true, false, false, false] rfl rfl rfl rfl (by kernel_rfl) (by decide) (by decide) (fun K hK => ?_) (fun K hK => ?_)
      · refine goes_ Try.func39 (by kernel_rfl) rfl #[.agg #[.pointer p1], .agg #[.pointer p2]] (by rfl) rfl rfl (by (try simp only [List.map_toArray, List.map_cons, List.map_nil]); first | done | rfl) ?_
        refine (Intersect_any t1 t2 p1 p2 _ (ma.below hy).tree (mb.below hy).tree (by omega)).mono ?_
        rintro e z ⟨p', rfl, hp', hz⟩
        have hyz := hy.trans (hz.mono hy.size)
        refine ⟨_, rfl, ?_⟩
        refine hK.out _ _ (sOf _ hyz) (fun hHeld => ?_)
        refine norm_ (a' := putAll _ _) ?_ (J202 ((q0, p', q2), (b0, b1, b2)) _ ⟨hyz, tr0.later hz, hp', m0.below hz, m2.below hz, n02, trivial⟩)
        simp only [putAll, Act.put, List.setIfInBounds_toArray, List.set_cons_zero, List.set_cons_succ, i64_w, i32_w]
      · have hz := below_one y (.cells #[.pointer none] 28)
        have hyz := hy.trans (hz.mono hy.size)
        refine value_ (w1 := ?_) (v := ?_) (by rfl) rfl ?_ ?_
        rotate_left 2
        · go_simp
          constructor <;> with_reducible rfl
        refine hK.out _ _ (sOf _ hyz) (fun hHeld => ?_)
        refine norm_ (a' := putAll _ _) ?_ (J1012 ((q0, q1, q2), (b0, y.heap.size, b2)) _ ⟨hyz, tr0.later hz, m0.below hz, MBox.new (p := none) (t := .nil) hy.size rfl, m2.below hz, (Nat.ne_of_lt m0.lt), n02, (Nat.ne_of_gt m2.lt), trivial⟩)
        simp only [putAll, Act.put, List.setIfInBounds_toArray, List.set_cons_zero, List.set_cons_succ, i64_w, i32_w]
    refine join_ (σ := (Option Addr × Option Addr × Option Addr) × Nat × Nat × Nat) 6 #[true, true, true, true, true, false, true, true, false, false, true, true, false, false, false] (fun s => [(61, .agg #[.pointer s.1.1]), (14, .pointer (some ⟨s.2.2.1, 0, none⟩)), (15, .pointer (some ⟨s.2.2.2, 0, none⟩))]) (fun s y => Below x2.heap.size x2 y ∧ Tr y.heap.size y s.1.1 (T.union t1 t2) ∧ MBox x2.heap.size y s.2.2.1 none .nil ∧ MBox x2.heap.size y s.2.2.2 none .nil ∧ s.2.2.1 ≠ s.2.2.2 ∧ True) ?_ (fun J112 => ?_)
    · rintro ⟨⟨q0, q1, q2⟩, b0, b1, b2⟩ y ⟨hy, tr0, m1, m2, n12, -⟩
      refine norm_ (a' := ?_) ?_ ?_
      rotate_left
      · simp only [putAll, Act.put, List.setIfInBounds_toArray, List.set_cons_zero, List.set_cons_succ, i64_w, i32_w]
        rfl
      refine two_ (i := 5) (j := 9) (Ni := some 64) (Nj := some 13) #[true, true, true, true, true, true, true, true, false, false, true, true, false, false, false] #[true, true, true, true, true, false, true, true, false, true, true, true, false, false, false] rfl rfl rfl rfl (by kernel_rfl) (by decide) (by decide) (fun K hK => ?_) (fun K hK => ?_)
      · refine goes_ Try.func39 (by kernel_rfl) rfl #[.agg #[.pointer p1], .agg #[.pointer p2]] (by rfl) rfl rfl (by (try simp only [List.map_toArray, List.map_cons, List.map_nil]); first | done | rfl) ?_
        refine (Intersect_any t1 t2 p1 p2 _ (ma.below hy).tree (mb.below hy).tree (by omega)).mono ?_
        rintro e z ⟨p', rfl, hp', hz⟩
        have hyz := hy.trans (hz.mono hy.size)
        refine ⟨_, rfl, ?_⟩
        refine hK.out _ _ (sOf _ hyz) (fun hHeld => ?_)
        refine norm_ (a' := putAll _ _) ?_ (J212 ((q0, p', q2), (b0, b1, b2)) _ ⟨hyz, tr0.later hz, hp', m1.below hz, m2.below hz, n12, trivial⟩)
        simp only [putAll, Act.put, List.setIfInBounds_toArray, List.set_cons_zero, List.set_cons_succ, i64_w, i32_w]
      · have hz := below_one y (.cells #[.pointer none] 28)
        have hyz := hy.trans (hz.mono hy.size)
        refine value_ (w1 := ?_) (v := ?_) (by rfl) rfl ?_ ?_
        rotate_left 2
        · go_simp
          constructor <;> with_reducible rfl
        refine hK.out _ _ (sOf _ hyz) (fun hHeld => ?_)
        refine norm_ (a' := putAll _ _) ?_ (J1012 ((q0, q1, q2), (y.heap.size, b1, b2)) _ ⟨hyz, tr0.later hz, MBox.new (p := none) (t := .nil) hy.size rfl, m1.below hz, m2.below hz, (Nat.ne_of_gt m1.lt), (Nat.ne_of_gt m2.lt), n12, trivial⟩)
        simp only [putAll, Act.put, List.setIfInBounds_toArray, List.set_cons_zero, List.set_cons_succ, i64_w, i32_w]
    refine join_ (σ := (Option Addr × Option Addr × Option Addr) × Nat × Nat × Nat) 6 #[true, true, true, true, true, true, true, true, false, true, false, false, false, false, false] (fun s => [(61, .agg #[.pointer s.1.1]), (64, .agg #[.pointer s.1.2.1]), (13, .pointer (some ⟨s.2.1, 0, none⟩))]) (fun s y => Below x2.heap.size x2 y ∧ Tr y.heap.size y s.1.1 (T.union t1 t2) ∧ Tr y.heap.size y s.1.2.1 (T.intersect t1 t2) ∧ MBox x2.heap.size y s.2.1 none .nil ∧ True) ?_ (fun J20 => ?_)
    · rintro ⟨⟨q0, q1, q2⟩, b0, b1, b2⟩ y ⟨hy, tr0, tr1, m0, -⟩
      refine norm_ (a' := ?_) ?_ ?_
      rotate_left
      · simp only [putAll, Act.put, List.setIfInBounds_toArray, List.set_cons_zero, List.set_cons_succ, i64_w, i32_w]
        rfl
      refine three_ (i := 8) (j := 10) (k := 11) (Ni := some 67) (Nj := some 14) (Nk := some 15) #[true, true, true, true, true, true, true, true, true, true, false, false, false, false, false] #[true, true, true, true, true, true, true, true, false, true, true, false, false, false, false] #[true, true, true, true, true, true, true, true, false, true, false, true, false, false, false] rfl rfl rfl rfl rfl rfl (by kernel_rfl) (by decide) (by decide) (by decide) (fun K hK => ?_) (fun K hK => ?_) (fun K hK => ?_)
      · refine goes_ Try.func35 (by kernel_rfl) rfl #[.agg #[.pointer p1], .agg #[.pointer p2]] (by rfl) rfl rfl (by (try simp only [List.map_toArray, List.map_cons, List.map_nil]); first | done | rfl) ?_
        refine (Subtract_any t1 t2 p1 p2 _ (ma.below hy).tree (mb.below hy).tree (by omega)).mono ?_
        rintro e z ⟨p', rfl, hp', hz⟩
        have hyz := hy.trans (hz.mono hy.size)
        refine ⟨_, rfl, ?_⟩
        refine hK.out _ _ (sOf _ hyz) (fun hHeld => ?_)
        refine norm_ (a' := putAll _ _) ?_ (J30 ((q0, q1, p'), (b0, b1, b2)) _ ⟨hyz, tr0.later hz, tr1.later hz, hp', m0.below hz, trivial⟩)
        simp only [putAll, Act.put, List.setIfInBounds_toArray, List.set_cons_zero, List.set_cons_succ, i64_w, i32_w]
      · have hz := below_one y (.cells #[.pointer none] 28)
        have hyz := hy.trans (hz.mono hy.size)
        refine value_ (w1 := ?_) (v := ?_) (by rfl) rfl ?_ ?_
        rotate_left 2
        · go_simp
          constructor <;> with_reducible rfl
        refine hK.out _ _ (sOf _ hyz) (fun hHeld => ?_)
        refine norm_ (a' := putAll _ _) ?_ (J201 ((q0, q1, q2), (b0, y.heap.size, b2)) _ ⟨hyz, tr0.later hz, tr1.later hz, m0.below hz, MBox.new (p := none) (t := .nil) hy.size rfl, (Nat.ne_of_lt m0.lt), trivial⟩)
        simp only [putAll, Act.put, List.setIfInBounds_toArray, List.set_cons_zero, List.set_cons_succ, i64_w, i32_w]
      · have hz := below_one y (.cells #[.pointer none] 28)
        have hyz := hy.trans (hz.mono hy.size)
        refine value_ (w1 := ?_) (v := ?_) (by rfl) rfl ?_ ?_
        rotate_left 2
        · go_simp
          constructor <;> with_reducible rfl
        refine hK.out _ _ (sOf _ hyz) (fun hHeld => ?_)
        refine norm_ (a' := putAll _ _) ?_ (J202 ((q0, q1, q2), (b0, b1, y.heap.size)) _ ⟨hyz, tr0.later hz, tr1.later hz, m0.below hz, MBox.new (p := none) (t := .nil) hy.size rfl, (Nat.ne_of_lt m0.lt), trivial⟩)
        simp only [putAll, Act.put, List.setIfInBounds_toArray, List.set_cons_zero, List.set_cons_succ, i64_w, i32_w]
    refine join_ (σ := (Option Addr × Option Addr × Option Addr) × Nat × Nat × Nat) 6 #[true, true, true, true, true, true, true, true, false, false, true, false, false, false, false] (fun s => [(61, .agg #[.pointer s.1.1]), (64, .agg #[.pointer s.1.2.1]), (14, .pointer (some ⟨s.2.2.1, 0, none⟩))]) (fun s y => Below x2.heap.size x2 y ∧ Tr y.heap.size y s.1.1 (T.union t1 t2) ∧ Tr y.heap.size y s.1.2.1 (T.intersect t1 t2) ∧ MBox x2.heap.size y s.2.2.1 none .nil ∧ True) ?_ (fun J21 => ?_)
    · rintro ⟨⟨q0, q1, q2⟩, b0, b1, b2⟩ y ⟨hy, tr0, tr1, m1, -⟩
      refine norm_ (a' := ?_) ?_ ?_
      rotate_left
      · simp only [putAll, Act.put, List.setIfInBounds_toArray, List.set_cons_zero, List.set_cons_succ, i64_w, i32_w]
        rfl
      refine three_ (i := 8) (j := 9) (k := 11) (Ni := some 67) (Nj := some 13) (Nk := some 15) #[true, true, true, true, true, true, true, true, true, false, true, false, false, false, false] #[true, true, true, true, true, true, true, true, false, true, true, false, false, false, false] #[true, true, true, true, true, true, true, true, false, false, true, true, false, false, false] rfl rfl rfl rfl rfl rfl (by kernel_rfl) (by decide) (by decide) (by decide) (fun K hK => ?_) (fun K hK => ?_) (fun K hK => ?_)
      · refine goes_ Try.func35 (by kernel_rfl) rfl #[.agg #[.pointer p1], .agg #[.pointer p2]] (by rfl) rfl rfl (by (try simp only [List.map_toArray, List.map_cons, List.map_nil]); first | done | rfl) ?_
        refine (Subtract_any t1 t2 p1 p2 _ (ma.below hy).tree (mb.below hy).tree (by omega)).mono ?_
        rintro e z ⟨p', rfl, hp', hz⟩
        have hyz := hy.trans (hz.mono hy.size)
        refine ⟨_, rfl, ?_⟩
        refine hK.out _ _ (sOf _ hyz) (fun hHeld => ?_)
        refine norm_ (a' := putAll _ _) ?_ (J31 ((q0, q1, p'), (b0, b1, b2)) _ ⟨hyz, tr0.later hz, tr1.later hz, hp', m1.below hz, trivial⟩)
        simp only [putAll, Act.put, List.setIfInBounds_toArray, List.set_cons_zero, List.set_cons_succ, i64_w, i32_w]
      · have hz := below_one y (.cells #[.pointer none] 28)
        have hyz := hy.trans (hz.mono hy.size)
        refine value_ (w1 := ?_) (v := ?_) (by rfl) rfl ?_ ?_
        rotate_left 2
        · go_simp
          constructor <;> with_reducible rfl
        refine hK.out _ _ (sOf _ hyz) (fun hHeld => ?_)
        refine norm_ (a' := putAll _ _) ?_ (J201 ((q0, q1, q2), (y.heap.size, b1, b2)) _ ⟨hyz, tr0.later hz, tr1.later hz, MBox.new (p := none) (t := .nil) hy.size rfl, m1.below hz, (Nat.ne_of_gt m1.lt), trivial⟩)
        simp only [putAll, Act.put, List.setIfInBounds_toArray, List.set_cons_zero, List.set_cons_succ, i64_w, i32_w]
      · have hz := below_one y (.cells #[.pointer none] 28)
        have hyz := hy.trans (hz.mono hy.size)
        refine value_ (w1 := ?_) (v := ?_) (by rfl) rfl ?_ ?_
        rotate_left 2
        · go_simp
          constructor <;> with_reducible rfl
        refine hK.out _ _ (sOf _ hyz) (fun hHeld => ?_)
        refine norm_ (a' := putAll _ _) ?_ (J212 ((q0, q1, q2), (b0, b1, y.heap.size)) _ ⟨hyz, tr0.later hz, tr1.later hz, m1.below hz, MBox.new (p := none) (t := .nil) hy.size rfl, (Nat.ne_of_lt m1.lt), trivial⟩)
        simp only [putAll, Act.put, List.setIfInBounds_toArray, List.set_cons_zero, List.set_cons_succ, i64_w, i32_w]
    refine join_ (σ := (Option Addr × Option Addr × Option Addr) × Nat × Nat × Nat) 6 #[true, true, true, true, true, true, true, true, false, false, false, true, false, false, false] (fun s => [(61, .agg #[.pointer s.1.1]), (64, .agg #[.pointer s.1.2.1]), (15, .pointer (some ⟨s.2.2.2, 0, none⟩))]) (fun s y => Below x2.heap.size x2 y ∧ Tr y.heap.size y s.1.1 (T.union t1 t2) ∧ Tr y.heap.size y s.1.2.1 (T.intersect t1 t2) ∧ MBox x2.heap.size y s.2.2.2 none .nil ∧ True) ?_ (fun J22 => ?_)
    · rintro ⟨⟨q0, q1, q2⟩, b0, b1, b2⟩ y ⟨hy, tr0, tr1, m2, -⟩
      refine norm_ (a' := ?_) ?_ ?_
      rotate_left
      · simp only [putAll, Act.put, List.setIfInBounds_toArray, List.set_cons_zero, List.set_cons_succ, i64_w, i32_w]
        rfl
      refine three_ (i := 8) (j := 9) (k := 10) (Ni := some 67) (Nj := some 13) (Nk := some 14) #[true, true, true, true, true, true, true, true, true, false, false, true, false, false, false] #[true, true, true, true, true, true, true, true, false, true, false, true, false, false, false] #[true, true, true, true, true, true, true, true, false, false, true, true, false, false, false] rfl rfl rfl rfl rfl rfl (by kernel_rfl) (by decide) (by decide) (by decide) (fun K hK => ?_) (fun K hK => ?_) (fun K hK => ?_)
      · refine goes_ Try.func35 (by kernel_rfl) rfl #[.agg #[.pointer p1], .agg #[.pointer p2]] (by rfl) rfl rfl (by (try simp only [List.map_toArray, List.map_cons, List.map_nil]); first | done | rfl) ?_
        refine (Subtract_any t1 t2 p1 p2 _ (ma.below hy).tree (mb.below hy).tree (by omega)).mono ?_
        rintro e z ⟨p', rfl, hp', hz⟩
        have hyz := hy.trans (hz.mono hy.size)
        refine ⟨_, rfl, ?_⟩
        refine hK.out _ _ (sOf _ hyz) (fun hHeld => ?_)
        refine norm_ (a' := putAll _ _) ?_ (J32 ((q0, q1, p'), (b0, b1, b2)) _ ⟨hyz, tr0.later hz, tr1.later hz, hp', m2.below hz, trivial⟩)
        simp only [putAll, Act.put, List.setIfInBounds_toArray, List.set_cons_zero, List.set_cons_succ, i64_w, i32_w]
      · have hz := below_one y (.cells #[.pointer none] 28)
        have hyz := hy.trans (hz.mono hy.size)
        refine value_ (w1 := ?_) (v := ?_) (by rfl) rfl ?_ ?_
        rotate_left 2
        · go_simp
          constructor <;> with_reducible rfl
        refine hK.out _ _ (sOf _ hyz) (fun hHeld => ?_)
        refine norm_ (a' := putAll _ _) ?_ (J202 ((q0, q1, q2), (y.heap.size, b1, b2)) _ ⟨hyz, tr0.later hz, tr1.later hz, MBox.new (p := none) (t := .nil) hy.size rfl, m2.below hz, (Nat.ne_of_gt m2.lt), trivial⟩)
        simp only [putAll, Act.put, List.setIfInBounds_toArray, List.set_cons_zero, List.set_cons_succ, i64_w, i32_w]
      · have hz := below_one y (.cells #[.pointer none] 28)
        have hyz := hy.trans (hz.mono hy.size)
        refine value_ (w1 := ?_) (v := ?_) (by rfl) rfl ?_ ?_
        rotate_left 2
        · go_simp
          constructor <;> with_reducible rfl
        refine hK.out _ _ (sOf _ hyz) (fun hHeld => ?_)
        refine norm_ (a' := putAll _ _) ?_ (J212 ((q0, q1, q2), (b0, y.heap.size, b2)) _ ⟨hyz, tr0.later hz, tr1.later hz, MBox.new (p := none) (t := .nil) hy.size rfl, m2.below hz, (Nat.ne_of_gt m2.lt), trivial⟩)
        simp only [putAll, Act.put, List.setIfInBounds_toArray, List.set_cons_zero, List.set_cons_succ, i64_w, i32_w]
    refine join_ (σ := (Option Addr × Option Addr × Option Addr) × Nat × Nat × Nat) 6 #[true, true, true, true, true, true, true, true, true, false, false, false, false, false, false] (fun s => [(61, .agg #[.pointer s.1.1]), (64, .agg #[.pointer s.1.2.1]), (67, .agg #[.pointer s.1.2.2])]) (fun s y => Below x2.heap.size x2 y ∧ Tr y.heap.size y s.1.1 (T.union t1 t2) ∧ Tr y.heap.size y s.1.2.1 (T.intersect t1 t2) ∧ Tr y.heap.size y s.1.2.2 (T.subtract t1 t2) ∧ True) ?_ (fun J3 => ?_)
    · rintro ⟨⟨q0, q1, q2⟩, b0, b1, b2⟩ y ⟨hy, tr0, tr1, tr2, -⟩
      refine norm_ (a' := ?_) ?_ ?_
      rotate_left
      · simp only [putAll, Act.put, List.setIfInBounds_toArray, List.set_cons_zero, List.set_cons_succ, i64_w, i32_w]
        rfl
      refine three_ (i := 9) (j := 10) (k := 11) (Ni := some 13) (Nj := some 14) (Nk := some 15) #[true, true, true, true, true, true, true, true, true, true, false, false, false, false, false] #[true, true, true, true, true, true, true, true, true, false, true, false, false, false, false] #[true, true, true, true, true, true, true, true, true, false, false, true, false, false, false] rfl rfl rfl rfl rfl rfl (by kernel_rfl) (by decide) (by decide) (by decide) (fun K hK => ?_) (fun K hK => ?_) (fun K hK => ?_)
      · have hz := below_one y (.cells #[.pointer none] 28)
        have hyz := hy.trans (hz.mono hy.size)
        refine value_ (w1 := ?_) (v := ?_) (by rfl) rfl ?_ ?_
        rotate_left 2
        · go_simp
          constructor <;> with_reducible rfl
        refine hK.out _ _ (sOf _ hyz) (fun hHeld => ?_)
        refine norm_ (a' := putAll _ _) ?_ (J30 ((q0, q1, q2), (y.heap.size, b1, b2)) _ ⟨hyz, tr0.later hz, tr1.later hz, tr2.later hz, MBox.new (p := none) (t := .nil) hy.size rfl, trivial⟩)
        simp only [putAll, Act.put, List.setIfInBounds_toArray, List.set_cons_zero, List.set_cons_succ, i64_w, i32_w]
      · have hz := below_one y (.cells #[.pointer none] 28)
        have hyz := hy.trans (hz.mono hy.size)
        refine value_ (w1 := ?_) (v := ?_) (by rfl) rfl ?_ ?_
        rotate_left 2
        · go_simp
          constructor <;> with_reducible rfl
        refine hK.out _ _ (sOf _ hyz) (fun hHeld => ?_)
        refine norm_ (a' := putAll _ _) ?_ (J31 ((q0, q1, q2), (b0, y.heap.size, b2)) _ ⟨hyz, tr0.later hz, tr1.later hz, tr2.later hz, MBox.new (p := none) (t := .nil) hy.size rfl, trivial⟩)
        simp only [putAll, Act.put, List.setIfInBounds_toArray, List.set_cons_zero, List.set_cons_succ, i64_w, i32_w]
      · have hz := below_one y (.cells #[.pointer none] 28)
        have hyz := hy.trans (hz.mono hy.size)
        refine value_ (w1 := ?_) (v := ?_) (by rfl) rfl ?_ ?_
        rotate_left 2
        · go_simp
          constructor <;> with_reducible rfl
        refine hK.out _ _ (sOf _ hyz) (fun hHeld => ?_)
        refine norm_ (a' := putAll _ _) ?_ (J32 ((q0, q1, q2), (b0, b1, y.heap.size)) _ ⟨hyz, tr0.later hz, tr1.later hz, tr2.later hz, MBox.new (p := none) (t := .nil) hy.size rfl, trivial⟩)
        simp only [putAll, Act.put, List.setIfInBounds_toArray, List.set_cons_zero, List.set_cons_succ, i64_w, i32_w]
    refine join_ (σ := (Option Addr × Option Addr × Option Addr) × Nat × Nat × Nat) 7 #[true, true, false, true, true, false, true, true, false, true, true, false, false, false, false] (fun s => [(13, .pointer (some ⟨s.2.1, 0, none⟩)), (14, .pointer (some ⟨s.2.2.1, 0, none⟩))]) (fun s y => Below x2.heap.size x2 y ∧ MBox x2.heap.size y s.2.1 none .nil ∧ MBox x2.heap.size y s.2.2.1 none .nil ∧ s.2.1 ≠ s.2.2.1 ∧ True) ?_ (fun J001 => ?_)
    · rintro ⟨⟨q0, q1, q2⟩, b0, b1, b2⟩ y ⟨hy, m0, m1, n01, -⟩
      refine norm_ (a' := ?_) ?_ ?_
      rotate_left
      · simp only [putAll, Act.put, List.setIfInBounds_toArray, List.set_cons_zero, List.set_cons_succ, i64_w, i32_w]
        rfl
      refine two_ (i := 2) (j := 11) (Ni := some 61) (Nj := some 15) #[true, true, true, true, true, false, true, true, false, true, true, false, false, false, false] #[true, true, false, true, true, false, true, true, false, true, true, true, false, false, false] rfl rfl rfl rfl (by kernel_rfl) (by decide) (by decide) (fun K hK => ?_) (fun K hK => ?_)
      · refine goes_ Try.func34 (by kernel_rfl) rfl #[.agg #[.pointer p1], .agg #[.pointer p2]] (by rfl) rfl rfl (by (try simp only [List.map_toArray, List.map_cons, List.map_nil]); first | done | rfl) ?_
        refine (Union_any t1 t2 p1 p2 _ (ma.below hy).tree (mb.below hy).tree (by omega)).mono ?_
        rintro e z ⟨p', rfl, hp', hz⟩
        have hyz := hy.trans (hz.mono hy.size)
        refine ⟨_, rfl, ?_⟩
        refine hK.out _ _ (sOf _ hyz) (fun hHeld => ?_)
        refine norm_ (a' := putAll _ _) ?_ (J101 ((p', q1, q2), (b0, b1, b2)) _ ⟨hyz, hp', m0.below hz, m1.below hz, n01, trivial⟩)
        simp only [putAll, Act.put, List.setIfInBounds_toArray, List.set_cons_zero, List.set_cons_succ, i64_w, i32_w]
      · have hz := below_one y (.cells #[.pointer none] 28)
        have hyz := hy.trans (hz.mono hy.size)
        refine value_ (w1 := ?_) (v := ?_) (by rfl) rfl ?_ ?_
        rotate_left 2
        · go_simp
          constructor <;> with_reducible rfl
        refine hK.out _ _ (sOf _ hyz) (fun hHeld => ?_)
        refine norm_ (a' := putAll _ _) ?_ (J0012 ((q0, q1, q2), (b0, b1, y.heap.size)) _ ⟨hyz, m0.below hz, m1.below hz, MBox.new (p := none) (t := .nil) hy.size rfl, n01, (Nat.ne_of_lt m0.lt), (Nat.ne_of_lt m1.lt), trivial⟩)
        simp only [putAll, Act.put, List.setIfInBounds_toArray, List.set_cons_zero, List.set_cons_succ, i64_w, i32_w]
    refine join_ (σ := (Option Addr × Option Addr × Option Addr) × Nat × Nat × Nat) 7 #[true, true, false, true, true, false, true, true, false, true, false, true, false, false, false] (fun s => [(13, .pointer (some ⟨s.2.1, 0, none⟩)), (15, .pointer (some ⟨s.2.2.2, 0, none⟩))]) (fun s y => Below x2.heap.size x2 y ∧ MBox x2.heap.size y s.2.1 none .nil ∧ MBox x2.heap.size y s.2.2.2 none .nil ∧ s.2.1 ≠ s.2.2.2 ∧ True) ?_ (fun J002 => ?_)
    · rintro ⟨⟨q0, q1, q2⟩, b0, b1, b2⟩ y ⟨hy, m0, m2, n02, -⟩
      refine norm_ (a' := ?_) ?_ ?_
      rotate_left
      · simp only [putAll, Act.put, List.setIfInBounds_toArray, List.set_cons_zero, List.set_cons_succ, i64_w, i32_w]
        rfl
      refine two_ (i := 2) (j := 10) (Ni := some 61) (Nj := some 14) #[true, true, true, true, true, false, true, true, false, true, false, true, false, false, false] #[true, true, false, true, true, false, true, true, false, true, true, true, false, false, false] rfl rfl rfl rfl (by kernel_rfl) (by decide) (by decide) (fun K hK => ?_) (fun K hK => ?_)
      · refine goes_ Try.func34 (by kernel_rfl) rfl #[.agg #[.pointer p1], .agg #[.pointer p2]] (by rfl) rfl rfl (by (try simp only [List.map_toArray, List.map_cons, List.map_nil]); first | done | rfl) ?_
        refine (Union_any t1 t2 p1 p2 _ (ma.below hy).tree (mb.below hy).tree (by omega)).mono ?_
        rintro e z ⟨p', rfl, hp', hz⟩
        have hyz := hy.trans (hz.mono hy.size)
        refine ⟨_, rfl, ?_⟩
        refine hK.out _ _ (sOf _ hyz) (fun hHeld => ?_)
        refine norm_ (a' := putAll _ _) ?_ (J102 ((p', q1, q2), (b0, b1, b2)) _ ⟨hyz, hp', m0.below hz, m2.below hz, n02, trivial⟩)
        simp only [putAll, Act.put, List.setIfInBounds_toArray, List.set_cons_zero, List.set_cons_succ, i64_w, i32_w]
      · have hz := below_one y (.cells #[.pointer none] 28)
        have hyz := hy.trans (hz.mono hy.size)
        refine value_ (w1 := ?_) (v := ?_) (by rfl) rfl ?_ ?_
        rotate_left 2
        · go_simp
          constructor <;> with_reducible rfl
        refine hK.out _ _ (sOf _ hyz) (fun hHeld => ?_)
        refine norm_ (a' := putAll _ _) ?_ (J0012 ((q0, q1, q2), (b0, y.heap.size, b2)) _ ⟨hyz, m0.below hz, MBox.new (p := none) (t := .nil) hy.size rfl, m2.below hz, (Nat.ne_of_lt m0.lt), n02, (Nat.ne_of_gt m2.lt), trivial⟩)
        simp only [putAll, Act.put, List.setIfInBounds_toArray, List.set_cons_zero, List.set_cons_succ, i64_w, i32_w]
    refine join_ (σ := (Option Addr × Option Addr × Option Addr) × Nat × Nat × Nat) 7 #[true, true, false, true, true, false, true, true, false, false, true, true, false, false, false] (fun s => [(14, .pointer (some ⟨s.2.2.1, 0, none⟩)), (15, .pointer (some ⟨s.2.2.2, 0, none⟩))]) (fun s y => Below x2.heap.size x2 y ∧ MBox x2.heap.size y s.2.2.1 none .nil ∧ MBox x2.heap.size y s.2.2.2 none .nil ∧ s.2.2.1 ≠ s.2.2.2 ∧ True) ?_ (fun J012 => ?_)
    · rintro ⟨⟨q0, q1, q2⟩, b0, b1, b2⟩ y ⟨hy, m1, m2, n12, -⟩
      refine norm_ (a' := ?_) ?_ ?_
      rotate_left
      · simp only [putAll, Act.put, List.setIfInBounds_toArray, List.set_cons_zero, List.set_cons_succ, i64_w, i32_w]
        rfl
      refine two_ (i := 2) (j := 9) (Ni := some 61) (Nj := some 13) #[true, true, true, true, true, false, true, true, false, false, true, true, false, false, false] #[true, true, false, true, true, false, true, true, false, true, true, true, false, false, false] rfl rfl rfl rfl (by kernel_rfl) (by decide) (by decide) (fun K hK => ?_) (fun K hK => ?_)
      · refine goes_ Try.func34 (by kernel_rfl) rfl #[.agg #[.pointer p1], .agg #[.pointer p2]] (by rfl) rfl rfl (by (try simp only [List.map_toArray, List.map_cons, List.map_nil]); first | done | rfl) ?_
        refine (Union_any t1 t2 p1 p2 _ (ma.below hy).tree (mb.below hy).tree (by omega)).mono ?_
        rintro e z ⟨p', rfl, hp', hz⟩
        have hyz := hy.trans (hz.mono hy.size)
        refine ⟨_, rfl, ?_⟩
        refine hK.out _ _ (sOf _ hyz) (fun hHeld => ?_)
        refine norm_ (a' := putAll _ _) ?_ (J112 ((p', q1, q2), (b0, b1, b2)) _ ⟨hyz, hp', m1.below hz, m2.below hz, n12, trivial⟩)
        simp only [putAll, Act.put, List.setIfInBounds_toArray, List.set_cons_zero, List.set_cons_succ, i64_w, i32_w]
      · have hz := below_one y (.cells #[.pointer none] 28)
        have hyz := hy.trans (hz.mono hy.size)
        refine value_ (w1 := ?_) (v := ?_) (by rfl) rfl ?_ ?_
        rotate_left 2
        · go_simp
          constructor <;> with_reducible rfl
        refine hK.out _ _ (sOf _ hyz) (fun hHeld => ?_)
        refine norm_ (a' := putAll _ _) ?_ (J0012 ((q0, q1, q2), (y.heap.size, b1, b2)) _ ⟨hyz, MBox.new (p := none) (t := .nil) hy.size rfl, m1.below hz, m2.below hz, (Nat.ne_of_gt m1.lt), (Nat.ne_of_gt m2.lt), n12, trivial⟩)
        simp only [putAll, Act.put, List.setIfInBounds_toArray, List.set_cons_zero, List.set_cons_succ, i64_w, i32_w]
    refine join_ (σ := (Option Addr × Option Addr × Option Addr) × Nat × Nat × Nat) 7 #[true, true, true, true, true, false, true, true, false, true, false, false, false, false, false] (fun s => [(61, .agg #[.pointer s.1.1]), (13, .pointer (some ⟨s.2.1, 0, none⟩))]) (fun s y => Below x2.heap.size x2 y ∧ Tr y.heap.size y s.1.1 (T.union t1 t2) ∧ MBox x2.heap.size y s.2.1 none .nil ∧ True) ?_ (fun J10 => ?_)
    · rintro ⟨⟨q0, q1, q2⟩, b0, b1, b2⟩ y ⟨hy, tr0, m0, -⟩
      refine norm_ (a' := ?_) ?_ ?_
      rotate_left
      · simp only [putAll, Act.put, List.setIfInBounds_toArray, List.set_cons_zero, List.set_cons_succ, i64_w, i32_w]
        rfl
      refine three_ (i := 5) (j := 10) (k := 11) (Ni := some 64) (Nj := some 14) (Nk := some 15) #[true, true, true, true, true, true, true, true, false, true, false, false, false, false, false] #[true, true, true, true, true, false, true, true, false, true, true, false, false, false, false] #[true, true, true, true, true, false, true, true, false, true, false, true, false, false, false] rfl rfl rfl rfl rfl rfl (by kernel_rfl) (by decide) (by decide) (by decide) (fun K hK => ?_) (fun K hK => ?_) (fun K hK => ?_)
      · refine goes_ Try.func39 (by kernel_rfl) rfl #[.agg #[.pointer p1], .agg #[.pointer p2]] (by rfl) rfl rfl (by (try simp only [List.map_toArray, List.map_cons, List.map_nil]); first | done | rfl) ?_
        refine (Intersect_any t1 t2 p1 p2 _ (ma.below hy).tree (mb.below hy).tree (by omega)).mono ?_
        rintro e z ⟨p', rfl, hp', hz⟩
        have hyz := hy.trans (hz.mono hy.size)
        refine ⟨_, rfl, ?_⟩
        refine hK.out _ _ (sOf _ hyz) (fun hHeld => ?_)
        refine norm_ (a' := putAll _ _) ?_ (J20 ((q0, p', q2), (b0, b1, b2)) _ ⟨hyz, tr0.later hz, hp', m0.below hz, trivial⟩)
        simp only [putAll, Act.put, List.setIfInBounds_toArray, List.set_cons_zero, List.set_cons_succ, i64_w, i32_w]
      · have hz := below_one y (.cells #[.pointer none] 28)
        have hyz := hy.trans (hz.mono hy.size)
        refine value_ (w1 := ?_) (v := ?_) (by rfl) rfl ?_ ?_
        rotate_left 2
        · go_simp
          constructor <;> with_reducible rfl
        refine hK.out _ _ (sOf _ hyz) (fun hHeld => ?_)
        refine norm_ (a' := putAll _ _) ?_ (J101 ((q0, q1, q2), (b0, y.heap.size, b2)) _ ⟨hyz, tr0.later hz, m0.below hz, MBox.new (p := none) (t := .nil) hy.size rfl, (Nat.ne_of_lt m0.lt), trivial⟩)
        simp only [putAll, Act.put, List.setIfInBounds_toArray, List.set_cons_zero, List.set_cons_succ, i64_w, i32_w]
      · have hz := below_one y (.cells #[.pointer none] 28)
        have hyz := hy.trans (hz.mono hy.size)
        refine value_ (w1 := ?_) (v := ?_) (by rfl) rfl ?_ ?_
        rotate_left 2
        · go_simp
          constructor <;> with_reducible rfl
        refine hK.out _ _ (sOf _ hyz) (fun hHeld => ?_)
        refine norm_ (a' := putAll _ _) ?_ (J102 ((q0, q1, q2), (b0, b1, y.heap.size)) _ ⟨hyz, tr0.later hz, m0.below hz, MBox.new (p := none) (t := .nil) hy.size rfl, (Nat.ne_of_lt m0.lt), trivial⟩)
        simp only [putAll, Act.put, List.setIfInBounds_toArray, List.set_cons_zero, List.set_cons_succ, i64_w, i32_w]
    refine join_ (σ := (Option Addr × Option Addr × Option Addr) × Nat × Nat × Nat) 7 #[true, true, true, true, true, false, true, true, false, false, true, false, false, false, false] (fun s => [(61, .agg #[.pointer s.1.1]), (14, .pointer (some ⟨s.2.2.1, 0, none⟩))]) (fun s y => Below x2.heap.size x2 y ∧ Tr y.heap.size y s.1.1 (T.union t1 t2) ∧ MBox x2.heap.size y s.2.2.1 none .nil ∧ True) ?_ (fun J11 => ?_)
    · rintro ⟨⟨q0, q1, q2⟩, b0, b1, b2⟩ y ⟨hy, tr0, m1, -⟩
      refine norm_ (a' := ?_) ?_ ?_
      rotate_left
      · simp only [putAll, Act.put, List.setIfInBounds_toArray, List.set_cons_zero, List.set_cons_succ, i64_w, i32_w]
        rfl
      refine three_ (i := 5) (j := 9) (k := 11) (Ni := some 64) (Nj := some 13) (Nk := some 15) #[true, true, true, true, true, true, true, true, false, false, true, false, false, false, false] #[true, true, true, true, true, false, true, true, false, true, true, false, false, false, false] #[true, true, true, true, true, false, true, true, false, false, true, true, false, false, false] rfl rfl rfl rfl rfl rfl (by kernel_rfl) (by decide) (by decide) (by decide) (fun K hK => ?_) (fun K hK => ?_) (fun K hK => ?_)
      · refine goes_ Try.func39 (by kernel_rfl) rfl #[.agg #[.pointer p1], .agg #[.pointer p2]] (by rfl) rfl rfl (by (try simp only [List.map_toArray, List.map_cons, List.map_nil]); first | done | rfl) ?_
        refine (Intersect_any t1 t2 p1 p2 _ (ma.below hy).tree (mb.below hy).tree (by omega)).mono ?_
        rintro e z ⟨p', rfl, hp', hz⟩
        have hyz := hy.trans (hz.mono hy.size)
        refine ⟨_, rfl, ?_⟩
        refine hK.out _ _ (sOf _ hyz) (fun hHeld => ?_)
        refine norm_ (a' := putAll _ _) ?_ (J21 ((q0, p', q2), (b0, b1, b2)) _ ⟨hyz, tr0.later hz, hp', m1.below hz, trivial⟩)
        simp only [putAll, Act.put, List.setIfInBounds_toArray, List.set_cons_zero, List.set_cons_succ, i64_w, i32_w]
      · have hz := below_one y (.cells #[.pointer none] 28)
        have hyz := hy.trans (hz.mono hy.size)
        refine value_ (w1 := ?_) (v := ?_) (by rfl) rfl ?_ ?_
        rotate_left 2
        · go_simp
          constructor <;> with_reducible rfl
        refine hK.out _ _ (sOf _ hyz) (fun hHeld => ?_)
        refine norm_ (a' := putAll _ _) ?_ (J101 ((q0, q1, q2), (y.heap.size, b1, b2)) _ ⟨hyz, tr0.later hz, MBox.new (p := none) (t := .nil) hy.size rfl, m1.below hz, (Nat.ne_of_gt m1.lt), trivial⟩)
        simp only [putAll, Act.put, List.setIfInBounds_toArray, List.set_cons_zero, List.set_cons_succ, i64_w, i32_w]
      · have hz := below_one y (.cells #[.pointer none] 28)
        have hyz := hy.trans (hz.mono hy.size)
        refine value_ (w1 := ?_) (v := ?_) (by rfl) rfl ?_ ?_
        rotate_left 2
        · go_simp
          constructor <;> with_reducible rfl
        refine hK.out _ _ (sOf _ hyz) (fun hHeld => ?_)
        refine norm_ (a' := putAll _ _) ?_ (J112 ((q0, q1, q2), (b0, b1, y.heap.size)) _ ⟨hyz, tr0.later hz, m1.below hz, MBox.new (p := none) (t := .nil) hy.size rfl, (Nat.ne_of_lt m1.lt), trivial⟩)
        simp only [putAll, Act.put, List.setIfInBounds_toArray, List.set_cons_zero, List.set_cons_succ, i64_w, i32_w]
    refine join_ (σ := (Option Addr × Option Addr × Option Addr) × Nat × Nat × Nat) 7 #[true, true, true, true, true, false, true, true, false, false, false, true, false, false, false] (fun s => [(61, .agg #[.pointer s.1.1]), (15, .pointer (some ⟨s.2.2.2, 0, none⟩))]) (fun s y => Below x2.heap.size x2 y ∧ Tr y.heap.size y s.1.1 (T.union t1 t2) ∧ MBox x2.heap.size y s.2.2.2 none .nil ∧ True) ?_ (fun J12 => ?_)
    · rintro ⟨⟨q0, q1, q2⟩, b0, b1, b2⟩ y ⟨hy, tr0, m2, -⟩
      refine norm_ (a' := ?_) ?_ ?_
      rotate_left
      · simp only [putAll, Act.put, List.setIfInBounds_toArray, List.set_cons_zero, List.set_cons_succ, i64_w, i32_w]
        rfl
      refine three_ (i := 5) (j := 9) (k := 10) (Ni := some 64) (Nj := some 13) (Nk := some 14) #[true, true, true, true, true, true, true, true, false, false, false, true, false, false, false] #[true, true, true, true, true, false, true, true, false, true, false, true, false, false, false] #[true, true, true, true, true, false, true, true, false, false, true, true, false, false, false] rfl rfl rfl rfl rfl rfl (by kernel_rfl) (by decide) (by decide) (by decide) (fun K hK => ?_) (fun K hK => ?_) (fun K hK => ?_)
      · refine goes_ Try.func39 (by kernel_rfl) rfl #[.agg #[.pointer p1], .agg #[.pointer p2]] (by rfl) rfl rfl (by (try simp only [List.map_toArray, List.map_cons, List.map_nil]); first | done | rfl) ?_
        refine (Intersect_any t1 t2 p1 p2 _ (ma.below hy).tree (mb.below hy).tree (by omega)).mono ?_
        rintro e z ⟨p', rfl, hp', hz⟩
        have hyz := hy.trans (hz.mono hy.size)
        refine ⟨_, rfl, ?_⟩
        refine hK.out _ _ (sOf _ hyz) (fun hHeld => ?_)
        refine norm_ (a' := putAll _ _) ?_ (J22 ((q0, p', q2), (b0, b1, b2)) _ ⟨hyz, tr0.later hz, hp', m2.below hz, trivial⟩)
        simp only [putAll, Act.put, List.setIfInBounds_toArray, List.set_cons_zero, List.set_cons_succ, i64_w, i32_w]
      · have hz := below_one y (.cells #[.pointer none] 28)
        have hyz := hy.trans (hz.mono hy.size)
        refine value_ (w1 := ?_) (v := ?_) (by rfl) rfl ?_ ?_
        rotate_left 2
        · go_simp
          constructor <;> with_reducible rfl
        refine hK.out _ _ (sOf _ hyz) (fun hHeld => ?_)
        refine norm_ (a' := putAll _ _) ?_ (J102 ((q0, q1, q2), (y.heap.size, b1, b2)) _ ⟨hyz, tr0.later hz, MBox.new (p := none) (t := .nil) hy.size rfl, m2.below hz, (Nat.ne_of_gt m2.lt), trivial⟩)
        simp only [putAll, Act.put, List.setIfInBounds_toArray, List.set_cons_zero, List.set_cons_succ, i64_w, i32_w]
      · have hz := below_one y (.cells #[.pointer none] 28)
        have hyz := hy.trans (hz.mono hy.size)
        refine value_ (w1 := ?_) (v := ?_) (by rfl) rfl ?_ ?_
        rotate_left 2
        · go_simp
          constructor <;> with_reducible rfl
        refine hK.out _ _ (sOf _ hyz) (fun hHeld => ?_)
        refine norm_ (a' := putAll _ _) ?_ (J112 ((q0, q1, q2), (b0, y.heap.size, b2)) _ ⟨hyz, tr0.later hz, MBox.new (p := none) (t := .nil) hy.size rfl, m2.below hz, (Nat.ne_of_gt m2.lt), trivial⟩)
        simp only [putAll, Act.put, List.setIfInBounds_toArray, List.set_cons_zero, List.set_cons_succ, i64_w, i32_w]
    refine join_ (σ := (Option Addr × Option Addr × Option Addr) × Nat × Nat × Nat) 7 #[true, true, true, true, true, true, true, true, false, false, false, false, false, false, false] (fun s => [(61, .agg #[.pointer s.1.1]), (64, .agg #[.pointer s.1.2.1])]) (fun s y => Below x2.heap.size x2 y ∧ Tr y.heap.size y s.1.1 (T.union t1 t2) ∧ Tr y.heap.size y s.1.2.1 (T.intersect t1 t2) ∧ True) ?_ (fun J2 => ?_)
    · rintro ⟨⟨q0, q1, q2⟩, b0, b1, b2⟩ y ⟨hy, tr0, tr1, -⟩
      refine norm_ (a' := ?_) ?_ ?_
      rotate_left
      · simp only [putAll, Act.put, List.setIfInBounds_toArray, List.set_cons_zero, List.set_cons_succ, i64_w, i32_w]
        rfl
      refine four_ (i := 8) (j := 9) (k := 10) (m := 11) (Ni := some 67) (Nj := some 13) (Nk := some 14) (Nm := some 15) #[true, true, true, true, true, true, true, true, true, false, false, false, false, false, false] #[true, true, true, true, true, true, true, true, false, true, false, false, false, false, false] #[true, true, true, true, true, true, true, true, false, false, true, false, false, false, false] #[true, true, true, true, true, true, true, true, false, false, false, true, false, false, false] rfl rfl rfl rfl rfl rfl rfl rfl (by kernel_rfl) (by decide) (by decide) (by decide) (by decide) (fun K hK => ?_) (fun K hK => ?_) (fun K hK => ?_) (fun K hK => ?_)
      · refine goes_ Try.func35 (by kernel_rfl) rfl #[.agg #[.pointer p1], .agg #[.pointer p2]] (by rfl) rfl rfl (by (try simp only [List.map_toArray, List.map_cons, List.map_nil]); first | done | rfl) ?_
        refine (Subtract_any t1 t2 p1 p2 _ (ma.below hy).tree (mb.below hy).tree (by omega)).mono ?_
        rintro e z ⟨p', rfl, hp', hz⟩
        have hyz := hy.trans (hz.mono hy.size)
        refine ⟨_, rfl, ?_⟩
        refine hK.out _ _ (sOf _ hyz) (fun hHeld => ?_)
        refine norm_ (a' := putAll _ _) ?_ (J3 ((q0, q1, p'), (b0, b1, b2)) _ ⟨hyz, tr0.later hz, tr1.later hz, hp', trivial⟩)
        simp only [putAll, Act.put, List.setIfInBounds_toArray, List.set_cons_zero, List.set_cons_succ, i64_w, i32_w]
      · have hz := below_one y (.cells #[.pointer none] 28)
        have hyz := hy.trans (hz.mono hy.size)
        refine value_ (w1 := ?_) (v := ?_) (by rfl) rfl ?_ ?_
        rotate_left 2
        · go_simp
          constructor <;> with_reducible rfl
        refine hK.out _ _ (sOf _ hyz) (fun hHeld => ?_)
        refine norm_ (a' := putAll _ _) ?_ (J20 ((q0, q1, q2), (y.heap.size, b1, b2)) _ ⟨hyz, tr0.later hz, tr1.later hz, MBox.new (p := none) (t := .nil) hy.size rfl, trivial⟩)
        simp only [putAll, Act.put, List.setIfInBounds_toArray, List.set_cons_zero, List.set_cons_succ, i64_w, i32_w]
      · have hz := below_one y (.cells #[.pointer none] 28)
        have hyz := hy.trans (hz.mono hy.size)
        refine value_ (w1 := ?_) (v := ?_) (by rfl) rfl ?_ ?_
        rotate_left 2
        · go_simp
          constructor <;> with_reducible rfl
        refine hK.out _ _ (sOf _ hyz) (fun hHeld => ?_)
        refine norm_ (a' := putAll _ _) ?_ (J21 ((q0, q1, q2), (b0, y.heap.size, b2)) _ ⟨hyz, tr0.later hz, tr1.later hz, MBox.new (p := none) (t := .nil) hy.size rfl, trivial⟩)
        simp only [putAll, Act.put, List.setIfInBounds_toArray, List.set_cons_zero, List.set_cons_succ, i64_w, i32_w]
      · have hz := below_one y (.cells #[.pointer none] 28)
        have hyz := hy.trans (hz.mono hy.size)
        refine value_ (w1 := ?_) (v := ?_) (by rfl) rfl ?_ ?_
        rotate_left 2
        · go_simp
          constructor <;> with_reducible rfl
        refine hK.out _ _ (sOf _ hyz) (fun hHeld => ?_)
        refine norm_ (a' := putAll _ _) ?_ (J22 ((q0, q1, q2), (b0, b1, y.heap.size)) _ ⟨hyz, tr0.later hz, tr1.later hz, MBox.new (p := none) (t := .nil) hy.size rfl, trivial⟩)
        simp only [putAll, Act.put, List.setIfInBounds_toArray, List.set_cons_zero, List.set_cons_succ, i64_w, i32_w]
    refine join_ (σ := (Option Addr × Option Addr × Option Addr) × Nat × Nat × Nat) 8 #[true, true, false, true, true, false, true, true, false, true, false, false, false, false, false] (fun s => [(13, .pointer (some ⟨s.2.1, 0, none⟩))]) (fun s y => Below x2.heap.size x2 y ∧ MBox x2.heap.size y s.2.1 none .nil ∧ True) ?_ (fun J00 => ?_)
    · rintro ⟨⟨q0, q1, q2⟩, b0, b1, b2⟩ y ⟨hy, m0, -⟩
      refine norm_ (a' := ?_) ?_ ?_
      rotate_left
      · simp only [putAll, Act.put, List.setIfInBounds_toArray, List.set_cons_zero, List.set_cons_succ, i64_w, i32_w]
        rfl
      refine three_ (i := 2) (j := 10) (k := 11) (Ni := some 61) (Nj := some 14) (Nk := some 15) #[true, true, true, true, true, false, true, true, false, true, false, false, false, false, false] #[true, true, false, true, true, false, true, true, false, true, true, false, false, false, false] #[true, true, false, true, true, false, true, true, false, true, false, true, false, false, false] rfl rfl rfl rfl rfl rfl (by kernel_rfl) (by decide) (by decide) (by decide) (fun K hK => ?_) (fun K hK => ?_) (fun K hK => ?_)
      · refine goes_ Try.func34 (by kernel_rfl) rfl #[.agg #[.pointer p1], .agg #[.pointer p2]] (by rfl) rfl rfl (by (try simp only [List.map_toArray, List.map_cons, List.map_nil]); first | done | rfl) ?_
        refine (Union_any t1 t2 p1 p2 _ (ma.below hy).tree (mb.below hy).tree (by omega)).mono ?_
        rintro e z ⟨p', rfl, hp', hz⟩
        have hyz := hy.trans (hz.mono hy.size)
        refine ⟨_, rfl, ?_⟩
        refine hK.out _ _ (sOf _ hyz) (fun hHeld => ?_)
        refine norm_ (a' := putAll _ _) ?_ (J10 ((p', q1, q2), (b0, b1, b2)) _ ⟨hyz, hp', m0.below hz, trivial⟩)
        simp only [putAll, Act.put, List.setIfInBounds_toArray, List.set_cons_zero, List.set_cons_succ, i64_w, i32_w]
      · have hz := below_one y (.cells #[.pointer none] 28)
        have hyz := hy.trans (hz.mono hy.size)
        refine value_ (w1 := ?_) (v := ?_) (by rfl) rfl ?_ ?_
        rotate_left 2
        · go_simp
          constructor <;> with_reducible rfl
        refine hK.out _ _ (sOf _ hyz) (fun hHeld => ?_)
        refine norm_ (a' := putAll _ _) ?_ (J001 ((q0, q1, q2), (b0, y.heap.size, b2)) _ ⟨hyz, m0.below hz, MBox.new (p := none) (t := .nil) hy.size rfl, (Nat.ne_of_lt m0.lt), trivial⟩)
        simp only [putAll, Act.put, List.setIfInBounds_toArray, List.set_cons_zero, List.set_cons_succ, i64_w, i32_w]
      · have hz := below_one y (.cells #[.pointer none] 28)
        have hyz := hy.trans (hz.mono hy.size)
        refine value_ (w1 := ?_) (v := ?_) (by rfl) rfl ?_ ?_
        rotate_left 2
        · go_simp
          constructor <;> with_reducible rfl
        refine hK.out _ _ (sOf _ hyz) (fun hHeld => ?_)
        refine norm_ (a' := putAll _ _) ?_ (J002 ((q0, q1, q2), (b0, b1, y.heap.size)) _ ⟨hyz, m0.below hz, MBox.new (p := none) (t := .nil) hy.size rfl, (Nat.ne_of_lt m0.lt), trivial⟩)
        simp only [putAll, Act.put, List.setIfInBounds_toArray, List.set_cons_zero, List.set_cons_succ, i64_w, i32_w]
    refine join_ (σ := (Option Addr × Option Addr × Option Addr) × Nat × Nat × Nat) 8 #[true, true, false, true, true, false, true, true, false, false, true, false, false, false, false] (fun s => [(14, .pointer (some ⟨s.2.2.1, 0, none⟩))]) (fun s y => Below x2.heap.size x2 y ∧ MBox x2.heap.size y s.2.2.1 none .nil ∧ True) ?_ (fun J01 => ?_)
    · rintro ⟨⟨q0, q1, q2⟩, b0, b1, b2⟩ y ⟨hy, m1, -⟩
      refine norm_ (a' := ?_) ?_ ?_
      rotate_left
      · simp only [putAll, Act.put, List.setIfInBounds_toArray, List.set_cons_zero, List.set_cons_succ, i64_w, i32_w]
        rfl
      refine three_ (i := 2) (j := 9) (k := 11) (Ni := some 61) (Nj := some 13) (Nk := some 15) #[true, true, true, true, true, false, true, true, false, false, true, false, false, false, false] #[true, true, false, true, true, false, true, true, false, true, true, false, false, false, false] #[true, true, false, true, true, false, true, true, false, false, true, true, false, false, false] rfl rfl rfl rfl rfl rfl (by kernel_rfl) (by decide) (by decide) (by decide) (fun K hK => ?_) (fun K hK => ?_) (fun K hK => ?_)
      · refine goes_ Try.func34 (by kernel_rfl) rfl #[.agg #[.pointer p1], .agg #[.pointer p2]] (by rfl) rfl rfl (by (try simp only [List.map_toArray, List.map_cons, List.map_nil]); first | done | rfl) ?_
        refine (Union_any t1 t2 p1 p2 _ (ma.below hy).tree (mb.below hy).tree (by omega)).mono ?_
        rintro e z ⟨p', rfl, hp', hz⟩
        have hyz := hy.trans (hz.mono hy.size)
        refine ⟨_, rfl, ?_⟩
        refine hK.out _ _ (sOf _ hyz) (fun hHeld => ?_)
        refine norm_ (a' := putAll _ _) ?_ (J11 ((p', q1, q2), (b0, b1, b2)) _ ⟨hyz, hp', m1.below hz, trivial⟩)
        simp only [putAll, Act.put, List.setIfInBounds_toArray, List.set_cons_zero, List.set_cons_succ, i64_w, i32_w]
      · have hz := below_one y (.cells #[.pointer none] 28)
        have hyz := hy.trans (hz.mono hy.size)
        refine value_ (w1 := ?_) (v := ?_) (by rfl) rfl ?_ ?_
        rotate_left 2
        · go_simp
          constructor <;> with_reducible rfl
        refine hK.out _ _ (sOf _ hyz) (fun hHeld => ?_)
        refine norm_ (a' := putAll _ _) ?_ (J001 ((q0, q1, q2), (y.heap.size, b1, b2)) _ ⟨hyz, MBox.new (p := none) (t := .nil) hy.size rfl, m1.below hz, (Nat.ne_of_gt m1.lt), trivial⟩)
        simp only [putAll, Act.put, List.setIfInBounds_toArray, List.set_cons_zero, List.set_cons_succ, i64_w, i32_w]
      · have hz := below_one y (.cells #[.pointer none] 28)
        have hyz := hy.trans (hz.mono hy.size)
        refine value_ (w1 := ?_) (v := ?_) (by rfl) rfl ?_ ?_
        rotate_left 2
        · go_simp
          constructor <;> with_reducible rfl
        refine hK.out _ _ (sOf _ hyz) (fun hHeld => ?_)
        refine norm_ (a' := putAll _ _) ?_ (J012 ((q0, q1, q2), (b0, b1, y.heap.size)) _ ⟨hyz, m1.below hz, MBox.new (p := none) (t := .nil) hy.size rfl, (Nat.ne_of_lt m1.lt), trivial⟩)
        simp only [putAll, Act.put, List.setIfInBounds_toArray, List.set_cons_zero, List.set_cons_succ, i64_w, i32_w]
    refine join_ (σ := (Option Addr × Option Addr × Option Addr) × Nat × Nat × Nat) 8 #[true, true, false, true, true, false, true, true, false, false, false, true, false, false, false] (fun s => [(15, .pointer (some ⟨s.2.2.2, 0, none⟩))]) (fun s y => Below x2.heap.size x2 y ∧ MBox x2.heap.size y s.2.2.2 none .nil ∧ True) ?_ (fun J02 => ?_)
    · rintro ⟨⟨q0, q1, q2⟩, b0, b1, b2⟩ y ⟨hy, m2, -⟩
      refine norm_ (a' := ?_) ?_ ?_
      rotate_left
      · simp only [putAll, Act.put, List.setIfInBounds_toArray, List.set_cons_zero, List.set_cons_succ, i64_w, i32_w]
        rfl
      refine three_ (i := 2) (j := 9) (k := 10) (Ni := some 61) (Nj := some 13) (Nk := some 14) #[true, true, true, true, true, false, true, true, false, false, false, true, false, false, false] #[true, true, false, true, true, false, true, true, false, true, false, true, false, false, false] #[true, true, false, true, true, false, true, true, false, false, true, true, false, false, false] rfl rfl rfl rfl rfl rfl (by kernel_rfl) (by decide) (by decide) (by decide) (fun K hK => ?_) (fun K hK => ?_) (fun K hK => ?_)
      · refine goes_ Try.func34 (by kernel_rfl) rfl #[.agg #[.pointer p1], .agg #[.pointer p2]] (by rfl) rfl rfl (by (try simp only [List.map_toArray, List.map_cons, List.map_nil]); first | done | rfl) ?_
        refine (Union_any t1 t2 p1 p2 _ (ma.below hy).tree (mb.below hy).tree (by omega)).mono ?_
        rintro e z ⟨p', rfl, hp', hz⟩
        have hyz := hy.trans (hz.mono hy.size)
        refine ⟨_, rfl, ?_⟩
        refine hK.out _ _ (sOf _ hyz) (fun hHeld => ?_)
        refine norm_ (a' := putAll _ _) ?_ (J12 ((p', q1, q2), (b0, b1, b2)) _ ⟨hyz, hp', m2.below hz, trivial⟩)
        simp only [putAll, Act.put, List.setIfInBounds_toArray, List.set_cons_zero, List.set_cons_succ, i64_w, i32_w]
      · have hz := below_one y (.cells #[.pointer none] 28)
        have hyz := hy.trans (hz.mono hy.size)
        refine value_ (w1 := ?_) (v := ?_) (by rfl) rfl ?_ ?_
        rotate_left 2
        · go_simp
          constructor <;> with_reducible rfl
        refine hK.out _ _ (sOf _ hyz) (fun hHeld => ?_)
        refine norm_ (a' := putAll _ _) ?_ (J002 ((q0, q1, q2), (y.heap.size, b1, b2)) _ ⟨hyz, MBox.new (p := none) (t := .nil) hy.size rfl, m2.below hz, (Nat.ne_of_gt m2.lt), trivial⟩)
        simp only [putAll, Act.put, List.setIfInBounds_toArray, List.set_cons_zero, List.set_cons_succ, i64_w, i32_w]
      · have hz := below_one y (.cells #[.pointer none] 28)
        have hyz := hy.trans (hz.mono hy.size)
        refine value_ (w1 := ?_) (v := ?_) (by rfl) rfl ?_ ?_
        rotate_left 2
        · go_simp
          constructor <;> with_reducible rfl
        refine hK.out _ _ (sOf _ hyz) (fun hHeld => ?_)
        refine norm_ (a' := putAll _ _) ?_ (J012 ((q0, q1, q2), (b0, y.heap.size, b2)) _ ⟨hyz, MBox.new (p := none) (t := .nil) hy.size rfl, m2.below hz, (Nat.ne_of_gt m2.lt), trivial⟩)
        simp only [putAll, Act.put, List.setIfInBounds_toArray, List.set_cons_zero, List.set_cons_succ, i64_w, i32_w]
    refine join_ (σ := (Option Addr × Option Addr × Option Addr) × Nat × Nat × Nat) 8 #[true, true, true, true, true, false, true, true, false, false, false, false, false, false, false] (fun s => [(61, .agg #[.pointer s.1.1])]) (fun s y => Below x2.heap.size x2 y ∧ Tr y.heap.size y s.1.1 (T.union t1 t2) ∧ True) ?_ (fun J1 => ?_)
    · rintro ⟨⟨q0, q1, q2⟩, b0, b1, b2⟩ y ⟨hy, tr0, -⟩
      refine norm_ (a' := ?_) ?_ ?_
      rotate_left
      · simp only [putAll, Act.put, List.setIfInBounds_toArray, List.set_cons_zero, List.set_cons_succ, i64_w, i32_w]
        rfl
      refine four_ (i := 5) (j := 9) (k := 10) (m := 11) (Ni := some 64) (Nj := some 13) (Nk := some 14) (Nm := some 15) #[true, true, true, true, true, true, true, true, false, false, false, false, false, false, false] #[true, true, true, true, true, false, true, true, false, true, false, false, false, false, false] #[true, true, true, true, true, false, true, true, false, false, true, false, false, false, false] #[true, true, true, true, true, false, true, true, false, false, false, true, false, false, false] rfl rfl rfl rfl rfl rfl rfl rfl (by kernel_rfl) (by decide) (by decide) (by decide) (by decide) (fun K hK => ?_) (fun K hK => ?_) (fun K hK => ?_) (fun K hK => ?_)
      · refine goes_ Try.func39 (by kernel_rfl) rfl #[.agg #[.pointer p1], .agg #[.pointer p2]] (by rfl) rfl rfl (by (try simp only [List.map_toArray, List.map_cons, List.map_nil]); first | done | rfl) ?_
        refine (Intersect_any t1 t2 p1 p2 _ (ma.below hy).tree (mb.below hy).tree (by omega)).mono ?_
        rintro e z ⟨p', rfl, hp', hz⟩
        have hyz := hy.trans (hz.mono hy.size)
        refine ⟨_, rfl, ?_⟩
        refine hK.out _ _ (sOf _ hyz) (fun hHeld => ?_)
        refine norm_ (a' := putAll _ _) ?_ (J2 ((q0, p', q2), (b0, b1, b2)) _ ⟨hyz, tr0.later hz, hp', trivial⟩)
        simp only [putAll, Act.put, List.setIfInBounds_toArray, List.set_cons_zero, List.set_cons_succ, i64_w, i32_w]
      · have hz := below_one y (.cells #[.pointer none] 28)
        have hyz := hy.trans (hz.mono hy.size)
        refine value_ (w1 := ?_) (v := ?_) (by rfl) rfl ?_ ?_
        rotate_left 2
        · go_simp
          constructor <;> with_reducible rfl
        refine hK.out _ _ (sOf _ hyz) (fun hHeld => ?_)
        refine norm_ (a' := putAll _ _) ?_ (J10 ((q0, q1, q2), (y.heap.size, b1, b2)) _ ⟨hyz, tr0.later hz, MBox.new (p := none) (t := .nil) hy.size rfl, trivial⟩)
        simp only [putAll, Act.put, List.setIfInBounds_toArray, List.set_cons_zero, List.set_cons_succ, i64_w, i32_w]
      · have hz := below_one y (.cells #[.pointer none] 28)
        have hyz := hy.trans (hz.mono hy.size)
        refine value_ (w1 := ?_) (v := ?_) (by rfl) rfl ?_ ?_
        rotate_left 2
        · go_simp
          constructor <;> with_reducible rfl
        refine hK.out _ _ (sOf _ hyz) (fun hHeld => ?_)
        refine norm_ (a' := putAll _ _) ?_ (J11 ((q0, q1, q2), (b0, y.heap.size, b2)) _ ⟨hyz, tr0.later hz, MBox.new (p := none) (t := .nil) hy.size rfl, trivial⟩)
        simp only [putAll, Act.put, List.setIfInBounds_toArray, List.set_cons_zero, List.set_cons_succ, i64_w, i32_w]
      · have hz := below_one y (.cells #[.pointer none] 28)
        have hyz := hy.trans (hz.mono hy.size)
        refine value_ (w1 := ?_) (v := ?_) (by rfl) rfl ?_ ?_
        rotate_left 2
        · go_simp
          constructor <;> with_reducible rfl
        refine hK.out _ _ (sOf _ hyz) (fun hHeld => ?_)
        refine norm_ (a' := putAll _ _) ?_ (J12 ((q0, q1, q2), (b0, b1, y.heap.size)) _ ⟨hyz, tr0.later hz, MBox.new (p := none) (t := .nil) hy.size rfl, trivial⟩)
        simp only [putAll, Act.put, List.setIfInBounds_toArray, List.set_cons_zero, List.set_cons_succ, i64_w, i32_w]
    · obtain ⟨y, hyd⟩ : ∃ y, y = x2.drew := ⟨_, rfl⟩
      rw [← hyd]
      have hy : Below x2.heap.size x2 y := by rw [hyd]; exact Below.drew (Below.refl _ _)
      obtain ⟨⟨q0, q1, q2⟩, b0, b1, b2⟩ : (Option Addr × Option Addr × Option Addr) × Nat × Nat × Nat := ((none, none, none), 0, 0, 0)
      clear hyd
      refine four_ (i := 2) (j := 9) (k := 10) (m := 11) (Ni := some 61) (Nj := some 13) (Nk := some 14) (Nm := some 15) #[true, true, true, true, true, false, true, true, false, false, false, false, false, false, false] #[true, true, false, true, true, false, true, true, false, true, false, false, false, false, false] #[true, true, false, true, true, false, true, true, false, false, true, false, false, false, false] #[true, true, false, true, true, false, true, true, false, false, false, true, false, false, false] rfl rfl rfl rfl rfl rfl rfl rfl (by kernel_rfl) (by decide) (by decide) (by decide) (by decide) (fun K hK => ?_) (fun K hK => ?_) (fun K hK => ?_) (fun K hK => ?_)
      · refine goes_ Try.func34 (by kernel_rfl) rfl #[.agg #[.pointer p1], .agg #[.pointer p2]] (by rfl) rfl rfl (by (try simp only [List.map_toArray, List.map_cons, List.map_nil]); first | done | rfl) ?_
        refine (Union_any t1 t2 p1 p2 _ (ma.below hy).tree (mb.below hy).tree (by omega)).mono ?_
        rintro e z ⟨p', rfl, hp', hz⟩
        have hyz := hy.trans (hz.mono hy.size)
        refine ⟨_, rfl, ?_⟩
        refine hK.out _ _ (sOf _ hyz) (fun hHeld => ?_)
        refine norm_ (a' := putAll _ _) ?_ (J1 ((p', q1, q2), (b0, b1, b2)) _ ⟨hyz, hp', trivial⟩)
        simp only [putAll, Act.put, List.setIfInBounds_toArray, List.set_cons_zero, List.set_cons_succ, i64_w, i32_w]
      · have hz := below_one y (.cells #[.pointer none] 28)
        have hyz := hy.trans (hz.mono hy.size)
        refine value_ (w1 := ?_) (v := ?_) (by rfl) rfl ?_ ?_
        rotate_left 2
        · go_simp
          constructor <;> with_reducible rfl
        refine hK.out _ _ (sOf _ hyz) (fun hHeld => ?_)
        refine norm_ (a' := putAll _ _) ?_ (J00 ((q0, q1, q2), (y.heap.size, b1, b2)) _ ⟨hyz, MBox.new (p := none) (t := .nil) hy.size rfl, trivial⟩)
        simp only [putAll, Act.put, List.setIfInBounds_toArray, List.set_cons_zero, List.set_cons_succ, i64_w, i32_w]
      · have hz := below_one y (.cells #[.pointer none] 28)
        have hyz := hy.trans (hz.mono hy.size)
        refine value_ (w1 := ?_) (v := ?_) (by rfl) rfl ?_ ?_
        rotate_left 2
        · go_simp
          constructor <;> with_reducible rfl
        refine hK.out _ _ (sOf _ hyz) (fun hHeld => ?_)
        refine norm_ (a' := putAll _ _) ?_ (J01 ((q0, q1, q2), (b0, y.heap.size, b2)) _ ⟨hyz, MBox.new (p := none) (t := .nil) hy.size rfl, trivial⟩)
        simp only [putAll, Act.put, List.setIfInBounds_toArray, List.set_cons_zero, List.set_cons_succ, i64_w, i32_w]
      · have hz := below_one y (.cells #[.pointer none] 28)
        have hyz := hy.trans (hz.mono hy.size)
        refine value_ (w1 := ?_) (v := ?_) (by rfl) rfl ?_ ?_
        rotate_left 2
        · go_simp
          constructor <;> with_reducible rfl
        refine hK.out _ _ (sOf _ hyz) (fun hHeld => ?_)
        refine norm_ (a' := putAll _ _) ?_ (J02 ((q0, q1, q2), (b0, b1, y.heap.size)) _ ⟨hyz, MBox.new (p := none) (t := .nil) hy.size rfl, trivial⟩)
        simp only [putAll, Act.put, List.setIfInBounds_toArray, List.set_cons_zero, List.set_cons_succ, i64_w, i32_w]
    rintro ⟨⟨q0, q1, q2⟩, b0, b1, b2⟩ y ⟨hy, tr0, tr1, tr2, m0, m1, m2, n01, n02, n12, -⟩
    dsimp only at tr0 tr1 tr2 m0 m1 m2 n01 n02 n12
    refine norm_ (a' := ?_) ?_ ?_
    rotate_left
    · simp only [putAll, Act.put, List.setIfInBounds_toArray, List.set_cons_zero, List.set_cons_succ, i64_w, i32_w]
      rfl
    have mm0 := m0
    have mm1 := m1
    have mm2 := m2
    have e0 := m0.cell
    have f0 := m0.fr
    refine one_ (i := 12) (N := none) #[true, true, true, true, true, true, true, true, true, true, true, true, true, false, false] rfl rfl (by kernel_rfl) (by decide) (fun K hK => ?_)
    refine skip_ (w1 := ?_) (by rfl) rfl ?_ ?_
    rotate_left
    · go_simp
      with_reducible rfl
    refine hK.out _ _ (sOf _ (hy.setCell (p := ⟨b0, 0, none⟩) m0.base _)) (fun hHeld => ?_)
    clear hK K
    have tg := m0.tag
    have hy := hy.setCell (p := ⟨b0, 0, none⟩) m0.base (.pointer q0)
    have x1 := m1.far tg n01 (.pointer q0)
    have x2 := m2.far tg n02 (.pointer q0)
    have x0 := m0.set tr0
    have tr0 := tr0.stored (a := ⟨b0, 0, none⟩) tg (by decide) (.pointer q0)
    have tr1 := tr1.stored (a := ⟨b0, 0, none⟩) tg (by decide) (.pointer q0)
    have tr2 := tr2.stored (a := ⟨b0, 0, none⟩) tg (by decide) (.pointer q0)
    clear m0 m1 m2
    have m0 := x0
    have m1 := x1
    have m2 := x2
    clear x0 x1 x2
    have e1 := m1.cell
    have f1 := m1.fr
    refine one_ (i := 13) (N := none) #[true, true, true, true, true, true, true, true, true, true, true, true, true, true, false] rfl rfl (by kernel_rfl) (by decide) (fun K hK => ?_)
    refine skip_ (w1 := ?_) (by rfl) rfl ?_ ?_
    rotate_left
    · go_simp
      with_reducible rfl
    refine hK.out _ _ (sOf _ (hy.setCell (p := ⟨b1, 0, none⟩) m1.base _)) (fun hHeld => ?_)
    clear hK K
    have tg := m1.tag
    have hy := hy.setCell (p := ⟨b1, 0, none⟩) m1.base (.pointer q1)
    have x0 := m0.far tg (Ne.symm n01) (.pointer q1)
    have x2 := m2.far tg n12 (.pointer q1)
    have x1 := m1.set tr1
    have tr0 := tr0.stored (a := ⟨b1, 0, none⟩) tg (by decide) (.pointer q1)
    have tr1 := tr1.stored (a := ⟨b1, 0, none⟩) tg (by decide) (.pointer q1)
    have tr2 := tr2.stored (a := ⟨b1, 0, none⟩) tg (by decide) (.pointer q1)
    clear m0 m1 m2
    have m0 := x0
    have m1 := x1
    have m2 := x2
    clear x0 x1 x2
    have e2 := m2.cell
    have f2 := m2.fr
    refine one_ (i := 14) (N := none) #[true, true, true, true, true, true, true, true, true, true, true, true, true, true, true] rfl rfl (by kernel_rfl) (by decide) (fun K hK => ?_)
    refine skip_ (w1 := ?_) (by rfl) rfl ?_ ?_
    rotate_left
    · go_simp
      with_reducible rfl
    refine hK.out _ _ (sOf _ (hy.setCell (p := ⟨b2, 0, none⟩) m2.base _)) (fun hHeld => ?_)
    clear hK K
    have tg := m2.tag
    have hy := hy.setCell (p := ⟨b2, 0, none⟩) m2.base (.pointer q2)
    have x0 := m0.far tg (Ne.symm n02) (.pointer q2)
    have x1 := m1.far tg (Ne.symm n12) (.pointer q2)
    have x2 := m2.set tr2
    have tr0 := tr0.stored (a := ⟨b2, 0, none⟩) tg (by decide) (.pointer q2)
    have tr1 := tr1.stored (a := ⟨b2, 0, none⟩) tg (by decide) (.pointer q2)
    have tr2 := tr2.stored (a := ⟨b2, 0, none⟩) tg (by decide) (.pointer q2)
    clear m0 m1 m2
    have m0 := x0
    have m1 := x1
    have m2 := x2
    clear x0 x1 x2
    refine done_ (by kernel_rfl) ?_
    have ma := ma.below hy
    have mb := mb.below hy
    have hbx := hbx.trans (hy.mono hbx.size)
    clear mm0 mm1 mm2 tr0 tr1 tr2 tg e0 e1 e2 f0 f1 f2
    generalize ((y.setCell ⟨b0, 0, none⟩ (.pointer q0)).setCell ⟨b1, 0, none⟩ (.pointer q1)).setCell ⟨b2, 0, none⟩ (.pointer q2) = x3 at ma mb hbx m0 m1 m2 ⊢
    have hUI := both_size s1 s2
    have hDI := common_size s1 s2
    have hUA := union_alone s1 s2
    obtain ⟨U, hU⟩ : ∃ N, (T.union t1 t2).size = N := ⟨_, rfl⟩
    obtain ⟨I, hI⟩ : ∃ N, (T.intersect t1 t2).size = N := ⟨_, rfl⟩
    obtain ⟨D, hD⟩ : ∃ N, (T.subtract t1 t2).size = N := ⟨_, rfl⟩
    obtain ⟨n1, hn1⟩ : ∃ N, t1.size = N := ⟨_, rfl⟩
    obtain ⟨n2, hn2⟩ : ∃ N, t2.size = N := ⟨_, rfl⟩
    rw [hU, hI, hn1, hn2] at hUI
    rw [hD, hI, hn1] at hDI
    have zn1 : n1 ≤ 1000 := by omega
    have zn2 : n2 ≤ 1000 := by omega
    have wsum : IntKind.i64.wrap ((U : Int) + (I : Int)) = (n1 : Int) + (n2 : Int) := by rw [IntKind.wrap_i64]; omega
    have wsum2 : IntKind.i64.wrap ((n1 : Int) + (n2 : Int)) = (n1 : Int) + (n2 : Int) := by rw [IntKind.wrap_i64]; omega
    have wdif : IntKind.i64.wrap ((n1 : Int) - (I : Int)) = (D : Int) := by rw [IntKind.wrap_i64]; omega
    have zUn : (T.union t1 t2).size ≤ 1000000 := by omega
    have zSub : (T.subtract t1 t2).size ≤ 1000 := by omega
    have zUA : (T.union (T.subtract t1 t2) t2).size ≤ 1000000 := by rw [← T.length_toList, hUA, T.length_toList]; omega
    have HU := Lib.hid hU
    have HI := Lib.hid hI
    have HD := Lib.hid hD
    have H1 := Lib.hid hn1
    have H2 := Lib.hid hn2
    have HUA := Lib.hid hUA
    clear hU hI hD hn1 hn2 hUA hUI hDI zn1 zn2
    have f0 : ∀ y, Below x3.heap.size x3 y → y.cell? ⟨ba, 0, none⟩ = some (.pointer p1) := fun y h => (ma.below h).cell
    have f1 : ∀ y, Below x3.heap.size x3 y → y.cell? ⟨bb, 0, none⟩ = some (.pointer p2) := fun y h => (mb.below h).cell
    have f2 : ∀ y, Below x3.heap.size x3 y → y.cell? ⟨b0, 0, none⟩ = some (.pointer q0) := fun y h => (m0.below h).cell
    have f3 : ∀ y, Below x3.heap.size x3 y → y.cell? ⟨b1, 0, none⟩ = some (.pointer q1) := fun y h => (m1.below h).cell
    have f4 : ∀ y, Below x3.heap.size x3 y → y.cell? ⟨b2, 0, none⟩ = some (.pointer q2) := fun y h => (m2.below h).cell
    go_upto_region 6 with fail
    go_region_held3 (fun w' => Below x3.heap.size x3 w') (repeat (first | assumption | exact Below.refl _ _ | apply Below.drew)) (first
      | (go_at_call 34; refine (Union_any (T.subtract t1 t2) t2 q2 p2 _ (m2.below (by assumption)).tree (mb.below (by assumption)).tree (by omega)).mono ?_; rintro e y1 ⟨pu, rfl, hu, hx1⟩; have hk1 : Below x3.heap.size x3 y1 := Below.trans (by assumption) (hx1.mono (Below.size (by assumption))))
      | (go_at_call 40; refine (m0.list2 zUn (by assumption)).mono ?_; rintro e y2 ⟨AL, cL, rfl, hcL, hrow, hx2, hk2⟩; have HROW := Lib.hid hrow; clear hrow)
      | (go_at_call 19; refine (same_tree (IsTree.later hu hx2) zUA HUA.out hcL HROW.out (by assumption)).mono ?_; rintro e y3 ⟨rfl, hk3⟩)
      | (go_at_call 17; (with_reducible refine (m0.lenN HU.out (by assumption)).mono ?_); rintro e y4 ⟨rfl, hk4⟩)
      | (go_at_call 17; (with_reducible refine (m1.lenN HI.out (by assumption)).mono ?_); rintro e y5 ⟨rfl, hk5⟩)
      | (go_at_call 17; (with_reducible refine (ma.lenN H1.out (by assumption)).mono ?_); rintro e y6 ⟨rfl, hk6⟩)
      | (go_at_call 17; (with_reducible refine (mb.lenN H2.out (by assumption)).mono ?_); rintro e y7 ⟨rfl, hk7⟩)
      | (go_at_call 17; (with_reducible refine (m2.lenN HD.out (by assumption)).mono ?_); rintro e y8 ⟨rfl, hk8⟩))
    have ma := ma.below hk5
    have hbx := hbx.trans (hk5.mono hbx.size)
    clear f0 f1 f2 f3 f4 mb m0 m1 m2 hk1 hk2 hk3 hk4 hk7 hk8 hk6 hu hx1 hx2 HROW hcL HUA HU HI HD H1 H2 wsum wsum2 wdif zUn zSub zUA
    obtain ⟨x4, hx4⟩ : ∃ x, x = y5 := ⟨_, rfl⟩
    rw [← hx4] at ma hbx ⊢
    clear hx4
    have e0 := ma.cell
    have hmid := (T.cut_spec ky t1 s1).2.2.2.2
    go_upto_region 9 with (go_at_call 32; refine (Split_any t1 ky p1 _ ma.tree (by omega)).mono ?_; rintro e x ⟨pl, ph, rfl, hl, hh, hx⟩)
    have hba := below_two x (.cells #[.pointer pl] 28) (.cells #[.pointer ph] 28)
    have hx2 := hx.trans (hba.mono hx.size)
    have n16 := (MBox.new (n₀ := 0) (W := x) (Nat.zero_le _) hl).below (below_one _ (.cells #[.pointer ph] 28))
    have n19 : MBox 0 ((x.alloc (.cells #[.pointer pl] 28)).alloc (.cells #[.pointer ph] 28)) (x.heap.size + 1) ph (T.cut ky t1).2.2 := by
      have := MBox.new (n₀ := 0) (W := x.alloc (.cells #[.pointer pl] 28)) (Nat.zero_le _) (hh.later (below_one x (.cells #[.pointer pl] 28)))
      simpa using this
    have hneA : x.heap.size ≠ ba := Nat.ne_of_gt (ma.below hx).lt
    have hB16 := (hbx.trans (hx.mono hbx.size)).size
    have ma := ma.below hx2
    have hbx := hbx.trans (hx2.mono hbx.size)
    generalize (x.alloc (.cells #[.pointer pl] 28)).alloc (.cells #[.pointer ph] 28) = x4' at ma n16 n19 hbx ⊢
    generalize x.heap.size = b16 at n16 n19 hneA hB16 ⊢
    obtain ⟨b19, hb19⟩ : ∃ b, b = b16 + 1 := ⟨_, rfl⟩
    rw [← hb19] at n19 ⊢
    have hne19 : b16 ≠ b19 := by omega
    clear hb19 hx hba hx2 hl hh e0
    have zc := cut_sizes ky t1
    rcases hmid with ⟨hm, hno⟩ | ⟨l', v, r', hm, hin⟩
    · have ho : optV (T.cut ky t1).2.1 = .int .i64 0 := by rw [hm]; rfl
      have hi : isN (T.cut ky t1).2.1 = false := by rw [hm]; rfl
      rw [ho, hi]
      obtain ⟨hcl, hjl⟩ := sides_out s1 ky hno
      clear ho hi hm hno
      have e1 := n16.cell
      have e2 := n19.cell
      go_upto_region 12 with (go_at_call 33; refine (Join_any _ _ pl ph _ n16.tree n19.tree (by omega)).mono ?_; rintro e z ⟨pj, ce, rfl, hk, ⟨-, rfl, hJ⟩ | ⟨hbad, -, -⟩⟩; rotate_left; exact absurd hbad (by rw [hcl]; decide))
      clear e1 e2 n16 n19
      have hk2 := hk.trans ((below_one z (.cells #[.pointer pj] 28)).mono hk.size)
      have mJ := MBox.new (n₀ := 0) (Nat.zero_le _) hJ
      have ma := ma.below hk2
      have hbx := hbx.trans (hk2.mono hbx.size)
      generalize z.alloc (.cells #[.pointer pj] 28) = x5 at ma mJ hbx ⊢
      generalize z.heap.size = bJ at mJ ⊢
      have zJ : (T.merge (T.cut ky t1).1 (T.cut ky t1).2.2).size ≤ 1000000 := by rw [← T.length_toList, hjl, T.length_toList]; omega
      have f0 : ∀ y, Below x5.heap.size x5 y → y.cell? ⟨ba, 0, none⟩ = some (.pointer p1) := fun y h => (ma.below h).cell
      have f1 : ∀ y, Below x5.heap.size x5 y → y.cell? ⟨bJ, 0, none⟩ = some (.pointer pj) := fun y h => (mJ.below h).cell
      have HJL := Lib.hid hjl
      have hU := union_self s1
      have HU := Lib.hid hU
      have zU : (T.union t1 t1).size ≤ 1000000 := by rw [← T.length_toList, hU, T.length_toList]; omega
      have hS0 := subtract_self s1
      have HS0 := Lib.hid hS0
      clear hjl hcl hU hS0 hk hk2 hJ
      go_region_held3 (fun w' => Below x5.heap.size x5 w') (repeat (first | assumption | exact Below.refl _ _ | apply Below.drew)) (first
        | (go_at_call 40; refine (ma.list2 (by omega) (by assumption)).mono ?_; rintro e y1 ⟨AL, cL, rfl, hcL, hrow, hx1, hk1⟩; have HROW := Lib.hid hrow; clear hrow)
        | (go_at_call 19; (with_reducible refine (mJ.same zJ HJL.out hcL HROW.out (by assumption)).mono ?_); rintro e y2 ⟨rfl, hk2⟩)
        | (go_at_call 34; refine (Union_any t1 t1 p1 p1 _ (ma.below (by assumption)).tree (ma.below (by assumption)).tree (by omega)).mono ?_; rintro e y3 ⟨pu, rfl, hu, hx3⟩; have hk3 : Below x5.heap.size x5 y3 := Below.trans (by assumption) (hx3.mono (Below.size (by assumption))))
        | (go_at_call 19; (with_reducible refine (same_tree (IsTree.later hu hx1) zU HU.out hcL HROW.out (by assumption)).mono ?_); rintro e y4 ⟨rfl, hk4⟩)
        | (go_at_call 35; refine (Subtract_any t1 t1 p1 p1 _ (ma.below (by assumption)).tree (ma.below (by assumption)).tree (by omega)).mono ?_; rintro e y5 ⟨ps, rfl, hsu, hx5⟩; have hk5 : Below x5.heap.size x5 y5 := Below.trans (by assumption) (hx5.mono (Below.size (by assumption))))
        | (go_at_call 17; refine (len_tree hsu (by assumption)).mono ?_; rw [HS0.out]; rintro e y6 ⟨rfl, hk6⟩)
        | (go_at_call 13; refine (alive_in (by assumption)).mono ?_; rintro e y8 ⟨rfl, hk8⟩))
      go_wp2
      go_ret
      exact ⟨rfl, hbx.trans (hk8.mono hbx.size)⟩
    · have ho : optV (T.cut ky t1).2.1 = .int .i64 v := by rw [hm]; rfl
      have hi : isN (T.cut ky t1).2.1 = true := by rw [hm]; rfl
      rw [ho, hi]
      obtain ⟨hcl, hjl⟩ := sides_in s1 ky v hin
      have zp : ((T.cut ky t1).1.put ky v).size ≤ t1.size + 1 := by rcases T.put_size ky v (T.cut ky t1).1 with h | h <;> omega
      clear ho hi hm hin
      have e1 := n16.cell
      have f1 := n16.fr
      go_upto_region 11 with (go_at_call 24; refine (Put_any _ ky v pl _ n16.tree (by omega)).mono ?_; rintro e x ⟨pl', rfl, hpl, hk⟩; have e1' := (n16.below hk).cell; have f1' := (n16.below hk).fr)
      have n16' := (n16.below hk).set hpl
      have n19 := (n19.below hk).far (n16.below hk).tag hne19 (.pointer pl')
      have ma := ma.below hk
      have hbx := hbx.trans (hk.mono hbx.size)
      have ma := ma.far (n16.below hk).tag hneA (.pointer pl')
      have hbx := hbx.setCell (p := ⟨b16, 0, none⟩) hB16 (.pointer pl')
      generalize x.setCell ⟨b16, 0, none⟩ (.pointer pl') = x6 at ma n16' n19 hbx ⊢
      clear e1 f1 e1' f1' hpl hk n16 hneA hB16
      have e1 := n16'.cell
      have e2 := n19.cell
      go_upto_region 12 with (go_at_call 33; refine (Join_any _ _ pl' ph _ n16'.tree n19.tree (by omega)).mono ?_; rintro e z ⟨pj, ce, rfl, hk, ⟨-, rfl, hJ⟩ | ⟨hbad, -, -⟩⟩; rotate_left; exact absurd hbad (by rw [hcl]; decide))
      clear e1 e2 n16' n19
      have hk2 := hk.trans ((below_one z (.cells #[.pointer pj] 28)).mono hk.size)
      have mJ := MBox.new (n₀ := 0) (Nat.zero_le _) hJ
      have ma := ma.below hk2
      have hbx := hbx.trans (hk2.mono hbx.size)
      generalize z.alloc (.cells #[.pointer pj] 28) = x5 at ma mJ hbx ⊢
      generalize z.heap.size = bJ at mJ ⊢
      have zJ : (T.merge ((T.cut ky t1).1.put ky v) (T.cut ky t1).2.2).size ≤ 1000000 := by rw [← T.length_toList, hjl, T.length_toList]; omega
      have f0 : ∀ y, Below x5.heap.size x5 y → y.cell? ⟨ba, 0, none⟩ = some (.pointer p1) := fun y h => (ma.below h).cell
      have f1 : ∀ y, Below x5.heap.size x5 y → y.cell? ⟨bJ, 0, none⟩ = some (.pointer pj) := fun y h => (mJ.below h).cell
      have HJL := Lib.hid hjl
      have hU := union_self s1
      have HU := Lib.hid hU
      have zU : (T.union t1 t1).size ≤ 1000000 := by rw [← T.length_toList, hU, T.length_toList]; omega
      have hS0 := subtract_self s1
      have HS0 := Lib.hid hS0
      clear hjl hcl hU hS0 hk hk2 hJ
      go_region_held3 (fun w' => Below x5.heap.size x5 w') (repeat (first | assumption | exact Below.refl _ _ | apply Below.drew)) (first
        | (go_at_call 40; refine (ma.list2 (by omega) (by assumption)).mono ?_; rintro e y1 ⟨AL, cL, rfl, hcL, hrow, hx1, hk1⟩; have HROW := Lib.hid hrow; clear hrow)
        | (go_at_call 19; (with_reducible refine (mJ.same zJ HJL.out hcL HROW.out (by assumption)).mono ?_); rintro e y2 ⟨rfl, hk2⟩)
        | (go_at_call 34; refine (Union_any t1 t1 p1 p1 _ (ma.below (by assumption)).tree (ma.below (by assumption)).tree (by omega)).mono ?_; rintro e y3 ⟨pu, rfl, hu, hx3⟩; have hk3 : Below x5.heap.size x5 y3 := Below.trans (by assumption) (hx3.mono (Below.size (by assumption))))
        | (go_at_call 19; (with_reducible refine (same_tree (IsTree.later hu hx1) zU HU.out hcL HROW.out (by assumption)).mono ?_); rintro e y4 ⟨rfl, hk4⟩)
        | (go_at_call 35; refine (Subtract_any t1 t1 p1 p1 _ (ma.below (by assumption)).tree (ma.below (by assumption)).tree (by omega)).mono ?_; rintro e y5 ⟨ps, rfl, hsu, hx5⟩; have hk5 : Below x5.heap.size x5 y5 := Below.trans (by assumption) (hx5.mono (Below.size (by assumption))))
        | (go_at_call 17; refine (len_tree hsu (by assumption)).mono ?_; rw [HS0.out]; rintro e y6 ⟨rfl, hk6⟩)
        | (go_at_call 13; refine (alive_in (by assumption)).mono ?_; rintro e y8 ⟨rfl, hk8⟩))
      go_wp2
      go_ret
      exact ⟨rfl, hbx.trans (hk8.mono hbx.size)⟩
  · go_wp2_with (first
      | (go_at_call 37; refine (few_any _ _ _ _).mono ?_; rw [decide_eq_false h200]; rintro e x ⟨rfl, rfl⟩)
      | (go_at_call 13; refine (alive_true (Below.refl _ _)).mono ?_; rintro e x ⟨rfl, hx⟩))
    go_ret
    exact ⟨rfl, hx⟩
end Go.Proofs.MT.II
