/- The law TreePatch, walked. -/
import Derived.Test.YtnhngaadegebfaaBoxCalls
import Derived.Test.YtnhngaadegebfaaPatchLaws
namespace Go.Proofs.MT.II
open Go.RowKit Go.Proofs.YtnhngaadegebfaaW.PrintLast Go.Proofs.YtnhngaadegebfaaW.PrintWords
set_option linter.unusedVariables false
set_option linter.unusedSimpArgs false

theorem flatC_get {l : List Ch} : ∀ {i : Nat} {c : Ch}, l[i]? = some c → (flatC l)[i * 5]? = some (.int .i64 c.key) ∧ (flatC l)[i * 5 + 1]? = some (.int .i64 c.old) ∧ (flatC l)[i * 5 + 2]? = some (.int .i64 c.new) ∧ (flatC l)[i * 5 + 3]? = some (.bool c.had) ∧ (flatC l)[i * 5 + 4]? = some (.bool c.has) := by
  induction l with
  | nil => intro i c h; cases h
  | cons y ys ih =>
    intro i c h
    cases i with
    | zero => injection h with h; subst h; exact ⟨rfl, rfl, rfl, rfl, rfl⟩
    | succ i =>
      have := ih (i := i) (c := c) h
      rw [show (i + 1) * 5 = i * 5 + 1 + 1 + 1 + 1 + 1 from by omega]
      exact this
/-- The row of changes, read. -/
theorem rowC {W : World} {base : Nat} {v : Value} {l : List Ch} (h : W.ownsRow base 91 5 v l.length (flatC l)) :
    ∃ A c, v = .slice A l.length c ∧ l.length ≤ c ∧ (l = [] ∨ ∃ b, A = some ⟨b, 0, none⟩ ∧ b < W.heap.size ∧ ∀ i ch, l[i]? = some ch → W.cell? ⟨b, i * 5, none⟩ = some (.int .i64 ch.key) ∧ W.cell? ⟨b, i * 5 + 2, none⟩ = some (.int .i64 ch.new) ∧ W.cell? ⟨b, i * 5 + 4, none⟩ = some (.bool ch.has)) := by
  obtain ⟨_, ⟨rfl, h0⟩ | ⟨g, cap, cur, rfl, hg, hh, hn, hm, hs, ht⟩⟩ := h
  · have : l = [] := List.eq_nil_of_length_eq_zero h0
    subst this
    exact ⟨none, 0, rfl, by simp, .inl rfl⟩
  · refine ⟨_, cap, rfl, hn, .inr ⟨g, rfl, ?_, ?_⟩⟩
    · rcases Nat.lt_or_ge g W.heap.size with h | h
      · exact h
      · rw [Array.getElem?_eq_none h] at hh; cases hh
    · intro i x hx
      have hi : i < l.length := by
        rcases Nat.lt_or_ge i l.length with h | h
        · exact h
        · rw [List.getElem?_eq_none h] at hx; cases hx
      obtain ⟨h0, _, h2, _, h4⟩ := flatC_get hx
      rw [← ht, List.getElem?_take, if_pos (by omega), Array.getElem?_toList] at h0 h2 h4
      simp only [World.cell?, hh]
      exact ⟨by simpa using h0, by simpa using h2, by simpa using h4⟩
theorem diffB {n₀ n₁ : Nat} {W y : World} {b c : Nat} {p q : Option Addr} {t u : T Int Int} (m : MBox n₀ W b p t) (k : MBox n₁ W c q u) (hz : t.size ≤ 1000000) (hz' : u.size ≤ 1000000) (hy : Below W.heap.size W y) :
    Calls Try.prog 46 #[.agg #[.pointer p], .agg #[.pointer q]] y fun e z => ∃ v, e = .returned v ∧ z.ownsRow y.heap.size 91 5 v (diffL t.toList u.toList).length (flatC (diffL t.toList u.toList)) ∧ Below y.heap.size y z ∧ Below W.heap.size W z :=
  (diff_any t u p q y (m.below hy).tree (k.below hy).tree hz hz').mono fun _ _ ⟨v, h1, h2, h3⟩ => ⟨v, h1, h2, h3, hy.trans (h3.mono hy.size)⟩
theorem diffNil {n₀ n₁ : Nat} {W y : World} {b c : Nat} {p q : Option Addr} {t u : T Int Int} (m : MBox n₀ W b p t) (k : MBox n₁ W c q u) (hz : t.size ≤ 1000000) (hz' : u.size ≤ 1000000) (he : t.toList = u.toList) (hy : Below W.heap.size W y) :
    Calls Try.prog 46 #[.agg #[.pointer p], .agg #[.pointer q]] y fun e z => ∃ A g, e = .returned (.slice A 0 g) ∧ Below W.heap.size W z :=
  (diffB m k hz hz' hy).mono fun _ _ ⟨v, h1, h2, h3, h4⟩ => by
    rw [he, diff_self] at h2
    obtain ⟨A, g, h5, _, _⟩ := rowC h2
    exact ⟨A, g, by rw [h1, h5]; rfl, h4⟩

set_option maxRecDepth 100000 in
set_option maxHeartbeats 12800000 in
theorem TreePatch_walk (l : List Step) (hok : ∀ o ∈ l, o.ok) (A : Option Addr) (c : Nat) (hc : l.length ≤ c) (w : World) (hr : Steps5 w A l) (xx yy : Int) (hx0 : 0 ≤ xx) (hx1 : xx ≤ 255) (hy0 : 0 ≤ yy) (hy1 : yy ≤ 255) :
    Calls Try.prog 12 #[.slice A l.length c, .int .u8 xx, .int .u8 yy] w fun e w' => e = .returned (.bool true) ∧ Below w.heap.size w w' := by
  go_enter Try.func12, Try.ntmps12
  by_cases h200 : (l.length : Int) ≤ 200
  · go_upto_region 4 with (first
      | (go_at_call 37; refine (few_any _ _ _ _).mono ?_; rw [decide_eq_true h200]; rintro e x ⟨rfl, rfl⟩)
      | (go_at_call 38; refine (played_any l (by omega) hok A c hc _ hr).mono ?_; rintro e x ⟨B, vm, vl, ks, es, rfl, hx, wd, hes, hks⟩))
    obtain ⟨bm, cm, bl, cl, rfl, rfl, hcm, hcl, rd⟩ := wd.opened (by omega)
    have hne : 0 < es.length := by omega
    have hks' : ks.length ≤ 1000 := by omega
    have hel : es.length ≤ 1000 := by omega
    clear hes hks
    have n0 : 0 < (es.length : Int) := by omega
    obtain ⟨i, hi, hin⟩ : ∃ i : Nat, xx % (es.length : Int) = i ∧ i < es.length := ⟨(xx % (es.length : Int)).toNat, by have := Int.emod_nonneg xx (b := (es.length : Int)) (by omega); omega, by have h1 := Int.emod_lt_of_pos xx n0; have := Int.emod_nonneg xx (b := (es.length : Int)) (by omega); omega⟩
    obtain ⟨j, hj, hjn⟩ : ∃ j : Nat, yy % (es.length : Int) = j ∧ j < es.length := ⟨(yy % (es.length : Int)).toNat, by have := Int.emod_nonneg yy (b := (es.length : Int)) (by omega); omega, by have h1 := Int.emod_lt_of_pos yy n0; have := Int.emod_nonneg yy (b := (es.length : Int)) (by omega); omega⟩
    have t1' : xx.tmod (es.length : Int) = (i : Int) := by rw [Int.tmod_eq_emod_of_nonneg hx0]; exact hi
    have t2' : yy.tmod (es.length : Int) = (j : Int) := by rw [Int.tmod_eq_emod_of_nonneg hy0]; exact hj
    have w1 : IntKind.i64.wrap xx = xx := by rw [IntKind.wrap_i64]; omega
    have w2 : IntKind.i64.wrap yy = yy := by rw [IntKind.wrap_i64]; omega
    have nn : ¬ (es.length : Int) = 0 := by omega
    have nn2 : ¬ es = [] := by intro e; rw [e] at hne; simp at hne
    have a1 : (i : Int) < (es.length : Int) := by omega
    have a2 : (0 : Int) ≤ (i : Int) := by omega
    have a3 : (j : Int) < (es.length : Int) := by omega
    have a4 : (0 : Int) ≤ (j : Int) := by omega
    obtain ⟨p1, A1, c1, t1, he1, g1, hc1, hz1, s1⟩ := wd.entry hks' hin
    obtain ⟨p2, A2, c2, t2, he2, g2, hc2, hz2, s2⟩ := wd.entry hks' hjn
    have sOf : ∀ y, Below x.heap.size x y → y.cell? ⟨B, 0, none⟩ = some (.slice (some ⟨bm, 0, none⟩) es.length cm) ∧ y.cell? ⟨bm, i, none⟩ = some (.pointer p1) ∧ y.cell? ⟨bm, j, none⟩ = some (.pointer p2) := fun y h => ⟨(rd y h).1, ((rd y h).2.2 i _ he1).1, ((rd y h).2.2 j _ he2).1⟩
    clear rd wd he1 he2 hc1 hc2 hcl
    obtain ⟨W1, hW⟩ : ∃ W, W = x := ⟨_, rfl⟩
    rw [← hW]
    rw [← hW] at sOf g1 g2 hx
    clear hW
    refine start_ (n := 32) (S := fun w' => w'.cell? ⟨B, 0, none⟩ = some (.slice (some ⟨bm, 0, none⟩) es.length cm) ∧ w'.cell? ⟨bm, i, none⟩ = some (.pointer p1) ∧ w'.cell? ⟨bm, j, none⟩ = some (.pointer p2)) (ds := []) #[false, false, false, false, false, false, false, false, false, false, false, false, false, false, false, false, false, false, false, false, false, false, false, false, false, false, false, false, false, false, false, false] (by kernel_rfl) rfl rfl (sOf _ (Below.drew (Below.refl _ _))) (fun hHeld => ?_)
    refine pure_ (i := 0) (N := some 23) (v := ?_) (a' := ?_) #[true, false, false, false, false, false, false, false, false, false, false, false, false, false, false, false, false, false, false, false, false, false, false, false, false, false, false, false, false, false, false, false] rfl rfl (by kernel_rfl) (fun _ _ _ h => h) (Or.inl ⟨by rfl, ?_⟩) ?_ ?_
    rotate_left
    · intro w'
      go_simp
      with_reducible rfl
    rotate_left
    · simp only [Act.put, List.setIfInBounds_toArray, List.set_cons_zero, List.set_cons_succ, i64_w, i32_w]
      rfl
    refine pure_ (i := 1) (N := some 24) (v := ?_) (a' := ?_) #[true, true, false, false, false, false, false, false, false, false, false, false, false, false, false, false, false, false, false, false, false, false, false, false, false, false, false, false, false, false, false, false] rfl rfl (by kernel_rfl) (fun _ _ _ h => h) (Or.inl ⟨by rfl, ?_⟩) ?_ ?_
    rotate_left
    · intro w'
      go_simp
      with_reducible rfl
    rotate_left
    · simp only [Act.put, List.setIfInBounds_toArray, List.set_cons_zero, List.set_cons_succ, i64_w, i32_w]
      rfl
    refine pure_ (i := 2) (N := some 25) (v := ?_) (a' := ?_) #[true, true, true, false, false, false, false, false, false, false, false, false, false, false, false, false, false, false, false, false, false, false, false, false, false, false, false, false, false, false, false, false] rfl rfl (by kernel_rfl) (fun _ _ _ h => h) (Or.inl ⟨by rfl, ?_⟩) ?_ ?_
    rotate_left
    · intro w'
      go_simp
      with_reducible rfl
    rotate_left
    · simp only [Act.put, List.setIfInBounds_toArray, List.set_cons_zero, List.set_cons_succ, i64_w, i32_w]
      rfl
    refine take_ (i := 3) (N := some 26) (v := ?_) (a' := ?_) #[true, true, true, true, false, false, false, false, false, false, false, false, false, false, false, false, false, false, false, false, false, false, false, false, false, false, false, false, false, false, false, false] rfl rfl (by kernel_rfl) (fun _ _ _ h => h) (Or.inl ⟨by rfl, ?_⟩) hHeld ?_ ?_
    rotate_left
    · rintro w' ⟨s0, s1, s2⟩
      go_simp
      with_reducible rfl
    rotate_left
    · simp only [Act.put, List.setIfInBounds_toArray, List.set_cons_zero, List.set_cons_succ, i64_w, i32_w]
      rfl
    refine pure_ (i := 4) (N := some 27) (v := ?_) (a' := ?_) #[true, true, true, true, true, false, false, false, false, false, false, false, false, false, false, false, false, false, false, false, false, false, false, false, false, false, false, false, false, false, false, false] rfl rfl (by kernel_rfl) (fun _ _ _ h => h) (Or.inl ⟨by rfl, ?_⟩) ?_ ?_
    rotate_left
    · intro w'
      go_simp
      with_reducible rfl
    rotate_left
    · simp only [Act.put, List.setIfInBounds_toArray, List.set_cons_zero, List.set_cons_succ, i64_w, i32_w]
      rfl
    refine pure_ (i := 5) (N := some 28) (v := ?_) (a' := ?_) #[true, true, true, true, true, true, false, false, false, false, false, false, false, false, false, false, false, false, false, false, false, false, false, false, false, false, false, false, false, false, false, false] rfl rfl (by kernel_rfl) (fun _ _ _ h => h) (Or.inl ⟨by rfl, ?_⟩) ?_ ?_
    rotate_left
    · intro w'
      go_simp
      with_reducible rfl
    rotate_left
    · simp only [Act.put, List.setIfInBounds_toArray, List.set_cons_zero, List.set_cons_succ, i64_w, i32_w]
      rfl
    refine pure_ (i := 6) (N := some 29) (v := ?_) (a' := ?_) #[true, true, true, true, true, true, true, false, false, false, false, false, false, false, false, false, false, false, false, false, false, false, false, false, false, false, false, false, false, false, false, false] rfl rfl (by kernel_rfl) (fun _ _ _ h => h) (Or.inl ⟨by rfl, ?_⟩) ?_ ?_
    rotate_left
    · intro w'
      go_simp
      with_reducible rfl
    rotate_left
    · simp only [Act.put, List.setIfInBounds_toArray, List.set_cons_zero, List.set_cons_succ, i64_w, i32_w]
      rfl
    refine pure_ (i := 7) (N := some 30) (v := ?_) (a' := ?_) #[true, true, true, true, true, true, true, true, false, false, false, false, false, false, false, false, false, false, false, false, false, false, false, false, false, false, false, false, false, false, false, false] rfl rfl (by kernel_rfl) (fun _ _ _ h => h) (Or.inl ⟨by rfl, ?_⟩) ?_ ?_
    rotate_left
    · intro w'
      go_simp
      with_reducible rfl
    rotate_left
    · simp only [Act.put, List.setIfInBounds_toArray, List.set_cons_zero, List.set_cons_succ, i64_w, i32_w]
      rfl
    refine pure_ (i := 8) (N := some 31) (v := ?_) (a' := ?_) #[true, true, true, true, true, true, true, true, true, false, false, false, false, false, false, false, false, false, false, false, false, false, false, false, false, false, false, false, false, false, false, false] rfl rfl (by kernel_rfl) (fun _ _ _ h => h) (Or.inl ⟨by rfl, ?_⟩) ?_ ?_
    rotate_left
    · intro w'
      go_simp
      with_reducible rfl
    rotate_left
    · simp only [Act.put, List.setIfInBounds_toArray, List.set_cons_zero, List.set_cons_succ, i64_w, i32_w]
      rfl
    refine take_ (i := 9) (N := some 32) (v := ?_) (a' := ?_) #[true, true, true, true, true, true, true, true, true, true, false, false, false, false, false, false, false, false, false, false, false, false, false, false, false, false, false, false, false, false, false, false] rfl rfl (by kernel_rfl) (fun _ _ _ h => h) (Or.inl ⟨by rfl, ?_⟩) hHeld ?_ ?_
    rotate_left
    · rintro w' ⟨s0, s1, s2⟩
      go_simp
      with_reducible rfl
    rotate_left
    · simp only [Act.put, List.setIfInBounds_toArray, List.set_cons_zero, List.set_cons_succ, i64_w, i32_w]
      rfl
    refine pure_ (i := 10) (N := some 33) (v := ?_) (a' := ?_) #[true, true, true, true, true, true, true, true, true, true, true, false, false, false, false, false, false, false, false, false, false, false, false, false, false, false, false, false, false, false, false, false] rfl rfl (by kernel_rfl) (fun _ _ _ h => h) (Or.inl ⟨by rfl, ?_⟩) ?_ ?_
    rotate_left
    · intro w'
      go_simp
      with_reducible rfl
    rotate_left
    · simp only [Act.put, List.setIfInBounds_toArray, List.set_cons_zero, List.set_cons_succ, i64_w, i32_w]
      rfl
    refine pure_ (i := 11) (N := some 34) (v := ?_) (a' := ?_) #[true, true, true, true, true, true, true, true, true, true, true, true, false, false, false, false, false, false, false, false, false, false, false, false, false, false, false, false, false, false, false, false] rfl rfl (by kernel_rfl) (fun _ _ _ h => h) (Or.inl ⟨by rfl, ?_⟩) ?_ ?_
    rotate_left
    · intro w'
      go_simp
      with_reducible rfl
    rotate_left
    · simp only [Act.put, List.setIfInBounds_toArray, List.set_cons_zero, List.set_cons_succ, i64_w, i32_w]
      rfl
    refine pure_ (i := 12) (N := some 35) (v := ?_) (a' := ?_) #[true, true, true, true, true, true, true, true, true, true, true, true, true, false, false, false, false, false, false, false, false, false, false, false, false, false, false, false, false, false, false, false] rfl rfl (by kernel_rfl) (fun _ _ _ h => h) (Or.inl ⟨by rfl, ?_⟩) ?_ ?_
    rotate_left
    · intro w'
      go_simp
      with_reducible rfl
    rotate_left
    · simp only [Act.put, List.setIfInBounds_toArray, List.set_cons_zero, List.set_cons_succ, i64_w, i32_w]
      rfl
    refine take_ (i := 13) (N := some 36) (v := ?_) (a' := ?_) #[true, true, true, true, true, true, true, true, true, true, true, true, true, true, false, false, false, false, false, false, false, false, false, false, false, false, false, false, false, false, false, false] rfl rfl (by kernel_rfl) (fun _ _ _ h => h) (Or.inl ⟨by rfl, ?_⟩) hHeld ?_ ?_
    rotate_left
    · rintro w' ⟨s0, s1, s2⟩
      go_simp
      with_reducible rfl
    rotate_left
    · simp only [Act.put, List.setIfInBounds_toArray, List.set_cons_zero, List.set_cons_succ, i64_w, i32_w]
      rfl
    refine pure_ (i := 14) (N := some 37) (v := ?_) (a' := ?_) #[true, true, true, true, true, true, true, true, true, true, true, true, true, true, true, false, false, false, false, false, false, false, false, false, false, false, false, false, false, false, false, false] rfl rfl (by kernel_rfl) (fun _ _ _ h => h) (Or.inl ⟨by rfl, ?_⟩) ?_ ?_
    rotate_left
    · intro w'
      go_simp
      with_reducible rfl
    rotate_left
    · simp only [Act.put, List.setIfInBounds_toArray, List.set_cons_zero, List.set_cons_succ, i64_w, i32_w]
      rfl
    refine pure_ (i := 15) (N := some 38) (v := ?_) (a' := ?_) #[true, true, true, true, true, true, true, true, true, true, true, true, true, true, true, true, false, false, false, false, false, false, false, false, false, false, false, false, false, false, false, false] rfl rfl (by kernel_rfl) (fun _ _ _ h => h) (Or.inl ⟨by rfl, ?_⟩) ?_ ?_
    rotate_left
    · intro w'
      go_simp
      with_reducible rfl
    rotate_left
    · simp only [Act.put, List.setIfInBounds_toArray, List.set_cons_zero, List.set_cons_succ, i64_w, i32_w]
      rfl
    refine pure_ (i := 16) (N := some 39) (v := ?_) (a' := ?_) #[true, true, true, true, true, true, true, true, true, true, true, true, true, true, true, true, true, false, false, false, false, false, false, false, false, false, false, false, false, false, false, false] rfl rfl (by kernel_rfl) (fun _ _ _ h => h) (Or.inl ⟨by rfl, ?_⟩) ?_ ?_
    rotate_left
    · intro w'
      go_simp
      with_reducible rfl
    rotate_left
    · simp only [Act.put, List.setIfInBounds_toArray, List.set_cons_zero, List.set_cons_succ, i64_w, i32_w]
      rfl
    refine take_ (i := 17) (N := some 40) (v := ?_) (a' := ?_) #[true, true, true, true, true, true, true, true, true, true, true, true, true, true, true, true, true, true, false, false, false, false, false, false, false, false, false, false, false, false, false, false] rfl rfl (by kernel_rfl) (fun _ _ _ h => h) (Or.inl ⟨by rfl, ?_⟩) hHeld ?_ ?_
    rotate_left
    · rintro w' ⟨s0, s1, s2⟩
      go_simp
      with_reducible rfl
    rotate_left
    · simp only [Act.put, List.setIfInBounds_toArray, List.set_cons_zero, List.set_cons_succ, i64_w, i32_w]
      rfl
    refine pure_ (i := 18) (N := some 41) (v := ?_) (a' := ?_) #[true, true, true, true, true, true, true, true, true, true, true, true, true, true, true, true, true, true, true, false, false, false, false, false, false, false, false, false, false, false, false, false] rfl rfl (by kernel_rfl) (fun _ _ _ h => h) (Or.inl ⟨by rfl, ?_⟩) ?_ ?_
    rotate_left
    · intro w'
      go_simp
      with_reducible rfl
    rotate_left
    · simp only [Act.put, List.setIfInBounds_toArray, List.set_cons_zero, List.set_cons_succ, i64_w, i32_w]
      rfl
    refine pure_ (i := 19) (N := some 42) (v := ?_) (a' := ?_) #[true, true, true, true, true, true, true, true, true, true, true, true, true, true, true, true, true, true, true, true, false, false, false, false, false, false, false, false, false, false, false, false] rfl rfl (by kernel_rfl) (fun _ _ _ h => h) (Or.inl ⟨by rfl, ?_⟩) ?_ ?_
    rotate_left
    · intro w'
      go_simp
      with_reducible rfl
    rotate_left
    · simp only [Act.put, List.setIfInBounds_toArray, List.set_cons_zero, List.set_cons_succ, i64_w, i32_w]
      rfl
    refine pure_ (i := 20) (N := some 43) (v := ?_) (a' := ?_) #[true, true, true, true, true, true, true, true, true, true, true, true, true, true, true, true, true, true, true, true, true, false, false, false, false, false, false, false, false, false, false, false] rfl rfl (by kernel_rfl) (fun _ _ _ h => h) (Or.inl ⟨by rfl, ?_⟩) ?_ ?_
    rotate_left
    · intro w'
      go_simp
      with_reducible rfl
    rotate_left
    · simp only [Act.put, List.setIfInBounds_toArray, List.set_cons_zero, List.set_cons_succ, i64_w, i32_w]
      rfl
    refine pure_ (i := 21) (N := some 44) (v := ?_) (a' := ?_) #[true, true, true, true, true, true, true, true, true, true, true, true, true, true, true, true, true, true, true, true, true, true, false, false, false, false, false, false, false, false, false, false] rfl rfl (by kernel_rfl) (fun _ _ _ h => h) (Or.inl ⟨by rfl, ?_⟩) ?_ ?_
    rotate_left
    · intro w'
      go_simp
      with_reducible rfl
    rotate_left
    · simp only [Act.put, List.setIfInBounds_toArray, List.set_cons_zero, List.set_cons_succ, i64_w, i32_w]
      rfl
    refine pure_ (i := 22) (N := some 45) (v := ?_) (a' := ?_) #[true, true, true, true, true, true, true, true, true, true, true, true, true, true, true, true, true, true, true, true, true, true, true, false, false, false, false, false, false, false, false, false] rfl rfl (by kernel_rfl) (fun _ _ _ h => h) (Or.inl ⟨by rfl, ?_⟩) ?_ ?_
    rotate_left
    · intro w'
      go_simp
      with_reducible rfl
    rotate_left
    · simp only [Act.put, List.setIfInBounds_toArray, List.set_cons_zero, List.set_cons_succ, i64_w, i32_w]
      rfl
    refine take_ (i := 23) (N := some 46) (v := ?_) (a' := ?_) #[true, true, true, true, true, true, true, true, true, true, true, true, true, true, true, true, true, true, true, true, true, true, true, true, false, false, false, false, false, false, false, false] rfl rfl (by kernel_rfl) (fun _ _ _ h => h) (Or.inl ⟨by rfl, ?_⟩) hHeld ?_ ?_
    rotate_left
    · rintro w' ⟨s0, s1, s2⟩
      go_simp
      with_reducible rfl
    rotate_left
    · simp only [Act.put, List.setIfInBounds_toArray, List.set_cons_zero, List.set_cons_succ, i64_w, i32_w]
      rfl
    refine pure_ (i := 24) (N := some 47) (v := ?_) (a' := ?_) #[true, true, true, true, true, true, true, true, true, true, true, true, true, true, true, true, true, true, true, true, true, true, true, true, true, false, false, false, false, false, false, false] rfl rfl (by kernel_rfl) (fun _ _ _ h => h) (Or.inl ⟨by rfl, ?_⟩) ?_ ?_
    rotate_left
    · intro w'
      go_simp
      with_reducible rfl
    rotate_left
    · simp only [Act.put, List.setIfInBounds_toArray, List.set_cons_zero, List.set_cons_succ, i64_w, i32_w]
      rfl
    refine pure_ (i := 25) (N := some 48) (v := ?_) (a' := ?_) #[true, true, true, true, true, true, true, true, true, true, true, true, true, true, true, true, true, true, true, true, true, true, true, true, true, true, false, false, false, false, false, false] rfl rfl (by kernel_rfl) (fun _ _ _ h => h) (Or.inl ⟨by rfl, ?_⟩) ?_ ?_
    rotate_left
    · intro w'
      go_simp
      with_reducible rfl
    rotate_left
    · simp only [Act.put, List.setIfInBounds_toArray, List.set_cons_zero, List.set_cons_succ, i64_w, i32_w]
      rfl
    refine pure_ (i := 26) (N := some 49) (v := ?_) (a' := ?_) #[true, true, true, true, true, true, true, true, true, true, true, true, true, true, true, true, true, true, true, true, true, true, true, true, true, true, true, false, false, false, false, false] rfl rfl (by kernel_rfl) (fun _ _ _ h => h) (Or.inl ⟨by rfl, ?_⟩) ?_ ?_
    rotate_left
    · intro w'
      go_simp
      with_reducible rfl
    rotate_left
    · simp only [Act.put, List.setIfInBounds_toArray, List.set_cons_zero, List.set_cons_succ, i64_w, i32_w]
      rfl
    refine take_ (i := 27) (N := some 50) (v := ?_) (a' := ?_) #[true, true, true, true, true, true, true, true, true, true, true, true, true, true, true, true, true, true, true, true, true, true, true, true, true, true, true, true, false, false, false, false] rfl rfl (by kernel_rfl) (fun _ _ _ h => h) (Or.inl ⟨by rfl, ?_⟩) hHeld ?_ ?_
    rotate_left
    · rintro w' ⟨s0, s1, s2⟩
      go_simp
      with_reducible rfl
    rotate_left
    · simp only [Act.put, List.setIfInBounds_toArray, List.set_cons_zero, List.set_cons_succ, i64_w, i32_w]
      rfl
    refine join_ (σ := Nat × Nat) 2 #[true, true, true, true, true, true, true, true, true, true, true, true, true, true, true, true, true, true, true, true, true, true, true, true, true, true, true, true, true, true, false, false] (fun s => [(9, .pointer (some ⟨s.1, 0, none⟩)), (10, .pointer (some ⟨s.2, 0, none⟩))]) (fun s y => Below W1.heap.size W1 y ∧ MBox W1.heap.size y s.1 none .nil ∧ MBox W1.heap.size y s.2 none .nil ∧ s.1 ≠ s.2) ?_ (fun hJ => ?_)
    rotate_left
    obtain ⟨hbb, bx1, bx2⟩ := two_boxes (n₀ := W1.heap.size) (W := W1) (Nat.le_refl _)
    · refine two_ (i := 28) (j := 29) (Ni := some 9) (Nj := some 10) #[true, true, true, true, true, true, true, true, true, true, true, true, true, true, true, true, true, true, true, true, true, true, true, true, true, true, true, true, true, false, false, false] #[true, true, true, true, true, true, true, true, true, true, true, true, true, true, true, true, true, true, true, true, true, true, true, true, true, true, true, true, false, true, false, false] rfl rfl rfl rfl (by kernel_rfl) (by decide) (by decide) (fun K hK => ?_) (fun K hK => ?_)
      · refine value_ (w1 := ?_) (v := ?_) (by rfl) rfl ?_ ?_
        rotate_left 2
        · go_simp
          constructor <;> with_reducible rfl
        refine hK.out _ _ (sOf _ (Below.drew (below_one W1 (.cells #[.pointer none] 28)))) (fun hHeld => ?_)
        clear hK K
        refine norm_ (a' := ?_) ?_ ?_
        rotate_left
        · show Act.put _ (some 9) _ = _
          simp only [Act.put, List.setIfInBounds_toArray, List.set_cons_zero, List.set_cons_succ, i64_w, i32_w]
          rfl
        refine one_ (i := 29) (N := some 10) #[true, true, true, true, true, true, true, true, true, true, true, true, true, true, true, true, true, true, true, true, true, true, true, true, true, true, true, true, true, true, false, false] rfl rfl (by kernel_rfl) (by decide) (fun K hK => ?_)
        refine value_ (w1 := ?_) (v := ?_) (by rfl) rfl ?_ ?_
        rotate_left 2
        · go_simp
          constructor <;> with_reducible rfl
        refine hK.out _ _ (sOf _ hbb) (fun hHeld => ?_)
        clear hK K
        refine norm_ (a' := ?_) ?_ ?_
        rotate_left
        · show Act.put _ (some 10) _ = _
          simp only [Act.put, List.setIfInBounds_toArray, List.set_cons_zero, List.set_cons_succ, i64_w, i32_w]
          rfl
        refine norm_ (a' := putAll _ _) ?_ (hJ (W1.heap.size, W1.heap.size + 1) _ ⟨hbb, bx1, bx2, by simp⟩)
        simp only [putAll, Act.put, List.setIfInBounds_toArray, List.set_cons_zero, List.set_cons_succ, i64_w, i32_w]
      · refine value_ (w1 := ?_) (v := ?_) (by rfl) rfl ?_ ?_
        rotate_left 2
        · go_simp
          constructor <;> with_reducible rfl
        refine hK.out _ _ (sOf _ (Below.drew (below_one W1 (.cells #[.pointer none] 28)))) (fun hHeld => ?_)
        clear hK K
        refine norm_ (a' := ?_) ?_ ?_
        rotate_left
        · show Act.put _ (some 10) _ = _
          simp only [Act.put, List.setIfInBounds_toArray, List.set_cons_zero, List.set_cons_succ, i64_w, i32_w]
          rfl
        refine one_ (i := 28) (N := some 9) #[true, true, true, true, true, true, true, true, true, true, true, true, true, true, true, true, true, true, true, true, true, true, true, true, true, true, true, true, true, true, false, false] rfl rfl (by kernel_rfl) (by decide) (fun K hK => ?_)
        refine value_ (w1 := ?_) (v := ?_) (by rfl) rfl ?_ ?_
        rotate_left 2
        · go_simp
          constructor <;> with_reducible rfl
        refine hK.out _ _ (sOf _ hbb) (fun hHeld => ?_)
        clear hK K
        refine norm_ (a' := ?_) ?_ ?_
        rotate_left
        · show Act.put _ (some 9) _ = _
          simp only [Act.put, List.setIfInBounds_toArray, List.set_cons_zero, List.set_cons_succ, i64_w, i32_w]
          rfl
        refine norm_ (a' := putAll _ _) ?_ (hJ (W1.heap.size + 1, W1.heap.size) _ ⟨hbb, bx2, bx1, by simp⟩)
        simp only [putAll, Act.put, List.setIfInBounds_toArray, List.set_cons_zero, List.set_cons_succ, i64_w, i32_w]
    rintro ⟨ba, bb⟩ y ⟨hy, m7, m8, h78⟩
    dsimp only at m7 m8 h78
    refine norm_ (a' := ?_) ?_ ?_
    rotate_left
    · simp only [putAll, Act.put, List.setIfInBounds_toArray, List.set_cons_zero, List.set_cons_succ, i64_w, i32_w]
      rfl
    have e7 := m7.cell
    have f7 := m7.fr
    have e8 := m8.cell
    have f8 := m8.fr
    refine one_ (i := 30) (N := none) #[true, true, true, true, true, true, true, true, true, true, true, true, true, true, true, true, true, true, true, true, true, true, true, true, true, true, true, true, true, true, true, false] rfl rfl (by kernel_rfl) (by decide) (fun K hK => ?_)
    refine skip_ (w1 := ?_) (by rfl) rfl ?_ ?_
    rotate_left
    · go_simp
      with_reducible rfl
    refine hK.out _ _ (sOf _ (hy.setCell (p := ⟨ba, 0, none⟩) m7.base _)) (fun hHeld => ?_)
    clear hK K
    have hy7 := hy.setCell (p := ⟨ba, 0, none⟩) m7.base (.pointer p1)
    have n7 := m7.set (g1.later hy).tree
    have n8 := m8.far m7.tag h78 (.pointer p1)
    have e8' := n8.cell
    have f8' := n8.fr
    refine one_ (i := 31) (N := none) #[true, true, true, true, true, true, true, true, true, true, true, true, true, true, true, true, true, true, true, true, true, true, true, true, true, true, true, true, true, true, true, true] rfl rfl (by kernel_rfl) (by decide) (fun K hK => ?_)
    refine skip_ (w1 := ?_) (by rfl) rfl ?_ ?_
    rotate_left
    · go_simp
      with_reducible rfl
    refine hK.out _ _ (sOf _ (hy7.setCell (p := ⟨bb, 0, none⟩) m8.base _)) (fun hHeld => ?_)
    clear hK K
    refine done_ (by kernel_rfl) ?_
    have hy8 := hy7.setCell (p := ⟨bb, 0, none⟩) m8.base (.pointer p2)
    have ma := n7.far n8.tag (Ne.symm h78) (.pointer p2)
    have mb := n8.set (g2.later hy7).tree
    generalize (y.setCell ⟨ba, 0, none⟩ (.pointer p1)).setCell ⟨bb, 0, none⟩ (.pointer p2) = x2 at ma mb hy8 ⊢
    have hbx := hx.trans (hy8.mono hx.size)
    clear sOf hy7 hy8 n7 n8 m7 m8 e7 e8 f7 f8 e8' f8' t1' t2' w1 w2 nn nn2 a1 a2 a3 a4 hi hj hx g1 g2 hy h78
    have e0 := ma.cell
    have e1 := mb.cell
    go_upto_region 6 with (go_at_call 46; refine (diffB ma mb (by omega) (by omega) (Below.refl _ _)).mono ?_; rintro e x ⟨v, rfl, hown, -, hk⟩; have e0' := (ma.below hk).cell)
    have T4 := told4 _ t1.toList t2.toList (Nat.le_refl _) s1 s2
    obtain ⟨cs, hcs⟩ : ∃ cs, cs = diffL t1.toList t2.toList := ⟨_, rfl⟩
    rw [← hcs] at hown T4
    clear hcs
    have hlen : cs.length ≤ 2000 := by have := T4.len; rw [T.length_toList, T.length_toList] at this; omega
    obtain ⟨AC, cC, rfl, hcC, hrow⟩ := rowC hown
    have ma := ma.below hk
    have mb := mb.below hk
    have hbx := hbx.trans (hk.mono hbx.size)
    clear hown hk e0 e1
    have mm := MBox.new (n₀ := x.heap.size) (W := x) (Nat.le_refl _) ma.tree
    go_upto_region 7 with fail
    have hk1 := below_one x (.cells #[.pointer p1] 28)
    have hbz0 := hk1
    clear e0'
    generalize x.alloc (.cells #[.pointer p1] 28) = W2 at mm hk1 hbz0 ⊢
    obtain ⟨b12, hb12⟩ : ∃ b, b = x.heap.size := ⟨_, rfl⟩
    rw [← hb12] at mm ⊢
    have mm0 : MBox 0 W2 b12 p1 t1 := ⟨Nat.zero_le _, mm.lt, mm.tag, mm.fr, mm.cell, mm.tree⟩
    have hbase : x.heap.size ≤ b12 := by omega
    have HB12 := Lib.hid hb12
    clear hb12
    go_wp2_with fail
    go_loopg [13] cs.length (fun k x13 wr => ∃ j : Nat, x13 = .int .i64 j ∧ j ≤ cs.length ∧ (∃ pm M, MBox x.heap.size wr b12 pm M ∧ Patched t1.toList t2.toList cs j M) ∧ Below x.heap.size x wr ∧ Hid (cs.length - j = k))
    case atStart => exact ⟨0, rfl, by omega, ⟨p1, t1, ⟨hbase, mm.lt, mm.tag, mm.fr, mm.cell, mm.tree⟩, Patched.start s1⟩, hbz0, rfl⟩
    case round =>
      clear mm mm0 hk1 hbz0
      obtain ⟨j, rfl, hj, ⟨pm, M, mm, hp⟩, hb, HN⟩ := hrel
      have zM : M.size ≤ 10000 := by have := hp.size; rw [T.length_toList] at this; omega
      by_cases hlt : j < cs.length
      · have b1 : (j : Int) < (cs.length : Int) := by omega
        have b2 : (0 : Int) ≤ (j : Int) := by omega
        have b3 : IntKind.i64.wrap ((j : Int) + 1) = ((j + 1 : Nat) : Int) := by rw [IntKind.wrap_i64]; push_cast; omega
        obtain ⟨ch, hch⟩ : ∃ x, cs[j]? = some x := ⟨_, List.getElem?_eq_getElem hlt⟩
        rcases hrow with h0 | ⟨bC, rfl, hbC, hcell⟩
        · rw [h0] at hlt; simp at hlt
        have rd := hcell j ch hch
        have R0 : ∀ y, Below x.heap.size x y → y.cell? ⟨bC, j * 5, none⟩ = some (.int .i64 ch.key) := fun y hy => (hy.cell (p := ⟨bC, _, none⟩) hbC).trans rd.1
        have R2 : ∀ y, Below x.heap.size x y → y.cell? ⟨bC, j * 5 + 2, none⟩ = some (.int .i64 ch.new) := fun y hy => (hy.cell (p := ⟨bC, _, none⟩) hbC).trans rd.2.1
        have R4 : ∀ y, Below x.heap.size x y → y.cell? ⟨bC, j * 5 + 4, none⟩ = some (.bool ch.has) := fun y hy => (hy.cell (p := ⟨bC, _, none⟩) hbC).trans rd.2.2
        clear rd hcell
        have hcm : ch ∈ cs := List.mem_of_getElem? hch
        have r4 := R4 _ hb
        have hw0 : Below wr.heap.size wr wr.drew := Below.drew (Below.refl _ _)
        cases hhas : ch.has with
        | true =>
          rw [hhas] at r4
          have hin := T4.put ch hcm hhas
          go_upto_region 11 with fail
          have sOf : ∀ y, Below wr.heap.size wr y → y.cell? ⟨b12, 0, none⟩ = some (.pointer pm) ∧ y.cell? ⟨bC, j * 5, none⟩ = some (.int .i64 ch.key) ∧ y.cell? ⟨bC, j * 5 + 2, none⟩ = some (.int .i64 ch.new) := fun y hy => ⟨(mm.below hy).cell, R0 _ (hb.trans (hy.mono hb.size)), R2 _ (hb.trans (hy.mono hb.size))⟩
          refine start_ (n := 13) (S := fun w' => w'.cell? ⟨b12, 0, none⟩ = some (.pointer pm) ∧ w'.cell? ⟨bC, j * 5, none⟩ = some (.int .i64 ch.key) ∧ w'.cell? ⟨bC, j * 5 + 2, none⟩ = some (.int .i64 ch.new)) (ds := [12]) #[false, false, false, false, false, false, false, false, false, false, false, false, false] (by kernel_rfl) rfl rfl (sOf _ (Below.drew (Below.refl _ _))) (fun hHeld => ?_)
          refine take_ (i := 0) (N := some 66) (v := ?_) (a' := ?_) #[true, false, false, false, false, false, false, false, false, false, false, false, false] rfl rfl (by kernel_rfl) (fun _ _ _ h => h) (Or.inl ⟨by rfl, ?_⟩) hHeld ?_ ?_
          rotate_left
          · rintro w' ⟨s0, s1, s2⟩
            go_simp
            with_reducible rfl
          rotate_left
          · simp only [Act.put, List.setIfInBounds_toArray, List.set_cons_zero, List.set_cons_succ, i64_w, i32_w]
            rfl
          refine pure_ (i := 1) (N := some 67) (v := ?_) (a' := ?_) #[true, true, false, false, false, false, false, false, false, false, false, false, false] rfl rfl (by kernel_rfl) (fun _ _ _ h => h) (Or.inl ⟨by rfl, ?_⟩) ?_ ?_
          rotate_left
          · intro w'
            go_simp
            with_reducible rfl
          rotate_left
          · simp only [Act.put, List.setIfInBounds_toArray, List.set_cons_zero, List.set_cons_succ, i64_w, i32_w]
            rfl
          refine pure_ (i := 2) (N := some 68) (v := ?_) (a' := ?_) #[true, true, true, false, false, false, false, false, false, false, false, false, false] rfl rfl (by kernel_rfl) (fun _ _ _ h => h) (Or.inl ⟨by rfl, ?_⟩) ?_ ?_
          rotate_left
          · intro w'
            go_simp
            with_reducible rfl
          rotate_left
          · simp only [Act.put, List.setIfInBounds_toArray, List.set_cons_zero, List.set_cons_succ, i64_w, i32_w]
            rfl
          refine pure_ (i := 3) (N := some 69) (v := ?_) (a' := ?_) #[true, true, true, true, false, false, false, false, false, false, false, false, false] rfl rfl (by kernel_rfl) (fun _ _ _ h => h) (Or.inl ⟨by rfl, ?_⟩) ?_ ?_
          rotate_left
          · intro w'
            go_simp
            with_reducible rfl
          rotate_left
          · simp only [Act.put, List.setIfInBounds_toArray, List.set_cons_zero, List.set_cons_succ, i64_w, i32_w]
            rfl
          refine pure_ (i := 4) (N := some 70) (v := ?_) (a' := ?_) #[true, true, true, true, true, false, false, false, false, false, false, false, false] rfl rfl (by kernel_rfl) (fun _ _ _ h => h) (Or.inl ⟨by rfl, ?_⟩) ?_ ?_
          rotate_left
          · intro w'
            go_simp
            with_reducible rfl
          rotate_left
          · simp only [Act.put, List.setIfInBounds_toArray, List.set_cons_zero, List.set_cons_succ, i64_w, i32_w]
            rfl
          refine take_ (i := 5) (N := some 71) (v := ?_) (a' := ?_) #[true, true, true, true, true, true, false, false, false, false, false, false, false] rfl rfl (by kernel_rfl) (fun _ _ _ h => h) (Or.inl ⟨by rfl, ?_⟩) hHeld ?_ ?_
          rotate_left
          · rintro w' ⟨s0, s1, s2⟩
            go_simp
            with_reducible rfl
          rotate_left
          · simp only [Act.put, List.setIfInBounds_toArray, List.set_cons_zero, List.set_cons_succ, i64_w, i32_w]
            rfl
          refine pure_ (i := 6) (N := some 72) (v := ?_) (a' := ?_) #[true, true, true, true, true, true, true, false, false, false, false, false, false] rfl rfl (by kernel_rfl) (fun _ _ _ h => h) (Or.inl ⟨by rfl, ?_⟩) ?_ ?_
          rotate_left
          · intro w'
            go_simp
            with_reducible rfl
          rotate_left
          · simp only [Act.put, List.setIfInBounds_toArray, List.set_cons_zero, List.set_cons_succ, i64_w, i32_w]
            rfl
          refine pure_ (i := 7) (N := some 73) (v := ?_) (a' := ?_) #[true, true, true, true, true, true, true, true, false, false, false, false, false] rfl rfl (by kernel_rfl) (fun _ _ _ h => h) (Or.inl ⟨by rfl, ?_⟩) ?_ ?_
          rotate_left
          · intro w'
            go_simp
            with_reducible rfl
          rotate_left
          · simp only [Act.put, List.setIfInBounds_toArray, List.set_cons_zero, List.set_cons_succ, i64_w, i32_w]
            rfl
          refine pure_ (i := 8) (N := some 74) (v := ?_) (a' := ?_) #[true, true, true, true, true, true, true, true, true, false, false, false, false] rfl rfl (by kernel_rfl) (fun _ _ _ h => h) (Or.inl ⟨by rfl, ?_⟩) ?_ ?_
          rotate_left
          · intro w'
            go_simp
            with_reducible rfl
          rotate_left
          · simp only [Act.put, List.setIfInBounds_toArray, List.set_cons_zero, List.set_cons_succ, i64_w, i32_w]
            rfl
          refine pure_ (i := 9) (N := some 75) (v := ?_) (a' := ?_) #[true, true, true, true, true, true, true, true, true, true, false, false, false] rfl rfl (by kernel_rfl) (fun _ _ _ h => h) (Or.inl ⟨by rfl, ?_⟩) ?_ ?_
          rotate_left
          · intro w'
            go_simp
            with_reducible rfl
          rotate_left
          · simp only [Act.put, List.setIfInBounds_toArray, List.set_cons_zero, List.set_cons_succ, i64_w, i32_w]
            rfl
          refine take_ (i := 10) (N := some 76) (v := ?_) (a' := ?_) #[true, true, true, true, true, true, true, true, true, true, true, false, false] rfl rfl (by kernel_rfl) (fun _ _ _ h => h) (Or.inl ⟨by rfl, ?_⟩) hHeld ?_ ?_
          rotate_left
          · rintro w' ⟨s0, s1, s2⟩
            go_simp
            with_reducible rfl
          rotate_left
          · simp only [Act.put, List.setIfInBounds_toArray, List.set_cons_zero, List.set_cons_succ, i64_w, i32_w]
            rfl
          refine one_ (i := 11) (N := some 77) #[true, true, true, true, true, true, true, true, true, true, true, true, false] rfl rfl (by kernel_rfl) (by decide) (fun K hK => ?_)
          refine goes_ Try.func24 (by kernel_rfl) rfl #[.agg #[.pointer pm], .int .i64 ch.key, .int .i64 ch.new] (by rfl) rfl rfl (by (try simp only [List.map_toArray, List.map_cons, List.map_nil]); first | done | rfl) ?_
          refine (Put_any M ch.key ch.new pm _ (mm.below hw0).tree (by omega)).mono ?_
          rintro e y1 ⟨pm', rfl, hpm, hy1⟩
          refine ⟨_, rfl, ?_⟩
          refine hK.out _ _ (sOf _ (hw0.trans (hy1.mono hw0.size))) (fun hHeld => ?_)
          clear hK K
          refine norm_ (a' := ?_) ?_ ?_
          rotate_left
          · show Act.put _ (some 77) _ = _
            simp only [Act.put, List.setIfInBounds_toArray, List.set_cons_zero, List.set_cons_succ, i64_w, i32_w]
            rfl
          have hw1 := hw0.trans (hy1.mono hw0.size)
          have mm := mm.below hw1
          have e12 := mm.cell
          have f12 := mm.fr
          refine last_ (i := 12) (N := none) #[true, true, true, true, true, true, true, true, true, true, true, true, true] rfl rfl (by kernel_rfl) (by decide) (fun K hK => ?_)
          refine skip_ (w1 := ?_) (by rfl) rfl ?_ ?_
          rotate_left
          · go_simp
            with_reducible rfl
          refine hK.out _ _ ?_
          clear hK K
          refine done_ (by kernel_rfl) ?_
          have mm' := mm.set hpm
          have hbz := mm.belowSet (hb.trans (hw1.mono hb.size)) (.pointer pm')
          go_wp2
          go_roundg (cs.length - (j + 1))
          case measure => have := HN.out; omega
          case rel => exact ⟨j + 1, rfl, by omega, ⟨_, _, mm', hp.put s2 hch hin⟩, hbz, rfl⟩
        | false =>
          rw [hhas] at r4
          have hno := T4.gone ch hcm hhas
          go_upto_region 12 with fail
          have sOf : ∀ y, Below wr.heap.size wr y → y.cell? ⟨b12, 0, none⟩ = some (.pointer pm) ∧ y.cell? ⟨bC, j * 5, none⟩ = some (.int .i64 ch.key) := fun y hy => ⟨(mm.below hy).cell, R0 _ (hb.trans (hy.mono hb.size))⟩
          refine start_ (n := 11) (S := fun w' => w'.cell? ⟨b12, 0, none⟩ = some (.pointer pm) ∧ w'.cell? ⟨bC, j * 5, none⟩ = some (.int .i64 ch.key)) (ds := [10]) #[false, false, false, false, false, false, false, false, false, false, false] (by kernel_rfl) rfl rfl (sOf _ (Below.drew (Below.refl _ _))) (fun hHeld => ?_)
          refine take_ (i := 0) (N := some 79) (v := ?_) (a' := ?_) #[true, false, false, false, false, false, false, false, false, false, false] rfl rfl (by kernel_rfl) (fun _ _ _ h => h) (Or.inl ⟨by rfl, ?_⟩) hHeld ?_ ?_
          rotate_left
          · rintro w' ⟨s0, s1⟩
            go_simp
            with_reducible rfl
          rotate_left
          · simp only [Act.put, List.setIfInBounds_toArray, List.set_cons_zero, List.set_cons_succ, i64_w, i32_w]
            rfl
          refine pure_ (i := 1) (N := some 80) (v := ?_) (a' := ?_) #[true, true, false, false, false, false, false, false, false, false, false] rfl rfl (by kernel_rfl) (fun _ _ _ h => h) (Or.inl ⟨by rfl, ?_⟩) ?_ ?_
          rotate_left
          · intro w'
            go_simp
            with_reducible rfl
          rotate_left
          · simp only [Act.put, List.setIfInBounds_toArray, List.set_cons_zero, List.set_cons_succ, i64_w, i32_w]
            rfl
          refine pure_ (i := 2) (N := some 81) (v := ?_) (a' := ?_) #[true, true, true, false, false, false, false, false, false, false, false] rfl rfl (by kernel_rfl) (fun _ _ _ h => h) (Or.inl ⟨by rfl, ?_⟩) ?_ ?_
          rotate_left
          · intro w'
            go_simp
            with_reducible rfl
          rotate_left
          · simp only [Act.put, List.setIfInBounds_toArray, List.set_cons_zero, List.set_cons_succ, i64_w, i32_w]
            rfl
          refine pure_ (i := 3) (N := some 82) (v := ?_) (a' := ?_) #[true, true, true, true, false, false, false, false, false, false, false] rfl rfl (by kernel_rfl) (fun _ _ _ h => h) (Or.inl ⟨by rfl, ?_⟩) ?_ ?_
          rotate_left
          · intro w'
            go_simp
            with_reducible rfl
          rotate_left
          · simp only [Act.put, List.setIfInBounds_toArray, List.set_cons_zero, List.set_cons_succ, i64_w, i32_w]
            rfl
          refine pure_ (i := 4) (N := some 83) (v := ?_) (a' := ?_) #[true, true, true, true, true, false, false, false, false, false, false] rfl rfl (by kernel_rfl) (fun _ _ _ h => h) (Or.inl ⟨by rfl, ?_⟩) ?_ ?_
          rotate_left
          · intro w'
            go_simp
            with_reducible rfl
          rotate_left
          · simp only [Act.put, List.setIfInBounds_toArray, List.set_cons_zero, List.set_cons_succ, i64_w, i32_w]
            rfl
          refine take_ (i := 5) (N := some 84) (v := ?_) (a' := ?_) #[true, true, true, true, true, true, false, false, false, false, false] rfl rfl (by kernel_rfl) (fun _ _ _ h => h) (Or.inl ⟨by rfl, ?_⟩) hHeld ?_ ?_
          rotate_left
          · rintro w' ⟨s0, s1⟩
            go_simp
            with_reducible rfl
          rotate_left
          · simp only [Act.put, List.setIfInBounds_toArray, List.set_cons_zero, List.set_cons_succ, i64_w, i32_w]
            rfl
          refine one_ (i := 6) (N := some 85) #[true, true, true, true, true, true, true, false, false, false, false] rfl rfl (by kernel_rfl) (by decide) (fun K hK => ?_)
          refine goes_ Try.func22 (by kernel_rfl) rfl #[.agg #[.pointer pm], .int .i64 ch.key] (by rfl) rfl rfl (by (try simp only [List.map_toArray, List.map_cons, List.map_nil]); first | done | rfl) ?_
          refine (Delete_any M ch.key pm _ (mm.below hw0).tree (by omega)).mono ?_
          intro e y1 hdd
          obtain ⟨pm', is, M', rfl, hy1, hpm, hML, -⟩ := Deletes.list hdd hp.sorted
          refine ⟨_, rfl, ?_⟩
          refine hK.out _ _ (sOf _ (hw0.trans (hy1.mono hw0.size))) (fun hHeld => ?_)
          clear hK K
          refine norm_ (a' := ?_) ?_ ?_
          rotate_left
          · show Act.put _ (some 85) _ = _
            simp only [Act.put, List.setIfInBounds_toArray, List.set_cons_zero, List.set_cons_succ, i64_w, i32_w]
            rfl
          refine pure_ (i := 7) (N := some 78) (v := ?_) (a' := ?_) #[true, true, true, true, true, true, true, true, false, false, false] rfl rfl (by kernel_rfl) (fun _ _ _ h => h) (Or.inl ⟨by rfl, ?_⟩) ?_ ?_
          rotate_left
          · intro w'
            go_simp
            with_reducible rfl
          rotate_left
          · simp only [Act.put, List.setIfInBounds_toArray, List.set_cons_zero, List.set_cons_succ, i64_w, i32_w]
            rfl
          refine pure_ (i := 8) (N := some 86) (v := ?_) (a' := ?_) #[true, true, true, true, true, true, true, true, true, false, false] rfl rfl (by kernel_rfl) (fun _ _ _ h => h) (Or.inl ⟨by rfl, ?_⟩) ?_ ?_
          rotate_left
          · intro w'
            go_simp
            with_reducible rfl
          rotate_left
          · simp only [Act.put, List.setIfInBounds_toArray, List.set_cons_zero, List.set_cons_succ, i64_w, i32_w]
            rfl
          refine pure_ (i := 9) (N := some 87) (v := ?_) (a' := ?_) #[true, true, true, true, true, true, true, true, true, true, false] rfl rfl (by kernel_rfl) (fun _ _ _ h => h) (Or.inl ⟨by rfl, ?_⟩) ?_ ?_
          rotate_left
          · intro w'
            go_simp
            with_reducible rfl
          rotate_left
          · simp only [Act.put, List.setIfInBounds_toArray, List.set_cons_zero, List.set_cons_succ, i64_w, i32_w]
            rfl
          have hw1 := hw0.trans (hy1.mono hw0.size)
          have mm := mm.below hw1
          have e12 := mm.cell
          have f12 := mm.fr
          refine last_ (i := 10) (N := none) #[true, true, true, true, true, true, true, true, true, true, true] rfl rfl (by kernel_rfl) (by decide) (fun K hK => ?_)
          refine skip_ (w1 := ?_) (by rfl) rfl ?_ ?_
          rotate_left
          · go_simp
            with_reducible rfl
          refine hK.out _ _ ?_
          clear hK K
          refine done_ (by kernel_rfl) ?_
          have mm' := mm.set hpm
          have hbz := mm.belowSet (hb.trans (hw1.mono hb.size)) (.pointer pm')
          have hzz : M'.size ≤ M.size := by rw [← T.length_toList, ← T.length_toList, hML, T.length_toList, T.length_toList]; rcases T.remove_size ch.key M with e | e <;> omega
          go_wp2
          go_roundg (cs.length - (j + 1))
          case measure => have := HN.out; omega
          case rel => exact ⟨j + 1, rfl, by omega, ⟨_, _, mm', hp.remove hch hno hML hzz⟩, hbz, rfl⟩
      · obtain rfl : j = cs.length := by omega
        have hM := hp.all s2 T4
        have HM := Lib.hid hM
        have ma := ma.below hb
        have mb := mb.below hb
        have hbx := hbx.trans (hb.mono hbx.size)
        clear hM hp T4 hrow hcC hlt hj HN hb
        have f0 : ∀ y, Below wr.heap.size wr y → y.cell? ⟨ba, 0, none⟩ = some (.pointer p1) := fun y h => (ma.below h).cell
        have f1 : ∀ y, Below wr.heap.size wr y → y.cell? ⟨bb, 0, none⟩ = some (.pointer p2) := fun y h => (mb.below h).cell
        have f2 : ∀ y, Below wr.heap.size wr y → y.cell? ⟨b12, 0, none⟩ = some (.pointer pm) := fun y h => (mm.below h).cell
        go_upto_region 13 with fail
        go_region_held3 (fun w' => Below wr.heap.size wr w') (repeat (first | assumption | exact Below.refl _ _ | apply Below.drew)) (first
          | (go_at_call 40; refine (mb.list2 (by omega) (by assumption)).mono ?_; rintro e y1 ⟨AL, cL, rfl, hcL, hrow, hx1, hk1⟩; have HROW := Lib.hid hrow; clear hrow)
          | (go_at_call 19; refine (mm.same (by omega) HM.out hcL HROW.out (by assumption)).mono ?_; rintro e y2 ⟨rfl, hk2⟩)
          | (go_at_call 46; (with_reducible refine (diffNil ma ma (by omega) (by omega) rfl (by assumption)).mono ?_); rintro e y3 ⟨A3, c3, rfl, hk3⟩)
          | (go_at_call 46; (with_reducible refine (diffNil mm mb (by omega) (by omega) HM.out (by assumption)).mono ?_); rintro e y4 ⟨A4, c4, rfl, hk4⟩)
          | (go_at_call 13; refine (alive_in (by assumption)).mono ?_; rintro e y8 ⟨rfl, hk8⟩))
        go_wp2
        go_ret
        exact ⟨rfl, hbx.trans (hk8.mono hbx.size)⟩
  · go_wp2_with (first
      | (go_at_call 37; refine (few_any _ _ _ _).mono ?_; rw [decide_eq_false h200]; rintro e x ⟨rfl, rfl⟩)
      | (go_at_call 13; refine (alive_true (Below.refl _ _)).mono ?_; rintro e x ⟨rfl, hx⟩))
    go_ret
    exact ⟨rfl, hx⟩
end Go.Proofs.MT.II
