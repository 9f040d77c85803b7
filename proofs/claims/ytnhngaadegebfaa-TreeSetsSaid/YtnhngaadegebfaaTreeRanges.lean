/- The law TreeRanges, walked. -/
import Derived.Test.YtnhngaadegebfaaTreePlays
import Derived.Test.YtnhngaadegebfaaList
import Derived.Test.YtnhngaadegebfaaLooksLaws
import Derived.Test.YtnhngaadegebfaaWFour
namespace Go.Proofs.MT.II
open Go.RowKit Go.Proofs.YtnhngaadegebfaaW.PrintLast Go.Proofs.YtnhngaadegebfaaW.PrintWords Go.Proofs.YtnhngaadegebfaaW.PrintMore
attribute [local go_sem] max2_int min2_int max_two min_two max_three min_three max_four min_four
set_option linter.unusedVariables false
set_option linter.unusedSimpArgs false

section
variable {n₀ : Nat} {W y : World} {b : Nat} {p : Option Addr} {t : T Int Int}
theorem MBox.len (m : MBox n₀ W b p t) (hy : Below W.heap.size W y) : Calls Try.prog 17 #[.agg #[.pointer p]] y fun e z => e = .returned (.int .i64 t.size) ∧ Below W.heap.size W z :=
  (Len_any t p y (m.below hy).tree).mono fun _ _ ⟨h1, h2⟩ => ⟨h1, hy.trans (h2.mono hy.size)⟩
theorem MBox.rank (m : MBox n₀ W b p t) (hs : Sorted t.toList) (hz : t.size ≤ 1099511627776) (k : Int) (hy : Below W.heap.size W y) : Calls Try.prog 28 #[.agg #[.pointer p], .int .i64 k] y fun e z => e = .returned (.int .i64 (lessN t.toList k)) ∧ Below W.heap.size W z :=
  (Rank_any t k p y (m.below hy).tree hz).mono fun _ _ ⟨h1, h2⟩ => ⟨by rw [h1, rank_less k t hs], hy.trans (h2.mono hy.size)⟩
theorem MBox.list (m : MBox n₀ W b p t) (hz : t.size ≤ 1000000) (hy : Below W.heap.size W y) : Calls Try.prog 40 #[.agg #[.pointer p]] y fun e z => ∃ A c, e = .returned (.slice A t.toList.length c) ∧ t.toList.length ≤ c ∧ Row2 ek ev z.heap.size z A t.toList ∧ Below W.heap.size W z :=
  (list_any t p y (m.below hy).tree hz).mono fun _ _ ⟨A, c, h1, h2, h3, h4⟩ => ⟨A, c, h1, h2, h3, hy.trans (h4.mono hy.size)⟩
theorem MBox.same {A : Option Addr} {c : Nat} {l : List (Int × Int)} (m : MBox n₀ W b p t) (hz : t.size ≤ 1000000) (hl : t.toList = l) (hc : l.length ≤ c) (hr : Row2 ek ev y.heap.size y A l) (hy : Below W.heap.size W y) : Calls Try.prog 19 #[.agg #[.pointer p], .slice A l.length c] y fun e z => e = .returned (.bool true) ∧ Below W.heap.size W z :=
  (same_any t p l A c y (m.below hy).tree (by omega) hr hc (by rw [← hl, T.length_toList]; omega)).mono fun _ _ ⟨h1, h2⟩ => ⟨by rw [h1, decide_eq_true hl], hy.trans (h2.mono hy.size)⟩
theorem MBox.rangeNil (m : MBox n₀ W b p t) (hz : t.size + 1 ≤ 1099511627776) {x z : Int} (h : z ≤ x) (hy : Below W.heap.size W y) : Calls Try.prog 36 #[.agg #[.pointer p], .int .i64 x, .int .i64 z] y fun e u => e = .returned (.agg #[.pointer none]) ∧ Below W.heap.size W u :=
  (Range_any t x z p y (m.below hy).tree hz).mono fun _ _ ⟨p', h1, h2, h3⟩ => by
    have hn : T.range x z t = .nil := by unfold T.range; rw [if_neg (by simp [KOrd.lt]; omega)]
    rw [hn] at h2
    have h2 : p' = none := h2
    subst h2
    exact ⟨h1, hy.trans (h3.mono hy.size)⟩
theorem len_none (hy : Below W.heap.size W y) : Calls Try.prog 17 #[.agg #[.pointer none]] y fun e z => e = .returned (.int .i64 0) ∧ Below W.heap.size W z :=
  (Len_any .nil none y rfl).mono fun _ _ ⟨h1, h2⟩ => ⟨h1, hy.trans (h2.mono hy.size)⟩
theorem alive_in (hy : Below W.heap.size W y) : Calls Try.prog 13 #[] y fun e z => e = .returned (.bool true) ∧ Below W.heap.size W z :=
  (IS.alive_any y).mono fun _ _ ⟨h1, h2⟩ => ⟨h1, hy.trans (h2.mono hy.size)⟩
end

/-- A range, its size by ranks, and its two halves. -/
theorem range_size {t : T Int Int} (h : Sorted t.toList) {lo hi : Int} (hl : lo ≤ hi) : (T.range lo hi t).size + lessN t.toList lo = lessN t.toList hi := by
  rw [← T.length_toList, range_list lo hi t h]
  unfold lessN
  generalize t.toList = l
  induction l with
  | nil => rfl
  | cons x xs ih =>
    rw [List.filter_cons, List.filter_cons, List.filter_cons]
    by_cases h1 : x.1 < lo
    · rw [if_neg (by simp; omega), if_pos (by simpa using h1), if_pos (by simp; omega)]
      simp
      omega
    · by_cases h2 : x.1 < hi
      · rw [if_pos (by simp; omega), if_neg (by simpa using h1), if_pos (by simpa using h2)]
        simp
        omega
      · rw [if_neg (by simp; omega), if_neg (by simpa using h1), if_neg (by simpa using h2)]
        exact ih
theorem range_le {t : T Int Int} (h : Sorted t.toList) (lo hi : Int) : (T.range lo hi t).size ≤ t.size := by
  rw [← T.length_toList, ← T.length_toList, range_list lo hi t h]
  exact List.length_filter_le _ _
theorem range_join {t : T Int Int} (h : Sorted t.toList) {lo mid hi : Int} (h1 : lo ≤ mid) (h2 : mid ≤ hi) :
    T.clash (T.range lo mid t) (T.range mid hi t) = false ∧ (T.merge (T.range lo mid t) (T.range mid hi t)).toList = (T.range lo hi t).toList := by
  obtain ⟨s1, m1⟩ := T.mem_range lo mid t h
  obtain ⟨s2, m2⟩ := T.mem_range mid hi t h
  obtain ⟨s3, m3⟩ := T.mem_range lo hi t h
  have hd : ∀ x ∈ (T.range lo mid t).toList, ∀ y ∈ (T.range mid hi t).toList, KOrd.lt x.1 y.1 = true := fun x hx y hy => by
    have a := (m1 x).1 hx
    have b := (m2 y).1 hy
    simp [KOrd.lt] at a b ⊢
    omega
  refine ⟨T.clash_false hd, sorted_ext (T.join_sorted s1 s2 hd) s3 fun q => ?_⟩
  rw [T.merge_toList, List.mem_append, m1, m2, m3]
  simp only [KOrd.lt, decide_eq_false_iff_not, decide_eq_true_eq]
  constructor
  · rintro (⟨a, b, c⟩ | ⟨a, b, c⟩)
    · exact ⟨a, b, by omega⟩
    · exact ⟨a, by omega, c⟩
  · rintro ⟨a, b, c⟩
    by_cases hq : q.1 < mid
    · exact .inl ⟨a, b, hq⟩
    · exact .inr ⟨a, hq, c⟩

set_option maxRecDepth 100000 in
set_option maxHeartbeats 6400000 in
theorem TreeRanges_walk (l : List Step) (hok : ∀ o ∈ l, o.ok) (A : Option Addr) (c : Nat) (hc : l.length ≤ c) (w : World) (hr : Steps5 w A l) (xx fr ky tt : Int) (hx0 : 0 ≤ xx) (hx1 : xx ≤ 255) (hf0 : -9223372036854775808 ≤ fr) (hf1 : fr ≤ 9223372036854775807) (hk0 : -9223372036854775808 ≤ ky) (hk1 : ky ≤ 9223372036854775807) (ht0 : -9223372036854775808 ≤ tt) (ht1 : tt ≤ 9223372036854775807) :
    Calls Try.prog 8 #[.slice A l.length c, .int .u8 xx, .int .i64 fr, .int .i64 ky, .int .i64 tt] w fun e w' => e = .returned (.bool true) ∧ Below w.heap.size w w' := by
  clear hf0 hf1 hk0 hk1 ht0 ht1
  go_enter Try.func8, Try.ntmps8
  by_cases h200 : (l.length : Int) ≤ 200
  · go_upto_region 4 with (first
      | (go_at_call 37; refine (few_any _ _ _ _).mono ?_; rw [decide_eq_true h200]; rintro e x ⟨rfl, rfl⟩)
      | (go_at_call 38; refine (played_any l (by omega) hok A c hc _ hr).mono ?_; rintro e x ⟨B, vm, vl, ks, es, rfl, hx, wd, hes, hks⟩))
    obtain ⟨bm, cm, bl, cl, rfl, rfl, hcm, hcl, rd⟩ := wd.opened (by omega)
    have hne : 0 < es.length := by omega
    have hks' : ks.length ≤ 1000 := by omega
    have hel : es.length ≤ 1000 := by omega
    clear hes hks
    have n0 : 0 < (es.length : Int) := by omega
    obtain ⟨i, hi, hin⟩ : ∃ i : Nat, xx % (es.length : Int) = i ∧ i < es.length := ⟨(xx % (es.length : Int)).toNat, by have := Int.emod_nonneg xx (b := (es.length : Int)) (by omega); omega, by have h1 := Int.emod_lt_of_pos xx n0; have := Int.emod_nonneg xx (b := (es.length : Int)) (by omega); omega⟩
    have t1' : xx.tmod (es.length : Int) = (i : Int) := by rw [Int.tmod_eq_emod_of_nonneg hx0]; exact hi
    have w1 : IntKind.i64.wrap xx = xx := by rw [IntKind.wrap_i64]; omega
    have nn : ¬ (es.length : Int) = 0 := by omega
    have nn2 : ¬ es = [] := by intro e; rw [e] at hne; simp at hne
    have a1 : (i : Int) < (es.length : Int) := by omega
    have a2 : (0 : Int) ≤ (i : Int) := by omega
    obtain ⟨p, A1, c1, t, he, g, hc1, hz, hs⟩ := wd.entry hks' hin
    have hz' : t.size ≤ 1099511627776 := by omega
    have sOf : ∀ y, Below x.heap.size x y → y.cell? ⟨B, 0, none⟩ = some (.slice (some ⟨bm, 0, none⟩) es.length cm) ∧ y.cell? ⟨bm, i, none⟩ = some (.pointer p) := fun y h => ⟨(rd y h).1, ((rd y h).2.2 i _ he).1⟩
    have ht := g.tree
    clear rd wd he g hc1 hcl
    obtain ⟨W, hW⟩ : ∃ W, W = x := ⟨_, rfl⟩
    rw [← hW]
    rw [← hW] at sOf ht hx
    clear hW
    have hw0 : Below W.heap.size W W.drew := Below.drew (Below.refl _ _)
    refine start_ (n := 16) (S := fun w' => w'.cell? ⟨B, 0, none⟩ = some (.slice (some ⟨bm, 0, none⟩) es.length cm) ∧ w'.cell? ⟨bm, i, none⟩ = some (.pointer p)) (ds := []) #[false, false, false, false, false, false, false, false, false, false, false, false, false, false, false, false] (by kernel_rfl) rfl rfl (sOf _ (Below.drew (Below.refl _ _))) (fun hHeld => ?_)
    refine pure_ (i := 0) (N := some 31) (v := ?_) (a' := ?_) #[true, false, false, false, false, false, false, false, false, false, false, false, false, false, false, false] rfl rfl (by kernel_rfl) (fun _ _ _ h => h) (Or.inl ⟨by rfl, ?_⟩) ?_ ?_
    rotate_left
    · intro w'
      go_simp
      with_reducible rfl
    rotate_left
    · simp only [Act.put, List.setIfInBounds_toArray, List.set_cons_zero, List.set_cons_succ, i64_w, i32_w]
      rfl
    refine pure_ (i := 1) (N := some 32) (v := ?_) (a' := ?_) #[true, true, false, false, false, false, false, false, false, false, false, false, false, false, false, false] rfl rfl (by kernel_rfl) (fun _ _ _ h => h) (Or.inl ⟨by rfl, ?_⟩) ?_ ?_
    rotate_left
    · intro w'
      go_simp
      with_reducible rfl
    rotate_left
    · simp only [Act.put, List.setIfInBounds_toArray, List.set_cons_zero, List.set_cons_succ, i64_w, i32_w]
      rfl
    refine pure_ (i := 2) (N := some 33) (v := ?_) (a' := ?_) #[true, true, true, false, false, false, false, false, false, false, false, false, false, false, false, false] rfl rfl (by kernel_rfl) (fun _ _ _ h => h) (Or.inl ⟨by rfl, ?_⟩) ?_ ?_
    rotate_left
    · intro w'
      go_simp
      with_reducible rfl
    rotate_left
    · simp only [Act.put, List.setIfInBounds_toArray, List.set_cons_zero, List.set_cons_succ, i64_w, i32_w]
      rfl
    refine take_ (i := 3) (N := some 34) (v := ?_) (a' := ?_) #[true, true, true, true, false, false, false, false, false, false, false, false, false, false, false, false] rfl rfl (by kernel_rfl) (fun _ _ _ h => h) (Or.inl ⟨by rfl, ?_⟩) hHeld ?_ ?_
    rotate_left
    · rintro w' ⟨s0, s1⟩
      go_simp
      with_reducible rfl
    rotate_left
    · simp only [Act.put, List.setIfInBounds_toArray, List.set_cons_zero, List.set_cons_succ, i64_w, i32_w]
      rfl
    refine pure_ (i := 4) (N := some 35) (v := ?_) (a' := ?_) #[true, true, true, true, true, false, false, false, false, false, false, false, false, false, false, false] rfl rfl (by kernel_rfl) (fun _ _ _ h => h) (Or.inl ⟨by rfl, ?_⟩) ?_ ?_
    rotate_left
    · intro w'
      go_simp
      with_reducible rfl
    rotate_left
    · simp only [Act.put, List.setIfInBounds_toArray, List.set_cons_zero, List.set_cons_succ, i64_w, i32_w]
      rfl
    refine pure_ (i := 5) (N := some 36) (v := ?_) (a' := ?_) #[true, true, true, true, true, true, false, false, false, false, false, false, false, false, false, false] rfl rfl (by kernel_rfl) (fun _ _ _ h => h) (Or.inl ⟨by rfl, ?_⟩) ?_ ?_
    rotate_left
    · intro w'
      go_simp
      with_reducible rfl
    rotate_left
    · simp only [Act.put, List.setIfInBounds_toArray, List.set_cons_zero, List.set_cons_succ, i64_w, i32_w]
      rfl
    refine pure_ (i := 6) (N := some 37) (v := ?_) (a' := ?_) #[true, true, true, true, true, true, true, false, false, false, false, false, false, false, false, false] rfl rfl (by kernel_rfl) (fun _ _ _ h => h) (Or.inl ⟨by rfl, ?_⟩) ?_ ?_
    rotate_left
    · intro w'
      go_simp
      with_reducible rfl
    rotate_left
    · simp only [Act.put, List.setIfInBounds_toArray, List.set_cons_zero, List.set_cons_succ, i64_w, i32_w]
      rfl
    refine pure_ (i := 7) (N := some 38) (v := ?_) (a' := ?_) #[true, true, true, true, true, true, true, true, false, false, false, false, false, false, false, false] rfl rfl (by kernel_rfl) (fun _ _ _ h => h) (Or.inl ⟨by rfl, ?_⟩) ?_ ?_
    rotate_left
    · intro w'
      go_simp
      with_reducible rfl
    rotate_left
    · simp only [Act.put, List.setIfInBounds_toArray, List.set_cons_zero, List.set_cons_succ, i64_w, i32_w]
      rfl
    refine pure_ (i := 8) (N := some 39) (v := ?_) (a' := ?_) #[true, true, true, true, true, true, true, true, true, false, false, false, false, false, false, false] rfl rfl (by kernel_rfl) (fun _ _ _ h => h) (Or.inl ⟨by rfl, ?_⟩) ?_ ?_
    rotate_left
    · intro w'
      go_simp
      with_reducible rfl
    rotate_left
    · simp only [Act.put, List.setIfInBounds_toArray, List.set_cons_zero, List.set_cons_succ, i64_w, i32_w]
      rfl
    refine take_ (i := 9) (N := some 40) (v := ?_) (a' := ?_) #[true, true, true, true, true, true, true, true, true, true, false, false, false, false, false, false] rfl rfl (by kernel_rfl) (fun _ _ _ h => h) (Or.inl ⟨by rfl, ?_⟩) hHeld ?_ ?_
    rotate_left
    · rintro w' ⟨s0, s1⟩
      go_simp
      with_reducible rfl
    rotate_left
    · simp only [Act.put, List.setIfInBounds_toArray, List.set_cons_zero, List.set_cons_succ, i64_w, i32_w]
      rfl
    refine pure_ (i := 10) (N := some 41) (v := ?_) (a' := ?_) #[true, true, true, true, true, true, true, true, true, true, true, false, false, false, false, false] rfl rfl (by kernel_rfl) (fun _ _ _ h => h) (Or.inl ⟨by rfl, ?_⟩) ?_ ?_
    rotate_left
    · intro w'
      go_simp
      with_reducible rfl
    rotate_left
    · simp only [Act.put, List.setIfInBounds_toArray, List.set_cons_zero, List.set_cons_succ, i64_w, i32_w]
      rfl
    refine pure_ (i := 11) (N := some 42) (v := ?_) (a' := ?_) #[true, true, true, true, true, true, true, true, true, true, true, true, false, false, false, false] rfl rfl (by kernel_rfl) (fun _ _ _ h => h) (Or.inl ⟨by rfl, ?_⟩) ?_ ?_
    rotate_left
    · intro w'
      go_simp
      with_reducible rfl
    rotate_left
    · simp only [Act.put, List.setIfInBounds_toArray, List.set_cons_zero, List.set_cons_succ, i64_w, i32_w]
      rfl
    refine pure_ (i := 12) (N := some 43) (v := ?_) (a' := ?_) #[true, true, true, true, true, true, true, true, true, true, true, true, true, false, false, false] rfl rfl (by kernel_rfl) (fun _ _ _ h => h) (Or.inl ⟨by rfl, ?_⟩) ?_ ?_
    rotate_left
    · intro w'
      go_simp
      with_reducible rfl
    rotate_left
    · simp only [Act.put, List.setIfInBounds_toArray, List.set_cons_zero, List.set_cons_succ, i64_w, i32_w]
      rfl
    refine take_ (i := 13) (N := some 44) (v := ?_) (a' := ?_) #[true, true, true, true, true, true, true, true, true, true, true, true, true, true, false, false] rfl rfl (by kernel_rfl) (fun _ _ _ h => h) (Or.inl ⟨by rfl, ?_⟩) hHeld ?_ ?_
    rotate_left
    · rintro w' ⟨s0, s1⟩
      go_simp
      with_reducible rfl
    rotate_left
    · simp only [Act.put, List.setIfInBounds_toArray, List.set_cons_zero, List.set_cons_succ, i64_w, i32_w]
      rfl
    refine one_ (i := 14) (N := some 13) #[true, true, true, true, true, true, true, true, true, true, true, true, true, true, true, false] rfl rfl (by kernel_rfl) (by decide) (fun K hK => ?_)
    refine value_ (w1 := ?_) (v := ?_) (by rfl) rfl ?_ ?_
    rotate_left 2
    · go_simp
      constructor <;> with_reducible rfl
    refine hK.out _ _ (sOf _ (hw0.trans ((below_one W.drew (.cells #[.pointer none] 28)).mono hw0.size))) (fun hHeld => ?_)
    clear hK K
    refine norm_ (a' := ?_) ?_ ?_
    rotate_left
    · show Act.put _ (some 13) _ = _
      simp only [Act.put, List.setIfInBounds_toArray, List.set_cons_zero, List.set_cons_succ, i64_w, i32_w]
      rfl
    have hk0 := hw0.trans ((below_one W.drew (.cells #[.pointer none] 28)).mono hw0.size)
    have mb := MBox.new (n₀ := W.heap.size) (W := W.drew) (p := none) (t := .nil) hw0.size rfl
    have e0 := mb.cell
    have f0 := mb.fr
    refine one_ (i := 15) (N := none) #[true, true, true, true, true, true, true, true, true, true, true, true, true, true, true, true] rfl rfl (by kernel_rfl) (by decide) (fun K hK => ?_)
    refine skip_ (w1 := ?_) (by rfl) rfl ?_ ?_
    rotate_left
    · go_simp
      with_reducible rfl
    refine hK.out _ _ (sOf _ (Below.drew (below_one W _))) (fun hHeld => ?_)
    clear hK K
    refine done_ (by kernel_rfl) ?_
    have hbW : Below W.heap.size W ((W.alloc (.cells #[.pointer p] 28)).drew) := Below.drew (below_one W _)
    have mb := (MBox.new (n₀ := W.heap.size) (W := W) (Nat.le_refl _) ht).below (Below.drew (Below.refl _ _))
    have hbx := hx.trans (hbW.mono hx.size)
    generalize (W.alloc (.cells #[.pointer p] 28)).drew = x2 at mb hbx ⊢
    generalize W.heap.size = b0' at mb ⊢
    clear sOf hw0 hbW e0 f0 hk0 hi t1' w1 nn a1 a2 ht hx
    go_upto_region 7 with fail
    obtain ⟨mA, hA⟩ : ∃ mA, (if ky < fr then ky else fr) = mA := ⟨_, rfl⟩
    obtain ⟨mB, hB⟩ : ∃ mB, (if fr < ky then ky else fr) = mB := ⟨_, rfl⟩
    rw [hA, hB]
    obtain ⟨lo, hlo⟩ : ∃ lo, (if tt < mA then tt else mA) = lo := ⟨_, rfl⟩
    obtain ⟨hi, hhi⟩ : ∃ hi, (if mB < tt then tt else mB) = hi := ⟨_, rfl⟩
    obtain ⟨mC, hC⟩ : ∃ mC, (if tt < mB then tt else mB) = mC := ⟨_, rfl⟩
    rw [hlo, hhi, hC]
    obtain ⟨mid, hmid⟩ : ∃ mid, (if mA < mC then mC else mA) = mid := ⟨_, rfl⟩
    rw [hmid]
    have o0 : mA ≤ mB := by rw [← hA, ← hB]; repeat' split
                            all_goals omega
    have o1 : lo ≤ mid := by rw [← hlo, ← hmid, ← hC]; repeat' split
                             all_goals omega
    have o2 : mid ≤ hi := by rw [← hhi, ← hmid, ← hC]; repeat' split
                             all_goals omega
    clear hA hB hlo hhi hC hmid o0
    have sOf : ∀ y, Below x2.heap.size x2 y → y.cell? ⟨b0', 0, none⟩ = some (.pointer p) ∧ True := fun y h => ⟨(mb.below h).cell, trivial⟩
    refine start_ (n := 18) (S := fun w' => w'.cell? ⟨b0', 0, none⟩ = some (.pointer p) ∧ True) (ds := []) #[false, false, false, false, false, false, false, false, false, false, false, false, false, false, false, false, false, false] (by kernel_rfl) rfl rfl (sOf _ (Below.drew (Below.refl _ _))) (fun hHeld => ?_)
    refine take_ (i := 0) (N := some 62) (v := ?_) (a' := ?_) #[true, false, false, false, false, false, false, false, false, false, false, false, false, false, false, false, false, false] rfl rfl (by kernel_rfl) (fun _ _ _ h => h) (Or.inl ⟨by rfl, ?_⟩) hHeld ?_ ?_
    rotate_left
    · rintro w' ⟨s0, s1⟩
      go_simp
      with_reducible rfl
    rotate_left
    · simp only [Act.put, List.setIfInBounds_toArray, List.set_cons_zero, List.set_cons_succ, i64_w, i32_w]
      rfl
    refine pure_ (i := 1) (N := some 63) (v := ?_) (a' := ?_) #[true, true, false, false, false, false, false, false, false, false, false, false, false, false, false, false, false, false] rfl rfl (by kernel_rfl) (fun _ _ _ h => h) (Or.inl ⟨by rfl, ?_⟩) ?_ ?_
    rotate_left
    · intro w'
      go_simp
      with_reducible rfl
    rotate_left
    · simp only [Act.put, List.setIfInBounds_toArray, List.set_cons_zero, List.set_cons_succ, i64_w, i32_w]
      rfl
    refine pure_ (i := 2) (N := some 64) (v := ?_) (a' := ?_) #[true, true, true, false, false, false, false, false, false, false, false, false, false, false, false, false, false, false] rfl rfl (by kernel_rfl) (fun _ _ _ h => h) (Or.inl ⟨by rfl, ?_⟩) ?_ ?_
    rotate_left
    · intro w'
      go_simp
      with_reducible rfl
    rotate_left
    · simp only [Act.put, List.setIfInBounds_toArray, List.set_cons_zero, List.set_cons_succ, i64_w, i32_w]
      rfl
    refine take_ (i := 4) (N := some 66) (v := ?_) (a' := ?_) #[true, true, true, false, true, false, false, false, false, false, false, false, false, false, false, false, false, false] rfl rfl (by kernel_rfl) (fun _ _ _ h => h) (Or.inl ⟨by rfl, ?_⟩) hHeld ?_ ?_
    rotate_left
    · rintro w' ⟨s0, s1⟩
      go_simp
      with_reducible rfl
    rotate_left
    · simp only [Act.put, List.setIfInBounds_toArray, List.set_cons_zero, List.set_cons_succ, i64_w, i32_w]
      rfl
    refine pure_ (i := 5) (N := some 67) (v := ?_) (a' := ?_) #[true, true, true, false, true, true, false, false, false, false, false, false, false, false, false, false, false, false] rfl rfl (by kernel_rfl) (fun _ _ _ h => h) (Or.inl ⟨by rfl, ?_⟩) ?_ ?_
    rotate_left
    · intro w'
      go_simp
      with_reducible rfl
    rotate_left
    · simp only [Act.put, List.setIfInBounds_toArray, List.set_cons_zero, List.set_cons_succ, i64_w, i32_w]
      rfl
    refine pure_ (i := 6) (N := some 68) (v := ?_) (a' := ?_) #[true, true, true, false, true, true, true, false, false, false, false, false, false, false, false, false, false, false] rfl rfl (by kernel_rfl) (fun _ _ _ h => h) (Or.inl ⟨by rfl, ?_⟩) ?_ ?_
    rotate_left
    · intro w'
      go_simp
      with_reducible rfl
    rotate_left
    · simp only [Act.put, List.setIfInBounds_toArray, List.set_cons_zero, List.set_cons_succ, i64_w, i32_w]
      rfl
    refine take_ (i := 8) (N := some 70) (v := ?_) (a' := ?_) #[true, true, true, false, true, true, true, false, true, false, false, false, false, false, false, false, false, false] rfl rfl (by kernel_rfl) (fun _ _ _ h => h) (Or.inl ⟨by rfl, ?_⟩) hHeld ?_ ?_
    rotate_left
    · rintro w' ⟨s0, s1⟩
      go_simp
      with_reducible rfl
    rotate_left
    · simp only [Act.put, List.setIfInBounds_toArray, List.set_cons_zero, List.set_cons_succ, i64_w, i32_w]
      rfl
    refine pure_ (i := 9) (N := some 71) (v := ?_) (a' := ?_) #[true, true, true, false, true, true, true, false, true, true, false, false, false, false, false, false, false, false] rfl rfl (by kernel_rfl) (fun _ _ _ h => h) (Or.inl ⟨by rfl, ?_⟩) ?_ ?_
    rotate_left
    · intro w'
      go_simp
      with_reducible rfl
    rotate_left
    · simp only [Act.put, List.setIfInBounds_toArray, List.set_cons_zero, List.set_cons_succ, i64_w, i32_w]
      rfl
    refine pure_ (i := 10) (N := some 72) (v := ?_) (a' := ?_) #[true, true, true, false, true, true, true, false, true, true, true, false, false, false, false, false, false, false] rfl rfl (by kernel_rfl) (fun _ _ _ h => h) (Or.inl ⟨by rfl, ?_⟩) ?_ ?_
    rotate_left
    · intro w'
      go_simp
      with_reducible rfl
    rotate_left
    · simp only [Act.put, List.setIfInBounds_toArray, List.set_cons_zero, List.set_cons_succ, i64_w, i32_w]
      rfl
    refine join_ (σ := (Option Addr × Option Addr × Option Addr) × Nat × Nat × Nat) 3 #[true, true, true, true, true, true, true, true, true, true, true, true, true, true, true, false, false, false] (fun s => [(65, .agg #[.pointer s.1.1]), (69, .agg #[.pointer s.1.2.1]), (73, .agg #[.pointer s.1.2.2]), (17, .pointer (some ⟨s.2.1, 0, none⟩)), (18, .pointer (some ⟨s.2.2.1, 0, none⟩)), (19, .pointer (some ⟨s.2.2.2, 0, none⟩))]) (fun s y => Below x2.heap.size x2 y ∧ Tr y.heap.size y s.1.1 (T.range lo hi t) ∧ Tr y.heap.size y s.1.2.1 (T.range lo mid t) ∧ Tr y.heap.size y s.1.2.2 (T.range mid hi t) ∧ MBox x2.heap.size y s.2.1 none .nil ∧ MBox x2.heap.size y s.2.2.1 none .nil ∧ MBox x2.heap.size y s.2.2.2 none .nil ∧ s.2.1 ≠ s.2.2.1 ∧ s.2.1 ≠ s.2.2.2 ∧ s.2.2.1 ≠ s.2.2.2 ∧ True) ?_ (fun J3012 => ?_)
    rotate_left
    refine join_ (σ := (Option Addr × Option Addr × Option Addr) × Nat × Nat × Nat) 4 #[true, true, true, true, true, true, true, true, true, true, true, false, true, true, true, false, false, false] (fun s => [(65, .agg #[.pointer s.1.1]), (69, .agg #[.pointer s.1.2.1]), (17, .pointer (some ⟨s.2.1, 0, none⟩)), (18, .pointer (some ⟨s.2.2.1, 0, none⟩)), (19, .pointer (some ⟨s.2.2.2, 0, none⟩))]) (fun s y => Below x2.heap.size x2 y ∧ Tr y.heap.size y s.1.1 (T.range lo hi t) ∧ Tr y.heap.size y s.1.2.1 (T.range lo mid t) ∧ MBox x2.heap.size y s.2.1 none .nil ∧ MBox x2.heap.size y s.2.2.1 none .nil ∧ MBox x2.heap.size y s.2.2.2 none .nil ∧ s.2.1 ≠ s.2.2.1 ∧ s.2.1 ≠ s.2.2.2 ∧ s.2.2.1 ≠ s.2.2.2 ∧ True) ?_ (fun J2012 => ?_)
    · rintro ⟨⟨q0, q1, q2⟩, b0, b1, b2⟩ y ⟨hy, t0, t1, m0, m1, m2, n01, n02, n12, -⟩
      refine norm_ (a' := ?_) ?_ ?_
      rotate_left
      · simp only [putAll, Act.put, List.setIfInBounds_toArray, List.set_cons_zero, List.set_cons_succ, i64_w, i32_w]
        rfl
      refine one_ (i := 11) (N := some 73) #[true, true, true, true, true, true, true, true, true, true, true, true, true, true, true, false, false, false] rfl rfl (by kernel_rfl) (by decide) (fun K hK => ?_)
      · refine goes_ Try.func36 (by kernel_rfl) rfl #[.agg #[.pointer p], .int .i64 mid, .int .i64 hi] (by rfl) rfl rfl (by (try simp only [List.map_toArray, List.map_cons, List.map_nil]); first | done | rfl) ?_
        refine (Range_any t mid hi p _ (mb.below hy).tree (by omega)).mono ?_
        rintro e z ⟨p', rfl, hp', hz⟩
        have hyz := hy.trans (hz.mono hy.size)
        refine ⟨_, rfl, ?_⟩
        refine hK.out _ _ (sOf _ hyz) (fun hHeld => ?_)
        refine norm_ (a' := putAll _ _) ?_ (J3012 ((q0, q1, p'), (b0, b1, b2)) _ ⟨hyz, t0.later hz, t1.later hz, hp', m0.below hz, m1.below hz, m2.below hz, n01, n02, n12, trivial⟩)
        simp only [putAll, Act.put, List.setIfInBounds_toArray, List.set_cons_zero, List.set_cons_succ, i64_w, i32_w]
    refine join_ (σ := (Option Addr × Option Addr × Option Addr) × Nat × Nat × Nat) 4 #[true, true, true, true, true, true, true, true, true, true, true, true, true, true, false, false, false, false] (fun s => [(65, .agg #[.pointer s.1.1]), (69, .agg #[.pointer s.1.2.1]), (73, .agg #[.pointer s.1.2.2]), (17, .pointer (some ⟨s.2.1, 0, none⟩)), (18, .pointer (some ⟨s.2.2.1, 0, none⟩))]) (fun s y => Below x2.heap.size x2 y ∧ Tr y.heap.size y s.1.1 (T.range lo hi t) ∧ Tr y.heap.size y s.1.2.1 (T.range lo mid t) ∧ Tr y.heap.size y s.1.2.2 (T.range mid hi t) ∧ MBox x2.heap.size y s.2.1 none .nil ∧ MBox x2.heap.size y s.2.2.1 none .nil ∧ s.2.1 ≠ s.2.2.1 ∧ True) ?_ (fun J301 => ?_)
    · rintro ⟨⟨q0, q1, q2⟩, b0, b1, b2⟩ y ⟨hy, t0, t1, t2, m0, m1, n01, -⟩
      refine norm_ (a' := ?_) ?_ ?_
      rotate_left
      · simp only [putAll, Act.put, List.setIfInBounds_toArray, List.set_cons_zero, List.set_cons_succ, i64_w, i32_w]
        rfl
      refine one_ (i := 14) (N := some 19) #[true, true, true, true, true, true, true, true, true, true, true, true, true, true, true, false, false, false] rfl rfl (by kernel_rfl) (by decide) (fun K hK => ?_)
      · have hz := below_one y (.cells #[.pointer none] 28)
        have hyz := hy.trans (hz.mono hy.size)
        refine value_ (w1 := ?_) (v := ?_) (by rfl) rfl ?_ ?_
        rotate_left 2
        · go_simp
          constructor <;> with_reducible rfl
        refine hK.out _ _ (sOf _ hyz) (fun hHeld => ?_)
        refine norm_ (a' := putAll _ _) ?_ (J3012 ((q0, q1, q2), (b0, b1, y.heap.size)) _ ⟨hyz, t0.later hz, t1.later hz, t2.later hz, m0.below hz, m1.below hz, MBox.new (p := none) (t := .nil) hy.size rfl, n01, (Nat.ne_of_lt m0.lt), (Nat.ne_of_lt m1.lt), trivial⟩)
        simp only [putAll, Act.put, List.setIfInBounds_toArray, List.set_cons_zero, List.set_cons_succ, i64_w, i32_w]
    refine join_ (σ := (Option Addr × Option Addr × Option Addr) × Nat × Nat × Nat) 4 #[true, true, true, true, true, true, true, true, true, true, true, true, true, false, true, false, false, false] (fun s => [(65, .agg #[.pointer s.1.1]), (69, .agg #[.pointer s.1.2.1]), (73, .agg #[.pointer s.1.2.2]), (17, .pointer (some ⟨s.2.1, 0, none⟩)), (19, .pointer (some ⟨s.2.2.2, 0, none⟩))]) (fun s y => Below x2.heap.size x2 y ∧ Tr y.heap.size y s.1.1 (T.range lo hi t) ∧ Tr y.heap.size y s.1.2.1 (T.range lo mid t) ∧ Tr y.heap.size y s.1.2.2 (T.range mid hi t) ∧ MBox x2.heap.size y s.2.1 none .nil ∧ MBox x2.heap.size y s.2.2.2 none .nil ∧ s.2.1 ≠ s.2.2.2 ∧ True) ?_ (fun J302 => ?_)
    · rintro ⟨⟨q0, q1, q2⟩, b0, b1, b2⟩ y ⟨hy, t0, t1, t2, m0, m2, n02, -⟩
      refine norm_ (a' := ?_) ?_ ?_
      rotate_left
      · simp only [putAll, Act.put, List.setIfInBounds_toArray, List.set_cons_zero, List.set_cons_succ, i64_w, i32_w]
        rfl
      refine one_ (i := 13) (N := some 18) #[true, true, true, true, true, true, true, true, true, true, true, true, true, true, true, false, false, false] rfl rfl (by kernel_rfl) (by decide) (fun K hK => ?_)
      · have hz := below_one y (.cells #[.pointer none] 28)
        have hyz := hy.trans (hz.mono hy.size)
        refine value_ (w1 := ?_) (v := ?_) (by rfl) rfl ?_ ?_
        rotate_left 2
        · go_simp
          constructor <;> with_reducible rfl
        refine hK.out _ _ (sOf _ hyz) (fun hHeld => ?_)
        refine norm_ (a' := putAll _ _) ?_ (J3012 ((q0, q1, q2), (b0, y.heap.size, b2)) _ ⟨hyz, t0.later hz, t1.later hz, t2.later hz, m0.below hz, MBox.new (p := none) (t := .nil) hy.size rfl, m2.below hz, (Nat.ne_of_lt m0.lt), n02, (Nat.ne_of_gt m2.lt), trivial⟩)
        simp only [putAll, Act.put, List.setIfInBounds_toArray, List.set_cons_zero, List.set_cons_succ, i64_w, i32_w]
    refine join_ (σ := (Option Addr × Option Addr × Option Addr) × Nat × Nat × Nat) 4 #[true, true, true, true, true, true, true, true, true, true, true, true, false, true, true, false, false, false] (fun s => [(65, .agg #[.pointer s.1.1]), (69, .agg #[.pointer s.1.2.1]), (73, .agg #[.pointer s.1.2.2]), (18, .pointer (some ⟨s.2.2.1, 0, none⟩)), (19, .pointer (some ⟨s.2.2.2, 0, none⟩))]) (fun s y => Below x2.heap.size x2 y ∧ Tr y.heap.size y s.1.1 (T.range lo hi t) ∧ Tr y.heap.size y s.1.2.1 (T.range lo mid t) ∧ Tr y.heap.size y s.1.2.2 (T.range mid hi t) ∧ MBox x2.heap.size y s.2.2.1 none .nil ∧ MBox x2.heap.size y s.2.2.2 none .nil ∧ s.2.2.1 ≠ s.2.2.2 ∧ True) ?_ (fun J312 => ?_)
    · rintro ⟨⟨q0, q1, q2⟩, b0, b1, b2⟩ y ⟨hy, t0, t1, t2, m1, m2, n12, -⟩
      refine norm_ (a' := ?_) ?_ ?_
      rotate_left
      · simp only [putAll, Act.put, List.setIfInBounds_toArray, List.set_cons_zero, List.set_cons_succ, i64_w, i32_w]
        rfl
      refine one_ (i := 12) (N := some 17) #[true, true, true, true, true, true, true, true, true, true, true, true, true, true, true, false, false, false] rfl rfl (by kernel_rfl) (by decide) (fun K hK => ?_)
      · have hz := below_one y (.cells #[.pointer none] 28)
        have hyz := hy.trans (hz.mono hy.size)
        refine value_ (w1 := ?_) (v := ?_) (by rfl) rfl ?_ ?_
        rotate_left 2
        · go_simp
          constructor <;> with_reducible rfl
        refine hK.out _ _ (sOf _ hyz) (fun hHeld => ?_)
        refine norm_ (a' := putAll _ _) ?_ (J3012 ((q0, q1, q2), (y.heap.size, b1, b2)) _ ⟨hyz, t0.later hz, t1.later hz, t2.later hz, MBox.new (p := none) (t := .nil) hy.size rfl, m1.below hz, m2.below hz, (Nat.ne_of_gt m1.lt), (Nat.ne_of_gt m2.lt), n12, trivial⟩)
        simp only [putAll, Act.put, List.setIfInBounds_toArray, List.set_cons_zero, List.set_cons_succ, i64_w, i32_w]
    refine join_ (σ := (Option Addr × Option Addr × Option Addr) × Nat × Nat × Nat) 5 #[true, true, true, true, true, true, true, false, true, true, true, false, true, true, true, false, false, false] (fun s => [(65, .agg #[.pointer s.1.1]), (17, .pointer (some ⟨s.2.1, 0, none⟩)), (18, .pointer (some ⟨s.2.2.1, 0, none⟩)), (19, .pointer (some ⟨s.2.2.2, 0, none⟩))]) (fun s y => Below x2.heap.size x2 y ∧ Tr y.heap.size y s.1.1 (T.range lo hi t) ∧ MBox x2.heap.size y s.2.1 none .nil ∧ MBox x2.heap.size y s.2.2.1 none .nil ∧ MBox x2.heap.size y s.2.2.2 none .nil ∧ s.2.1 ≠ s.2.2.1 ∧ s.2.1 ≠ s.2.2.2 ∧ s.2.2.1 ≠ s.2.2.2 ∧ True) ?_ (fun J1012 => ?_)
    · rintro ⟨⟨q0, q1, q2⟩, b0, b1, b2⟩ y ⟨hy, t0, m0, m1, m2, n01, n02, n12, -⟩
      refine norm_ (a' := ?_) ?_ ?_
      rotate_left
      · simp only [putAll, Act.put, List.setIfInBounds_toArray, List.set_cons_zero, List.set_cons_succ, i64_w, i32_w]
        rfl
      refine one_ (i := 7) (N := some 69) #[true, true, true, true, true, true, true, true, true, true, true, false, true, true, true, false, false, false] rfl rfl (by kernel_rfl) (by decide) (fun K hK => ?_)
      · refine goes_ Try.func36 (by kernel_rfl) rfl #[.agg #[.pointer p], .int .i64 lo, .int .i64 mid] (by rfl) rfl rfl (by (try simp only [List.map_toArray, List.map_cons, List.map_nil]); first | done | rfl) ?_
        refine (Range_any t lo mid p _ (mb.below hy).tree (by omega)).mono ?_
        rintro e z ⟨p', rfl, hp', hz⟩
        have hyz := hy.trans (hz.mono hy.size)
        refine ⟨_, rfl, ?_⟩
        refine hK.out _ _ (sOf _ hyz) (fun hHeld => ?_)
        refine norm_ (a' := putAll _ _) ?_ (J2012 ((q0, p', q2), (b0, b1, b2)) _ ⟨hyz, t0.later hz, hp', m0.below hz, m1.below hz, m2.below hz, n01, n02, n12, trivial⟩)
        simp only [putAll, Act.put, List.setIfInBounds_toArray, List.set_cons_zero, List.set_cons_succ, i64_w, i32_w]
    refine join_ (σ := (Option Addr × Option Addr × Option Addr) × Nat × Nat × Nat) 5 #[true, true, true, true, true, true, true, true, true, true, true, false, true, true, false, false, false, false] (fun s => [(65, .agg #[.pointer s.1.1]), (69, .agg #[.pointer s.1.2.1]), (17, .pointer (some ⟨s.2.1, 0, none⟩)), (18, .pointer (some ⟨s.2.2.1, 0, none⟩))]) (fun s y => Below x2.heap.size x2 y ∧ Tr y.heap.size y s.1.1 (T.range lo hi t) ∧ Tr y.heap.size y s.1.2.1 (T.range lo mid t) ∧ MBox x2.heap.size y s.2.1 none .nil ∧ MBox x2.heap.size y s.2.2.1 none .nil ∧ s.2.1 ≠ s.2.2.1 ∧ True) ?_ (fun J201 => ?_)
    · rintro ⟨⟨q0, q1, q2⟩, b0, b1, b2⟩ y ⟨hy, t0, t1, m0, m1, n01, -⟩
      refine norm_ (a' := ?_) ?_ ?_
      rotate_left
      · simp only [putAll, Act.put, List.setIfInBounds_toArray, List.set_cons_zero, List.set_cons_succ, i64_w, i32_w]
        rfl
      refine two_ (i := 11) (j := 14) (Ni := some 73) (Nj := some 19) #[true, true, true, true, true, true, true, true, true, true, true, true, true, true, false, false, false, false] #[true, true, true, true, true, true, true, true, true, true, true, false, true, true, true, false, false, false] rfl rfl rfl rfl (by kernel_rfl) (by decide) (by decide) (fun K hK => ?_) (fun K hK => ?_)
      · refine goes_ Try.func36 (by kernel_rfl) rfl #[.agg #[.pointer p], .int .i64 mid, .int .i64 hi] (by rfl) rfl rfl (by (try simp only [List.map_toArray, List.map_cons, List.map_nil]); first | done | rfl) ?_
        refine (Range_any t mid hi p _ (mb.below hy).tree (by omega)).mono ?_
        rintro e z ⟨p', rfl, hp', hz⟩
        have hyz := hy.trans (hz.mono hy.size)
        refine ⟨_, rfl, ?_⟩
        refine hK.out _ _ (sOf _ hyz) (fun hHeld => ?_)
        refine norm_ (a' := putAll _ _) ?_ (J301 ((q0, q1, p'), (b0, b1, b2)) _ ⟨hyz, t0.later hz, t1.later hz, hp', m0.below hz, m1.below hz, n01, trivial⟩)
        simp only [putAll, Act.put, List.setIfInBounds_toArray, List.set_cons_zero, List.set_cons_succ, i64_w, i32_w]
      · have hz := below_one y (.cells #[.pointer none] 28)
        have hyz := hy.trans (hz.mono hy.size)
        refine value_ (w1 := ?_) (v := ?_) (by rfl) rfl ?_ ?_
        rotate_left 2
        · go_simp
          constructor <;> with_reducible rfl
        refine hK.out _ _ (sOf _ hyz) (fun hHeld => ?_)
        refine norm_ (a' := putAll _ _) ?_ (J2012 ((q0, q1, q2), (b0, b1, y.heap.size)) _ ⟨hyz, t0.later hz, t1.later hz, m0.below hz, m1.below hz, MBox.new (p := none) (t := .nil) hy.size rfl, n01, (Nat.ne_of_lt m0.lt), (Nat.ne_of_lt m1.lt), trivial⟩)
        simp only [putAll, Act.put, List.setIfInBounds_toArray, List.set_cons_zero, List.set_cons_succ, i64_w, i32_w]
    refine join_ (σ := (Option Addr × Option Addr × Option Addr) × Nat × Nat × Nat) 5 #[true, true, true, true, true, true, true, true, true, true, true, false, true, false, true, false, false, false] (fun s => [(65, .agg #[.pointer s.1.1]), (69, .agg #[.pointer s.1.2.1]), (17, .pointer (some ⟨s.2.1, 0, none⟩)), (19, .pointer (some ⟨s.2.2.2, 0, none⟩))]) (fun s y => Below x2.heap.size x2 y ∧ Tr y.heap.size y s.1.1 (T.range lo hi t) ∧ Tr y.heap.size y s.1.2.1 (T.range lo mid t) ∧ MBox x2.heap.size y s.2.1 none .nil ∧ MBox x2.heap.size y s.2.2.2 none .nil ∧ s.2.1 ≠ s.2.2.2 ∧ True) ?_ (fun J202 => ?_)
    · rintro ⟨⟨q0, q1, q2⟩, b0, b1, b2⟩ y ⟨hy, t0, t1, m0, m2, n02, -⟩
      refine norm_ (a' := ?_) ?_ ?_
      rotate_left
      · simp only [putAll, Act.put, List.setIfInBounds_toArray, List.set_cons_zero, List.set_cons_succ, i64_w, i32_w]
        rfl
      refine two_ (i := 11) (j := 13) (Ni := some 73) (Nj := some 18) #[true, true, true, true, true, true, true, true, true, true, true, true, true, false, true, false, false, false] #[true, true, true, true, true, true, true, true, true, true, true, false, true, true, true, false, false, false] rfl rfl rfl rfl (by kernel_rfl) (by decide) (by decide) (fun K hK => ?_) (fun K hK => ?_)
      · refine goes_ Try.func36 (by kernel_rfl) rfl #[.agg #[.pointer p], .int .i64 mid, .int .i64 hi] (by rfl) rfl rfl (by (try simp only [List.map_toArray, List.map_cons, List.map_nil]); first | done | rfl) ?_
        refine (Range_any t mid hi p _ (mb.below hy).tree (by omega)).mono ?_
        rintro e z ⟨p', rfl, hp', hz⟩
        have hyz := hy.trans (hz.mono hy.size)
        refine ⟨_, rfl, ?_⟩
        refine hK.out _ _ (sOf _ hyz) (fun hHeld => ?_)
        refine norm_ (a' := putAll _ _) ?_ (J302 ((q0, q1, p'), (b0, b1, b2)) _ ⟨hyz, t0.later hz, t1.later hz, hp', m0.below hz, m2.below hz, n02, trivial⟩)
        simp only [putAll, Act.put, List.setIfInBounds_toArray, List.set_cons_zero, List.set_cons_succ, i64_w, i32_w]
      · have hz := below_one y (.cells #[.pointer none] 28)
        have hyz := hy.trans (hz.mono hy.size)
        refine value_ (w1 := ?_) (v := ?_) (by rfl) rfl ?_ ?_
        rotate_left 2
        · go_simp
          constructor <;> with_reducible rfl
        refine hK.out _ _ (sOf _ hyz) (fun hHeld => ?_)
        refine norm_ (a' := putAll _ _) ?_ (J2012 ((q0, q1, q2), (b0, y.heap.size, b2)) _ ⟨hyz, t0.later hz, t1.later hz, m0.below hz, MBox.new (p := none) (t := .nil) hy.size rfl, m2.below hz, (Nat.ne_of_lt m0.lt), n02, (Nat.ne_of_gt m2.lt), trivial⟩)
        simp only [putAll, Act.put, List.setIfInBounds_toArray, List.set_cons_zero, List.set_cons_succ, i64_w, i32_w]
    refine join_ (σ := (Option Addr × Option Addr × Option Addr) × Nat × Nat × Nat) 5 #[true, true, true, true, true, true, true, true, true, true, true, false, false, true, true, false, false, false] (fun s => [(65, .agg #[.pointer s.1.1]), (69, .agg #[.pointer s.1.2.1]), (18, .pointer (some ⟨s.2.2.1, 0, none⟩)), (19, .pointer (some ⟨s.2.2.2, 0, none⟩))]) (fun s y => Below x2.heap.size x2 y ∧ Tr y.heap.size y s.1.1 (T.range lo hi t) ∧ Tr y.heap.size y s.1.2.1 (T.range lo mid t) ∧ MBox x2.heap.size y s.2.2.1 none .nil ∧ MBox x2.heap.size y s.2.2.2 none .nil ∧ s.2.2.1 ≠ s.2.2.2 ∧ True) ?_ (fun J212 => ?_)
    · rintro ⟨⟨q0, q1, q2⟩, b0, b1, b2⟩ y ⟨hy, t0, t1, m1, m2, n12, -⟩
      refine norm_ (a' := ?_) ?_ ?_
      rotate_left
      · simp only [putAll, Act.put, List.setIfInBounds_toArray, List.set_cons_zero, List.set_cons_succ, i64_w, i32_w]
        rfl
      refine two_ (i := 11) (j := 12) (Ni := some 73) (Nj := some 17) #[true, true, true, true, true, true, true, true, true, true, true, true, false, true, true, false, false, false] #[true, true, true, true, true, true, true, true, true, true, true, false, true, true, true, false, false, false] rfl rfl rfl rfl (by kernel_rfl) (by decide) (by decide) (fun K hK => ?_) (fun K hK => ?_)
      · refine goes_ Try.func36 (by kernel_rfl) rfl #[.agg #[.pointer p], .int .i64 mid, .int .i64 hi] (by rfl) rfl rfl (by (try simp only [List.map_toArray, List.map_cons, List.map_nil]); first | done | rfl) ?_
        refine (Range_any t mid hi p _ (mb.below hy).tree (by omega)).mono ?_
        rintro e z ⟨p', rfl, hp', hz⟩
        have hyz := hy.trans (hz.mono hy.size)
        refine ⟨_, rfl, ?_⟩
        refine hK.out _ _ (sOf _ hyz) (fun hHeld => ?_)
        refine norm_ (a' := putAll _ _) ?_ (J312 ((q0, q1, p'), (b0, b1, b2)) _ ⟨hyz, t0.later hz, t1.later hz, hp', m1.below hz, m2.below hz, n12, trivial⟩)
        simp only [putAll, Act.put, List.setIfInBounds_toArray, List.set_cons_zero, List.set_cons_succ, i64_w, i32_w]
      · have hz := below_one y (.cells #[.pointer none] 28)
        have hyz := hy.trans (hz.mono hy.size)
        refine value_ (w1 := ?_) (v := ?_) (by rfl) rfl ?_ ?_
        rotate_left 2
        · go_simp
          constructor <;> with_reducible rfl
        refine hK.out _ _ (sOf _ hyz) (fun hHeld => ?_)
        refine norm_ (a' := putAll _ _) ?_ (J2012 ((q0, q1, q2), (y.heap.size, b1, b2)) _ ⟨hyz, t0.later hz, t1.later hz, MBox.new (p := none) (t := .nil) hy.size rfl, m1.below hz, m2.below hz, (Nat.ne_of_gt m1.lt), (Nat.ne_of_gt m2.lt), n12, trivial⟩)
        simp only [putAll, Act.put, List.setIfInBounds_toArray, List.set_cons_zero, List.set_cons_succ, i64_w, i32_w]
    refine join_ (σ := (Option Addr × Option Addr × Option Addr) × Nat × Nat × Nat) 5 #[true, true, true, true, true, true, true, true, true, true, true, true, true, false, false, false, false, false] (fun s => [(65, .agg #[.pointer s.1.1]), (69, .agg #[.pointer s.1.2.1]), (73, .agg #[.pointer s.1.2.2]), (17, .pointer (some ⟨s.2.1, 0, none⟩))]) (fun s y => Below x2.heap.size x2 y ∧ Tr y.heap.size y s.1.1 (T.range lo hi t) ∧ Tr y.heap.size y s.1.2.1 (T.range lo mid t) ∧ Tr y.heap.size y s.1.2.2 (T.range mid hi t) ∧ MBox x2.heap.size y s.2.1 none .nil ∧ True) ?_ (fun J30 => ?_)
    · rintro ⟨⟨q0, q1, q2⟩, b0, b1, b2⟩ y ⟨hy, t0, t1, t2, m0, -⟩
      refine norm_ (a' := ?_) ?_ ?_
      rotate_left
      · simp only [putAll, Act.put, List.setIfInBounds_toArray, List.set_cons_zero, List.set_cons_succ, i64_w, i32_w]
        rfl
      refine two_ (i := 13) (j := 14) (Ni := some 18) (Nj := some 19) #[true, true, true, true, true, true, true, true, true, true, true, true, true, true, false, false, false, false] #[true, true, true, true, true, true, true, true, true, true, true, true, true, false, true, false, false, false] rfl rfl rfl rfl (by kernel_rfl) (by decide) (by decide) (fun K hK => ?_) (fun K hK => ?_)
      · have hz := below_one y (.cells #[.pointer none] 28)
        have hyz := hy.trans (hz.mono hy.size)
        refine value_ (w1 := ?_) (v := ?_) (by rfl) rfl ?_ ?_
        rotate_left 2
        · go_simp
          constructor <;> with_reducible rfl
        refine hK.out _ _ (sOf _ hyz) (fun hHeld => ?_)
        refine norm_ (a' := putAll _ _) ?_ (J301 ((q0, q1, q2), (b0, y.heap.size, b2)) _ ⟨hyz, t0.later hz, t1.later hz, t2.later hz, m0.below hz, MBox.new (p := none) (t := .nil) hy.size rfl, (Nat.ne_of_lt m0.lt), trivial⟩)
        simp only [putAll, Act.put, List.setIfInBounds_toArray, List.set_cons_zero, List.set_cons_succ, i64_w, i32_w]
      · have hz := below_one y (.cells #[.pointer none] 28)
        have hyz := hy.trans (hz.mono hy.size)
        refine value_ (w1 := ?_) (v := ?_) (by rfl) rfl ?_ ?_
        rotate_left 2
        · go_simp
          constructor <;> with_reducible rfl
        refine hK.out _ _ (sOf _ hyz) (fun hHeld => ?_)
        refine norm_ (a' := putAll _ _) ?_ (J302 ((q0, q1, q2), (b0, b1, y.heap.size)) _ ⟨hyz, t0.later hz, t1.later hz, t2.later hz, m0.below hz, MBox.new (p := none) (t := .nil) hy.size rfl, (Nat.ne_of_lt m0.lt), trivial⟩)
        simp only [putAll, Act.put, List.setIfInBounds_toArray, List.set_cons_zero, List.set_cons_succ, i64_w, i32_w]
    refine join_ (σ := (Option Addr × Option Addr × Option Addr) × Nat × Nat × Nat) 5 #[true, true, true, true, true, true, true, true, true, true, true, true, false, true, false, false, false, false] (fun s => [(65, .agg #[.pointer s.1.1]), (69, .agg #[.pointer s.1.2.1]), (73, .agg #[.pointer s.1.2.2]), (18, .pointer (some ⟨s.2.2.1, 0, none⟩))]) (fun s y => Below x2.heap.size x2 y ∧ Tr y.heap.size y s.1.1 (T.range lo hi t) ∧ Tr y.heap.size y s.1.2.1 (T.range lo mid t) ∧ Tr y.heap.size y s.1.2.2 (T.range mid hi t) ∧ MBox x2.heap.size y s.2.2.1 none .nil ∧ True) ?_ (fun J31 => ?_)
    · rintro ⟨⟨q0, q1, q2⟩, b0, b1, b2⟩ y ⟨hy, t0, t1, t2, m1, -⟩
      refine norm_ (a' := ?_) ?_ ?_
      rotate_left
      · simp only [putAll, Act.put, List.setIfInBounds_toArray, List.set_cons_zero, List.set_cons_succ, i64_w, i32_w]
        rfl
      refine two_ (i := 12) (j := 14) (Ni := some 17) (Nj := some 19) #[true, true, true, true, true, true, true, true, true, true, true, true, true, true, false, false, false, false] #[true, true, true, true, true, true, true, true, true, true, true, true, false, true, true, false, false, false] rfl rfl rfl rfl (by kernel_rfl) (by decide) (by decide) (fun K hK => ?_) (fun K hK => ?_)
      · have hz := below_one y (.cells #[.pointer none] 28)
        have hyz := hy.trans (hz.mono hy.size)
        refine value_ (w1 := ?_) (v := ?_) (by rfl) rfl ?_ ?_
        rotate_left 2
        · go_simp
          constructor <;> with_reducible rfl
        refine hK.out _ _ (sOf _ hyz) (fun hHeld => ?_)
        refine norm_ (a' := putAll _ _) ?_ (J301 ((q0, q1, q2), (y.heap.size, b1, b2)) _ ⟨hyz, t0.later hz, t1.later hz, t2.later hz, MBox.new (p := none) (t := .nil) hy.size rfl, m1.below hz, (Nat.ne_of_gt m1.lt), trivial⟩)
        simp only [putAll, Act.put, List.setIfInBounds_toArray, List.set_cons_zero, List.set_cons_succ, i64_w, i32_w]
      · have hz := below_one y (.cells #[.pointer none] 28)
        have hyz := hy.trans (hz.mono hy.size)
        refine value_ (w1 := ?_) (v := ?_) (by rfl) rfl ?_ ?_
        rotate_left 2
        · go_simp
          constructor <;> with_reducible rfl
        refine hK.out _ _ (sOf _ hyz) (fun hHeld => ?_)
        refine norm_ (a' := putAll _ _) ?_ (J312 ((q0, q1, q2), (b0, b1, y.heap.size)) _ ⟨hyz, t0.later hz, t1.later hz, t2.later hz, m1.below hz, MBox.new (p := none) (t := .nil) hy.size rfl, (Nat.ne_of_lt m1.lt), trivial⟩)
        simp only [putAll, Act.put, List.setIfInBounds_toArray, List.set_cons_zero, List.set_cons_succ, i64_w, i32_w]
    refine join_ (σ := (Option Addr × Option Addr × Option Addr) × Nat × Nat × Nat) 5 #[true, true, true, true, true, true, true, true, true, true, true, true, false, false, true, false, false, false] (fun s => [(65, .agg #[.pointer s.1.1]), (69, .agg #[.pointer s.1.2.1]), (73, .agg #[.pointer s.1.2.2]), (19, .pointer (some ⟨s.2.2.2, 0, none⟩))]) (fun s y => Below x2.heap.size x2 y ∧ Tr y.heap.size y s.1.1 (T.range lo hi t) ∧ Tr y.heap.size y s.1.2.1 (T.range lo mid t) ∧ Tr y.heap.size y s.1.2.2 (T.range mid hi t) ∧ MBox x2.heap.size y s.2.2.2 none .nil ∧ True) ?_ (fun J32 => ?_)
    · rintro ⟨⟨q0, q1, q2⟩, b0, b1, b2⟩ y ⟨hy, t0, t1, t2, m2, -⟩
      refine norm_ (a' := ?_) ?_ ?_
      rotate_left
      · simp only [putAll, Act.put, List.setIfInBounds_toArray, List.set_cons_zero, List.set_cons_succ, i64_w, i32_w]
        rfl
      refine two_ (i := 12) (j := 13) (Ni := some 17) (Nj := some 18) #[true, true, true, true, true, true, true, true, true, true, true, true, true, false, true, false, false, false] #[true, true, true, true, true, true, true, true, true, true, true, true, false, true, true, false, false, false] rfl rfl rfl rfl (by kernel_rfl) (by decide) (by decide) (fun K hK => ?_) (fun K hK => ?_)
      · have hz := below_one y (.cells #[.pointer none] 28)
        have hyz := hy.trans (hz.mono hy.size)
        refine value_ (w1 := ?_) (v := ?_) (by rfl) rfl ?_ ?_
        rotate_left 2
        · go_simp
          constructor <;> with_reducible rfl
        refine hK.out _ _ (sOf _ hyz) (fun hHeld => ?_)
        refine norm_ (a' := putAll _ _) ?_ (J302 ((q0, q1, q2), (y.heap.size, b1, b2)) _ ⟨hyz, t0.later hz, t1.later hz, t2.later hz, MBox.new (p := none) (t := .nil) hy.size rfl, m2.below hz, (Nat.ne_of_gt m2.lt), trivial⟩)
        simp only [putAll, Act.put, List.setIfInBounds_toArray, List.set_cons_zero, List.set_cons_succ, i64_w, i32_w]
      · have hz := below_one y (.cells #[.pointer none] 28)
        have hyz := hy.trans (hz.mono hy.size)
        refine value_ (w1 := ?_) (v := ?_) (by rfl) rfl ?_ ?_
        rotate_left 2
        · go_simp
          constructor <;> with_reducible rfl
        refine hK.out _ _ (sOf _ hyz) (fun hHeld => ?_)
        refine norm_ (a' := putAll _ _) ?_ (J312 ((q0, q1, q2), (b0, y.heap.size, b2)) _ ⟨hyz, t0.later hz, t1.later hz, t2.later hz, MBox.new (p := none) (t := .nil) hy.size rfl, m2.below hz, (Nat.ne_of_gt m2.lt), trivial⟩)
        simp only [putAll, Act.put, List.setIfInBounds_toArray, List.set_cons_zero, List.set_cons_succ, i64_w, i32_w]
    refine join_ (σ := (Option Addr × Option Addr × Option Addr) × Nat × Nat × Nat) 6 #[true, true, true, false, true, true, true, false, true, true, true, false, true, true, true, false, false, false] (fun s => [(17, .pointer (some ⟨s.2.1, 0, none⟩)), (18, .pointer (some ⟨s.2.2.1, 0, none⟩)), (19, .pointer (some ⟨s.2.2.2, 0, none⟩))]) (fun s y => Below x2.heap.size x2 y ∧ MBox x2.heap.size y s.2.1 none .nil ∧ MBox x2.heap.size y s.2.2.1 none .nil ∧ MBox x2.heap.size y s.2.2.2 none .nil ∧ s.2.1 ≠ s.2.2.1 ∧ s.2.1 ≠ s.2.2.2 ∧ s.2.2.1 ≠ s.2.2.2 ∧ True) ?_ (fun J0012 => ?_)
    · rintro ⟨⟨q0, q1, q2⟩, b0, b1, b2⟩ y ⟨hy, m0, m1, m2, n01, n02, n12, -⟩
      refine norm_ (a' := ?_) ?_ ?_
      rotate_left
      · simp only [putAll, Act.put, List.setIfInBounds_toArray, List.set_cons_zero, List.set_cons_succ, i64_w, i32_w]
        rfl
      refine one_ (i := 3) (N := some 65) #[true, true, true, true, true, true, true, false, true, true, true, false, true, true, true, false, false, false] rfl rfl (by kernel_rfl) (by decide) (fun K hK => ?_)
      · refine goes_ Try.func36 (by kernel_rfl) rfl #[.agg #[.pointer p], .int .i64 lo, .int .i64 hi] (by rfl) rfl rfl (by (try simp only [List.map_toArray, List.map_cons, List.map_nil]); first | done | rfl) ?_
        refine (Range_any t lo hi p _ (mb.below hy).tree (by omega)).mono ?_
        rintro e z ⟨p', rfl, hp', hz⟩
        have hyz := hy.trans (hz.mono hy.size)
        refine ⟨_, rfl, ?_⟩
        refine hK.out _ _ (sOf _ hyz) (fun hHeld => ?_)
        refine norm_ (a' := putAll _ _) ?_ (J1012 ((p', q1, q2), (b0, b1, b2)) _ ⟨hyz, hp', m0.below hz, m1.below hz, m2.below hz, n01, n02, n12, trivial⟩)
        simp only [putAll, Act.put, List.setIfInBounds_toArray, List.set_cons_zero, List.set_cons_succ, i64_w, i32_w]
    refine join_ (σ := (Option Addr × Option Addr × Option Addr) × Nat × Nat × Nat) 6 #[true, true, true, true, true, true, true, false, true, true, true, false, true, true, false, false, false, false] (fun s => [(65, .agg #[.pointer s.1.1]), (17, .pointer (some ⟨s.2.1, 0, none⟩)), (18, .pointer (some ⟨s.2.2.1, 0, none⟩))]) (fun s y => Below x2.heap.size x2 y ∧ Tr y.heap.size y s.1.1 (T.range lo hi t) ∧ MBox x2.heap.size y s.2.1 none .nil ∧ MBox x2.heap.size y s.2.2.1 none .nil ∧ s.2.1 ≠ s.2.2.1 ∧ True) ?_ (fun J101 => ?_)
    · rintro ⟨⟨q0, q1, q2⟩, b0, b1, b2⟩ y ⟨hy, t0, m0, m1, n01, -⟩
      refine norm_ (a' := ?_) ?_ ?_
      rotate_left
      · simp only [putAll, Act.put, List.setIfInBounds_toArray, List.set_cons_zero, List.set_cons_succ, i64_w, i32_w]
        rfl
      refine two_ (i := 7) (j := 14) (Ni := some 69) (Nj := some 19) #[true, true, true, true, true, true, true, true, true, true, true, false, true, true, false, false, false, false] #[true, true, true, true, true, true, true, false, true, true, true, false, true, true, true, false, false, false] rfl rfl rfl rfl (by kernel_rfl) (by decide) (by decide) (fun K hK => ?_) (fun K hK => ?_)
      · refine goes_ Try.func36 (by kernel_rfl) rfl #[.agg #[.pointer p], .int .i64 lo, .int .i64 mid] (by rfl) rfl rfl (by (try simp only [List.map_toArray, List.map_cons, List.map_nil]); first | done | rfl) ?_
        refine (Range_any t lo mid p _ (mb.below hy).tree (by omega)).mono ?_
        rintro e z ⟨p', rfl, hp', hz⟩
        have hyz := hy.trans (hz.mono hy.size)
        refine ⟨_, rfl, ?_⟩
        refine hK.out _ _ (sOf _ hyz) (fun hHeld => ?_)
        refine norm_ (a' := putAll _ _) ?_ (J201 ((q0, p', q2), (b0, b1, b2)) _ ⟨hyz, t0.later hz, hp', m0.below hz, m1.below hz, n01, trivial⟩)
        simp only [putAll, Act.put, List.setIfInBounds_toArray, List.set_cons_zero, List.set_cons_succ, i64_w, i32_w]
      · have hz := below_one y (.cells #[.pointer none] 28)
        have hyz := hy.trans (hz.mono hy.size)
        refine value_ (w1 := ?_) (v := ?_) (by rfl) rfl ?_ ?_
        rotate_left 2
        · go_simp
          constructor <;> with_reducible rfl
        refine hK.out _ _ (sOf _ hyz) (fun hHeld => ?_)
        refine norm_ (a' := putAll _ _) ?_ (J1012 ((q0, q1, q2), (b0, b1, y.heap.size)) _ ⟨hyz, t0.later hz, m0.below hz, m1.below hz, MBox.new (p := none) (t := .nil) hy.size rfl, n01, (Nat.ne_of_lt m0.lt), (Nat.ne_of_lt m1.lt), trivial⟩)
        simp only [putAll, Act.put, List.setIfInBounds_toArray, List.set_cons_zero, List.set_cons_succ, i64_w, i32_w]
    refine join_ (σ := (Option Addr × Option Addr × Option Addr) × Nat × Nat × Nat) 6 #[true, true, true, true, true, true, true, false, true, true, true, false, true, false, true, false, false, false] (fun s => [(65, .agg #[.pointer s.1.1]), (17, .pointer (some ⟨s.2.1, 0, none⟩)), (19, .pointer (some ⟨s.2.2.2, 0, none⟩))]) (fun s y => Below x2.heap.size x2 y ∧ Tr y.heap.size y s.1.1 (T.range lo hi t) ∧ MBox x2.heap.size y s.2.1 none .nil ∧ MBox x2.heap.size y s.2.2.2 none .nil ∧ s.2.1 ≠ s.2.2.2 ∧ True) ?_ (fun J102 => ?_)
    · rintro ⟨⟨q0, q1, q2⟩, b0, b1, b2⟩ y ⟨hy, t0, m0, m2, n02, -⟩
      refine norm_ (a' := ?_) ?_ ?_
      rotate_left
      · simp only [putAll, Act.put, List.setIfInBounds_toArray, List.set_cons_zero, List.set_cons_succ, i64_w, i32_w]
        rfl
      refine two_ (i := 7) (j := 13) (Ni := some 69) (Nj := some 18) #[true, true, true, true, true, true, true, true, true, true, true, false, true, false, true, false, false, false] #[true, true, true, true, true, true, true, false, true, true, true, false, true, true, true, false, false, false] rfl rfl rfl rfl (by kernel_rfl) (by decide) (by decide) (fun K hK => ?_) (fun K hK => ?_)
      · refine goes_ Try.func36 (by kernel_rfl) rfl #[.agg #[.pointer p], .int .i64 lo, .int .i64 mid] (by rfl) rfl rfl (by (try simp only [List.map_toArray, List.map_cons, List.map_nil]); first | done | rfl) ?_
        refine (Range_any t lo mid p _ (mb.below hy).tree (by omega)).mono ?_
        rintro e z ⟨p', rfl, hp', hz⟩
        have hyz := hy.trans (hz.mono hy.size)
        refine ⟨_, rfl, ?_⟩
        refine hK.out _ _ (sOf _ hyz) (fun hHeld => ?_)
        refine norm_ (a' := putAll _ _) ?_ (J202 ((q0, p', q2), (b0, b1, b2)) _ ⟨hyz, t0.later hz, hp', m0.below hz, m2.below hz, n02, trivial⟩)
        simp only [putAll, Act.put, List.setIfInBounds_toArray, List.set_cons_zero, List.set_cons_succ, i64_w, i32_w]
      · have hz := below_one y (.cells #[.pointer none] 28)
        have hyz := hy.trans (hz.mono hy.size)
        refine value_ (w1 := ?_) (v := ?_) (by rfl) rfl ?_ ?_
        rotate_left 2
        · go_simp
          constructor <;> with_reducible rfl
        refine hK.out _ _ (sOf _ hyz) (fun hHeld => ?_)
        refine norm_ (a' := putAll _ _) ?_ (J1012 ((q0, q1, q2), (b0, y.heap.size, b2)) _ ⟨hyz, t0.later hz, m0.below hz, MBox.new (p := none) (t := .nil) hy.size rfl, m2.below hz, (Nat.ne_of_lt m0.lt), n02, (Nat.ne_of_gt m2.lt), trivial⟩)
        simp only [putAll, Act.put, List.setIfInBounds_toArray, List.set_cons_zero, List.set_cons_succ, i64_w, i32_w]
    refine join_ (σ := (Option Addr × Option Addr × Option Addr) × Nat × Nat × Nat) 6 #[true, true, true, true, true, true, true, false, true, true, true, false, false, true, true, false, false, false] (fun s => [(65, .agg #[.pointer s.1.1]), (18, .pointer (some ⟨s.2.2.1, 0, none⟩)), (19, .pointer (some ⟨s.2.2.2, 0, none⟩))]) (fun s y => Below x2.heap.size x2 y ∧ Tr y.heap.size y s.1.1 (T.range lo hi t) ∧ MBox x2.heap.size y s.2.2.1 none .nil ∧ MBox x2.heap.size y s.2.2.2 none .nil ∧ s.2.2.1 ≠ s.2.2.2 ∧ True) ?_ (fun J112 => ?_)
    · rintro ⟨⟨q0, q1, q2⟩, b0, b1, b2⟩ y ⟨hy, t0, m1, m2, n12, -⟩
      refine norm_ (a' := ?_) ?_ ?_
      rotate_left
      · simp only [putAll, Act.put, List.setIfInBounds_toArray, List.set_cons_zero, List.set_cons_succ, i64_w, i32_w]
        rfl
      refine two_ (i := 7) (j := 12) (Ni := some 69) (Nj := some 17) #[true, true, true, true, true, true, true, true, true, true, true, false, false, true, true, false, false, false] #[true, true, true, true, true, true, true, false, true, true, true, false, true, true, true, false, false, false] rfl rfl rfl rfl (by kernel_rfl) (by decide) (by decide) (fun K hK => ?_) (fun K hK => ?_)
      · refine goes_ Try.func36 (by kernel_rfl) rfl #[.agg #[.pointer p], .int .i64 lo, .int .i64 mid] (by rfl) rfl rfl (by (try simp only [List.map_toArray, List.map_cons, List.map_nil]); first | done | rfl) ?_
        refine (Range_any t lo mid p _ (mb.below hy).tree (by omega)).mono ?_
        rintro e z ⟨p', rfl, hp', hz⟩
        have hyz := hy.trans (hz.mono hy.size)
        refine ⟨_, rfl, ?_⟩
        refine hK.out _ _ (sOf _ hyz) (fun hHeld => ?_)
        refine norm_ (a' := putAll _ _) ?_ (J212 ((q0, p', q2), (b0, b1, b2)) _ ⟨hyz, t0.later hz, hp', m1.below hz, m2.below hz, n12, trivial⟩)
        simp only [putAll, Act.put, List.setIfInBounds_toArray, List.set_cons_zero, List.set_cons_succ, i64_w, i32_w]
      · have hz := below_one y (.cells #[.pointer none] 28)
        have hyz := hy.trans (hz.mono hy.size)
        refine value_ (w1 := ?_) (v := ?_) (by rfl) rfl ?_ ?_
        rotate_left 2
        · go_simp
          constructor <;> with_reducible rfl
        refine hK.out _ _ (sOf _ hyz) (fun hHeld => ?_)
        refine norm_ (a' := putAll _ _) ?_ (J1012 ((q0, q1, q2), (y.heap.size, b1, b2)) _ ⟨hyz, t0.later hz, MBox.new (p := none) (t := .nil) hy.size rfl, m1.below hz, m2.below hz, (Nat.ne_of_gt m1.lt), (Nat.ne_of_gt m2.lt), n12, trivial⟩)
        simp only [putAll, Act.put, List.setIfInBounds_toArray, List.set_cons_zero, List.set_cons_succ, i64_w, i32_w]
    refine join_ (σ := (Option Addr × Option Addr × Option Addr) × Nat × Nat × Nat) 6 #[true, true, true, true, true, true, true, true, true, true, true, false, true, false, false, false, false, false] (fun s => [(65, .agg #[.pointer s.1.1]), (69, .agg #[.pointer s.1.2.1]), (17, .pointer (some ⟨s.2.1, 0, none⟩))]) (fun s y => Below x2.heap.size x2 y ∧ Tr y.heap.size y s.1.1 (T.range lo hi t) ∧ Tr y.heap.size y s.1.2.1 (T.range lo mid t) ∧ MBox x2.heap.size y s.2.1 none .nil ∧ True) ?_ (fun J20 => ?_)
    · rintro ⟨⟨q0, q1, q2⟩, b0, b1, b2⟩ y ⟨hy, t0, t1, m0, -⟩
      refine norm_ (a' := ?_) ?_ ?_
      rotate_left
      · simp only [putAll, Act.put, List.setIfInBounds_toArray, List.set_cons_zero, List.set_cons_succ, i64_w, i32_w]
        rfl
      refine three_ (i := 11) (j := 13) (k := 14) (Ni := some 73) (Nj := some 18) (Nk := some 19) #[true, true, true, true, true, true, true, true, true, true, true, true, true, false, false, false, false, false] #[true, true, true, true, true, true, true, true, true, true, true, false, true, true, false, false, false, false] #[true, true, true, true, true, true, true, true, true, true, true, false, true, false, true, false, false, false] rfl rfl rfl rfl rfl rfl (by kernel_rfl) (by decide) (by decide) (by decide) (fun K hK => ?_) (fun K hK => ?_) (fun K hK => ?_)
      · refine goes_ Try.func36 (by kernel_rfl) rfl #[.agg #[.pointer p], .int .i64 mid, .int .i64 hi] (by rfl) rfl rfl (by (try simp only [List.map_toArray, List.map_cons, List.map_nil]); first | done | rfl) ?_
        refine (Range_any t mid hi p _ (mb.below hy).tree (by omega)).mono ?_
        rintro e z ⟨p', rfl, hp', hz⟩
        have hyz := hy.trans (hz.mono hy.size)
        refine ⟨_, rfl, ?_⟩
        refine hK.out _ _ (sOf _ hyz) (fun hHeld => ?_)
        refine norm_ (a' := putAll _ _) ?_ (J30 ((q0, q1, p'), (b0, b1, b2)) _ ⟨hyz, t0.later hz, t1.later hz, hp', m0.below hz, trivial⟩)
        simp only [putAll, Act.put, List.setIfInBounds_toArray, List.set_cons_zero, List.set_cons_succ, i64_w, i32_w]
      · have hz := below_one y (.cells #[.pointer none] 28)
        have hyz := hy.trans (hz.mono hy.size)
        refine value_ (w1 := ?_) (v := ?_) (by rfl) rfl ?_ ?_
        rotate_left 2
        · go_simp
          constructor <;> with_reducible rfl
        refine hK.out _ _ (sOf _ hyz) (fun hHeld => ?_)
        refine norm_ (a' := putAll _ _) ?_ (J201 ((q0, q1, q2), (b0, y.heap.size, b2)) _ ⟨hyz, t0.later hz, t1.later hz, m0.below hz, MBox.new (p := none) (t := .nil) hy.size rfl, (Nat.ne_of_lt m0.lt), trivial⟩)
        simp only [putAll, Act.put, List.setIfInBounds_toArray, List.set_cons_zero, List.set_cons_succ, i64_w, i32_w]
      · have hz := below_one y (.cells #[.pointer none] 28)
        have hyz := hy.trans (hz.mono hy.size)
        refine value_ (w1 := ?_) (v := ?_) (by rfl) rfl ?_ ?_
        rotate_left 2
        · go_simp
          constructor <;> with_reducible rfl
        refine hK.out _ _ (sOf _ hyz) (fun hHeld => ?_)
        refine norm_ (a' := putAll _ _) ?_ (J202 ((q0, q1, q2), (b0, b1, y.heap.size)) _ ⟨hyz, t0.later hz, t1.later hz, m0.below hz, MBox.new (p := none) (t := .nil) hy.size rfl, (Nat.ne_of_lt m0.lt), trivial⟩)
        simp only [putAll, Act.put, List.setIfInBounds_toArray, List.set_cons_zero, List.set_cons_succ, i64_w, i32_w]
    refine join_ (σ := (Option Addr × Option Addr × Option Addr) × Nat × Nat × Nat) 6 #[true, true, true, true, true, true, true, true, true, true, true, false, false, true, false, false, false, false] (fun s => [(65, .agg #[.pointer s.1.1]), (69, .agg #[.pointer s.1.2.1]), (18, .pointer (some ⟨s.2.2.1, 0, none⟩))]) (fun s y => Below x2.heap.size x2 y ∧ Tr y.heap.size y s.1.1 (T.range lo hi t) ∧ Tr y.heap.size y s.1.2.1 (T.range lo mid t) ∧ MBox x2.heap.size y s.2.2.1 none .nil ∧ True) ?_ (fun J21 => ?_)
    · rintro ⟨⟨q0, q1, q2⟩, b0, b1, b2⟩ y ⟨hy, t0, t1, m1, -⟩
      refine norm_ (a' := ?_) ?_ ?_
      rotate_left
      · simp only [putAll, Act.put, List.setIfInBounds_toArray, List.set_cons_zero, List.set_cons_succ, i64_w, i32_w]
        rfl
      refine three_ (i := 11) (j := 12) (k := 14) (Ni := some 73) (Nj := some 17) (Nk := some 19) #[true, true, true, true, true, true, true, true, true, true, true, true, false, true, false, false, false, false] #[true, true, true, true, true, true, true, true, true, true, true, false, true, true, false, false, false, false] #[true, true, true, true, true, true, true, true, true, true, true, false, false, true, true, false, false, false] rfl rfl rfl rfl rfl rfl (by kernel_rfl) (by decide) (by decide) (by decide) (fun K hK => ?_) (fun K hK => ?_) (fun K hK => ?_)
      · refine goes_ Try.func36 (by kernel_rfl) rfl #[.agg #[.pointer p], .int .i64 mid, .int .i64 hi] (by rfl) rfl rfl (by (try simp only [List.map_toArray, List.map_cons, List.map_nil]); first | done | rfl) ?_
        refine (Range_any t mid hi p _ (mb.below hy).tree (by omega)).mono ?_
        rintro e z ⟨p', rfl, hp', hz⟩
        have hyz := hy.trans (hz.mono hy.size)
        refine ⟨_, rfl, ?_⟩
        refine hK.out _ _ (sOf _ hyz) (fun hHeld => ?_)
        refine norm_ (a' := putAll _ _) ?_ (J31 ((q0, q1, p'), (b0, b1, b2)) _ ⟨hyz, t0.later hz, t1.later hz, hp', m1.below hz, trivial⟩)
        simp only [putAll, Act.put, List.setIfInBounds_toArray, List.set_cons_zero, List.set_cons_succ, i64_w, i32_w]
      · have hz := below_one y (.cells #[.pointer none] 28)
        have hyz := hy.trans (hz.mono hy.size)
        refine value_ (w1 := ?_) (v := ?_) (by rfl) rfl ?_ ?_
        rotate_left 2
        · go_simp
          constructor <;> with_reducible rfl
        refine hK.out _ _ (sOf _ hyz) (fun hHeld => ?_)
        refine norm_ (a' := putAll _ _) ?_ (J201 ((q0, q1, q2), (y.heap.size, b1, b2)) _ ⟨hyz, t0.later hz, t1.later hz, MBox.new (p := none) (t := .nil) hy.size rfl, m1.below hz, (Nat.ne_of_gt m1.lt), trivial⟩)
        simp only [putAll, Act.put, List.setIfInBounds_toArray, List.set_cons_zero, List.set_cons_succ, i64_w, i32_w]
      · have hz := below_one y (.cells #[.pointer none] 28)
        have hyz := hy.trans (hz.mono hy.size)
        refine value_ (w1 := ?_) (v := ?_) (by rfl) rfl ?_ ?_
        rotate_left 2
        · go_simp
          constructor <;> with_reducible rfl
        refine hK.out _ _ (sOf _ hyz) (fun hHeld => ?_)
        refine norm_ (a' := putAll _ _) ?_ (J212 ((q0, q1, q2), (b0, b1, y.heap.size)) _ ⟨hyz, t0.later hz, t1.later hz, m1.below hz, MBox.new (p := none) (t := .nil) hy.size rfl, (Nat.ne_of_lt m1.lt), trivial⟩)
        simp only [putAll, Act.put, List.setIfInBounds_toArray, List.set_cons_zero, List.set_cons_succ, i64_w, i32_w]
    refine join_ (σ := (Option Addr × Option Addr × Option Addr) × Nat × Nat × Nat) 6 #[true, true, true, true, true, true, true, true, true, true, true, false, false, false, true, false, false, false] (fun s => [(65, .agg #[.pointer s.1.1]), (69, .agg #[.pointer s.1.2.1]), (19, .pointer (some ⟨s.2.2.2, 0, none⟩))]) (fun s y => Below x2.heap.size x2 y ∧ Tr y.heap.size y s.1.1 (T.range lo hi t) ∧ Tr y.heap.size y s.1.2.1 (T.range lo mid t) ∧ MBox x2.heap.size y s.2.2.2 none .nil ∧ True) ?_ (fun J22 => ?_)
    · rintro ⟨⟨q0, q1, q2⟩, b0, b1, b2⟩ y ⟨hy, t0, t1, m2, -⟩
      refine norm_ (a' := ?_) ?_ ?_
      rotate_left
      · simp only [putAll, Act.put, List.setIfInBounds_toArray, List.set_cons_zero, List.set_cons_succ, i64_w, i32_w]
        rfl
      refine three_ (i := 11) (j := 12) (k := 13) (Ni := some 73) (Nj := some 17) (Nk := some 18) #[true, true, true, true, true, true, true, true, true, true, true, true, false, false, true, false, false, false] #[true, true, true, true, true, true, true, true, true, true, true, false, true, false, true, false, false, false] #[true, true, true, true, true, true, true, true, true, true, true, false, false, true, true, false, false, false] rfl rfl rfl rfl rfl rfl (by kernel_rfl) (by decide) (by decide) (by decide) (fun K hK => ?_) (fun K hK => ?_) (fun K hK => ?_)
      · refine goes_ Try.func36 (by kernel_rfl) rfl #[.agg #[.pointer p], .int .i64 mid, .int .i64 hi] (by rfl) rfl rfl (by (try simp only [List.map_toArray, List.map_cons, List.map_nil]); first | done | rfl) ?_
        refine (Range_any t mid hi p _ (mb.below hy).tree (by omega)).mono ?_
        rintro e z ⟨p', rfl, hp', hz⟩
        have hyz := hy.trans (hz.mono hy.size)
        refine ⟨_, rfl, ?_⟩
        refine hK.out _ _ (sOf _ hyz) (fun hHeld => ?_)
        refine norm_ (a' := putAll _ _) ?_ (J32 ((q0, q1, p'), (b0, b1, b2)) _ ⟨hyz, t0.later hz, t1.later hz, hp', m2.below hz, trivial⟩)
        simp only [putAll, Act.put, List.setIfInBounds_toArray, List.set_cons_zero, List.set_cons_succ, i64_w, i32_w]
      · have hz := below_one y (.cells #[.pointer none] 28)
        have hyz := hy.trans (hz.mono hy.size)
        refine value_ (w1 := ?_) (v := ?_) (by rfl) rfl ?_ ?_
        rotate_left 2
        · go_simp
          constructor <;> with_reducible rfl
        refine hK.out _ _ (sOf _ hyz) (fun hHeld => ?_)
        refine norm_ (a' := putAll _ _) ?_ (J202 ((q0, q1, q2), (y.heap.size, b1, b2)) _ ⟨hyz, t0.later hz, t1.later hz, MBox.new (p := none) (t := .nil) hy.size rfl, m2.below hz, (Nat.ne_of_gt m2.lt), trivial⟩)
        simp only [putAll, Act.put, List.setIfInBounds_toArray, List.set_cons_zero, List.set_cons_succ, i64_w, i32_w]
      · have hz := below_one y (.cells #[.pointer none] 28)
        have hyz := hy.trans (hz.mono hy.size)
        refine value_ (w1 := ?_) (v := ?_) (by rfl) rfl ?_ ?_
        rotate_left 2
        · go_simp
          constructor <;> with_reducible rfl
        refine hK.out _ _ (sOf _ hyz) (fun hHeld => ?_)
        refine norm_ (a' := putAll _ _) ?_ (J212 ((q0, q1, q2), (b0, y.heap.size, b2)) _ ⟨hyz, t0.later hz, t1.later hz, MBox.new (p := none) (t := .nil) hy.size rfl, m2.below hz, (Nat.ne_of_gt m2.lt), trivial⟩)
        simp only [putAll, Act.put, List.setIfInBounds_toArray, List.set_cons_zero, List.set_cons_succ, i64_w, i32_w]
    refine join_ (σ := (Option Addr × Option Addr × Option Addr) × Nat × Nat × Nat) 6 #[true, true, true, true, true, true, true, true, true, true, true, true, false, false, false, false, false, false] (fun s => [(65, .agg #[.pointer s.1.1]), (69, .agg #[.pointer s.1.2.1]), (73, .agg #[.pointer s.1.2.2])]) (fun s y => Below x2.heap.size x2 y ∧ Tr y.heap.size y s.1.1 (T.range lo hi t) ∧ Tr y.heap.size y s.1.2.1 (T.range lo mid t) ∧ Tr y.heap.size y s.1.2.2 (T.range mid hi t) ∧ True) ?_ (fun J3 => ?_)
    · rintro ⟨⟨q0, q1, q2⟩, b0, b1, b2⟩ y ⟨hy, t0, t1, t2, -⟩
      refine norm_ (a' := ?_) ?_ ?_
      rotate_left
      · simp only [putAll, Act.put, List.setIfInBounds_toArray, List.set_cons_zero, List.set_cons_succ, i64_w, i32_w]
        rfl
      refine three_ (i := 12) (j := 13) (k := 14) (Ni := some 17) (Nj := some 18) (Nk := some 19) #[true, true, true, true, true, true, true, true, true, true, true, true, true, false, false, false, false, false] #[true, true, true, true, true, true, true, true, true, true, true, true, false, true, false, false, false, false] #[true, true, true, true, true, true, true, true, true, true, true, true, false, false, true, false, false, false] rfl rfl rfl rfl rfl rfl (by kernel_rfl) (by decide) (by decide) (by decide) (fun K hK => ?_) (fun K hK => ?_) (fun K hK => ?_)
      · have hz := below_one y (.cells #[.pointer none] 28)
        have hyz := hy.trans (hz.mono hy.size)
        refine value_ (w1 := ?_) (v := ?_) (by rfl) rfl ?_ ?_
        rotate_left 2
        · go_simp
          constructor <;> with_reducible rfl
        refine hK.out _ _ (sOf _ hyz) (fun hHeld => ?_)
        refine norm_ (a' := putAll _ _) ?_ (J30 ((q0, q1, q2), (y.heap.size, b1, b2)) _ ⟨hyz, t0.later hz, t1.later hz, t2.later hz, MBox.new (p := none) (t := .nil) hy.size rfl, trivial⟩)
        simp only [putAll, Act.put, List.setIfInBounds_toArray, List.set_cons_zero, List.set_cons_succ, i64_w, i32_w]
      · have hz := below_one y (.cells #[.pointer none] 28)
        have hyz := hy.trans (hz.mono hy.size)
        refine value_ (w1 := ?_) (v := ?_) (by rfl) rfl ?_ ?_
        rotate_left 2
        · go_simp
          constructor <;> with_reducible rfl
        refine hK.out _ _ (sOf _ hyz) (fun hHeld => ?_)
        refine norm_ (a' := putAll _ _) ?_ (J31 ((q0, q1, q2), (b0, y.heap.size, b2)) _ ⟨hyz, t0.later hz, t1.later hz, t2.later hz, MBox.new (p := none) (t := .nil) hy.size rfl, trivial⟩)
        simp only [putAll, Act.put, List.setIfInBounds_toArray, List.set_cons_zero, List.set_cons_succ, i64_w, i32_w]
      · have hz := below_one y (.cells #[.pointer none] 28)
        have hyz := hy.trans (hz.mono hy.size)
        refine value_ (w1 := ?_) (v := ?_) (by rfl) rfl ?_ ?_
        rotate_left 2
        · go_simp
          constructor <;> with_reducible rfl
        refine hK.out _ _ (sOf _ hyz) (fun hHeld => ?_)
        refine norm_ (a' := putAll _ _) ?_ (J32 ((q0, q1, q2), (b0, b1, y.heap.size)) _ ⟨hyz, t0.later hz, t1.later hz, t2.later hz, MBox.new (p := none) (t := .nil) hy.size rfl, trivial⟩)
        simp only [putAll, Act.put, List.setIfInBounds_toArray, List.set_cons_zero, List.set_cons_succ, i64_w, i32_w]
    refine join_ (σ := (Option Addr × Option Addr × Option Addr) × Nat × Nat × Nat) 7 #[true, true, true, false, true, true, true, false, true, true, true, false, true, true, false, false, false, false] (fun s => [(17, .pointer (some ⟨s.2.1, 0, none⟩)), (18, .pointer (some ⟨s.2.2.1, 0, none⟩))]) (fun s y => Below x2.heap.size x2 y ∧ MBox x2.heap.size y s.2.1 none .nil ∧ MBox x2.heap.size y s.2.2.1 none .nil ∧ s.2.1 ≠ s.2.2.1 ∧ True) ?_ (fun J001 => ?_)
    · rintro ⟨⟨q0, q1, q2⟩, b0, b1, b2⟩ y ⟨hy, m0, m1, n01, -⟩
      refine norm_ (a' := ?_) ?_ ?_
      rotate_left
      · simp only [putAll, Act.put, List.setIfInBounds_toArray, List.set_cons_zero, List.set_cons_succ, i64_w, i32_w]
        rfl
      refine two_ (i := 3) (j := 14) (Ni := some 65) (Nj := some 19) #[true, true, true, true, true, true, true, false, true, true, true, false, true, true, false, false, false, false] #[true, true, true, false, true, true, true, false, true, true, true, false, true, true, true, false, false, false] rfl rfl rfl rfl (by kernel_rfl) (by decide) (by decide) (fun K hK => ?_) (fun K hK => ?_)
      · refine goes_ Try.func36 (by kernel_rfl) rfl #[.agg #[.pointer p], .int .i64 lo, .int .i64 hi] (by rfl) rfl rfl (by (try simp only [List.map_toArray, List.map_cons, List.map_nil]); first | done | rfl) ?_
        refine (Range_any t lo hi p _ (mb.below hy).tree (by omega)).mono ?_
        rintro e z ⟨p', rfl, hp', hz⟩
        have hyz := hy.trans (hz.mono hy.size)
        refine ⟨_, rfl, ?_⟩
        refine hK.out _ _ (sOf _ hyz) (fun hHeld => ?_)
        refine norm_ (a' := putAll _ _) ?_ (J101 ((p', q1, q2), (b0, b1, b2)) _ ⟨hyz, hp', m0.below hz, m1.below hz, n01, trivial⟩)
        simp only [putAll, Act.put, List.setIfInBounds_toArray, List.set_cons_zero, List.set_cons_succ, i64_w, i32_w]
      · have hz := below_one y (.cells #[.pointer none] 28)
        have hyz := hy.trans (hz.mono hy.size)
        refine value_ (w1 := ?_) (v := ?_) (by rfl) rfl ?_ ?_
        rotate_left 2
        · go_simp
          constructor <;> with_reducible rfl
        refine hK.out _ _ (sOf _ hyz) (fun hHeld => ?_)
        refine norm_ (a' := putAll _ _) ?_ (J0012 ((q0, q1, q2), (b0, b1, y.heap.size)) _ ⟨hyz, m0.below hz, m1.below hz, MBox.new (p := none) (t := .nil) hy.size rfl, n01, (Nat.ne_of_lt m0.lt), (Nat.ne_of_lt m1.lt), trivial⟩)
        simp only [putAll, Act.put, List.setIfInBounds_toArray, List.set_cons_zero, List.set_cons_succ, i64_w, i32_w]
    refine join_ (σ := (Option Addr × Option Addr × Option Addr) × Nat × Nat × Nat) 7 #[true, true, true, false, true, true, true, false, true, true, true, false, true, false, true, false, false, false] (fun s => [(17, .pointer (some ⟨s.2.1, 0, none⟩)), (19, .pointer (some ⟨s.2.2.2, 0, none⟩))]) (fun s y => Below x2.heap.size x2 y ∧ MBox x2.heap.size y s.2.1 none .nil ∧ MBox x2.heap.size y s.2.2.2 none .nil ∧ s.2.1 ≠ s.2.2.2 ∧ True) ?_ (fun J002 => ?_)
    · rintro ⟨⟨q0, q1, q2⟩, b0, b1, b2⟩ y ⟨hy, m0, m2, n02, -⟩
      refine norm_ (a' := ?_) ?_ ?_
      rotate_left
      · simp only [putAll, Act.put, List.setIfInBounds_toArray, List.set_cons_zero, List.set_cons_succ, i64_w, i32_w]
        rfl
      refine two_ (i := 3) (j := 13) (Ni := some 65) (Nj := some 18) #[true, true, true, true, true, true, true, false, true, true, true, false, true, false, true, false, false, false] #[true, true, true, false, true, true, true, false, true, true, true, false, true, true, true, false, false, false] rfl rfl rfl rfl (by kernel_rfl) (by decide) (by decide) (fun K hK => ?_) (fun K hK => ?_)
      · refine goes_ Try.func36 (by kernel_rfl) rfl #[.agg #[.pointer p], .int .i64 lo, .int .i64 hi] (by rfl) rfl rfl (by (try simp only [List.map_toArray, List.map_cons, List.map_nil]); first | done | rfl) ?_
        refine (Range_any t lo hi p _ (mb.below hy).tree (by omega)).mono ?_
        rintro e z ⟨p', rfl, hp', hz⟩
        have hyz := hy.trans (hz.mono hy.size)
        refine ⟨_, rfl, ?_⟩
        refine hK.out _ _ (sOf _ hyz) (fun hHeld => ?_)
        refine norm_ (a' := putAll _ _) ?_ (J102 ((p', q1, q2), (b0, b1, b2)) _ ⟨hyz, hp', m0.below hz, m2.below hz, n02, trivial⟩)
        simp only [putAll, Act.put, List.setIfInBounds_toArray, List.set_cons_zero, List.set_cons_succ, i64_w, i32_w]
      · have hz := below_one y (.cells #[.pointer none] 28)
        have hyz := hy.trans (hz.mono hy.size)
        refine value_ (w1 := ?_) (v := ?_) (by rfl) rfl ?_ ?_
        rotate_left 2
        · go_simp
          constructor <;> with_reducible rfl
        refine hK.out _ _ (sOf _ hyz) (fun hHeld => ?_)
        refine norm_ (a' := putAll _ _) ?_ (J0012 ((q0, q1, q2), (b0, y.heap.size, b2)) _ ⟨hyz, m0.below hz, MBox.new (p := none) (t := .nil) hy.size rfl, m2.below hz, (Nat.ne_of_lt m0.lt), n02, (Nat.ne_of_gt m2.lt), trivial⟩)
        simp only [putAll, Act.put, List.setIfInBounds_toArray, List.set_cons_zero, List.set_cons_succ, i64_w, i32_w]
    refine join_ (σ := (Option Addr × Option Addr × Option Addr) × Nat × Nat × Nat) 7 #[true, true, true, false, true, true, true, false, true, true, true, false, false, true, true, false, false, false] (fun s => [(18, .pointer (some ⟨s.2.2.1, 0, none⟩)), (19, .pointer (some ⟨s.2.2.2, 0, none⟩))]) (fun s y => Below x2.heap.size x2 y ∧ MBox x2.heap.size y s.2.2.1 none .nil ∧ MBox x2.heap.size y s.2.2.2 none .nil ∧ s.2.2.1 ≠ s.2.2.2 ∧ True) ?_ (fun J012 => ?_)
    · rintro ⟨⟨q0, q1, q2⟩, b0, b1, b2⟩ y ⟨hy, m1, m2, n12, -⟩
      refine norm_ (a' := ?_) ?_ ?_
      rotate_left
      · simp only [putAll, Act.put, List.setIfInBounds_toArray, List.set_cons_zero, List.set_cons_succ, i64_w, i32_w]
        rfl
      refine two_ (i := 3) (j := 12) (Ni := some 65) (Nj := some 17) #[true, true, true, true, true, true, true, false, true, true, true, false, false, true, true, false, false, false] #[true, true, true, false, true, true, true, false, true, true, true, false, true, true, true, false, false, false] rfl rfl rfl rfl (by kernel_rfl) (by decide) (by decide) (fun K hK => ?_) (fun K hK => ?_)
      · refine goes_ Try.func36 (by kernel_rfl) rfl #[.agg #[.pointer p], .int .i64 lo, .int .i64 hi] (by rfl) rfl rfl (by (try simp only [List.map_toArray, List.map_cons, List.map_nil]); first | done | rfl) ?_
        refine (Range_any t lo hi p _ (mb.below hy).tree (by omega)).mono ?_
        rintro e z ⟨p', rfl, hp', hz⟩
        have hyz := hy.trans (hz.mono hy.size)
        refine ⟨_, rfl, ?_⟩
        refine hK.out _ _ (sOf _ hyz) (fun hHeld => ?_)
        refine norm_ (a' := putAll _ _) ?_ (J112 ((p', q1, q2), (b0, b1, b2)) _ ⟨hyz, hp', m1.below hz, m2.below hz, n12, trivial⟩)
        simp only [putAll, Act.put, List.setIfInBounds_toArray, List.set_cons_zero, List.set_cons_succ, i64_w, i32_w]
      · have hz := below_one y (.cells #[.pointer none] 28)
        have hyz := hy.trans (hz.mono hy.size)
        refine value_ (w1 := ?_) (v := ?_) (by rfl) rfl ?_ ?_
        rotate_left 2
        · go_simp
          constructor <;> with_reducible rfl
        refine hK.out _ _ (sOf _ hyz) (fun hHeld => ?_)
        refine norm_ (a' := putAll _ _) ?_ (J0012 ((q0, q1, q2), (y.heap.size, b1, b2)) _ ⟨hyz, MBox.new (p := none) (t := .nil) hy.size rfl, m1.below hz, m2.below hz, (Nat.ne_of_gt m1.lt), (Nat.ne_of_gt m2.lt), n12, trivial⟩)
        simp only [putAll, Act.put, List.setIfInBounds_toArray, List.set_cons_zero, List.set_cons_succ, i64_w, i32_w]
    refine join_ (σ := (Option Addr × Option Addr × Option Addr) × Nat × Nat × Nat) 7 #[true, true, true, true, true, true, true, false, true, true, true, false, true, false, false, false, false, false] (fun s => [(65, .agg #[.pointer s.1.1]), (17, .pointer (some ⟨s.2.1, 0, none⟩))]) (fun s y => Below x2.heap.size x2 y ∧ Tr y.heap.size y s.1.1 (T.range lo hi t) ∧ MBox x2.heap.size y s.2.1 none .nil ∧ True) ?_ (fun J10 => ?_)
    · rintro ⟨⟨q0, q1, q2⟩, b0, b1, b2⟩ y ⟨hy, t0, m0, -⟩
      refine norm_ (a' := ?_) ?_ ?_
      rotate_left
      · simp only [putAll, Act.put, List.setIfInBounds_toArray, List.set_cons_zero, List.set_cons_succ, i64_w, i32_w]
        rfl
      refine three_ (i := 7) (j := 13) (k := 14) (Ni := some 69) (Nj := some 18) (Nk := some 19) #[true, true, true, true, true, true, true, true, true, true, true, false, true, false, false, false, false, false] #[true, true, true, true, true, true, true, false, true, true, true, false, true, true, false, false, false, false] #[true, true, true, true, true, true, true, false, true, true, true, false, true, false, true, false, false, false] rfl rfl rfl rfl rfl rfl (by kernel_rfl) (by decide) (by decide) (by decide) (fun K hK => ?_) (fun K hK => ?_) (fun K hK => ?_)
      · refine goes_ Try.func36 (by kernel_rfl) rfl #[.agg #[.pointer p], .int .i64 lo, .int .i64 mid] (by rfl) rfl rfl (by (try simp only [List.map_toArray, List.map_cons, List.map_nil]); first | done | rfl) ?_
        refine (Range_any t lo mid p _ (mb.below hy).tree (by omega)).mono ?_
        rintro e z ⟨p', rfl, hp', hz⟩
        have hyz := hy.trans (hz.mono hy.size)
        refine ⟨_, rfl, ?_⟩
        refine hK.out _ _ (sOf _ hyz) (fun hHeld => ?_)
        refine norm_ (a' := putAll _ _) ?_ (J20 ((q0, p', q2), (b0, b1, b2)) _ ⟨hyz, t0.later hz, hp', m0.below hz, trivial⟩)
        simp only [putAll, Act.put, List.setIfInBounds_toArray, List.set_cons_zero, List.set_cons_succ, i64_w, i32_w]
      · have hz := below_one y (.cells #[.pointer none] 28)
        have hyz := hy.trans (hz.mono hy.size)
        refine value_ (w1 := ?_) (v := ?_) (by rfl) rfl ?_ ?_
        rotate_left 2
        · go_simp
          constructor <;> with_reducible rfl
        refine hK.out _ _ (sOf _ hyz) (fun hHeld => ?_)
        refine norm_ (a' := putAll _ _) ?_ (J101 ((q0, q1, q2), (b0, y.heap.size, b2)) _ ⟨hyz, t0.later hz, m0.below hz, MBox.new (p := none) (t := .nil) hy.size rfl, (Nat.ne_of_lt m0.lt), trivial⟩)
        simp only [putAll, Act.put, List.setIfInBounds_toArray, List.set_cons_zero, List.set_cons_succ, i64_w, i32_w]
      · have hz := below_one y (.cells #[.pointer none] 28)
        have hyz := hy.trans (hz.mono hy.size)
        refine value_ (w1 := ?_) (v := ?_) (by rfl) rfl ?_ ?_
        rotate_left 2
        · go_simp
          constructor <;> with_reducible rfl
        refine hK.out _ _ (sOf _ hyz) (fun hHeld => ?_)
        refine norm_ (a' := putAll _ _) ?_ (J102 ((q0, q1, q2), (b0, b1, y.heap.size)) _ ⟨hyz, t0.later hz, m0.below hz, MBox.new (p := none) (t := .nil) hy.size rfl, (Nat.ne_of_lt m0.lt), trivial⟩)
        simp only [putAll, Act.put, List.setIfInBounds_toArray, List.set_cons_zero, List.set_cons_succ, i64_w, i32_w]
    refine join_ (σ := (Option Addr × Option Addr × Option Addr) × Nat × Nat × Nat) 7 #[true, true, true, true, true, true, true, false, true, true, true, false, false, true, false, false, false, false] (fun s => [(65, .agg #[.pointer s.1.1]), (18, .pointer (some ⟨s.2.2.1, 0, none⟩))]) (fun s y => Below x2.heap.size x2 y ∧ Tr y.heap.size y s.1.1 (T.range lo hi t) ∧ MBox x2.heap.size y s.2.2.1 none .nil ∧ True) ?_ (fun J11 => ?_)
    · rintro ⟨⟨q0, q1, q2⟩, b0, b1, b2⟩ y ⟨hy, t0, m1, -⟩
      refine norm_ (a' := ?_) ?_ ?_
      rotate_left
      · simp only [putAll, Act.put, List.setIfInBounds_toArray, List.set_cons_zero, List.set_cons_succ, i64_w, i32_w]
        rfl
      refine three_ (i := 7) (j := 12) (k := 14) (Ni := some 69) (Nj := some 17) (Nk := some 19) #[true, true, true, true, true, true, true, true, true, true, true, false, false, true, false, false, false, false] #[true, true, true, true, true, true, true, false, true, true, true, false, true, true, false, false, false, false] #[true, true, true, true, true, true, true, false, true, true, true, false, false, true, true, false, false, false] rfl rfl rfl rfl rfl rfl (by kernel_rfl) (by decide) (by decide) (by decide) (fun K hK => ?_) (fun K hK => ?_) (fun K hK => ?_)
      · refine goes_ Try.func36 (by kernel_rfl) rfl #[.agg #[.pointer p], .int .i64 lo, .int .i64 mid] (by rfl) rfl rfl (by (try simp only [List.map_toArray, List.map_cons, List.map_nil]); first | done | rfl) ?_
        refine (Range_any t lo mid p _ (mb.below hy).tree (by omega)).mono ?_
        rintro e z ⟨p', rfl, hp', hz⟩
        have hyz := hy.trans (hz.mono hy.size)
        refine ⟨_, rfl, ?_⟩
        refine hK.out _ _ (sOf _ hyz) (fun hHeld => ?_)
        refine norm_ (a' := putAll _ _) ?_ (J21 ((q0, p', q2), (b0, b1, b2)) _ ⟨hyz, t0.later hz, hp', m1.below hz, trivial⟩)
        simp only [putAll, Act.put, List.setIfInBounds_toArray, List.set_cons_zero, List.set_cons_succ, i64_w, i32_w]
      · have hz := below_one y (.cells #[.pointer none] 28)
        have hyz := hy.trans (hz.mono hy.size)
        refine value_ (w1 := ?_) (v := ?_) (by rfl) rfl ?_ ?_
        rotate_left 2
        · go_simp
          constructor <;> with_reducible rfl
        refine hK.out _ _ (sOf _ hyz) (fun hHeld => ?_)
        refine norm_ (a' := putAll _ _) ?_ (J101 ((q0, q1, q2), (y.heap.size, b1, b2)) _ ⟨hyz, t0.later hz, MBox.new (p := none) (t := .nil) hy.size rfl, m1.below hz, (Nat.ne_of_gt m1.lt), trivial⟩)
        simp only [putAll, Act.put, List.setIfInBounds_toArray, List.set_cons_zero, List.set_cons_succ, i64_w, i32_w]
      · have hz := below_one y (.cells #[.pointer none] 28)
        have hyz := hy.trans (hz.mono hy.size)
        refine value_ (w1 := ?_) (v := ?_) (by rfl) rfl ?_ ?_
        rotate_left 2
        · go_simp
          constructor <;> with_reducible rfl
        refine hK.out _ _ (sOf _ hyz) (fun hHeld => ?_)
        refine norm_ (a' := putAll _ _) ?_ (J112 ((q0, q1, q2), (b0, b1, y.heap.size)) _ ⟨hyz, t0.later hz, m1.below hz, MBox.new (p := none) (t := .nil) hy.size rfl, (Nat.ne_of_lt m1.lt), trivial⟩)
        simp only [putAll, Act.put, List.setIfInBounds_toArray, List.set_cons_zero, List.set_cons_succ, i64_w, i32_w]
    refine join_ (σ := (Option Addr × Option Addr × Option Addr) × Nat × Nat × Nat) 7 #[true, true, true, true, true, true, true, false, true, true, true, false, false, false, true, false, false, false] (fun s => [(65, .agg #[.pointer s.1.1]), (19, .pointer (some ⟨s.2.2.2, 0, none⟩))]) (fun s y => Below x2.heap.size x2 y ∧ Tr y.heap.size y s.1.1 (T.range lo hi t) ∧ MBox x2.heap.size y s.2.2.2 none .nil ∧ True) ?_ (fun J12 => ?_)
    · rintro ⟨⟨q0, q1, q2⟩, b0, b1, b2⟩ y ⟨hy, t0, m2, -⟩
      refine norm_ (a' := ?_) ?_ ?_
      rotate_left
      · simp only [putAll, Act.put, List.setIfInBounds_toArray, List.set_cons_zero, List.set_cons_succ, i64_w, i32_w]
        rfl
      refine three_ (i := 7) (j := 12) (k := 13) (Ni := some 69) (Nj := some 17) (Nk := some 18) #[true, true, true, true, true, true, true, true, true, true, true, false, false, false, true, false, false, false] #[true, true, true, true, true, true, true, false, true, true, true, false, true, false, true, false, false, false] #[true, true, true, true, true, true, true, false, true, true, true, false, false, true, true, false, false, false] rfl rfl rfl rfl rfl rfl (by kernel_rfl) (by decide) (by decide) (by decide) (fun K hK => ?_) (fun K hK => ?_) (fun K hK => ?_)
      · refine goes_ Try.func36 (by kernel_rfl) rfl #[.agg #[.pointer p], .int .i64 lo, .int .i64 mid] (by rfl) rfl rfl (by (try simp only [List.map_toArray, List.map_cons, List.map_nil]); first | done | rfl) ?_
        refine (Range_any t lo mid p _ (mb.below hy).tree (by omega)).mono ?_
        rintro e z ⟨p', rfl, hp', hz⟩
        have hyz := hy.trans (hz.mono hy.size)
        refine ⟨_, rfl, ?_⟩
        refine hK.out _ _ (sOf _ hyz) (fun hHeld => ?_)
        refine norm_ (a' := putAll _ _) ?_ (J22 ((q0, p', q2), (b0, b1, b2)) _ ⟨hyz, t0.later hz, hp', m2.below hz, trivial⟩)
        simp only [putAll, Act.put, List.setIfInBounds_toArray, List.set_cons_zero, List.set_cons_succ, i64_w, i32_w]
      · have hz := below_one y (.cells #[.pointer none] 28)
        have hyz := hy.trans (hz.mono hy.size)
        refine value_ (w1 := ?_) (v := ?_) (by rfl) rfl ?_ ?_
        rotate_left 2
        · go_simp
          constructor <;> with_reducible rfl
        refine hK.out _ _ (sOf _ hyz) (fun hHeld => ?_)
        refine norm_ (a' := putAll _ _) ?_ (J102 ((q0, q1, q2), (y.heap.size, b1, b2)) _ ⟨hyz, t0.later hz, MBox.new (p := none) (t := .nil) hy.size rfl, m2.below hz, (Nat.ne_of_gt m2.lt), trivial⟩)
        simp only [putAll, Act.put, List.setIfInBounds_toArray, List.set_cons_zero, List.set_cons_succ, i64_w, i32_w]
      · have hz := below_one y (.cells #[.pointer none] 28)
        have hyz := hy.trans (hz.mono hy.size)
        refine value_ (w1 := ?_) (v := ?_) (by rfl) rfl ?_ ?_
        rotate_left 2
        · go_simp
          constructor <;> with_reducible rfl
        refine hK.out _ _ (sOf _ hyz) (fun hHeld => ?_)
        refine norm_ (a' := putAll _ _) ?_ (J112 ((q0, q1, q2), (b0, y.heap.size, b2)) _ ⟨hyz, t0.later hz, MBox.new (p := none) (t := .nil) hy.size rfl, m2.below hz, (Nat.ne_of_gt m2.lt), trivial⟩)
        simp only [putAll, Act.put, List.setIfInBounds_toArray, List.set_cons_zero, List.set_cons_succ, i64_w, i32_w]
    refine join_ (σ := (Option Addr × Option Addr × Option Addr) × Nat × Nat × Nat) 7 #[true, true, true, true, true, true, true, true, true, true, true, false, false, false, false, false, false, false] (fun s => [(65, .agg #[.pointer s.1.1]), (69, .agg #[.pointer s.1.2.1])]) (fun s y => Below x2.heap.size x2 y ∧ Tr y.heap.size y s.1.1 (T.range lo hi t) ∧ Tr y.heap.size y s.1.2.1 (T.range lo mid t) ∧ True) ?_ (fun J2 => ?_)
    · rintro ⟨⟨q0, q1, q2⟩, b0, b1, b2⟩ y ⟨hy, t0, t1, -⟩
      refine norm_ (a' := ?_) ?_ ?_
      rotate_left
      · simp only [putAll, Act.put, List.setIfInBounds_toArray, List.set_cons_zero, List.set_cons_succ, i64_w, i32_w]
        rfl
      refine four_ (i := 11) (j := 12) (k := 13) (m := 14) (Ni := some 73) (Nj := some 17) (Nk := some 18) (Nm := some 19) #[true, true, true, true, true, true, true, true, true, true, true, true, false, false, false, false, false, false] #[true, true, true, true, true, true, true, true, true, true, true, false, true, false, false, false, false, false] #[true, true, true, true, true, true, true, true, true, true, true, false, false, true, false, false, false, false] #[true, true, true, true, true, true, true, true, true, true, true, false, false, false, true, false, false, false] rfl rfl rfl rfl rfl rfl rfl rfl (by kernel_rfl) (by decide) (by decide) (by decide) (by decide) (fun K hK => ?_) (fun K hK => ?_) (fun K hK => ?_) (fun K hK => ?_)
      · refine goes_ Try.func36 (by kernel_rfl) rfl #[.agg #[.pointer p], .int .i64 mid, .int .i64 hi] (by rfl) rfl rfl (by (try simp only [List.map_toArray, List.map_cons, List.map_nil]); first | done | rfl) ?_
        refine (Range_any t mid hi p _ (mb.below hy).tree (by omega)).mono ?_
        rintro e z ⟨p', rfl, hp', hz⟩
        have hyz := hy.trans (hz.mono hy.size)
        refine ⟨_, rfl, ?_⟩
        refine hK.out _ _ (sOf _ hyz) (fun hHeld => ?_)
        refine norm_ (a' := putAll _ _) ?_ (J3 ((q0, q1, p'), (b0, b1, b2)) _ ⟨hyz, t0.later hz, t1.later hz, hp', trivial⟩)
        simp only [putAll, Act.put, List.setIfInBounds_toArray, List.set_cons_zero, List.set_cons_succ, i64_w, i32_w]
      · have hz := below_one y (.cells #[.pointer none] 28)
        have hyz := hy.trans (hz.mono hy.size)
        refine value_ (w1 := ?_) (v := ?_) (by rfl) rfl ?_ ?_
        rotate_left 2
        · go_simp
          constructor <;> with_reducible rfl
        refine hK.out _ _ (sOf _ hyz) (fun hHeld => ?_)
        refine norm_ (a' := putAll _ _) ?_ (J20 ((q0, q1, q2), (y.heap.size, b1, b2)) _ ⟨hyz, t0.later hz, t1.later hz, MBox.new (p := none) (t := .nil) hy.size rfl, trivial⟩)
        simp only [putAll, Act.put, List.setIfInBounds_toArray, List.set_cons_zero, List.set_cons_succ, i64_w, i32_w]
      · have hz := below_one y (.cells #[.pointer none] 28)
        have hyz := hy.trans (hz.mono hy.size)
        refine value_ (w1 := ?_) (v := ?_) (by rfl) rfl ?_ ?_
        rotate_left 2
        · go_simp
          constructor <;> with_reducible rfl
        refine hK.out _ _ (sOf _ hyz) (fun hHeld => ?_)
        refine norm_ (a' := putAll _ _) ?_ (J21 ((q0, q1, q2), (b0, y.heap.size, b2)) _ ⟨hyz, t0.later hz, t1.later hz, MBox.new (p := none) (t := .nil) hy.size rfl, trivial⟩)
        simp only [putAll, Act.put, List.setIfInBounds_toArray, List.set_cons_zero, List.set_cons_succ, i64_w, i32_w]
      · have hz := below_one y (.cells #[.pointer none] 28)
        have hyz := hy.trans (hz.mono hy.size)
        refine value_ (w1 := ?_) (v := ?_) (by rfl) rfl ?_ ?_
        rotate_left 2
        · go_simp
          constructor <;> with_reducible rfl
        refine hK.out _ _ (sOf _ hyz) (fun hHeld => ?_)
        refine norm_ (a' := putAll _ _) ?_ (J22 ((q0, q1, q2), (b0, b1, y.heap.size)) _ ⟨hyz, t0.later hz, t1.later hz, MBox.new (p := none) (t := .nil) hy.size rfl, trivial⟩)
        simp only [putAll, Act.put, List.setIfInBounds_toArray, List.set_cons_zero, List.set_cons_succ, i64_w, i32_w]
    refine join_ (σ := (Option Addr × Option Addr × Option Addr) × Nat × Nat × Nat) 8 #[true, true, true, false, true, true, true, false, true, true, true, false, true, false, false, false, false, false] (fun s => [(17, .pointer (some ⟨s.2.1, 0, none⟩))]) (fun s y => Below x2.heap.size x2 y ∧ MBox x2.heap.size y s.2.1 none .nil ∧ True) ?_ (fun J00 => ?_)
    · rintro ⟨⟨q0, q1, q2⟩, b0, b1, b2⟩ y ⟨hy, m0, -⟩
      refine norm_ (a' := ?_) ?_ ?_
      rotate_left
      · simp only [putAll, Act.put, List.setIfInBounds_toArray, List.set_cons_zero, List.set_cons_succ, i64_w, i32_w]
        rfl
      refine three_ (i := 3) (j := 13) (k := 14) (Ni := some 65) (Nj := some 18) (Nk := some 19) #[true, true, true, true, true, true, true, false, true, true, true, false, true, false, false, false, false, false] #[true, true, true, false, true, true, true, false, true, true, true, false, true, true, false, false, false, false] #[true, true, true, false, true, true, true, false, true, true, true, false, true, false, true, false, false, false] rfl rfl rfl rfl rfl rfl (by kernel_rfl) (by decide) (by decide) (by decide) (fun K hK => ?_) (fun K hK => ?_) (fun K hK => ?_)
      · refine goes_ Try.func36 (by kernel_rfl) rfl #[.agg #[.pointer p], .int .i64 lo, .int .i64 hi] (by rfl) rfl rfl (by (try simp only [List.map_toArray, List.map_cons, List.map_nil]); first | done | rfl) ?_
        refine (Range_any t lo hi p _ (mb.below hy).tree (by omega)).mono ?_
        rintro e z ⟨p', rfl, hp', hz⟩
        have hyz := hy.trans (hz.mono hy.size)
        refine ⟨_, rfl, ?_⟩
        refine hK.out _ _ (sOf _ hyz) (fun hHeld => ?_)
        refine norm_ (a' := putAll _ _) ?_ (J10 ((p', q1, q2), (b0, b1, b2)) _ ⟨hyz, hp', m0.below hz, trivial⟩)
        simp only [putAll, Act.put, List.setIfInBounds_toArray, List.set_cons_zero, List.set_cons_succ, i64_w, i32_w]
      · have hz := below_one y (.cells #[.pointer none] 28)
        have hyz := hy.trans (hz.mono hy.size)
        refine value_ (w1 := ?_) (v := ?_) (by rfl) rfl ?_ ?_
        rotate_left 2
        · go_simp
          constructor <;> with_reducible rfl
        refine hK.out _ _ (sOf _ hyz) (fun hHeld => ?_)
        refine norm_ (a' := putAll _ _) ?_ (J001 ((q0, q1, q2), (b0, y.heap.size, b2)) _ ⟨hyz, m0.below hz, MBox.new (p := none) (t := .nil) hy.size rfl, (Nat.ne_of_lt m0.lt), trivial⟩)
        simp only [putAll, Act.put, List.setIfInBounds_toArray, List.set_cons_zero, List.set_cons_succ, i64_w, i32_w]
      · have hz := below_one y (.cells #[.pointer none] 28)
        have hyz := hy.trans (hz.mono hy.size)
        refine value_ (w1 := ?_) (v := ?_) (by rfl) rfl ?_ ?_
        rotate_left 2
        · go_simp
          constructor <;> with_reducible rfl
        refine hK.out _ _ (sOf _ hyz) (fun hHeld => ?_)
        refine norm_ (a' := putAll _ _) ?_ (J002 ((q0, q1, q2), (b0, b1, y.heap.size)) _ ⟨hyz, m0.below hz, MBox.new (p := none) (t := .nil) hy.size rfl, (Nat.ne_of_lt m0.lt), trivial⟩)
        simp only [putAll, Act.put, List.setIfInBounds_toArray, List.set_cons_zero, List.set_cons_succ, i64_w, i32_w]
    refine join_ (σ := (Option Addr × Option Addr × Option Addr) × Nat × Nat × Nat) 8 #[true, true, true, false, true, true, true, false, true, true, true, false, false, true, false, false, false, false] (fun s => [(18, .pointer (some ⟨s.2.2.1, 0, none⟩))]) (fun s y => Below x2.heap.size x2 y ∧ MBox x2.heap.size y s.2.2.1 none .nil ∧ True) ?_ (fun J01 => ?_)
    · rintro ⟨⟨q0, q1, q2⟩, b0, b1, b2⟩ y ⟨hy, m1, -⟩
      refine norm_ (a' := ?_) ?_ ?_
      rotate_left
      · simp only [putAll, Act.put, List.setIfInBounds_toArray, List.set_cons_zero, List.set_cons_succ, i64_w, i32_w]
        rfl
      refine three_ (i := 3) (j := 12) (k := 14) (Ni := some 65) (Nj := some 17) (Nk := some 19) #[true, true, true, true, true, true, true, false, true, true, true, false, false, true, false, false, false, false] #[true, true, true, false, true, true, true, false, true, true, true, false, true, true, false, false, false, false] #[true, true, true, false, true, true, true, false, true, true, true, false, false, true, true, false, false, false] rfl rfl rfl rfl rfl rfl (by kernel_rfl) (by decide) (by decide) (by decide) (fun K hK => ?_) (fun K hK => ?_) (fun K hK => ?_)
      · refine goes_ Try.func36 (by kernel_rfl) rfl #[.agg #[.pointer p], .int .i64 lo, .int .i64 hi] (by rfl) rfl rfl (by (try simp only [List.map_toArray, List.map_cons, List.map_nil]); first | done | rfl) ?_
        refine (Range_any t lo hi p _ (mb.below hy).tree (by omega)).mono ?_
        rintro e z ⟨p', rfl, hp', hz⟩
        have hyz := hy.trans (hz.mono hy.size)
        refine ⟨_, rfl, ?_⟩
        refine hK.out _ _ (sOf _ hyz) (fun hHeld => ?_)
        refine norm_ (a' := putAll _ _) ?_ (J11 ((p', q1, q2), (b0, b1, b2)) _ ⟨hyz, hp', m1.below hz, trivial⟩)
        simp only [putAll, Act.put, List.setIfInBounds_toArray, List.set_cons_zero, List.set_cons_succ, i64_w, i32_w]
      · have hz := below_one y (.cells #[.pointer none] 28)
        have hyz := hy.trans (hz.mono hy.size)
        refine value_ (w1 := ?_) (v := ?_) (by rfl) rfl ?_ ?_
        rotate_left 2
        · go_simp
          constructor <;> with_reducible rfl
        refine hK.out _ _ (sOf _ hyz) (fun hHeld => ?_)
        refine norm_ (a' := putAll _ _) ?_ (J001 ((q0, q1, q2), (y.heap.size, b1, b2)) _ ⟨hyz, MBox.new (p := none) (t := .nil) hy.size rfl, m1.below hz, (Nat.ne_of_gt m1.lt), trivial⟩)
        simp only [putAll, Act.put, List.setIfInBounds_toArray, List.set_cons_zero, List.set_cons_succ, i64_w, i32_w]
      · have hz := below_one y (.cells #[.pointer none] 28)
        have hyz := hy.trans (hz.mono hy.size)
        refine value_ (w1 := ?_) (v := ?_) (by rfl) rfl ?_ ?_
        rotate_left 2
        · go_simp
          constructor <;> with_reducible rfl
        refine hK.out _ _ (sOf _ hyz) (fun hHeld => ?_)
        refine norm_ (a' := putAll _ _) ?_ (J012 ((q0, q1, q2), (b0, b1, y.heap.size)) _ ⟨hyz, m1.below hz, MBox.new (p := none) (t := .nil) hy.size rfl, (Nat.ne_of_lt m1.lt), trivial⟩)
        simp only [putAll, Act.put, List.setIfInBounds_toArray, List.set_cons_zero, List.set_cons_succ, i64_w, i32_w]
    refine join_ (σ := (Option Addr × Option Addr × Option Addr) × Nat × Nat × Nat) 8 #[true, true, true, false, true, true, true, false, true, true, true, false, false, false, true, false, false, false] (fun s => [(19, .pointer (some ⟨s.2.2.2, 0, none⟩))]) (fun s y => Below x2.heap.size x2 y ∧ MBox x2.heap.size y s.2.2.2 none .nil ∧ True) ?_ (fun J02 => ?_)
    · rintro ⟨⟨q0, q1, q2⟩, b0, b1, b2⟩ y ⟨hy, m2, -⟩
      refine norm_ (a' := ?_) ?_ ?_
      rotate_left
      · simp only [putAll, Act.put, List.setIfInBounds_toArray, List.set_cons_zero, List.set_cons_succ, i64_w, i32_w]
        rfl
      refine three_ (i := 3) (j := 12) (k := 13) (Ni := some 65) (Nj := some 17) (Nk := some 18) #[true, true, true, true, true, true, true, false, true, true, true, false, false, false, true, false, false, false] #[true, true, true, false, true, true, true, false, true, true, true, false, true, false, true, false, false, false] #[true, true, true, false, true, true, true, false, true, true, true, false, false, true, true, false, false, false] rfl rfl rfl rfl rfl rfl (by kernel_rfl) (by decide) (by decide) (by decide) (fun K hK => ?_) (fun K hK => ?_) (fun K hK => ?_)
      · refine goes_ Try.func36 (by kernel_rfl) rfl #[.agg #[.pointer p], .int .i64 lo, .int .i64 hi] (by rfl) rfl rfl (by (try simp only [List.map_toArray, List.map_cons, List.map_nil]); first | done | rfl) ?_
        refine (Range_any t lo hi p _ (mb.below hy).tree (by omega)).mono ?_
        rintro e z ⟨p', rfl, hp', hz⟩
        have hyz := hy.trans (hz.mono hy.size)
        refine ⟨_, rfl, ?_⟩
        refine hK.out _ _ (sOf _ hyz) (fun hHeld => ?_)
        refine norm_ (a' := putAll _ _) ?_ (J12 ((p', q1, q2), (b0, b1, b2)) _ ⟨hyz, hp', m2.below hz, trivial⟩)
        simp only [putAll, Act.put, List.setIfInBounds_toArray, List.set_cons_zero, List.set_cons_succ, i64_w, i32_w]
      · have hz := below_one y (.cells #[.pointer none] 28)
        have hyz := hy.trans (hz.mono hy.size)
        refine value_ (w1 := ?_) (v := ?_) (by rfl) rfl ?_ ?_
        rotate_left 2
        · go_simp
          constructor <;> with_reducible rfl
        refine hK.out _ _ (sOf _ hyz) (fun hHeld => ?_)
        refine norm_ (a' := putAll _ _) ?_ (J002 ((q0, q1, q2), (y.heap.size, b1, b2)) _ ⟨hyz, MBox.new (p := none) (t := .nil) hy.size rfl, m2.below hz, (Nat.ne_of_gt m2.lt), trivial⟩)
        simp only [putAll, Act.put, List.setIfInBounds_toArray, List.set_cons_zero, List.set_cons_succ, i64_w, i32_w]
      · have hz := below_one y (.cells #[.pointer none] 28)
        have hyz := hy.trans (hz.mono hy.size)
        refine value_ (w1 := ?_) (v := ?_) (by rfl) rfl ?_ ?_
        rotate_left 2
        · go_simp
          constructor <;> with_reducible rfl
        refine hK.out _ _ (sOf _ hyz) (fun hHeld => ?_)
        refine norm_ (a' := putAll _ _) ?_ (J012 ((q0, q1, q2), (b0, y.heap.size, b2)) _ ⟨hyz, MBox.new (p := none) (t := .nil) hy.size rfl, m2.below hz, (Nat.ne_of_gt m2.lt), trivial⟩)
        simp only [putAll, Act.put, List.setIfInBounds_toArray, List.set_cons_zero, List.set_cons_succ, i64_w, i32_w]
    refine join_ (σ := (Option Addr × Option Addr × Option Addr) × Nat × Nat × Nat) 8 #[true, true, true, true, true, true, true, false, true, true, true, false, false, false, false, false, false, false] (fun s => [(65, .agg #[.pointer s.1.1])]) (fun s y => Below x2.heap.size x2 y ∧ Tr y.heap.size y s.1.1 (T.range lo hi t) ∧ True) ?_ (fun J1 => ?_)
    · rintro ⟨⟨q0, q1, q2⟩, b0, b1, b2⟩ y ⟨hy, t0, -⟩
      refine norm_ (a' := ?_) ?_ ?_
      rotate_left
      · simp only [putAll, Act.put, List.setIfInBounds_toArray, List.set_cons_zero, List.set_cons_succ, i64_w, i32_w]
        rfl
      refine four_ (i := 7) (j := 12) (k := 13) (m := 14) (Ni := some 69) (Nj := some 17) (Nk := some 18) (Nm := some 19) #[true, true, true, true, true, true, true, true, true, true, true, false, false, false, false, false, false, false] #[true, true, true, true, true, true, true, false, true, true, true, false, true, false, false, false, false, false] #[true, true, true, true, true, true, true, false, true, true, true, false, false, true, false, false, false, false] #[true, true, true, true, true, true, true, false, true, true, true, false, false, false, true, false, false, false] rfl rfl rfl rfl rfl rfl rfl rfl (by kernel_rfl) (by decide) (by decide) (by decide) (by decide) (fun K hK => ?_) (fun K hK => ?_) (fun K hK => ?_) (fun K hK => ?_)
      · refine goes_ Try.func36 (by kernel_rfl) rfl #[.agg #[.pointer p], .int .i64 lo, .int .i64 mid] (by rfl) rfl rfl (by (try simp only [List.map_toArray, List.map_cons, List.map_nil]); first | done | rfl) ?_
        refine (Range_any t lo mid p _ (mb.below hy).tree (by omega)).mono ?_
        rintro e z ⟨p', rfl, hp', hz⟩
        have hyz := hy.trans (hz.mono hy.size)
        refine ⟨_, rfl, ?_⟩
        refine hK.out _ _ (sOf _ hyz) (fun hHeld => ?_)
        refine norm_ (a' := putAll _ _) ?_ (J2 ((q0, p', q2), (b0, b1, b2)) _ ⟨hyz, t0.later hz, hp', trivial⟩)
        simp only [putAll, Act.put, List.setIfInBounds_toArray, List.set_cons_zero, List.set_cons_succ, i64_w, i32_w]
      · have hz := below_one y (.cells #[.pointer none] 28)
        have hyz := hy.trans (hz.mono hy.size)
        refine value_ (w1 := ?_) (v := ?_) (by rfl) rfl ?_ ?_
        rotate_left 2
        · go_simp
          constructor <;> with_reducible rfl
        refine hK.out _ _ (sOf _ hyz) (fun hHeld => ?_)
        refine norm_ (a' := putAll _ _) ?_ (J10 ((q0, q1, q2), (y.heap.size, b1, b2)) _ ⟨hyz, t0.later hz, MBox.new (p := none) (t := .nil) hy.size rfl, trivial⟩)
        simp only [putAll, Act.put, List.setIfInBounds_toArray, List.set_cons_zero, List.set_cons_succ, i64_w, i32_w]
      · have hz := below_one y (.cells #[.pointer none] 28)
        have hyz := hy.trans (hz.mono hy.size)
        refine value_ (w1 := ?_) (v := ?_) (by rfl) rfl ?_ ?_
        rotate_left 2
        · go_simp
          constructor <;> with_reducible rfl
        refine hK.out _ _ (sOf _ hyz) (fun hHeld => ?_)
        refine norm_ (a' := putAll _ _) ?_ (J11 ((q0, q1, q2), (b0, y.heap.size, b2)) _ ⟨hyz, t0.later hz, MBox.new (p := none) (t := .nil) hy.size rfl, trivial⟩)
        simp only [putAll, Act.put, List.setIfInBounds_toArray, List.set_cons_zero, List.set_cons_succ, i64_w, i32_w]
      · have hz := below_one y (.cells #[.pointer none] 28)
        have hyz := hy.trans (hz.mono hy.size)
        refine value_ (w1 := ?_) (v := ?_) (by rfl) rfl ?_ ?_
        rotate_left 2
        · go_simp
          constructor <;> with_reducible rfl
        refine hK.out _ _ (sOf _ hyz) (fun hHeld => ?_)
        refine norm_ (a' := putAll _ _) ?_ (J12 ((q0, q1, q2), (b0, b1, y.heap.size)) _ ⟨hyz, t0.later hz, MBox.new (p := none) (t := .nil) hy.size rfl, trivial⟩)
        simp only [putAll, Act.put, List.setIfInBounds_toArray, List.set_cons_zero, List.set_cons_succ, i64_w, i32_w]
    · obtain ⟨y, hyd⟩ : ∃ y, y = x2.drew := ⟨_, rfl⟩
      rw [← hyd]
      have hy : Below x2.heap.size x2 y := by rw [hyd]; exact Below.drew (Below.refl _ _)
      obtain ⟨⟨q0, q1, q2⟩, b0, b1, b2⟩ : (Option Addr × Option Addr × Option Addr) × Nat × Nat × Nat := ((none, none, none), 0, 0, 0)
      clear hyd
      refine four_ (i := 3) (j := 12) (k := 13) (m := 14) (Ni := some 65) (Nj := some 17) (Nk := some 18) (Nm := some 19) #[true, true, true, true, true, true, true, false, true, true, true, false, false, false, false, false, false, false] #[true, true, true, false, true, true, true, false, true, true, true, false, true, false, false, false, false, false] #[true, true, true, false, true, true, true, false, true, true, true, false, false, true, false, false, false, false] #[true, true, true, false, true, true, true, false, true, true, true, false, false, false, true, false, false, false] rfl rfl rfl rfl rfl rfl rfl rfl (by kernel_rfl) (by decide) (by decide) (by decide) (by decide) (fun K hK => ?_) (fun K hK => ?_) (fun K hK => ?_) (fun K hK => ?_)
      · refine goes_ Try.func36 (by kernel_rfl) rfl #[.agg #[.pointer p], .int .i64 lo, .int .i64 hi] (by rfl) rfl rfl (by (try simp only [List.map_toArray, List.map_cons, List.map_nil]); first | done | rfl) ?_
        refine (Range_any t lo hi p _ (mb.below hy).tree (by omega)).mono ?_
        rintro e z ⟨p', rfl, hp', hz⟩
        have hyz := hy.trans (hz.mono hy.size)
        refine ⟨_, rfl, ?_⟩
        refine hK.out _ _ (sOf _ hyz) (fun hHeld => ?_)
        refine norm_ (a' := putAll _ _) ?_ (J1 ((p', q1, q2), (b0, b1, b2)) _ ⟨hyz, hp', trivial⟩)
        simp only [putAll, Act.put, List.setIfInBounds_toArray, List.set_cons_zero, List.set_cons_succ, i64_w, i32_w]
      · have hz := below_one y (.cells #[.pointer none] 28)
        have hyz := hy.trans (hz.mono hy.size)
        refine value_ (w1 := ?_) (v := ?_) (by rfl) rfl ?_ ?_
        rotate_left 2
        · go_simp
          constructor <;> with_reducible rfl
        refine hK.out _ _ (sOf _ hyz) (fun hHeld => ?_)
        refine norm_ (a' := putAll _ _) ?_ (J00 ((q0, q1, q2), (y.heap.size, b1, b2)) _ ⟨hyz, MBox.new (p := none) (t := .nil) hy.size rfl, trivial⟩)
        simp only [putAll, Act.put, List.setIfInBounds_toArray, List.set_cons_zero, List.set_cons_succ, i64_w, i32_w]
      · have hz := below_one y (.cells #[.pointer none] 28)
        have hyz := hy.trans (hz.mono hy.size)
        refine value_ (w1 := ?_) (v := ?_) (by rfl) rfl ?_ ?_
        rotate_left 2
        · go_simp
          constructor <;> with_reducible rfl
        refine hK.out _ _ (sOf _ hyz) (fun hHeld => ?_)
        refine norm_ (a' := putAll _ _) ?_ (J01 ((q0, q1, q2), (b0, y.heap.size, b2)) _ ⟨hyz, MBox.new (p := none) (t := .nil) hy.size rfl, trivial⟩)
        simp only [putAll, Act.put, List.setIfInBounds_toArray, List.set_cons_zero, List.set_cons_succ, i64_w, i32_w]
      · have hz := below_one y (.cells #[.pointer none] 28)
        have hyz := hy.trans (hz.mono hy.size)
        refine value_ (w1 := ?_) (v := ?_) (by rfl) rfl ?_ ?_
        rotate_left 2
        · go_simp
          constructor <;> with_reducible rfl
        refine hK.out _ _ (sOf _ hyz) (fun hHeld => ?_)
        refine norm_ (a' := putAll _ _) ?_ (J02 ((q0, q1, q2), (b0, b1, y.heap.size)) _ ⟨hyz, MBox.new (p := none) (t := .nil) hy.size rfl, trivial⟩)
        simp only [putAll, Act.put, List.setIfInBounds_toArray, List.set_cons_zero, List.set_cons_succ, i64_w, i32_w]
    rintro ⟨⟨q0, q1, q2⟩, b0, b1, b2⟩ y ⟨hy, t0, t1, t2, m0, m1, m2, n01, n02, n12, -⟩
    dsimp only at t0 t1 t2 m0 m1 m2 n01 n02 n12
    refine norm_ (a' := ?_) ?_ ?_
    rotate_left
    · simp only [putAll, Act.put, List.setIfInBounds_toArray, List.set_cons_zero, List.set_cons_succ, i64_w, i32_w]
      rfl
    have mm0 := m0
    have mm1 := m1
    have mm2 := m2
    have e0 := m0.cell
    have f0 := m0.fr
    refine one_ (i := 15) (N := none) #[true, true, true, true, true, true, true, true, true, true, true, true, true, true, true, true, false, false] rfl rfl (by kernel_rfl) (by decide) (fun K hK => ?_)
    refine skip_ (w1 := ?_) (by rfl) rfl ?_ ?_
    rotate_left
    · go_simp
      with_reducible rfl
    refine hK.out _ _ (sOf _ (hy.setCell (p := ⟨b0, 0, none⟩) m0.base _)) (fun hHeld => ?_)
    clear hK K
    have tg := m0.tag
    have hy := hy.setCell (p := ⟨b0, 0, none⟩) m0.base (.pointer q0)
    have x1 := m1.far tg n01 (.pointer q0)
    have x2 := m2.far tg n02 (.pointer q0)
    have x0 := m0.set t0
    have t0 := t0.stored (a := ⟨b0, 0, none⟩) tg (by decide) (.pointer q0)
    have t1 := t1.stored (a := ⟨b0, 0, none⟩) tg (by decide) (.pointer q0)
    have t2 := t2.stored (a := ⟨b0, 0, none⟩) tg (by decide) (.pointer q0)
    clear m0 m1 m2
    have m0 := x0
    have m1 := x1
    have m2 := x2
    clear x0 x1 x2
    have e1 := m1.cell
    have f1 := m1.fr
    refine one_ (i := 16) (N := none) #[true, true, true, true, true, true, true, true, true, true, true, true, true, true, true, true, true, false] rfl rfl (by kernel_rfl) (by decide) (fun K hK => ?_)
    refine skip_ (w1 := ?_) (by rfl) rfl ?_ ?_
    rotate_left
    · go_simp
      with_reducible rfl
    refine hK.out _ _ (sOf _ (hy.setCell (p := ⟨b1, 0, none⟩) m1.base _)) (fun hHeld => ?_)
    clear hK K
    have tg := m1.tag
    have hy := hy.setCell (p := ⟨b1, 0, none⟩) m1.base (.pointer q1)
    have x0 := m0.far tg (Ne.symm n01) (.pointer q1)
    have x2 := m2.far tg n12 (.pointer q1)
    have x1 := m1.set t1
    have t0 := t0.stored (a := ⟨b1, 0, none⟩) tg (by decide) (.pointer q1)
    have t1 := t1.stored (a := ⟨b1, 0, none⟩) tg (by decide) (.pointer q1)
    have t2 := t2.stored (a := ⟨b1, 0, none⟩) tg (by decide) (.pointer q1)
    clear m0 m1 m2
    have m0 := x0
    have m1 := x1
    have m2 := x2
    clear x0 x1 x2
    have e2 := m2.cell
    have f2 := m2.fr
    refine one_ (i := 17) (N := none) #[true, true, true, true, true, true, true, true, true, true, true, true, true, true, true, true, true, true] rfl rfl (by kernel_rfl) (by decide) (fun K hK => ?_)
    refine skip_ (w1 := ?_) (by rfl) rfl ?_ ?_
    rotate_left
    · go_simp
      with_reducible rfl
    refine hK.out _ _ (sOf _ (hy.setCell (p := ⟨b2, 0, none⟩) m2.base _)) (fun hHeld => ?_)
    clear hK K
    have tg := m2.tag
    have hy := hy.setCell (p := ⟨b2, 0, none⟩) m2.base (.pointer q2)
    have x0 := m0.far tg (Ne.symm n02) (.pointer q2)
    have x1 := m1.far tg (Ne.symm n12) (.pointer q2)
    have x2 := m2.set t2
    have t0 := t0.stored (a := ⟨b2, 0, none⟩) tg (by decide) (.pointer q2)
    have t1 := t1.stored (a := ⟨b2, 0, none⟩) tg (by decide) (.pointer q2)
    have t2 := t2.stored (a := ⟨b2, 0, none⟩) tg (by decide) (.pointer q2)
    clear m0 m1 m2
    have m0 := x0
    have m1 := x1
    have m2 := x2
    clear x0 x1 x2
    refine done_ (by kernel_rfl) ?_
    have mb := mb.below hy
    have hbx := hbx.trans (hy.mono hbx.size)
    clear mm0 mm1 mm2 t0 t1 t2 tg e0 e1 e2 f0 f1 f2
    generalize ((y.setCell ⟨b0, 0, none⟩ (.pointer q0)).setCell ⟨b1, 0, none⟩ (.pointer q1)).setCell ⟨b2, 0, none⟩ (.pointer q2) = x3 at mb hbx m0 m1 m2 ⊢
    obtain ⟨hcl, hjl⟩ := range_join hs o1 o2
    have hsz := range_size hs (Int.le_trans o1 o2)
    have z0 := range_le hs lo hi
    have z1 := range_le hs lo mid
    have z2 := range_le hs mid hi
    have e1 := m1.cell
    have e2 := m2.cell
    go_upto_region 9 with (go_at_call 33; refine (Join_any _ _ q1 q2 _ m1.tree m2.tree (by omega)).mono ?_; rintro e z ⟨pj, ce, rfl, hk, ⟨-, rfl, hJ⟩ | ⟨hbad, -, -⟩⟩; rotate_left; exact absurd hbad (by rw [hcl]; decide))
    have hk2 := hk.trans ((below_one z (.cells #[.pointer pj] 28)).mono hk.size)
    have mJ := MBox.new (n₀ := 0) (Nat.zero_le _) hJ
    have mb := mb.below hk2
    have m0 := m0.below hk2
    have hbx := hbx.trans (hk2.mono hbx.size)
    generalize z.alloc (.cells #[.pointer pj] 28) = x4 at mb m0 mJ hbx ⊢
    generalize z.heap.size = bJ at mJ ⊢
    have zJ : (T.merge (T.range lo mid t) (T.range mid hi t)).size ≤ 1000000 := by rw [← T.length_toList, hjl, T.length_toList]; omega
    clear hk hk2 hJ m1 m2 e1 e2 z1 z2 hcl
    obtain ⟨R, hR⟩ : ∃ R, R = T.range lo hi t := ⟨_, rfl⟩
    obtain ⟨J, hJ⟩ : ∃ J, J = T.merge (T.range lo mid t) (T.range mid hi t) := ⟨_, rfl⟩
    rw [← hR] at m0 hjl hsz z0
    rw [← hJ] at mJ hjl zJ
    clear hR hJ
    obtain ⟨r1, hr1⟩ : ∃ r, lessN t.toList lo = r := ⟨_, rfl⟩
    obtain ⟨r2, hr2⟩ : ∃ r, lessN t.toList hi = r := ⟨_, rfl⟩
    obtain ⟨rs, hrs⟩ : ∃ r, R.size = r := ⟨_, rfl⟩
    rw [hr1, hr2, hrs] at hsz
    rw [hrs] at z0
    have hsz' : (r2 : Int) - (r1 : Int) = (rs : Int) := by omega
    have wsub : IntKind.i64.wrap ((r2 : Int) - (r1 : Int)) = (rs : Int) := by rw [IntKind.wrap_i64]; omega
    have LR : ∀ y, Below x4.heap.size x4 y → Calls Try.prog 17 #[.agg #[.pointer q0]] y fun e z => e = .returned (.int .i64 rs) ∧ Below x4.heap.size x4 z := fun y hy => by rw [← hrs]; exact m0.len hy
    have K1 : ∀ y, Below x4.heap.size x4 y → Calls Try.prog 28 #[.agg #[.pointer p], .int .i64 lo] y fun e z => e = .returned (.int .i64 r1) ∧ Below x4.heap.size x4 z := fun y hy => by rw [← hr1]; exact mb.rank hs hz' lo hy
    have K2 : ∀ y, Below x4.heap.size x4 y → Calls Try.prog 28 #[.agg #[.pointer p], .int .i64 hi] y fun e z => e = .returned (.int .i64 r2) ∧ Below x4.heap.size x4 z := fun y hy => by rw [← hr2]; exact mb.rank hs hz' hi hy
    have zR : R.size ≤ 1000000 := by omega
    have hz1 : t.size + 1 ≤ 1099511627776 := by omega
    have hlohi := Int.le_trans o1 o2
    clear hr1 hr2 hrs hsz hsz' o1 o2
    have HJL := Lib.hid hjl
    clear hjl
    have f0 : ∀ y, Below x4.heap.size x4 y → y.cell? ⟨b0', 0, none⟩ = some (.pointer p) := fun y h => (mb.below h).cell
    have f1 : ∀ y, Below x4.heap.size x4 y → y.cell? ⟨b0, 0, none⟩ = some (.pointer q0) := fun y h => (m0.below h).cell
    have f2 : ∀ y, Below x4.heap.size x4 y → y.cell? ⟨bJ, 0, none⟩ = some (.pointer pj) := fun y h => (mJ.below h).cell
    go_region_held3 (fun w' => Below x4.heap.size x4 w') (repeat (first | assumption | exact Below.refl _ _ | apply Below.drew)) (first
      | (go_at_call 40; refine (m0.list zR (by assumption)).mono ?_; rintro e y1 ⟨AL, cL, rfl, hcL, hrow, hk1⟩; have HROW := Lib.hid hrow; clear hrow)
      | (go_at_call 19; refine (mJ.same zJ HJL.out hcL HROW.out (by assumption)).mono ?_; rintro e y2 ⟨rfl, hk2⟩)
      | (go_at_call 17; (with_reducible refine (LR _ (by assumption)).mono ?_); rintro e y3 ⟨rfl, hk3⟩)
      | (go_at_call 28; (with_reducible refine (K2 _ (by assumption)).mono ?_); rintro e y4 ⟨rfl, hk4⟩)
      | (go_at_call 28; (with_reducible refine (K1 _ (by assumption)).mono ?_); rintro e y5 ⟨rfl, hk5⟩)
      | (go_at_call 36; refine (mb.rangeNil hz1 hlohi (by assumption)).mono ?_; rintro e y6 ⟨rfl, hk6⟩)
      | (go_at_call 17; (with_reducible refine (len_none (by assumption)).mono ?_); rintro e y7 ⟨rfl, hk7⟩)
      | (go_at_call 13; refine (alive_in (by assumption)).mono ?_; rintro e y8 ⟨rfl, hk8⟩))
    go_wp2
    go_ret
    exact ⟨rfl, hbx.trans (hk8.mono hbx.size)⟩
  · go_wp2_with (first
      | (go_at_call 37; refine (few_any _ _ _ _).mono ?_; rw [decide_eq_false h200]; rintro e x ⟨rfl, rfl⟩)
      | (go_at_call 13; refine (alive_true (Below.refl _ _)).mono ?_; rintro e x ⟨rfl, hx⟩))
    go_ret
    exact ⟨rfl, hx⟩
end Go.Proofs.MT.II
