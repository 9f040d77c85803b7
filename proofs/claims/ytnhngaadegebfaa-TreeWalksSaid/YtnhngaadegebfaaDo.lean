/- world.do: one more map, and what it must hold. -/
import Derived.Test.YtnhngaadegebfaaDoState
import Derived.Deep.DeepCutAuto
import Derived.Deep.CutBlock
import Derived.Test.YtnhngaadegebfaaWLast
namespace Go.Proofs.MT.II
open Go.RowKit Go.Proofs.YtnhngaadegebfaaW.PrintLast Go.Proofs.YtnhngaadegebfaaW.PrintWords
set_option linter.unusedVariables false
set_option linter.unusedSimpArgs false

set_option maxRecDepth 100000 in
set_option maxHeartbeats 16000000 in
theorem do_any {n₀ : Nat} {W : World} {B : Nat} {vm vl : Value} {ks : List Int} {es : List En} (h : Wd n₀ W B vm vl ks es es) (hne : 0 < es.length) (hlen : es.length ≤ 1000) (hks : ks.length ≤ 1000)
    (kind a b ky va : Int) (hk0 : 0 ≤ kind) (ha0 : 0 ≤ a) (ha1 : a ≤ 255) (hb0 : 0 ≤ b) (hb1 : b ≤ 255) :
    Calls Try.prog 76 #[.pointer (some ⟨B, 0, none⟩), .agg #[.int .u8 kind, .int .u8 a, .int .u8 b, .int .i64 ky, .int .i64 va]] W fun e w' =>
      e = .returned (.bool true) ∧ Below n₀ W w' ∧ ∃ vm' vl' en, Wd n₀ w' B vm' vl' (ky :: ks) (es ++ [en]) (es ++ [en]) := by
  obtain ⟨bm, cm, rfl, hcm, hbm0, hbm, hm⟩ := row1_open h.om hne
  obtain ⟨bl, cl, rfl, hcl, hbl0, hbl, hll⟩ := row1_open h.ol hne
  have hB := h.lt
  have n0 : 0 < (es.length : Int) := by omega
  obtain ⟨i, hi, hin⟩ : ∃ i : Nat, a % (es.length : Int) = i ∧ i < es.length := ⟨(a % (es.length : Int)).toNat, by have := Int.emod_nonneg a (b := (es.length : Int)) (by omega); omega, by have h1 := Int.emod_lt_of_pos a n0; have := Int.emod_nonneg a (b := (es.length : Int)) (by omega); omega⟩
  obtain ⟨j, hj, hjn⟩ : ∃ j : Nat, b % (es.length : Int) = j ∧ j < es.length := ⟨(b % (es.length : Int)).toNat, by have := Int.emod_nonneg b (b := (es.length : Int)) (by omega); omega, by have h1 := Int.emod_lt_of_pos b n0; have := Int.emod_nonneg b (b := (es.length : Int)) (by omega); omega⟩
  obtain ⟨⟨p1, q1, t1⟩, he1⟩ : ∃ e, es[i]? = some e := ⟨_, List.getElem?_eq_getElem hin⟩
  obtain ⟨⟨p2, q2, t2⟩, he2⟩ : ∃ e, es[j]? = some e := ⟨_, List.getElem?_eq_getElem hjn⟩
  have g1 := h.all _ (List.mem_of_getElem? he1)
  have g2 := h.all _ (List.mem_of_getElem? he2)
  have d0 := hm i (.pointer p1) (by rw [List.getElem?_map, he1]; rfl)
  have d1 := hm j (.pointer p2) (by rw [List.getElem?_map, he2]; rfl)
  have d2 := hll i q1 (by rw [List.getElem?_map, he1]; rfl)
  have d3 := hll j q2 (by rw [List.getElem?_map, he2]; rfl)
  have z1 : t1.size ≤ 1000 := Nat.le_trans g1.size hks
  have z2 : t2.size ≤ 1000 := Nat.le_trans g2.size hks
  have z1' : t1.size ≤ 1099511627776 := by omega
  have z2' : t2.size ≤ 1099511627776 := by omega
  obtain ⟨A1, c1, hq1, hA1, -, -⟩ := g1.row.reads (by have := T.length_toList t1; show t1.toList.length ≤ _; omega)
  obtain ⟨A2, c2, hq2, hA2, -, -⟩ := g2.row.reads (by have := T.length_toList t2; show t2.toList.length ≤ _; omega)
  have hq1 : q1 = .slice A1 t1.toList.length c1 := hq1
  have hq2 : q2 = .slice A2 t2.toList.length c2 := hq2
  have hA1 : t1.toList.length ≤ c1 := hA1
  have hA2 : t2.toList.length ≤ c2 := hA2
  subst hq1
  subst hq2
  have s1 : Sorted t1.toList := g1.sorted
  have s2 : Sorted t2.toList := g2.sorted
  have k1 : ∀ q ∈ t1.toList, q.1 ∈ ks := g1.keys
  have k2 : ∀ q ∈ t2.toList, q.1 ∈ ks := g2.keys
  have c0 := h.c0
  have c1' := h.c1
  have w1 : IntKind.i64.wrap a = a := by rw [IntKind.wrap_i64]; omega
  have w2 : IntKind.i64.wrap b = b := by rw [IntKind.wrap_i64]; omega
  have t1' : a.tmod (es.length : Int) = (i : Int) := by rw [Int.tmod_eq_emod_of_nonneg ha0]; exact hi
  have t2' : b.tmod (es.length : Int) = (j : Int) := by rw [Int.tmod_eq_emod_of_nonneg hb0]; exact hj
  have nn : ¬ (es.length : Int) = 0 := by omega
  have l1 : (i : Int) < (es.length : Int) := by omega
  have l2 : (j : Int) < (es.length : Int) := by omega
  have l3 : (0 : Int) ≤ (i : Int) := by omega
  have l4 : (0 : Int) ≤ (j : Int) := by omega
  have op0 := OpAt.new W kind a b ky va
  have hbO := below_one W (.cells #[.int .u8 kind, .int .u8 a, .int .u8 b, .int .i64 ky, .int .i64 va] 136)
  clear hm hll
  go_enter Try.func76, Try.ntmps76
  go_upto_region 1 with fail
  go_quiet (fail)
  go_upto_region 2 with fail
  have hW1 := below_draws hbO nq
  have op := op0.later (below_draws (Below.refl _ _) nq)
  generalize ((W.alloc (.cells #[.int .u8 kind, .int .u8 a, .int .u8 b, .int .i64 ky, .int .i64 va] 136)).drewN nq) = W1 at hW1 op ⊢
  clear op0 hbO
  obtain ⟨O, hO⟩ : ∃ O, O = W.heap.size := ⟨_, rfl⟩
  rw [← hO] at op
  simp only [← hO]
  have HO := Lib.hid hO
  clear hO
  have sOf : ∀ w', Below W1.heap.size W1 w' → w'.cell? ⟨B, 0, none⟩ = some (.slice (some ⟨bm, 0, none⟩) es.length cm) ∧ w'.cell? ⟨B, 1, none⟩ = some (.slice (some ⟨bl, 0, none⟩) es.length cl) ∧ w'.cell? ⟨bm, i, none⟩ = some (.pointer p1) ∧ w'.cell? ⟨bm, j, none⟩ = some (.pointer p2) ∧ w'.cell? ⟨bl, i, none⟩ = some (.slice A1 t1.toList.length c1) ∧ w'.cell? ⟨bl, j, none⟩ = some (.slice A2 t2.toList.length c2) := fun y hy => have hb := hW1.trans (hy.mono hW1.size); ⟨(hb.cell (p := ⟨B, 0, none⟩) hB).trans c0, (hb.cell (p := ⟨B, 1, none⟩) hB).trans c1', (hb.cell (p := ⟨bm, i, none⟩) hbm).trans d0, (hb.cell (p := ⟨bm, j, none⟩) hbm).trans d1, (hb.cell (p := ⟨bl, i, none⟩) hbl).trans d2, (hb.cell (p := ⟨bl, j, none⟩) hbl).trans d3⟩
  refine start_ (n := 34) (S := fun w' => w'.cell? ⟨B, 0, none⟩ = some (.slice (some ⟨bm, 0, none⟩) es.length cm) ∧ w'.cell? ⟨B, 1, none⟩ = some (.slice (some ⟨bl, 0, none⟩) es.length cl) ∧ w'.cell? ⟨bm, i, none⟩ = some (.pointer p1) ∧ w'.cell? ⟨bm, j, none⟩ = some (.pointer p2) ∧ w'.cell? ⟨bl, i, none⟩ = some (.slice A1 t1.toList.length c1) ∧ w'.cell? ⟨bl, j, none⟩ = some (.slice A2 t2.toList.length c2)) (ds := []) #[false, false, false, false, false, false, false, false, false, false, false, false, false, false, false, false, false, false, false, false, false, false, false, false, false, false, false, false, false, false, false, false, false, false] (by kernel_rfl) rfl rfl (sOf _ (Below.drew (Below.refl _ _))) (fun hHeld => ?_)
  refine pure_ (i := 0) (N := some 40) (v := ?_) (a' := ?_) #[true, false, false, false, false, false, false, false, false, false, false, false, false, false, false, false, false, false, false, false, false, false, false, false, false, false, false, false, false, false, false, false, false, false] rfl rfl (by kernel_rfl) (fun _ _ _ h => h) (Or.inl ⟨by rfl, ?_⟩) ?_ ?_
  rotate_left
  · intro w'
    go_simp
    with_reducible rfl
  rotate_left
  · simp only [Act.put, List.setIfInBounds_toArray, List.set_cons_zero, List.set_cons_succ, i64_w, i32_w]
    rfl
  refine pure_ (i := 1) (N := some 41) (v := ?_) (a' := ?_) #[true, true, false, false, false, false, false, false, false, false, false, false, false, false, false, false, false, false, false, false, false, false, false, false, false, false, false, false, false, false, false, false, false, false] rfl rfl (by kernel_rfl) (fun _ _ _ h => h) (Or.inl ⟨by rfl, ?_⟩) ?_ ?_
  rotate_left
  · intro w'
    go_simp
    with_reducible rfl
  rotate_left
  · simp only [Act.put, List.setIfInBounds_toArray, List.set_cons_zero, List.set_cons_succ, i64_w, i32_w]
    rfl
  refine pure_ (i := 2) (N := some 42) (v := ?_) (a' := ?_) #[true, true, true, false, false, false, false, false, false, false, false, false, false, false, false, false, false, false, false, false, false, false, false, false, false, false, false, false, false, false, false, false, false, false] rfl rfl (by kernel_rfl) (fun _ _ _ h => h) (Or.inl ⟨by rfl, ?_⟩) ?_ ?_
  rotate_left
  · intro w'
    go_simp
    with_reducible rfl
  rotate_left
  · simp only [Act.put, List.setIfInBounds_toArray, List.set_cons_zero, List.set_cons_succ, i64_w, i32_w]
    rfl
  refine take_ (i := 3) (N := some 43) (v := ?_) (a' := ?_) #[true, true, true, true, false, false, false, false, false, false, false, false, false, false, false, false, false, false, false, false, false, false, false, false, false, false, false, false, false, false, false, false, false, false] rfl rfl (by kernel_rfl) (fun _ _ _ h => h) (Or.inl ⟨by rfl, ?_⟩) hHeld ?_ ?_
  rotate_left
  · rintro w' ⟨s0, s1, s2, s3, s4, s5⟩
    go_simp
    with_reducible rfl
  rotate_left
  · simp only [Act.put, List.setIfInBounds_toArray, List.set_cons_zero, List.set_cons_succ, i64_w, i32_w]
    rfl
  refine pure_ (i := 4) (N := some 44) (v := ?_) (a' := ?_) #[true, true, true, true, true, false, false, false, false, false, false, false, false, false, false, false, false, false, false, false, false, false, false, false, false, false, false, false, false, false, false, false, false, false] rfl rfl (by kernel_rfl) (fun _ _ _ h => h) (Or.inl ⟨by rfl, ?_⟩) ?_ ?_
  rotate_left
  · intro w'
    go_simp
    with_reducible rfl
  rotate_left
  · simp only [Act.put, List.setIfInBounds_toArray, List.set_cons_zero, List.set_cons_succ, i64_w, i32_w]
    rfl
  refine pure_ (i := 5) (N := some 45) (v := ?_) (a' := ?_) #[true, true, true, true, true, true, false, false, false, false, false, false, false, false, false, false, false, false, false, false, false, false, false, false, false, false, false, false, false, false, false, false, false, false] rfl rfl (by kernel_rfl) (fun _ _ _ h => h) (Or.inl ⟨by rfl, ?_⟩) ?_ ?_
  rotate_left
  · intro w'
    go_simp
    with_reducible rfl
  rotate_left
  · simp only [Act.put, List.setIfInBounds_toArray, List.set_cons_zero, List.set_cons_succ, i64_w, i32_w]
    rfl
  refine take_ (i := 6) (N := some 46) (v := ?_) (a' := ?_) #[true, true, true, true, true, true, true, false, false, false, false, false, false, false, false, false, false, false, false, false, false, false, false, false, false, false, false, false, false, false, false, false, false, false] rfl rfl (by kernel_rfl) (fun _ _ _ h => h) (Or.inl ⟨by rfl, ?_⟩) hHeld ?_ ?_
  rotate_left
  · rintro w' ⟨s0, s1, s2, s3, s4, s5⟩
    go_simp
    with_reducible rfl
  rotate_left
  · simp only [Act.put, List.setIfInBounds_toArray, List.set_cons_zero, List.set_cons_succ, i64_w, i32_w]
    rfl
  refine pure_ (i := 7) (N := some 47) (v := ?_) (a' := ?_) #[true, true, true, true, true, true, true, true, false, false, false, false, false, false, false, false, false, false, false, false, false, false, false, false, false, false, false, false, false, false, false, false, false, false] rfl rfl (by kernel_rfl) (fun _ _ _ h => h) (Or.inl ⟨by rfl, ?_⟩) ?_ ?_
  rotate_left
  · intro w'
    go_simp
    with_reducible rfl
  rotate_left
  · simp only [Act.put, List.setIfInBounds_toArray, List.set_cons_zero, List.set_cons_succ, i64_w, i32_w]
    rfl
  refine pure_ (i := 8) (N := some 48) (v := ?_) (a' := ?_) #[true, true, true, true, true, true, true, true, true, false, false, false, false, false, false, false, false, false, false, false, false, false, false, false, false, false, false, false, false, false, false, false, false, false] rfl rfl (by kernel_rfl) (fun _ _ _ h => h) (Or.inl ⟨by rfl, ?_⟩) ?_ ?_
  rotate_left
  · intro w'
    go_simp
    with_reducible rfl
  rotate_left
  · simp only [Act.put, List.setIfInBounds_toArray, List.set_cons_zero, List.set_cons_succ, i64_w, i32_w]
    rfl
  refine pure_ (i := 9) (N := some 49) (v := ?_) (a' := ?_) #[true, true, true, true, true, true, true, true, true, true, false, false, false, false, false, false, false, false, false, false, false, false, false, false, false, false, false, false, false, false, false, false, false, false] rfl rfl (by kernel_rfl) (fun _ _ _ h => h) (Or.inl ⟨by rfl, ?_⟩) ?_ ?_
  rotate_left
  · intro w'
    go_simp
    with_reducible rfl
  rotate_left
  · simp only [Act.put, List.setIfInBounds_toArray, List.set_cons_zero, List.set_cons_succ, i64_w, i32_w]
    rfl
  refine take_ (i := 10) (N := some 50) (v := ?_) (a' := ?_) #[true, true, true, true, true, true, true, true, true, true, true, false, false, false, false, false, false, false, false, false, false, false, false, false, false, false, false, false, false, false, false, false, false, false] rfl rfl (by kernel_rfl) (fun _ _ _ h => h) (Or.inl ⟨by rfl, ?_⟩) hHeld ?_ ?_
  rotate_left
  · rintro w' ⟨s0, s1, s2, s3, s4, s5⟩
    go_simp
    with_reducible rfl
  rotate_left
  · simp only [Act.put, List.setIfInBounds_toArray, List.set_cons_zero, List.set_cons_succ, i64_w, i32_w]
    rfl
  refine pure_ (i := 11) (N := some 51) (v := ?_) (a' := ?_) #[true, true, true, true, true, true, true, true, true, true, true, true, false, false, false, false, false, false, false, false, false, false, false, false, false, false, false, false, false, false, false, false, false, false] rfl rfl (by kernel_rfl) (fun _ _ _ h => h) (Or.inl ⟨by rfl, ?_⟩) ?_ ?_
  rotate_left
  · intro w'
    go_simp
    with_reducible rfl
  rotate_left
  · simp only [Act.put, List.setIfInBounds_toArray, List.set_cons_zero, List.set_cons_succ, i64_w, i32_w]
    rfl
  refine pure_ (i := 12) (N := some 52) (v := ?_) (a' := ?_) #[true, true, true, true, true, true, true, true, true, true, true, true, true, false, false, false, false, false, false, false, false, false, false, false, false, false, false, false, false, false, false, false, false, false] rfl rfl (by kernel_rfl) (fun _ _ _ h => h) (Or.inl ⟨by rfl, ?_⟩) ?_ ?_
  rotate_left
  · intro w'
    go_simp
    with_reducible rfl
  rotate_left
  · simp only [Act.put, List.setIfInBounds_toArray, List.set_cons_zero, List.set_cons_succ, i64_w, i32_w]
    rfl
  refine take_ (i := 13) (N := some 53) (v := ?_) (a' := ?_) #[true, true, true, true, true, true, true, true, true, true, true, true, true, true, false, false, false, false, false, false, false, false, false, false, false, false, false, false, false, false, false, false, false, false] rfl rfl (by kernel_rfl) (fun _ _ _ h => h) (Or.inl ⟨by rfl, ?_⟩) hHeld ?_ ?_
  rotate_left
  · rintro w' ⟨s0, s1, s2, s3, s4, s5⟩
    go_simp
    with_reducible rfl
  rotate_left
  · simp only [Act.put, List.setIfInBounds_toArray, List.set_cons_zero, List.set_cons_succ, i64_w, i32_w]
    rfl
  refine pure_ (i := 14) (N := some 54) (v := ?_) (a' := ?_) #[true, true, true, true, true, true, true, true, true, true, true, true, true, true, true, false, false, false, false, false, false, false, false, false, false, false, false, false, false, false, false, false, false, false] rfl rfl (by kernel_rfl) (fun _ _ _ h => h) (Or.inl ⟨by rfl, ?_⟩) ?_ ?_
  rotate_left
  · intro w'
    go_simp
    with_reducible rfl
  rotate_left
  · simp only [Act.put, List.setIfInBounds_toArray, List.set_cons_zero, List.set_cons_succ, i64_w, i32_w]
    rfl
  refine pure_ (i := 15) (N := some 55) (v := ?_) (a' := ?_) #[true, true, true, true, true, true, true, true, true, true, true, true, true, true, true, true, false, false, false, false, false, false, false, false, false, false, false, false, false, false, false, false, false, false] rfl rfl (by kernel_rfl) (fun _ _ _ h => h) (Or.inl ⟨by rfl, ?_⟩) ?_ ?_
  rotate_left
  · intro w'
    go_simp
    with_reducible rfl
  rotate_left
  · simp only [Act.put, List.setIfInBounds_toArray, List.set_cons_zero, List.set_cons_succ, i64_w, i32_w]
    rfl
  refine pure_ (i := 16) (N := some 56) (v := ?_) (a' := ?_) #[true, true, true, true, true, true, true, true, true, true, true, true, true, true, true, true, true, false, false, false, false, false, false, false, false, false, false, false, false, false, false, false, false, false] rfl rfl (by kernel_rfl) (fun _ _ _ h => h) (Or.inl ⟨by rfl, ?_⟩) ?_ ?_
  rotate_left
  · intro w'
    go_simp
    with_reducible rfl
  rotate_left
  · simp only [Act.put, List.setIfInBounds_toArray, List.set_cons_zero, List.set_cons_succ, i64_w, i32_w]
    rfl
  refine take_ (i := 17) (N := some 57) (v := ?_) (a' := ?_) #[true, true, true, true, true, true, true, true, true, true, true, true, true, true, true, true, true, true, false, false, false, false, false, false, false, false, false, false, false, false, false, false, false, false] rfl rfl (by kernel_rfl) (fun _ _ _ h => h) (Or.inl ⟨by rfl, ?_⟩) hHeld ?_ ?_
  rotate_left
  · rintro w' ⟨s0, s1, s2, s3, s4, s5⟩
    go_simp
    with_reducible rfl
  rotate_left
  · simp only [Act.put, List.setIfInBounds_toArray, List.set_cons_zero, List.set_cons_succ, i64_w, i32_w]
    rfl
  refine pure_ (i := 18) (N := some 58) (v := ?_) (a' := ?_) #[true, true, true, true, true, true, true, true, true, true, true, true, true, true, true, true, true, true, true, false, false, false, false, false, false, false, false, false, false, false, false, false, false, false] rfl rfl (by kernel_rfl) (fun _ _ _ h => h) (Or.inl ⟨by rfl, ?_⟩) ?_ ?_
  rotate_left
  · intro w'
    go_simp
    with_reducible rfl
  rotate_left
  · simp only [Act.put, List.setIfInBounds_toArray, List.set_cons_zero, List.set_cons_succ, i64_w, i32_w]
    rfl
  refine pure_ (i := 19) (N := some 59) (v := ?_) (a' := ?_) #[true, true, true, true, true, true, true, true, true, true, true, true, true, true, true, true, true, true, true, true, false, false, false, false, false, false, false, false, false, false, false, false, false, false] rfl rfl (by kernel_rfl) (fun _ _ _ h => h) (Or.inl ⟨by rfl, ?_⟩) ?_ ?_
  rotate_left
  · intro w'
    go_simp
    with_reducible rfl
  rotate_left
  · simp only [Act.put, List.setIfInBounds_toArray, List.set_cons_zero, List.set_cons_succ, i64_w, i32_w]
    rfl
  refine take_ (i := 20) (N := some 60) (v := ?_) (a' := ?_) #[true, true, true, true, true, true, true, true, true, true, true, true, true, true, true, true, true, true, true, true, true, false, false, false, false, false, false, false, false, false, false, false, false, false] rfl rfl (by kernel_rfl) (fun _ _ _ h => h) (Or.inl ⟨by rfl, ?_⟩) hHeld ?_ ?_
  rotate_left
  · rintro w' ⟨s0, s1, s2, s3, s4, s5⟩
    go_simp
    with_reducible rfl
  rotate_left
  · simp only [Act.put, List.setIfInBounds_toArray, List.set_cons_zero, List.set_cons_succ, i64_w, i32_w]
    rfl
  refine pure_ (i := 21) (N := some 61) (v := ?_) (a' := ?_) #[true, true, true, true, true, true, true, true, true, true, true, true, true, true, true, true, true, true, true, true, true, true, false, false, false, false, false, false, false, false, false, false, false, false] rfl rfl (by kernel_rfl) (fun _ _ _ h => h) (Or.inl ⟨by rfl, ?_⟩) ?_ ?_
  rotate_left
  · intro w'
    go_simp
    with_reducible rfl
  rotate_left
  · simp only [Act.put, List.setIfInBounds_toArray, List.set_cons_zero, List.set_cons_succ, i64_w, i32_w]
    rfl
  refine pure_ (i := 22) (N := some 62) (v := ?_) (a' := ?_) #[true, true, true, true, true, true, true, true, true, true, true, true, true, true, true, true, true, true, true, true, true, true, true, false, false, false, false, false, false, false, false, false, false, false] rfl rfl (by kernel_rfl) (fun _ _ _ h => h) (Or.inl ⟨by rfl, ?_⟩) ?_ ?_
  rotate_left
  · intro w'
    go_simp
    with_reducible rfl
  rotate_left
  · simp only [Act.put, List.setIfInBounds_toArray, List.set_cons_zero, List.set_cons_succ, i64_w, i32_w]
    rfl
  refine pure_ (i := 23) (N := some 63) (v := ?_) (a' := ?_) #[true, true, true, true, true, true, true, true, true, true, true, true, true, true, true, true, true, true, true, true, true, true, true, true, false, false, false, false, false, false, false, false, false, false] rfl rfl (by kernel_rfl) (fun _ _ _ h => h) (Or.inl ⟨by rfl, ?_⟩) ?_ ?_
  rotate_left
  · intro w'
    go_simp
    with_reducible rfl
  rotate_left
  · simp only [Act.put, List.setIfInBounds_toArray, List.set_cons_zero, List.set_cons_succ, i64_w, i32_w]
    rfl
  refine take_ (i := 24) (N := some 64) (v := ?_) (a' := ?_) #[true, true, true, true, true, true, true, true, true, true, true, true, true, true, true, true, true, true, true, true, true, true, true, true, true, false, false, false, false, false, false, false, false, false] rfl rfl (by kernel_rfl) (fun _ _ _ h => h) (Or.inl ⟨by rfl, ?_⟩) hHeld ?_ ?_
  rotate_left
  · rintro w' ⟨s0, s1, s2, s3, s4, s5⟩
    go_simp
    with_reducible rfl
  rotate_left
  · simp only [Act.put, List.setIfInBounds_toArray, List.set_cons_zero, List.set_cons_succ, i64_w, i32_w]
    rfl
  refine pure_ (i := 25) (N := some 65) (v := ?_) (a' := ?_) #[true, true, true, true, true, true, true, true, true, true, true, true, true, true, true, true, true, true, true, true, true, true, true, true, true, true, false, false, false, false, false, false, false, false] rfl rfl (by kernel_rfl) (fun _ _ _ h => h) (Or.inl ⟨by rfl, ?_⟩) ?_ ?_
  rotate_left
  · intro w'
    go_simp
    with_reducible rfl
  rotate_left
  · simp only [Act.put, List.setIfInBounds_toArray, List.set_cons_zero, List.set_cons_succ, i64_w, i32_w]
    rfl
  refine pure_ (i := 26) (N := some 66) (v := ?_) (a' := ?_) #[true, true, true, true, true, true, true, true, true, true, true, true, true, true, true, true, true, true, true, true, true, true, true, true, true, true, true, false, false, false, false, false, false, false] rfl rfl (by kernel_rfl) (fun _ _ _ h => h) (Or.inl ⟨by rfl, ?_⟩) ?_ ?_
  rotate_left
  · intro w'
    go_simp
    with_reducible rfl
  rotate_left
  · simp only [Act.put, List.setIfInBounds_toArray, List.set_cons_zero, List.set_cons_succ, i64_w, i32_w]
    rfl
  refine take_ (i := 27) (N := some 67) (v := ?_) (a' := ?_) #[true, true, true, true, true, true, true, true, true, true, true, true, true, true, true, true, true, true, true, true, true, true, true, true, true, true, true, true, false, false, false, false, false, false] rfl rfl (by kernel_rfl) (fun _ _ _ h => h) (Or.inl ⟨by rfl, ?_⟩) hHeld ?_ ?_
  rotate_left
  · rintro w' ⟨s0, s1, s2, s3, s4, s5⟩
    go_simp
    with_reducible rfl
  rotate_left
  · simp only [Act.put, List.setIfInBounds_toArray, List.set_cons_zero, List.set_cons_succ, i64_w, i32_w]
    rfl
  refine join_ (σ := Nat × Nat) 4 #[true, true, true, true, true, true, true, true, true, true, true, true, true, true, true, true, true, true, true, true, true, true, true, true, true, true, true, true, true, true, false, false, false, false] (fun s => [(7, .pointer (some ⟨s.1, 0, none⟩)), (8, .pointer (some ⟨s.2, 0, none⟩))]) (fun s y => Below W1.heap.size W1 y ∧ MBox W.heap.size y s.1 none .nil ∧ MBox W.heap.size y s.2 none .nil ∧ s.1 ≠ s.2 ∧ W1.heap.size ≤ s.1 ∧ W1.heap.size ≤ s.2) ?_ (fun hJ => ?_)
  rotate_left
  obtain ⟨hbb, bx1, bx2⟩ := two_boxes (n₀ := W.heap.size) (W := W1) hW1.size
  · refine two_ (i := 28) (j := 29) (Ni := some 7) (Nj := some 8) #[true, true, true, true, true, true, true, true, true, true, true, true, true, true, true, true, true, true, true, true, true, true, true, true, true, true, true, true, true, false, false, false, false, false] #[true, true, true, true, true, true, true, true, true, true, true, true, true, true, true, true, true, true, true, true, true, true, true, true, true, true, true, true, false, true, false, false, false, false] rfl rfl rfl rfl (by kernel_rfl) (by decide) (by decide) (fun K hK => ?_) (fun K hK => ?_)
    · refine value_ (w1 := ?_) (v := ?_) (by rfl) rfl ?_ ?_
      rotate_left 2
      · go_simp
        constructor <;> with_reducible rfl
      refine hK.out _ _ (sOf _ (Below.drew (below_one W1 (.cells #[.pointer none] 28)))) (fun hHeld => ?_)
      clear hK K
      refine norm_ (a' := ?_) ?_ ?_
      rotate_left
      · show Act.put _ (some 7) _ = _
        simp only [Act.put, List.setIfInBounds_toArray, List.set_cons_zero, List.set_cons_succ, i64_w, i32_w]
        rfl
      refine one_ (i := 29) (N := some 8) #[true, true, true, true, true, true, true, true, true, true, true, true, true, true, true, true, true, true, true, true, true, true, true, true, true, true, true, true, true, true, false, false, false, false] rfl rfl (by kernel_rfl) (by decide) (fun K hK => ?_)
      refine value_ (w1 := ?_) (v := ?_) (by rfl) rfl ?_ ?_
      rotate_left 2
      · go_simp
        constructor <;> with_reducible rfl
      refine hK.out _ _ (sOf _ hbb) (fun hHeld => ?_)
      clear hK K
      refine norm_ (a' := ?_) ?_ ?_
      rotate_left
      · show Act.put _ (some 8) _ = _
        simp only [Act.put, List.setIfInBounds_toArray, List.set_cons_zero, List.set_cons_succ, i64_w, i32_w]
        rfl
      refine norm_ (a' := putAll _ _) ?_ (hJ (W1.heap.size, W1.heap.size + 1) _ ⟨hbb, bx1, bx2, by simp, by simp, by simp⟩)
      simp only [putAll, Act.put, List.setIfInBounds_toArray, List.set_cons_zero, List.set_cons_succ, i64_w, i32_w]
    · refine value_ (w1 := ?_) (v := ?_) (by rfl) rfl ?_ ?_
      rotate_left 2
      · go_simp
        constructor <;> with_reducible rfl
      refine hK.out _ _ (sOf _ (Below.drew (below_one W1 (.cells #[.pointer none] 28)))) (fun hHeld => ?_)
      clear hK K
      refine norm_ (a' := ?_) ?_ ?_
      rotate_left
      · show Act.put _ (some 8) _ = _
        simp only [Act.put, List.setIfInBounds_toArray, List.set_cons_zero, List.set_cons_succ, i64_w, i32_w]
        rfl
      refine one_ (i := 28) (N := some 7) #[true, true, true, true, true, true, true, true, true, true, true, true, true, true, true, true, true, true, true, true, true, true, true, true, true, true, true, true, true, true, false, false, false, false] rfl rfl (by kernel_rfl) (by decide) (fun K hK => ?_)
      refine value_ (w1 := ?_) (v := ?_) (by rfl) rfl ?_ ?_
      rotate_left 2
      · go_simp
        constructor <;> with_reducible rfl
      refine hK.out _ _ (sOf _ hbb) (fun hHeld => ?_)
      clear hK K
      refine norm_ (a' := ?_) ?_ ?_
      rotate_left
      · show Act.put _ (some 7) _ = _
        simp only [Act.put, List.setIfInBounds_toArray, List.set_cons_zero, List.set_cons_succ, i64_w, i32_w]
        rfl
      refine norm_ (a' := putAll _ _) ?_ (hJ (W1.heap.size + 1, W1.heap.size) _ ⟨hbb, bx2, bx1, by simp, by simp, by simp⟩)
      simp only [putAll, Act.put, List.setIfInBounds_toArray, List.set_cons_zero, List.set_cons_succ, i64_w, i32_w]
  rintro ⟨b7, b8⟩ y ⟨hy, m7, m8, h78, h7, h8⟩
  refine norm_ (a' := ?_) ?_ ?_
  rotate_left
  · simp only [putAll, Act.put, List.setIfInBounds_toArray, List.set_cons_zero, List.set_cons_succ, i64_w, i32_w]
    rfl
  have e7 := m7.cell
  have f7 := m7.fr
  have e8 := m8.cell
  have f8 := m8.fr
  refine one_ (i := 30) (N := none) #[true, true, true, true, true, true, true, true, true, true, true, true, true, true, true, true, true, true, true, true, true, true, true, true, true, true, true, true, true, true, true, false, false, false] rfl rfl (by kernel_rfl) (by decide) (fun K hK => ?_)
  refine skip_ (w1 := ?_) (by rfl) rfl ?_ ?_
  rotate_left
  · go_simp
    with_reducible rfl
  refine hK.out _ _ (sOf _ (hy.setCell (p := ⟨b7, 0, none⟩) h7 _)) (fun hHeld => ?_)
  clear hK K
  have hy7 := hy.setCell (p := ⟨b7, 0, none⟩) h7 (.pointer p1)
  have by0 := hW1.trans (hy.mono hW1.size)
  have n7 := m7.set (g1.tree.later by0)
  have n8 := m8.far m7.tag h78 (.pointer p1)
  have hb1 := m7.belowSet by0 (.pointer p1)
  have e8' := n8.cell
  have f8' := n8.fr
  refine one_ (i := 31) (N := none) #[true, true, true, true, true, true, true, true, true, true, true, true, true, true, true, true, true, true, true, true, true, true, true, true, true, true, true, true, true, true, true, true, false, false] rfl rfl (by kernel_rfl) (by decide) (fun K hK => ?_)
  refine skip_ (w1 := ?_) (by rfl) rfl ?_ ?_
  rotate_left
  · go_simp
    with_reducible rfl
  refine hK.out _ _ (sOf _ (hy7.setCell (p := ⟨b8, 0, none⟩) h8 _)) (fun hHeld => ?_)
  clear hK K
  refine pure_ (i := 32) (N := some 9) (v := ?_) (a' := ?_) #[true, true, true, true, true, true, true, true, true, true, true, true, true, true, true, true, true, true, true, true, true, true, true, true, true, true, true, true, true, true, true, true, true, false] rfl rfl (by kernel_rfl) (fun _ _ _ h => h) (Or.inl ⟨by rfl, ?_⟩) ?_ ?_
  rotate_left
  · intro w'
    go_simp
    with_reducible rfl
  rotate_left
  · simp only [Act.put, List.setIfInBounds_toArray, List.set_cons_zero, List.set_cons_succ, i64_w, i32_w]
    rfl
  refine pure_ (i := 33) (N := some 10) (v := ?_) (a' := ?_) #[true, true, true, true, true, true, true, true, true, true, true, true, true, true, true, true, true, true, true, true, true, true, true, true, true, true, true, true, true, true, true, true, true, true] rfl rfl (by kernel_rfl) (fun _ _ _ h => h) (Or.inl ⟨by rfl, ?_⟩) ?_ ?_
  rotate_left
  · intro w'
    go_simp
    with_reducible rfl
  rotate_left
  · simp only [Act.put, List.setIfInBounds_toArray, List.set_cons_zero, List.set_cons_succ, i64_w, i32_w]
    rfl
  refine done_ (by kernel_rfl) ?_
  have k8 := n8.set (g2.tree.later hb1)
  have k7 := n7.far n8.tag (Ne.symm h78) (.pointer p2)
  have hb2 := n8.belowSet hb1 (.pointer p2)
  have op := ((op.later hy).far (b := b7) (by have := op.lt; omega) (.pointer p1)).far (b := b8) (by have := op.lt; omega) (.pointer p2)
  generalize (y.setCell ⟨b7, 0, none⟩ (.pointer p1)).setCell ⟨b8, 0, none⟩ (.pointer p2) = W2 at k7 k8 hb2 op ⊢
  have hbd : ∀ k, Bad B (.slice (some ⟨bm, 0, none⟩) es.length cm) (.slice (some ⟨bl, 0, none⟩) es.length cl) k → k < W.heap.size := by
    rintro k (h1 | h1 | h1)
    · omega
    · injection h1 with h1; have h1 : bm = k := h1; omega
    · injection h1 with h1; have h1 : bl = k := h1; omega
  obtain ⟨bad, hbad⟩ : ∃ bad : Nat → Prop, bad = fun k => Bad B (.slice (some ⟨bm, 0, none⟩) es.length cm) (.slice (some ⟨bl, 0, none⟩) es.length cl) k ∨ k = b7 := ⟨_, rfl⟩
  have hH : ∀ q l, Holds W (Bad B (.slice (some ⟨bm, 0, none⟩) es.length cm) (.slice (some ⟨bl, 0, none⟩) es.length cl)) q l → Holds W2 bad q l := fun q l hq =>
    (hq.bad (bad' := bad) fun k hk h' => by
      rw [hbad] at h'
      rcases h' with h' | rfl
      · exact h'
      · exact absurd k7.base (by omega)).later hb2
  have st : St W bad O b7 b8 kind ky va p1 p2 (.slice A1 t1.toList.length c1) (.slice A2 t2.toList.length c2) t1 t2 W2 :=
    ⟨hb2, op, k7, k8, hH _ _ g1.row, hH _ _ g2.row, fun k hk => by
      rw [hbad] at hk
      rcases hk with hk | rfl
      · exact Nat.lt_of_lt_of_le (hbd k hk) hb2.size
      · exact k7.lt, by rw [hbad]; exact .inr rfl⟩
  have hbB : ∀ k, Bad B (.slice (some ⟨bm, 0, none⟩) es.length cm) (.slice (some ⟨bl, 0, none⟩) es.length cl) k → bad k := fun k hk => by rw [hbad]; exact .inl hk
  clear hH hy7 sOf op k7 k8 hb2 n7 n8 m7 m8 hbad c0 c1' d0 d1 d2 d3 hi hj t1' t2' w1 w2 nn l1 l2 l3 l4 e7 e8 f7 f8 e8' f8' hb1 by0
  have o0 := st.op.c0
  go_upto_block 0 with fail
  clear o0

  go_cut [9, 11, 70] (fun x9 x11 x70 wc => x11 = .bool true ∧ Rel W bad b7 (ky :: ks) x9 wc)
  case first =>
    obtain ⟨x, hx⟩ : ∃ x, x = W2 := ⟨_, rfl⟩
    rw [← hx]
    rw [← hx] at st
    clear hx
    have hr : kind % 11 = 3 ∨ kind % 11 = 4 ∨ kind % 11 = 5 ∨ kind % 11 = 6 ∨ kind % 11 = 7 ∨ kind % 11 = 8 ∨ kind % 11 = 9 ∨ kind % 11 = 10 ∨ (¬ kind % 11 = 3 ∧ ¬ kind % 11 = 4 ∧ ¬ kind % 11 = 5 ∧ ¬ kind % 11 = 6 ∧ ¬ kind % 11 = 7 ∧ ¬ kind % 11 = 8 ∧ ¬ kind % 11 = 9 ∧ ¬ kind % 11 = 10) := by omega
    have z1 := z1'
    have z2 := z2'
    rcases hr with hr | hr | hr | hr | hr | hr | hr | hr | hr
    · as_aux_lemma =>
        have hr' : kind.tmod 11 = 3 := by rw [Int.tmod_eq_emod_of_nonneg hk0]; exact hr
        have e7 := st.m7.cell
        have e8 := st.m8.cell
        have f7 := st.m7.fr
        have o0 := st.op.c0
        have o3 := st.op.c3
        have o4 := st.op.c4
        go_upto_region 8 with (go_at_call 22; refine (Delete_any t1 ky p1 _ st.m7.tree z1).mono ?_; intro e y hd; obtain ⟨p', is, t', rfl, hy, ht, hl, his⟩ := Deletes.list hd s1; clear hd; have o3' := (st.later hy).op.c3)
        have st := st.later hy
        have nb := MBox.new (n₀ := W.heap.size) (W := y) st.below.size ht
        have st := st.later (below_one y (.cells #[.pointer p'] 28))
        clear o3' e7 e8 f7 o0 o3 o4
        generalize y.alloc (.cells #[.pointer p'] 28) = x1 at st nb ⊢
        generalize y.heap.size = b12 at nb ⊢
        have o3 := st.op.c3
        go_upto_region 9 with (go_at_call 81; refine (refFind st.r1 z1 ky).mono ?_; rintro e x ⟨r, rfl, hr0, hr1, hr2, hx⟩; obtain rfl := find_bool hr1 hr2 his)
        have st := st.later hx
        have nb := nb.below hx
        clear o3 hx
        go_upto_region 9 with fail
        have sOf : ∀ y, Below x.heap.size x y → y.cell? ⟨b12, 0, none⟩ = some (.pointer p') ∧ y.cell? ⟨O, 3, none⟩ = some (.int .i64 ky) := fun y hy => ⟨(nb.below hy).cell, (st.later hy).op.c3⟩
        have hw0 : Below x.heap.size x x.drew := Below.drew (Below.refl _ _)
        refine start_ (n := 7) (S := fun w' => w'.cell? ⟨b12, 0, none⟩ = some (.pointer p') ∧ w'.cell? ⟨O, 3, none⟩ = some (.int .i64 ky)) (ds := [5]) #[false, false, false, false, false, false, false] (by kernel_rfl) rfl rfl (sOf _ (Below.drew (Below.refl _ _))) (fun hHeld => ?_)
        refine take_ (i := 0) (N := some 99) (v := ?_) (a' := ?_) #[true, false, false, false, false, false, false] rfl rfl (by kernel_rfl) (fun _ _ _ h => h) (Or.inl ⟨by rfl, ?_⟩) hHeld ?_ ?_
        rotate_left
        · rintro w' ⟨s0, s1⟩
          go_simp
          with_reducible rfl
        rotate_left
        · simp only [Act.put, List.setIfInBounds_toArray, List.set_cons_zero, List.set_cons_succ, i64_w, i32_w]
          rfl
        refine pure_ (i := 1) (N := some 100) (v := ?_) (a' := ?_) #[true, true, false, false, false, false, false] rfl rfl (by kernel_rfl) (fun _ _ _ h => h) (Or.inl ⟨by rfl, ?_⟩) ?_ ?_
        rotate_left
        · intro w'
          go_simp
          with_reducible rfl
        rotate_left
        · simp only [Act.put, List.setIfInBounds_toArray, List.set_cons_zero, List.set_cons_succ, i64_w, i32_w]
          rfl
        refine pure_ (i := 2) (N := some 101) (v := ?_) (a' := ?_) #[true, true, true, false, false, false, false] rfl rfl (by kernel_rfl) (fun _ _ _ h => h) (Or.inl ⟨by rfl, ?_⟩) ?_ ?_
        rotate_left
        · intro w'
          go_simp
          with_reducible rfl
        rotate_left
        · simp only [Act.put, List.setIfInBounds_toArray, List.set_cons_zero, List.set_cons_succ, i64_w, i32_w]
          rfl
        refine take_ (i := 3) (N := some 102) (v := ?_) (a' := ?_) #[true, true, true, true, false, false, false] rfl rfl (by kernel_rfl) (fun _ _ _ h => h) (Or.inl ⟨by rfl, ?_⟩) hHeld ?_ ?_
        rotate_left
        · rintro w' ⟨s0, s1⟩
          go_simp
          with_reducible rfl
        rotate_left
        · simp only [Act.put, List.setIfInBounds_toArray, List.set_cons_zero, List.set_cons_succ, i64_w, i32_w]
          rfl
        refine one_ (i := 4) (N := some 103) #[true, true, true, true, true, false, false] rfl rfl (by kernel_rfl) (by decide) (fun K hK => ?_)
        refine goes_ Try.func104 (by kernel_rfl) rfl #[.slice A1 t1.toList.length c1, .int .i64 ky] (by rfl) rfl rfl (by (try simp only [List.map_toArray, List.map_cons, List.map_nil]); first | done | rfl) ?_
        refine (refDelete (st.later hw0).r1 s1 z1 (st.later hw0).hb ky).mono ?_
        rintro e y2 ⟨s', rfl, hs', hy2⟩
        refine ⟨_, rfl, ?_⟩
        refine hK.out _ _ (sOf _ (hw0.trans (hy2.mono hw0.size))) (fun hHeld => ?_)
        clear hK K
        refine norm_ (a' := ?_) ?_ ?_
        rotate_left
        · show Act.put _ (some 103) _ = _
          simp only [Act.put, List.setIfInBounds_toArray, List.set_cons_zero, List.set_cons_succ, i64_w, i32_w]
          rfl
        have hw2 := hw0.trans (hy2.mono hw0.size)
        have st := st.later hw2
        have nb := nb.below hw2
        have e7 := st.m7.cell
        have f7 := st.m7.fr
        refine last_ (i := 5) (N := none) #[true, true, true, true, true, true, false] rfl rfl (by kernel_rfl) (by decide) (fun K hK => ?_)
        refine skip_ (w1 := ?_) (by rfl) rfl ?_ ?_
        rotate_left
        · go_simp
          with_reducible rfl
        refine hK.out _ _ ?_
        clear hK K
        refine pure_ (i := 6) (N := some 9) (v := ?_) (a' := ?_) #[true, true, true, true, true, true, true] rfl rfl (by kernel_rfl) (fun _ _ _ h => h) (Or.inl ⟨by rfl, ?_⟩) ?_ ?_
        rotate_left
        · intro w'
          go_simp
          with_reducible rfl
        rotate_left
        · simp only [Act.put, List.setIfInBounds_toArray, List.set_cons_zero, List.set_cons_succ, i64_w, i32_w]
          rfl
        refine done_ (by kernel_rfl) ?_
        go_wp2
        go_meet
        exact ⟨rfl, st.done nb.tree (by rw [hl]; exact hs') (by rw [hl]; exact (remove_ok (K := ky) s1 k1).1) (by rw [hl]; exact (remove_ok s1 k1).2)⟩
    · as_aux_lemma =>
        have hr' : kind.tmod 11 = 4 := by rw [Int.tmod_eq_emod_of_nonneg hk0]; exact hr
        have e7 := st.m7.cell
        have e8 := st.m8.cell
        have f7 := st.m7.fr
        have o0 := st.op.c0
        have o3 := st.op.c3
        have o4 := st.op.c4
        go_upto_region 13 with (go_at_call 32; refine (Split_any t1 ky p1 _ st.m7.tree z1).mono ?_; rintro e y ⟨pl, ph, rfl, hl, hh, hy⟩; have o3' := (st.later hy).op.c3)
        have st := st.later hy
        have n14 := (MBox.new (n₀ := W.heap.size) (W := y) st.below.size hl).below (below_one _ (.cells #[.pointer ph] 28))
        have n17 : MBox W.heap.size ((y.alloc (.cells #[.pointer pl] 28)).alloc (.cells #[.pointer ph] 28)) (y.heap.size + 1) ph (T.cut ky t1).2.2 := by
          have := MBox.new (n₀ := W.heap.size) (W := y.alloc (.cells #[.pointer pl] 28)) (by have := st.below.size; simp; omega) (hh.later (below_one y (.cells #[.pointer pl] 28)))
          simpa using this
        have st := st.later (below_two y (.cells #[.pointer pl] 28) (.cells #[.pointer ph] 28))
        clear o3' e7 e8 f7 o0 o3 o4
        generalize (y.alloc (.cells #[.pointer pl] 28)).alloc (.cells #[.pointer ph] 28) = x1 at st n14 n17 ⊢
        generalize hb14 : y.heap.size = b14 at n14 n17 ⊢
        obtain ⟨b17, hb17⟩ : ∃ b17, b17 = b14 + 1 := ⟨_, rfl⟩
        rw [← hb17] at n17 ⊢
        clear hb14 hb17
        have o3 := st.op.c3
        have hmid := (T.cut_spec ky t1 s1).2.2.2.2
        obtain ⟨hlo, hhi⟩ := cut_ok (K := ky) s1 k1
        go_upto_region 14 with (go_at_call 81; refine (refFind st.r1 z1 ky).mono ?_; rintro e x ⟨r, rfl, hr0, hr1, hr2, hx⟩)
        clear o3
        have o0 := (st.later hx).op.c0
        have fin : (∃ v : Int, optV (T.cut ky t1).2.1 = .int .i64 v ∧ ((isN (T.cut ky t1).2.1 = false ∧ r < 0 ∧ v = 0) ∨ (isN (T.cut ky t1).2.1 = true ∧ 0 ≤ r ∧ r < t1.toList.length ∧ ∃ b o, A1 = some ⟨b, o, none⟩ ∧ x.cell? ⟨b, o + r.toNat * 2 + 1, none⟩ = some (.int .i64 v)))) := by
          rcases hmid with ⟨hm, hno⟩ | ⟨l', v, r', hm, hin⟩
          · rw [hm]
            refine ⟨0, rfl, .inl ⟨rfl, ?_, rfl⟩⟩
            rcases Int.lt_or_le r 0 with h | h
            · exact h
            · obtain ⟨z, hz, e, _⟩ := hr1 h
              exact absurd e (hno z (List.mem_of_getElem? hz))
          · rw [hm]
            refine ⟨v, rfl, .inr ⟨rfl, ?_⟩⟩
            have h0 : 0 ≤ r := by
              rcases Int.lt_or_le r 0 with h | h
              · exact absurd rfl (hr2 h _ hin)
              · exact h
            obtain ⟨z, hz, e, hlt⟩ := hr1 h0
            have hzz := s1.unique (List.mem_of_getElem? hz) hin e
            subst hzz
            obtain ⟨_, _, hrow⟩ := holds_row (st.later hx).r1
            rcases hrow with h | ⟨b, o, hA, _, hc⟩
            · rw [h] at hin; cases hin
            · exact ⟨h0, hlt, b, o, hA, (hc _ _ hz).2⟩
        obtain ⟨v, hv, fin⟩ := fin
        have e15 := Lib.hid hv
        clear hmid hr1 hr2 hv
        rcases fin with ⟨hn, hneg, rfl⟩ | ⟨hn, h0, hlt, rb, ro, rfl, hcell⟩
        · rw [hn, e15.out]
          have q1 : ¬ (0 : Int) ≤ r := by omega
          have q2 : ¬ r ≥ 0 := by omega
          have st := st.later hx
          have nb := n14.below hx
          go_upto_region 16 with fail
          have sOf : ∀ y, Below x.heap.size x y → y.cell? ⟨b14, 0, none⟩ = some (.pointer pl) ∧ y.cell? ⟨O, 3, none⟩ = some (.int .i64 ky) := fun y hy => ⟨(nb.below hy).cell, (st.later hy).op.c3⟩
          have hw0 : Below x.heap.size x x.drew := Below.drew (Below.refl _ _)
          refine start_ (n := 7) (S := fun w' => w'.cell? ⟨b14, 0, none⟩ = some (.pointer pl) ∧ w'.cell? ⟨O, 3, none⟩ = some (.int .i64 ky)) (ds := [5]) #[false, false, false, false, false, false, false] (by kernel_rfl) rfl rfl (sOf _ (Below.drew (Below.refl _ _))) (fun hHeld => ?_)
          refine take_ (i := 0) (N := some 149) (v := ?_) (a' := ?_) #[true, false, false, false, false, false, false] rfl rfl (by kernel_rfl) (fun _ _ _ h => h) (Or.inl ⟨by rfl, ?_⟩) hHeld ?_ ?_
          rotate_left
          · rintro w' ⟨s0, s1⟩
            go_simp
            with_reducible rfl
          rotate_left
          · simp only [Act.put, List.setIfInBounds_toArray, List.set_cons_zero, List.set_cons_succ, i64_w, i32_w]
            rfl
          refine pure_ (i := 1) (N := some 150) (v := ?_) (a' := ?_) #[true, true, false, false, false, false, false] rfl rfl (by kernel_rfl) (fun _ _ _ h => h) (Or.inl ⟨by rfl, ?_⟩) ?_ ?_
          rotate_left
          · intro w'
            go_simp
            with_reducible rfl
          rotate_left
          · simp only [Act.put, List.setIfInBounds_toArray, List.set_cons_zero, List.set_cons_succ, i64_w, i32_w]
            rfl
          refine pure_ (i := 2) (N := some 151) (v := ?_) (a' := ?_) #[true, true, true, false, false, false, false] rfl rfl (by kernel_rfl) (fun _ _ _ h => h) (Or.inl ⟨by rfl, ?_⟩) ?_ ?_
          rotate_left
          · intro w'
            go_simp
            with_reducible rfl
          rotate_left
          · simp only [Act.put, List.setIfInBounds_toArray, List.set_cons_zero, List.set_cons_succ, i64_w, i32_w]
            rfl
          refine take_ (i := 3) (N := some 152) (v := ?_) (a' := ?_) #[true, true, true, true, false, false, false] rfl rfl (by kernel_rfl) (fun _ _ _ h => h) (Or.inl ⟨by rfl, ?_⟩) hHeld ?_ ?_
          rotate_left
          · rintro w' ⟨s0, s1⟩
            go_simp
            with_reducible rfl
          rotate_left
          · simp only [Act.put, List.setIfInBounds_toArray, List.set_cons_zero, List.set_cons_succ, i64_w, i32_w]
            rfl
          refine one_ (i := 4) (N := some 153) #[true, true, true, true, true, false, false] rfl rfl (by kernel_rfl) (by decide) (fun K hK => ?_)
          refine goes_ Try.func105 (by kernel_rfl) rfl #[.slice A1 t1.toList.length c1, .int .i64 ky] (by rfl) rfl rfl (by (try simp only [List.map_toArray, List.map_cons, List.map_nil]); first | done | rfl) ?_
          refine (refBelow (st.later hw0).r1 s1 z1 (st.later hw0).hb ky).mono ?_
          rintro e y2 ⟨s', rfl, hs', hy2⟩
          refine ⟨_, rfl, ?_⟩
          refine hK.out _ _ (sOf _ (hw0.trans (hy2.mono hw0.size))) (fun hHeld => ?_)
          clear hK K
          refine norm_ (a' := ?_) ?_ ?_
          rotate_left
          · show Act.put _ (some 153) _ = _
            simp only [Act.put, List.setIfInBounds_toArray, List.set_cons_zero, List.set_cons_succ, i64_w, i32_w]
            rfl
          have hw2 := hw0.trans (hy2.mono hw0.size)
          have st := st.later hw2
          have nb := nb.below hw2
          have e7 := st.m7.cell
          have f7 := st.m7.fr
          refine last_ (i := 5) (N := none) #[true, true, true, true, true, true, false] rfl rfl (by kernel_rfl) (by decide) (fun K hK => ?_)
          refine skip_ (w1 := ?_) (by rfl) rfl ?_ ?_
          rotate_left
          · go_simp
            with_reducible rfl
          refine hK.out _ _ ?_
          clear hK K
          refine pure_ (i := 6) (N := some 9) (v := ?_) (a' := ?_) #[true, true, true, true, true, true, true] rfl rfl (by kernel_rfl) (fun _ _ _ h => h) (Or.inl ⟨by rfl, ?_⟩) ?_ ?_
          rotate_left
          · intro w'
            go_simp
            with_reducible rfl
          rotate_left
          · simp only [Act.put, List.setIfInBounds_toArray, List.set_cons_zero, List.set_cons_succ, i64_w, i32_w]
            rfl
          refine done_ (by kernel_rfl) ?_
          go_wp2
          go_meet
          exact ⟨rfl, st.done nb.tree (hs') (hlo).1 (hlo).2⟩
        · rw [hn, e15.out]
          have q1 : ¬ r < 0 := by omega
          have q2 : r ≥ 0 := by omega
          have st := st.later hx
          have nb := n14.below hx
          go_upto_region 16 with fail
          have sOf : ∀ y, Below x.heap.size x y → y.cell? ⟨b14, 0, none⟩ = some (.pointer pl) ∧ y.cell? ⟨O, 3, none⟩ = some (.int .i64 ky) := fun y hy => ⟨(nb.below hy).cell, (st.later hy).op.c3⟩
          have hw0 : Below x.heap.size x x.drew := Below.drew (Below.refl _ _)
          refine start_ (n := 7) (S := fun w' => w'.cell? ⟨b14, 0, none⟩ = some (.pointer pl) ∧ w'.cell? ⟨O, 3, none⟩ = some (.int .i64 ky)) (ds := [5]) #[false, false, false, false, false, false, false] (by kernel_rfl) rfl rfl (sOf _ (Below.drew (Below.refl _ _))) (fun hHeld => ?_)
          refine take_ (i := 0) (N := some 149) (v := ?_) (a' := ?_) #[true, false, false, false, false, false, false] rfl rfl (by kernel_rfl) (fun _ _ _ h => h) (Or.inl ⟨by rfl, ?_⟩) hHeld ?_ ?_
          rotate_left
          · rintro w' ⟨s0, s1⟩
            go_simp
            with_reducible rfl
          rotate_left
          · simp only [Act.put, List.setIfInBounds_toArray, List.set_cons_zero, List.set_cons_succ, i64_w, i32_w]
            rfl
          refine pure_ (i := 1) (N := some 150) (v := ?_) (a' := ?_) #[true, true, false, false, false, false, false] rfl rfl (by kernel_rfl) (fun _ _ _ h => h) (Or.inl ⟨by rfl, ?_⟩) ?_ ?_
          rotate_left
          · intro w'
            go_simp
            with_reducible rfl
          rotate_left
          · simp only [Act.put, List.setIfInBounds_toArray, List.set_cons_zero, List.set_cons_succ, i64_w, i32_w]
            rfl
          refine pure_ (i := 2) (N := some 151) (v := ?_) (a' := ?_) #[true, true, true, false, false, false, false] rfl rfl (by kernel_rfl) (fun _ _ _ h => h) (Or.inl ⟨by rfl, ?_⟩) ?_ ?_
          rotate_left
          · intro w'
            go_simp
            with_reducible rfl
          rotate_left
          · simp only [Act.put, List.setIfInBounds_toArray, List.set_cons_zero, List.set_cons_succ, i64_w, i32_w]
            rfl
          refine take_ (i := 3) (N := some 152) (v := ?_) (a' := ?_) #[true, true, true, true, false, false, false] rfl rfl (by kernel_rfl) (fun _ _ _ h => h) (Or.inl ⟨by rfl, ?_⟩) hHeld ?_ ?_
          rotate_left
          · rintro w' ⟨s0, s1⟩
            go_simp
            with_reducible rfl
          rotate_left
          · simp only [Act.put, List.setIfInBounds_toArray, List.set_cons_zero, List.set_cons_succ, i64_w, i32_w]
            rfl
          refine one_ (i := 4) (N := some 153) #[true, true, true, true, true, false, false] rfl rfl (by kernel_rfl) (by decide) (fun K hK => ?_)
          refine goes_ Try.func105 (by kernel_rfl) rfl #[.slice (some ⟨rb, ro, none⟩) t1.toList.length c1, .int .i64 ky] (by rfl) rfl rfl (by (try simp only [List.map_toArray, List.map_cons, List.map_nil]); first | done | rfl) ?_
          refine (refBelow (st.later hw0).r1 s1 z1 (st.later hw0).hb ky).mono ?_
          rintro e y2 ⟨s', rfl, hs', hy2⟩
          refine ⟨_, rfl, ?_⟩
          refine hK.out _ _ (sOf _ (hw0.trans (hy2.mono hw0.size))) (fun hHeld => ?_)
          clear hK K
          refine norm_ (a' := ?_) ?_ ?_
          rotate_left
          · show Act.put _ (some 153) _ = _
            simp only [Act.put, List.setIfInBounds_toArray, List.set_cons_zero, List.set_cons_succ, i64_w, i32_w]
            rfl
          have hw2 := hw0.trans (hy2.mono hw0.size)
          have st := st.later hw2
          have nb := nb.below hw2
          have e7 := st.m7.cell
          have f7 := st.m7.fr
          refine last_ (i := 5) (N := none) #[true, true, true, true, true, true, false] rfl rfl (by kernel_rfl) (by decide) (fun K hK => ?_)
          refine skip_ (w1 := ?_) (by rfl) rfl ?_ ?_
          rotate_left
          · go_simp
            with_reducible rfl
          refine hK.out _ _ ?_
          clear hK K
          refine pure_ (i := 6) (N := some 9) (v := ?_) (a' := ?_) #[true, true, true, true, true, true, true] rfl rfl (by kernel_rfl) (fun _ _ _ h => h) (Or.inl ⟨by rfl, ?_⟩) ?_ ?_
          rotate_left
          · intro w'
            go_simp
            with_reducible rfl
          rotate_left
          · simp only [Act.put, List.setIfInBounds_toArray, List.set_cons_zero, List.set_cons_succ, i64_w, i32_w]
            rfl
          refine done_ (by kernel_rfl) ?_
          go_wp2
          go_meet
          exact ⟨rfl, st.done nb.tree (hs') (hlo).1 (hlo).2⟩

    · as_aux_lemma =>
        have hr' : kind.tmod 11 = 5 := by rw [Int.tmod_eq_emod_of_nonneg hk0]; exact hr
        have e7 := st.m7.cell
        have e8 := st.m8.cell
        have f7 := st.m7.fr
        have o0 := st.op.c0
        have o3 := st.op.c3
        have o4 := st.op.c4
        go_upto_region 13 with (go_at_call 32; refine (Split_any t1 ky p1 _ st.m7.tree z1).mono ?_; rintro e y ⟨pl, ph, rfl, hl, hh, hy⟩; have o3' := (st.later hy).op.c3)
        have st := st.later hy
        have n14 := (MBox.new (n₀ := W.heap.size) (W := y) st.below.size hl).below (below_one _ (.cells #[.pointer ph] 28))
        have n17 : MBox W.heap.size ((y.alloc (.cells #[.pointer pl] 28)).alloc (.cells #[.pointer ph] 28)) (y.heap.size + 1) ph (T.cut ky t1).2.2 := by
          have := MBox.new (n₀ := W.heap.size) (W := y.alloc (.cells #[.pointer pl] 28)) (by have := st.below.size; simp; omega) (hh.later (below_one y (.cells #[.pointer pl] 28)))
          simpa using this
        have st := st.later (below_two y (.cells #[.pointer pl] 28) (.cells #[.pointer ph] 28))
        clear o3' e7 e8 f7 o0 o3 o4
        generalize (y.alloc (.cells #[.pointer pl] 28)).alloc (.cells #[.pointer ph] 28) = x1 at st n14 n17 ⊢
        generalize hb14 : y.heap.size = b14 at n14 n17 ⊢
        obtain ⟨b17, hb17⟩ : ∃ b17, b17 = b14 + 1 := ⟨_, rfl⟩
        rw [← hb17] at n17 ⊢
        clear hb14 hb17
        have o3 := st.op.c3
        have hmid := (T.cut_spec ky t1 s1).2.2.2.2
        obtain ⟨hlo, hhi⟩ := cut_ok (K := ky) s1 k1
        go_upto_region 14 with (go_at_call 81; refine (refFind st.r1 z1 ky).mono ?_; rintro e x ⟨r, rfl, hr0, hr1, hr2, hx⟩)
        clear o3
        have o0 := (st.later hx).op.c0
        have fin : (∃ v : Int, optV (T.cut ky t1).2.1 = .int .i64 v ∧ ((isN (T.cut ky t1).2.1 = false ∧ r < 0 ∧ v = 0) ∨ (isN (T.cut ky t1).2.1 = true ∧ 0 ≤ r ∧ r < t1.toList.length ∧ ∃ b o, A1 = some ⟨b, o, none⟩ ∧ x.cell? ⟨b, o + r.toNat * 2 + 1, none⟩ = some (.int .i64 v)))) := by
          rcases hmid with ⟨hm, hno⟩ | ⟨l', v, r', hm, hin⟩
          · rw [hm]
            refine ⟨0, rfl, .inl ⟨rfl, ?_, rfl⟩⟩
            rcases Int.lt_or_le r 0 with h | h
            · exact h
            · obtain ⟨z, hz, e, _⟩ := hr1 h
              exact absurd e (hno z (List.mem_of_getElem? hz))
          · rw [hm]
            refine ⟨v, rfl, .inr ⟨rfl, ?_⟩⟩
            have h0 : 0 ≤ r := by
              rcases Int.lt_or_le r 0 with h | h
              · exact absurd rfl (hr2 h _ hin)
              · exact h
            obtain ⟨z, hz, e, hlt⟩ := hr1 h0
            have hzz := s1.unique (List.mem_of_getElem? hz) hin e
            subst hzz
            obtain ⟨_, _, hrow⟩ := holds_row (st.later hx).r1
            rcases hrow with h | ⟨b, o, hA, _, hc⟩
            · rw [h] at hin; cases hin
            · exact ⟨h0, hlt, b, o, hA, (hc _ _ hz).2⟩
        obtain ⟨v, hv, fin⟩ := fin
        have e15 := Lib.hid hv
        clear hmid hr1 hr2 hv
        rcases fin with ⟨hn, hneg, rfl⟩ | ⟨hn, h0, hlt, rb, ro, rfl, hcell⟩
        · rw [hn, e15.out]
          have q1 : ¬ (0 : Int) ≤ r := by omega
          have q2 : ¬ r ≥ 0 := by omega
          have st := st.later hx
          have nb := n17.below hx
          go_upto_region 17 with fail
          have sOf : ∀ y, Below x.heap.size x y → y.cell? ⟨b17, 0, none⟩ = some (.pointer ph) ∧ y.cell? ⟨O, 3, none⟩ = some (.int .i64 ky) := fun y hy => ⟨(nb.below hy).cell, (st.later hy).op.c3⟩
          have hw0 : Below x.heap.size x x.drew := Below.drew (Below.refl _ _)
          refine start_ (n := 7) (S := fun w' => w'.cell? ⟨b17, 0, none⟩ = some (.pointer ph) ∧ w'.cell? ⟨O, 3, none⟩ = some (.int .i64 ky)) (ds := [5]) #[false, false, false, false, false, false, false] (by kernel_rfl) rfl rfl (sOf _ (Below.drew (Below.refl _ _))) (fun hHeld => ?_)
          refine take_ (i := 0) (N := some 154) (v := ?_) (a' := ?_) #[true, false, false, false, false, false, false] rfl rfl (by kernel_rfl) (fun _ _ _ h => h) (Or.inl ⟨by rfl, ?_⟩) hHeld ?_ ?_
          rotate_left
          · rintro w' ⟨s0, s1⟩
            go_simp
            with_reducible rfl
          rotate_left
          · simp only [Act.put, List.setIfInBounds_toArray, List.set_cons_zero, List.set_cons_succ, i64_w, i32_w]
            rfl
          refine pure_ (i := 1) (N := some 155) (v := ?_) (a' := ?_) #[true, true, false, false, false, false, false] rfl rfl (by kernel_rfl) (fun _ _ _ h => h) (Or.inl ⟨by rfl, ?_⟩) ?_ ?_
          rotate_left
          · intro w'
            go_simp
            with_reducible rfl
          rotate_left
          · simp only [Act.put, List.setIfInBounds_toArray, List.set_cons_zero, List.set_cons_succ, i64_w, i32_w]
            rfl
          refine pure_ (i := 2) (N := some 156) (v := ?_) (a' := ?_) #[true, true, true, false, false, false, false] rfl rfl (by kernel_rfl) (fun _ _ _ h => h) (Or.inl ⟨by rfl, ?_⟩) ?_ ?_
          rotate_left
          · intro w'
            go_simp
            with_reducible rfl
          rotate_left
          · simp only [Act.put, List.setIfInBounds_toArray, List.set_cons_zero, List.set_cons_succ, i64_w, i32_w]
            rfl
          refine take_ (i := 3) (N := some 157) (v := ?_) (a' := ?_) #[true, true, true, true, false, false, false] rfl rfl (by kernel_rfl) (fun _ _ _ h => h) (Or.inl ⟨by rfl, ?_⟩) hHeld ?_ ?_
          rotate_left
          · rintro w' ⟨s0, s1⟩
            go_simp
            with_reducible rfl
          rotate_left
          · simp only [Act.put, List.setIfInBounds_toArray, List.set_cons_zero, List.set_cons_succ, i64_w, i32_w]
            rfl
          refine one_ (i := 4) (N := some 158) #[true, true, true, true, true, false, false] rfl rfl (by kernel_rfl) (by decide) (fun K hK => ?_)
          refine goes_ Try.func106 (by kernel_rfl) rfl #[.slice A1 t1.toList.length c1, .int .i64 ky] (by rfl) rfl rfl (by (try simp only [List.map_toArray, List.map_cons, List.map_nil]); first | done | rfl) ?_
          refine (refAbove (st.later hw0).r1 s1 z1 (st.later hw0).hb ky).mono ?_
          rintro e y2 ⟨s', rfl, hs', hy2⟩
          refine ⟨_, rfl, ?_⟩
          refine hK.out _ _ (sOf _ (hw0.trans (hy2.mono hw0.size))) (fun hHeld => ?_)
          clear hK K
          refine norm_ (a' := ?_) ?_ ?_
          rotate_left
          · show Act.put _ (some 158) _ = _
            simp only [Act.put, List.setIfInBounds_toArray, List.set_cons_zero, List.set_cons_succ, i64_w, i32_w]
            rfl
          have hw2 := hw0.trans (hy2.mono hw0.size)
          have st := st.later hw2
          have nb := nb.below hw2
          have e7 := st.m7.cell
          have f7 := st.m7.fr
          refine last_ (i := 5) (N := none) #[true, true, true, true, true, true, false] rfl rfl (by kernel_rfl) (by decide) (fun K hK => ?_)
          refine skip_ (w1 := ?_) (by rfl) rfl ?_ ?_
          rotate_left
          · go_simp
            with_reducible rfl
          refine hK.out _ _ ?_
          clear hK K
          refine pure_ (i := 6) (N := some 9) (v := ?_) (a' := ?_) #[true, true, true, true, true, true, true] rfl rfl (by kernel_rfl) (fun _ _ _ h => h) (Or.inl ⟨by rfl, ?_⟩) ?_ ?_
          rotate_left
          · intro w'
            go_simp
            with_reducible rfl
          rotate_left
          · simp only [Act.put, List.setIfInBounds_toArray, List.set_cons_zero, List.set_cons_succ, i64_w, i32_w]
            rfl
          refine done_ (by kernel_rfl) ?_
          go_wp2
          go_meet
          exact ⟨rfl, st.done nb.tree (hs') (hhi).1 (hhi).2⟩
        · rw [hn, e15.out]
          have q1 : ¬ r < 0 := by omega
          have q2 : r ≥ 0 := by omega
          have st := st.later hx
          have nb := n17.below hx
          go_upto_region 17 with fail
          have sOf : ∀ y, Below x.heap.size x y → y.cell? ⟨b17, 0, none⟩ = some (.pointer ph) ∧ y.cell? ⟨O, 3, none⟩ = some (.int .i64 ky) := fun y hy => ⟨(nb.below hy).cell, (st.later hy).op.c3⟩
          have hw0 : Below x.heap.size x x.drew := Below.drew (Below.refl _ _)
          refine start_ (n := 7) (S := fun w' => w'.cell? ⟨b17, 0, none⟩ = some (.pointer ph) ∧ w'.cell? ⟨O, 3, none⟩ = some (.int .i64 ky)) (ds := [5]) #[false, false, false, false, false, false, false] (by kernel_rfl) rfl rfl (sOf _ (Below.drew (Below.refl _ _))) (fun hHeld => ?_)
          refine take_ (i := 0) (N := some 154) (v := ?_) (a' := ?_) #[true, false, false, false, false, false, false] rfl rfl (by kernel_rfl) (fun _ _ _ h => h) (Or.inl ⟨by rfl, ?_⟩) hHeld ?_ ?_
          rotate_left
          · rintro w' ⟨s0, s1⟩
            go_simp
            with_reducible rfl
          rotate_left
          · simp only [Act.put, List.setIfInBounds_toArray, List.set_cons_zero, List.set_cons_succ, i64_w, i32_w]
            rfl
          refine pure_ (i := 1) (N := some 155) (v := ?_) (a' := ?_) #[true, true, false, false, false, false, false] rfl rfl (by kernel_rfl) (fun _ _ _ h => h) (Or.inl ⟨by rfl, ?_⟩) ?_ ?_
          rotate_left
          · intro w'
            go_simp
            with_reducible rfl
          rotate_left
          · simp only [Act.put, List.setIfInBounds_toArray, List.set_cons_zero, List.set_cons_succ, i64_w, i32_w]
            rfl
          refine pure_ (i := 2) (N := some 156) (v := ?_) (a' := ?_) #[true, true, true, false, false, false, false] rfl rfl (by kernel_rfl) (fun _ _ _ h => h) (Or.inl ⟨by rfl, ?_⟩) ?_ ?_
          rotate_left
          · intro w'
            go_simp
            with_reducible rfl
          rotate_left
          · simp only [Act.put, List.setIfInBounds_toArray, List.set_cons_zero, List.set_cons_succ, i64_w, i32_w]
            rfl
          refine take_ (i := 3) (N := some 157) (v := ?_) (a' := ?_) #[true, true, true, true, false, false, false] rfl rfl (by kernel_rfl) (fun _ _ _ h => h) (Or.inl ⟨by rfl, ?_⟩) hHeld ?_ ?_
          rotate_left
          · rintro w' ⟨s0, s1⟩
            go_simp
            with_reducible rfl
          rotate_left
          · simp only [Act.put, List.setIfInBounds_toArray, List.set_cons_zero, List.set_cons_succ, i64_w, i32_w]
            rfl
          refine one_ (i := 4) (N := some 158) #[true, true, true, true, true, false, false] rfl rfl (by kernel_rfl) (by decide) (fun K hK => ?_)
          refine goes_ Try.func106 (by kernel_rfl) rfl #[.slice (some ⟨rb, ro, none⟩) t1.toList.length c1, .int .i64 ky] (by rfl) rfl rfl (by (try simp only [List.map_toArray, List.map_cons, List.map_nil]); first | done | rfl) ?_
          refine (refAbove (st.later hw0).r1 s1 z1 (st.later hw0).hb ky).mono ?_
          rintro e y2 ⟨s', rfl, hs', hy2⟩
          refine ⟨_, rfl, ?_⟩
          refine hK.out _ _ (sOf _ (hw0.trans (hy2.mono hw0.size))) (fun hHeld => ?_)
          clear hK K
          refine norm_ (a' := ?_) ?_ ?_
          rotate_left
          · show Act.put _ (some 158) _ = _
            simp only [Act.put, List.setIfInBounds_toArray, List.set_cons_zero, List.set_cons_succ, i64_w, i32_w]
            rfl
          have hw2 := hw0.trans (hy2.mono hw0.size)
          have st := st.later hw2
          have nb := nb.below hw2
          have e7 := st.m7.cell
          have f7 := st.m7.fr
          refine last_ (i := 5) (N := none) #[true, true, true, true, true, true, false] rfl rfl (by kernel_rfl) (by decide) (fun K hK => ?_)
          refine skip_ (w1 := ?_) (by rfl) rfl ?_ ?_
          rotate_left
          · go_simp
            with_reducible rfl
          refine hK.out _ _ ?_
          clear hK K
          refine pure_ (i := 6) (N := some 9) (v := ?_) (a' := ?_) #[true, true, true, true, true, true, true] rfl rfl (by kernel_rfl) (fun _ _ _ h => h) (Or.inl ⟨by rfl, ?_⟩) ?_ ?_
          rotate_left
          · intro w'
            go_simp
            with_reducible rfl
          rotate_left
          · simp only [Act.put, List.setIfInBounds_toArray, List.set_cons_zero, List.set_cons_succ, i64_w, i32_w]
            rfl
          refine done_ (by kernel_rfl) ?_
          go_wp2
          go_meet
          exact ⟨rfl, st.done nb.tree (hs') (hhi).1 (hhi).2⟩

    · as_aux_lemma =>
        have hr' : kind.tmod 11 = 6 := by rw [Int.tmod_eq_emod_of_nonneg hk0]; exact hr
        go_upto_region 19 with fail
        have sOf : ∀ y, Below x.heap.size x y → y.cell? ⟨b7, 0, none⟩ = some (.pointer p1) ∧ y.cell? ⟨O, 3, none⟩ = some (.int .i64 ky) ∧ y.cell? ⟨O, 4, none⟩ = some (.int .i64 va) := fun y hy => ⟨(st.later hy).m7.cell, (st.later hy).op.c3, (st.later hy).op.c4⟩
        have hw0 : Below x.heap.size x x.drew := Below.drew (Below.refl _ _)
        refine start_ (n := 14) (S := fun w' => w'.cell? ⟨b7, 0, none⟩ = some (.pointer p1) ∧ w'.cell? ⟨O, 3, none⟩ = some (.int .i64 ky) ∧ w'.cell? ⟨O, 4, none⟩ = some (.int .i64 va)) (ds := [12]) #[false, false, false, false, false, false, false, false, false, false, false, false, false, false] (by kernel_rfl) rfl rfl (sOf _ (Below.drew (Below.refl _ _))) (fun hHeld => ?_)
        refine take_ (i := 0) (N := some 161) (v := ?_) (a' := ?_) #[true, false, false, false, false, false, false, false, false, false, false, false, false, false] rfl rfl (by kernel_rfl) (fun _ _ _ h => h) (Or.inl ⟨by rfl, ?_⟩) hHeld ?_ ?_
        rotate_left
        · rintro w' ⟨s0, s1, s2⟩
          go_simp
          with_reducible rfl
        rotate_left
        · simp only [Act.put, List.setIfInBounds_toArray, List.set_cons_zero, List.set_cons_succ, i64_w, i32_w]
          rfl
        refine pure_ (i := 1) (N := some 162) (v := ?_) (a' := ?_) #[true, true, false, false, false, false, false, false, false, false, false, false, false, false] rfl rfl (by kernel_rfl) (fun _ _ _ h => h) (Or.inl ⟨by rfl, ?_⟩) ?_ ?_
        rotate_left
        · intro w'
          go_simp
          with_reducible rfl
        rotate_left
        · simp only [Act.put, List.setIfInBounds_toArray, List.set_cons_zero, List.set_cons_succ, i64_w, i32_w]
          rfl
        refine take_ (i := 2) (N := some 163) (v := ?_) (a' := ?_) #[true, true, true, false, false, false, false, false, false, false, false, false, false, false] rfl rfl (by kernel_rfl) (fun _ _ _ h => h) (Or.inl ⟨by rfl, ?_⟩) hHeld ?_ ?_
        rotate_left
        · rintro w' ⟨s0, s1, s2⟩
          go_simp
          with_reducible rfl
        rotate_left
        · simp only [Act.put, List.setIfInBounds_toArray, List.set_cons_zero, List.set_cons_succ, i64_w, i32_w]
          rfl
        refine pure_ (i := 3) (N := some 164) (v := ?_) (a' := ?_) #[true, true, true, true, false, false, false, false, false, false, false, false, false, false] rfl rfl (by kernel_rfl) (fun _ _ _ h => h) (Or.inl ⟨by rfl, ?_⟩) ?_ ?_
        rotate_left
        · intro w'
          go_simp
          with_reducible rfl
        rotate_left
        · simp only [Act.put, List.setIfInBounds_toArray, List.set_cons_zero, List.set_cons_succ, i64_w, i32_w]
          rfl
        refine take_ (i := 4) (N := some 165) (v := ?_) (a' := ?_) #[true, true, true, true, true, false, false, false, false, false, false, false, false, false] rfl rfl (by kernel_rfl) (fun _ _ _ h => h) (Or.inl ⟨by rfl, ?_⟩) hHeld ?_ ?_
        rotate_left
        · rintro w' ⟨s0, s1, s2⟩
          go_simp
          with_reducible rfl
        rotate_left
        · simp only [Act.put, List.setIfInBounds_toArray, List.set_cons_zero, List.set_cons_succ, i64_w, i32_w]
          rfl
        refine pure_ (i := 6) (N := some 167) (v := ?_) (a' := ?_) #[true, true, true, true, true, false, true, false, false, false, false, false, false, false] rfl rfl (by kernel_rfl) (fun _ _ _ h => h) (Or.inl ⟨by rfl, ?_⟩) ?_ ?_
        rotate_left
        · intro w'
          go_simp
          with_reducible rfl
        rotate_left
        · simp only [Act.put, List.setIfInBounds_toArray, List.set_cons_zero, List.set_cons_succ, i64_w, i32_w]
          rfl
        refine pure_ (i := 7) (N := some 168) (v := ?_) (a' := ?_) #[true, true, true, true, true, false, true, true, false, false, false, false, false, false] rfl rfl (by kernel_rfl) (fun _ _ _ h => h) (Or.inl ⟨by rfl, ?_⟩) ?_ ?_
        rotate_left
        · intro w'
          go_simp
          with_reducible rfl
        rotate_left
        · simp only [Act.put, List.setIfInBounds_toArray, List.set_cons_zero, List.set_cons_succ, i64_w, i32_w]
          rfl
        refine take_ (i := 8) (N := some 169) (v := ?_) (a' := ?_) #[true, true, true, true, true, false, true, true, true, false, false, false, false, false] rfl rfl (by kernel_rfl) (fun _ _ _ h => h) (Or.inl ⟨by rfl, ?_⟩) hHeld ?_ ?_
        rotate_left
        · rintro w' ⟨s0, s1, s2⟩
          go_simp
          with_reducible rfl
        rotate_left
        · simp only [Act.put, List.setIfInBounds_toArray, List.set_cons_zero, List.set_cons_succ, i64_w, i32_w]
          rfl
        refine pure_ (i := 9) (N := some 170) (v := ?_) (a' := ?_) #[true, true, true, true, true, false, true, true, true, true, false, false, false, false] rfl rfl (by kernel_rfl) (fun _ _ _ h => h) (Or.inl ⟨by rfl, ?_⟩) ?_ ?_
        rotate_left
        · intro w'
          go_simp
          with_reducible rfl
        rotate_left
        · simp only [Act.put, List.setIfInBounds_toArray, List.set_cons_zero, List.set_cons_succ, i64_w, i32_w]
          rfl
        refine take_ (i := 10) (N := some 171) (v := ?_) (a' := ?_) #[true, true, true, true, true, false, true, true, true, true, true, false, false, false] rfl rfl (by kernel_rfl) (fun _ _ _ h => h) (Or.inl ⟨by rfl, ?_⟩) hHeld ?_ ?_
        rotate_left
        · rintro w' ⟨s0, s1, s2⟩
          go_simp
          with_reducible rfl
        rotate_left
        · simp only [Act.put, List.setIfInBounds_toArray, List.set_cons_zero, List.set_cons_succ, i64_w, i32_w]
          rfl
        refine one_ (i := 5) (N := some 166) #[true, true, true, true, true, true, true, true, true, true, true, false, false, false] rfl rfl (by kernel_rfl) (by decide) (fun K hK => ?_)
        refine goes_ Try.func36 (by kernel_rfl) rfl #[.agg #[.pointer p1], .int .i64 ky, .int .i64 va] (by rfl) rfl rfl (by (try simp only [List.map_toArray, List.map_cons, List.map_nil]); first | done | rfl) ?_
        refine (Range_any t1 ky va p1 _ (st.later hw0).m7.tree (by omega)).mono ?_
        rintro e y1 ⟨p', rfl, hp', hy1⟩
        refine ⟨_, rfl, ?_⟩
        refine hK.out _ _ (sOf _ (hw0.trans (hy1.mono hw0.size))) (fun hHeld => ?_)
        clear hK K
        refine norm_ (a' := ?_) ?_ ?_
        rotate_left
        · show Act.put _ (some 166) _ = _
          simp only [Act.put, List.setIfInBounds_toArray, List.set_cons_zero, List.set_cons_succ, i64_w, i32_w]
          rfl
        have hw1 := hw0.trans (hy1.mono hw0.size)
        refine one_ (i := 11) (N := some 172) #[true, true, true, true, true, true, true, true, true, true, true, true, false, false] rfl rfl (by kernel_rfl) (by decide) (fun K hK => ?_)
        refine goes_ Try.func107 (by kernel_rfl) rfl #[.slice A1 t1.toList.length c1, .int .i64 ky, .int .i64 va] (by rfl) rfl rfl (by (try simp only [List.map_toArray, List.map_cons, List.map_nil]); first | done | rfl) ?_
        refine (refRange (st.later hw1).r1 s1 z1 (st.later hw1).hb ky va).mono ?_
        rintro e y2 ⟨s', rfl, hs', hy2⟩
        refine ⟨_, rfl, ?_⟩
        refine hK.out _ _ (sOf _ (hw1.trans (hy2.mono hw1.size))) (fun hHeld => ?_)
        clear hK K
        refine norm_ (a' := ?_) ?_ ?_
        rotate_left
        · show Act.put _ (some 172) _ = _
          simp only [Act.put, List.setIfInBounds_toArray, List.set_cons_zero, List.set_cons_succ, i64_w, i32_w]
          rfl
        have hw2 := hw1.trans (hy2.mono hw1.size)
        have st := st.later hw2
        have e7 := st.m7.cell
        have f7 := st.m7.fr
        refine last_ (i := 12) (N := none) #[true, true, true, true, true, true, true, true, true, true, true, true, true, false] rfl rfl (by kernel_rfl) (by decide) (fun K hK => ?_)
        refine skip_ (w1 := ?_) (by rfl) rfl ?_ ?_
        rotate_left
        · go_simp
          with_reducible rfl
        refine hK.out _ _ ?_
        clear hK K
        refine pure_ (i := 13) (N := some 9) (v := ?_) (a' := ?_) #[true, true, true, true, true, true, true, true, true, true, true, true, true, true] rfl rfl (by kernel_rfl) (fun _ _ _ h => h) (Or.inl ⟨by rfl, ?_⟩) ?_ ?_
        rotate_left
        · intro w'
          go_simp
          with_reducible rfl
        rotate_left
        · simp only [Act.put, List.setIfInBounds_toArray, List.set_cons_zero, List.set_cons_succ, i64_w, i32_w]
          rfl
        refine done_ (by kernel_rfl) ?_
        go_wp2
        go_meet
        exact ⟨rfl, st.done (hp'.later hy2) hs' (range_ok (K := ky) (E := va) s1 k1).1 (range_ok (K := ky) (E := va) s1 k1).2⟩
    · as_aux_lemma =>
        have hr' : kind.tmod 11 = 7 := by rw [Int.tmod_eq_emod_of_nonneg hk0]; exact hr
        have e7 := st.m7.cell
        have e8 := st.m8.cell
        have f7 := st.m7.fr
        have o0 := st.op.c0
        have o3 := st.op.c3
        have o4 := st.op.c4
        go_upto_region 22 with (go_at_call 33; refine (Join_any t1 t2 p1 p2 _ st.m7.tree st.m8.tree (by omega)).mono ?_; rintro e y ⟨pj, ce, rfl, hy, hj⟩)
        have st := st.later hy
        have hyb := st.below.size
        have st := st.later (below_one y (.cells #[.pointer pj] 28))
        have hj' : (joinsL t1.toList t2.toList = true ∧ ce = 0 ∧ Tr y.heap.size y pj (T.merge t1 t2)) ∨ (joinsL t1.toList t2.toList = false ∧ ce = 2 ∧ pj = none) := by
          rcases hj with ⟨h1, h2, h3⟩ | ⟨h1, h2, h3⟩
          · rw [joins_clash] at h1; exact .inl ⟨by simpa using h1, h2, h3⟩
          · rw [joins_clash] at h1; exact .inr ⟨by simpa using h1, h2, h3⟩
        clear hj
        clear e7 e8 f7 o0 o3 o4
        rcases hj' with ⟨hj, rfl, ht⟩ | ⟨hj, rfl, rfl⟩
        · have nb := MBox.new (n₀ := W.heap.size) (W := y) (t := T.merge t1 t2) hyb ht
          generalize y.alloc (.cells #[.pointer pj] 28) = x1 at st nb ⊢
          generalize y.heap.size = b19 at nb ⊢
          obtain ⟨j1, j2, j3⟩ := merge_ok (K := ky) s1 s2 k1 k2 hj
          go_upto_region 24 with (go_at_call 108; refine (refJoins st.r1 st.r2 z1).mono ?_; rw [hj]; rintro e x ⟨rfl, hx⟩)
          have st := st.later hx
          have nb := nb.below hx
          have e19 := nb.cell
          have e7 := st.m7.cell
          have f7 := st.m7.fr
          go_upto_region 25 with fail
          have m7' := st.m7.set nb.tree
          have bl' := st.m7.belowSet st.below (.pointer pj)
          have far : ∀ k, ¬ bad k → (x.setCell ⟨b7, 0, none⟩ (.pointer pj)).heap[k]? = x.heap[k]? := fun k hk => Below.heap_setCell x ⟨b7, 0, none⟩ _ k fun e => hk (by rw [show k = b7 from e]; exact st.b7bad)
          have r1' := st.r1.step fun k hk _ => far k hk
          have r2' := st.r2.step fun k hk _ => far k hk
          have hb' : ∀ k, bad k → k < (x.setCell ⟨b7, 0, none⟩ (.pointer pj)).heap.size := fun k hk => by rw [size_set]; exact st.hb k hk
          clear e19 e7 f7 far
          generalize x.setCell ⟨b7, 0, none⟩ (.pointer pj) = x' at m7' bl' r1' r2' hb' ⊢
          go_wp2_with (go_at_call 86; refine (refUnion r1' r2' s1 s2 (by omega) hb').mono ?_; rintro e z ⟨s', rfl, hs', hz⟩)
          go_meet
          exact ⟨rfl, bl'.trans (hz.mono bl'.size), _, _, m7'.below hz, by rw [← j3]; exact hs', j1, j2⟩
        · have nb := MBox.new (n₀ := W.heap.size) (W := y) (t := .nil) hyb rfl
          generalize y.alloc (.cells #[.pointer none] 28) = x1 at st nb ⊢
          generalize y.heap.size = b19 at nb ⊢
          go_upto_region 24 with (go_at_call 108; refine (refJoins st.r1 st.r2 z1).mono ?_; rw [hj]; rintro e x ⟨rfl, hx⟩)
          have st := st.later hx
          have nb := nb.below hx
          have e19 := nb.cell
          have e7 := st.m7.cell
          have f7 := st.m7.fr
          go_upto_region 25 with fail
          have m7' := st.m7.set nb.tree
          have bl' := st.m7.belowSet st.below (.pointer none)
          have far : ∀ k, ¬ bad k → (x.setCell ⟨b7, 0, none⟩ (.pointer none)).heap[k]? = x.heap[k]? := fun k hk => Below.heap_setCell x ⟨b7, 0, none⟩ _ k fun e => hk (by rw [show k = b7 from e]; exact st.b7bad)
          have r1' := st.r1.step fun k hk _ => far k hk
          have r2' := st.r2.step fun k hk _ => far k hk
          have hb' : ∀ k, bad k → k < (x.setCell ⟨b7, 0, none⟩ (.pointer none)).heap.size := fun k hk => by rw [size_set]; exact st.hb k hk
          clear e19 e7 f7 far
          generalize x.setCell ⟨b7, 0, none⟩ (.pointer none) = x' at m7' bl' r1' r2' hb' ⊢
          go_wp2_with fail
          go_meet
          exact ⟨rfl, bl', _, _, m7', Kd.V_nil _ _ _ _ _, List.Pairwise.nil, fun q hq => (List.not_mem_nil hq).elim⟩

    · as_aux_lemma =>
        have hr' : kind.tmod 11 = 8 := by rw [Int.tmod_eq_emod_of_nonneg hk0]; exact hr
        have e7 := st.m7.cell
        have e8 := st.m8.cell
        have f7 := st.m7.fr
        have o0 := st.op.c0
        have o3 := st.op.c3
        have o4 := st.op.c4
        go_wp2_with (first
          | (go_at_call 34; refine (Union_any t1 t2 p1 p2 _ st.m7.tree st.m8.tree (by omega)).mono ?_; rintro e y ⟨p', rfl, ht, hy⟩; have st := st.later hy)
          | (go_at_call 86; refine (refUnion st.r1 st.r2 s1 s2 (by omega) st.hb).mono ?_; rintro e z ⟨s', rfl, hs', hz⟩; have st := st.later hz; have e7' := st.m7.cell; have f7' := st.m7.fr))
        go_meet
        exact ⟨rfl, st.done (ht.later hz) hs' (union_ok (K := ky) s1 s2 k1 k2).1 (union_ok (K := ky) s1 s2 k1 k2).2⟩
    · as_aux_lemma =>
        have hr' : kind.tmod 11 = 9 := by rw [Int.tmod_eq_emod_of_nonneg hk0]; exact hr
        have e7 := st.m7.cell
        have e8 := st.m8.cell
        have f7 := st.m7.fr
        have o0 := st.op.c0
        have o3 := st.op.c3
        have o4 := st.op.c4
        go_wp2_with (first
          | (go_at_call 39; refine (Intersect_any t1 t2 p1 p2 _ st.m7.tree st.m8.tree (by omega)).mono ?_; rintro e y ⟨p', rfl, ht, hy⟩; have st := st.later hy)
          | (go_at_call 109; refine (refIntersect st.r1 st.r2 s1 s2 z1 z2 st.hb).mono ?_; rintro e z ⟨s', rfl, hs', hz⟩; have st := st.later hz; have e7' := st.m7.cell; have f7' := st.m7.fr))
        go_meet
        exact ⟨rfl, st.done (ht.later hz) hs' (intersect_ok (K := ky) s1 s2 k2).1 (intersect_ok (K := ky) s1 s2 k2).2⟩
    · as_aux_lemma =>
        have hr' : kind.tmod 11 = 10 := by rw [Int.tmod_eq_emod_of_nonneg hk0]; exact hr
        have e7 := st.m7.cell
        have e8 := st.m8.cell
        have f7 := st.m7.fr
        have o0 := st.op.c0
        have o3 := st.op.c3
        have o4 := st.op.c4
        go_wp2_with (first
          | (go_at_call 35; refine (Subtract_any t1 t2 p1 p2 _ st.m7.tree st.m8.tree (by omega)).mono ?_; rintro e y ⟨p', rfl, ht, hy⟩; have st := st.later hy)
          | (go_at_call 110; refine (refSubtract st.r1 st.r2 s1 s2 z1 z2 st.hb).mono ?_; rintro e z ⟨s', rfl, hs', hz⟩; have st := st.later hz; have e7' := st.m7.cell; have f7' := st.m7.fr))
        go_meet
        exact ⟨rfl, st.done (ht.later hz) hs' (subtract_ok (K := ky) s1 s2 k1).1 (subtract_ok (K := ky) s1 s2 k1).2⟩
    · as_aux_lemma =>
        have hr' : kind.tmod 11 = kind % 11 := Int.tmod_eq_emod_of_nonneg hk0
        obtain ⟨r, hrr⟩ : ∃ r, kind % 11 = r := ⟨_, rfl⟩
        rw [hrr] at hr hr'
        obtain ⟨n3, n4, n5, n6, n7, n8, n9, n10⟩ := hr
        go_upto_region 5 with fail
        have sOf : ∀ y, Below x.heap.size x y → y.cell? ⟨b7, 0, none⟩ = some (.pointer p1) ∧ y.cell? ⟨O, 3, none⟩ = some (.int .i64 ky) ∧ y.cell? ⟨O, 4, none⟩ = some (.int .i64 va) := fun y hy => ⟨(st.later hy).m7.cell, (st.later hy).op.c3, (st.later hy).op.c4⟩
        have hw0 : Below x.heap.size x x.drew := Below.drew (Below.refl _ _)
        refine start_ (n := 14) (S := fun w' => w'.cell? ⟨b7, 0, none⟩ = some (.pointer p1) ∧ w'.cell? ⟨O, 3, none⟩ = some (.int .i64 ky) ∧ w'.cell? ⟨O, 4, none⟩ = some (.int .i64 va)) (ds := [12]) #[false, false, false, false, false, false, false, false, false, false, false, false, false, false] (by kernel_rfl) rfl rfl (sOf _ (Below.drew (Below.refl _ _))) (fun hHeld => ?_)
        refine take_ (i := 0) (N := some 71) (v := ?_) (a' := ?_) #[true, false, false, false, false, false, false, false, false, false, false, false, false, false] rfl rfl (by kernel_rfl) (fun _ _ _ h => h) (Or.inl ⟨by rfl, ?_⟩) hHeld ?_ ?_
        rotate_left
        · rintro w' ⟨s0, s1, s2⟩
          go_simp
          with_reducible rfl
        rotate_left
        · simp only [Act.put, List.setIfInBounds_toArray, List.set_cons_zero, List.set_cons_succ, i64_w, i32_w]
          rfl
        refine pure_ (i := 1) (N := some 72) (v := ?_) (a' := ?_) #[true, true, false, false, false, false, false, false, false, false, false, false, false, false] rfl rfl (by kernel_rfl) (fun _ _ _ h => h) (Or.inl ⟨by rfl, ?_⟩) ?_ ?_
        rotate_left
        · intro w'
          go_simp
          with_reducible rfl
        rotate_left
        · simp only [Act.put, List.setIfInBounds_toArray, List.set_cons_zero, List.set_cons_succ, i64_w, i32_w]
          rfl
        refine take_ (i := 2) (N := some 73) (v := ?_) (a' := ?_) #[true, true, true, false, false, false, false, false, false, false, false, false, false, false] rfl rfl (by kernel_rfl) (fun _ _ _ h => h) (Or.inl ⟨by rfl, ?_⟩) hHeld ?_ ?_
        rotate_left
        · rintro w' ⟨s0, s1, s2⟩
          go_simp
          with_reducible rfl
        rotate_left
        · simp only [Act.put, List.setIfInBounds_toArray, List.set_cons_zero, List.set_cons_succ, i64_w, i32_w]
          rfl
        refine pure_ (i := 3) (N := some 74) (v := ?_) (a' := ?_) #[true, true, true, true, false, false, false, false, false, false, false, false, false, false] rfl rfl (by kernel_rfl) (fun _ _ _ h => h) (Or.inl ⟨by rfl, ?_⟩) ?_ ?_
        rotate_left
        · intro w'
          go_simp
          with_reducible rfl
        rotate_left
        · simp only [Act.put, List.setIfInBounds_toArray, List.set_cons_zero, List.set_cons_succ, i64_w, i32_w]
          rfl
        refine take_ (i := 4) (N := some 75) (v := ?_) (a' := ?_) #[true, true, true, true, true, false, false, false, false, false, false, false, false, false] rfl rfl (by kernel_rfl) (fun _ _ _ h => h) (Or.inl ⟨by rfl, ?_⟩) hHeld ?_ ?_
        rotate_left
        · rintro w' ⟨s0, s1, s2⟩
          go_simp
          with_reducible rfl
        rotate_left
        · simp only [Act.put, List.setIfInBounds_toArray, List.set_cons_zero, List.set_cons_succ, i64_w, i32_w]
          rfl
        refine pure_ (i := 6) (N := some 77) (v := ?_) (a' := ?_) #[true, true, true, true, true, false, true, false, false, false, false, false, false, false] rfl rfl (by kernel_rfl) (fun _ _ _ h => h) (Or.inl ⟨by rfl, ?_⟩) ?_ ?_
        rotate_left
        · intro w'
          go_simp
          with_reducible rfl
        rotate_left
        · simp only [Act.put, List.setIfInBounds_toArray, List.set_cons_zero, List.set_cons_succ, i64_w, i32_w]
          rfl
        refine pure_ (i := 7) (N := some 78) (v := ?_) (a' := ?_) #[true, true, true, true, true, false, true, true, false, false, false, false, false, false] rfl rfl (by kernel_rfl) (fun _ _ _ h => h) (Or.inl ⟨by rfl, ?_⟩) ?_ ?_
        rotate_left
        · intro w'
          go_simp
          with_reducible rfl
        rotate_left
        · simp only [Act.put, List.setIfInBounds_toArray, List.set_cons_zero, List.set_cons_succ, i64_w, i32_w]
          rfl
        refine take_ (i := 8) (N := some 79) (v := ?_) (a' := ?_) #[true, true, true, true, true, false, true, true, true, false, false, false, false, false] rfl rfl (by kernel_rfl) (fun _ _ _ h => h) (Or.inl ⟨by rfl, ?_⟩) hHeld ?_ ?_
        rotate_left
        · rintro w' ⟨s0, s1, s2⟩
          go_simp
          with_reducible rfl
        rotate_left
        · simp only [Act.put, List.setIfInBounds_toArray, List.set_cons_zero, List.set_cons_succ, i64_w, i32_w]
          rfl
        refine pure_ (i := 9) (N := some 80) (v := ?_) (a' := ?_) #[true, true, true, true, true, false, true, true, true, true, false, false, false, false] rfl rfl (by kernel_rfl) (fun _ _ _ h => h) (Or.inl ⟨by rfl, ?_⟩) ?_ ?_
        rotate_left
        · intro w'
          go_simp
          with_reducible rfl
        rotate_left
        · simp only [Act.put, List.setIfInBounds_toArray, List.set_cons_zero, List.set_cons_succ, i64_w, i32_w]
          rfl
        refine take_ (i := 10) (N := some 81) (v := ?_) (a' := ?_) #[true, true, true, true, true, false, true, true, true, true, true, false, false, false] rfl rfl (by kernel_rfl) (fun _ _ _ h => h) (Or.inl ⟨by rfl, ?_⟩) hHeld ?_ ?_
        rotate_left
        · rintro w' ⟨s0, s1, s2⟩
          go_simp
          with_reducible rfl
        rotate_left
        · simp only [Act.put, List.setIfInBounds_toArray, List.set_cons_zero, List.set_cons_succ, i64_w, i32_w]
          rfl
        refine one_ (i := 5) (N := some 76) #[true, true, true, true, true, true, true, true, true, true, true, false, false, false] rfl rfl (by kernel_rfl) (by decide) (fun K hK => ?_)
        refine goes_ Try.func24 (by kernel_rfl) rfl #[.agg #[.pointer p1], .int .i64 ky, .int .i64 va] (by rfl) rfl rfl (by (try simp only [List.map_toArray, List.map_cons, List.map_nil]); first | done | rfl) ?_
        refine (Put_any t1 ky va p1 _ (st.later hw0).m7.tree (by omega)).mono ?_
        rintro e y1 ⟨p', rfl, hp', hy1⟩
        refine ⟨_, rfl, ?_⟩
        refine hK.out _ _ (sOf _ (hw0.trans (hy1.mono hw0.size))) (fun hHeld => ?_)
        clear hK K
        refine norm_ (a' := ?_) ?_ ?_
        rotate_left
        · show Act.put _ (some 76) _ = _
          simp only [Act.put, List.setIfInBounds_toArray, List.set_cons_zero, List.set_cons_succ, i64_w, i32_w]
          rfl
        have hw1 := hw0.trans (hy1.mono hw0.size)
        refine one_ (i := 11) (N := some 82) #[true, true, true, true, true, true, true, true, true, true, true, true, false, false] rfl rfl (by kernel_rfl) (by decide) (fun K hK => ?_)
        refine goes_ Try.func111 (by kernel_rfl) rfl #[.slice A1 t1.toList.length c1, .int .i64 ky, .int .i64 va] (by rfl) rfl rfl (by (try simp only [List.map_toArray, List.map_cons, List.map_nil]); first | done | rfl) ?_
        refine (refPut (st.later hw1).r1 s1 z1 (st.later hw1).hb ky va).mono ?_
        rintro e y2 ⟨s', rfl, hs', hy2⟩
        refine ⟨_, rfl, ?_⟩
        refine hK.out _ _ (sOf _ (hw1.trans (hy2.mono hw1.size))) (fun hHeld => ?_)
        clear hK K
        refine norm_ (a' := ?_) ?_ ?_
        rotate_left
        · show Act.put _ (some 82) _ = _
          simp only [Act.put, List.setIfInBounds_toArray, List.set_cons_zero, List.set_cons_succ, i64_w, i32_w]
          rfl
        have hw2 := hw1.trans (hy2.mono hw1.size)
        have st := st.later hw2
        have e7 := st.m7.cell
        have f7 := st.m7.fr
        refine last_ (i := 12) (N := none) #[true, true, true, true, true, true, true, true, true, true, true, true, true, false] rfl rfl (by kernel_rfl) (by decide) (fun K hK => ?_)
        refine skip_ (w1 := ?_) (by rfl) rfl ?_ ?_
        rotate_left
        · go_simp
          with_reducible rfl
        refine hK.out _ _ ?_
        clear hK K
        refine pure_ (i := 13) (N := some 9) (v := ?_) (a' := ?_) #[true, true, true, true, true, true, true, true, true, true, true, true, true, true] rfl rfl (by kernel_rfl) (fun _ _ _ h => h) (Or.inl ⟨by rfl, ?_⟩) ?_ ?_
        rotate_left
        · intro w'
          go_simp
          with_reducible rfl
        rotate_left
        · simp only [Act.put, List.setIfInBounds_toArray, List.set_cons_zero, List.set_cons_succ, i64_w, i32_w]
          rfl
        refine done_ (by kernel_rfl) ?_
        go_wp2
        go_meet
        exact ⟨rfl, st.done (hp'.later hy2) hs' (put_ok (K := ky) (V := va) s1 k1).1 (put_ok (K := ky) (V := va) s1 k1).2⟩
  case rest =>
    obtain ⟨rfl, hbW, p', t', m7, hrow, hsort, hkeys⟩ := hcut
    have hn0 : n₀ ≤ W.heap.size := Nat.le_trans h.base (Nat.le_of_lt hB)
    have h := (h.later hbW).more (ks' := ky :: ks) fun k hk => List.mem_cons_of_mem _ hk
    have gn : Good wc (Bad B (.slice (some ⟨bm, 0, none⟩) es.length cm) (.slice (some ⟨bl, 0, none⟩) es.length cl)) (ky :: ks) ⟨p', u9, t'⟩ :=
      ⟨m7.tree, hrow.bad fun k _ hk => hbB k hk, hsort, hkeys⟩
    obtain ⟨A9, c9, rfl, hA9, -, -⟩ := hrow.reads (by have := gn.size; simp at this; have := T.length_toList t'; omega)
    have ltB := h.lt
    have lt7 := m7.lt
    have sOf : ∀ y, Below wc.heap.size wc y → y.cell? ⟨B, 0, none⟩ = some (.slice (some ⟨bm, 0, none⟩) es.length cm) ∧ y.cell? ⟨b7, 0, none⟩ = some (.pointer p') := fun y hy => ⟨(h.later hy).c0, (m7.below hy).cell⟩
    have hw0 : Below wc.heap.size wc wc.drew := Below.drew (Below.refl _ _)
    go_upto_region 34 with fail
    refine start_ (n := 11) (S := fun w' => w'.cell? ⟨B, 0, none⟩ = some (.slice (some ⟨bm, 0, none⟩) es.length cm) ∧ w'.cell? ⟨b7, 0, none⟩ = some (.pointer p')) (ds := [7, 10]) #[false, false, false, false, false, false, false, false, false, false, false] (by kernel_rfl) rfl rfl (sOf _ (Below.drew (Below.refl _ _))) (fun hHeld => ?_)
    refine pure_ (i := 0) (N := some 224) (v := ?_) (a' := ?_) #[true, false, false, false, false, false, false, false, false, false, false] rfl rfl (by kernel_rfl) (fun _ _ _ h => h) (Or.inl ⟨by rfl, ?_⟩) ?_ ?_
    rotate_left
    · intro w'
      go_simp
      with_reducible rfl
    rotate_left
    · simp only [Act.put, List.setIfInBounds_toArray, List.set_cons_zero, List.set_cons_succ, i64_w, i32_w]
      rfl
    refine pure_ (i := 1) (N := some 225) (v := ?_) (a' := ?_) #[true, true, false, false, false, false, false, false, false, false, false] rfl rfl (by kernel_rfl) (fun _ _ _ h => h) (Or.inl ⟨by rfl, ?_⟩) ?_ ?_
    rotate_left
    · intro w'
      go_simp
      with_reducible rfl
    rotate_left
    · simp only [Act.put, List.setIfInBounds_toArray, List.set_cons_zero, List.set_cons_succ, i64_w, i32_w]
      rfl
    refine pure_ (i := 2) (N := some 226) (v := ?_) (a' := ?_) #[true, true, true, false, false, false, false, false, false, false, false] rfl rfl (by kernel_rfl) (fun _ _ _ h => h) (Or.inl ⟨by rfl, ?_⟩) ?_ ?_
    rotate_left
    · intro w'
      go_simp
      with_reducible rfl
    rotate_left
    · simp only [Act.put, List.setIfInBounds_toArray, List.set_cons_zero, List.set_cons_succ, i64_w, i32_w]
      rfl
    refine pure_ (i := 3) (N := some 227) (v := ?_) (a' := ?_) #[true, true, true, true, false, false, false, false, false, false, false] rfl rfl (by kernel_rfl) (fun _ _ _ h => h) (Or.inl ⟨by rfl, ?_⟩) ?_ ?_
    rotate_left
    · intro w'
      go_simp
      with_reducible rfl
    rotate_left
    · simp only [Act.put, List.setIfInBounds_toArray, List.set_cons_zero, List.set_cons_succ, i64_w, i32_w]
      rfl
    refine take_ (i := 4) (N := some 228) (v := ?_) (a' := ?_) #[true, true, true, true, true, false, false, false, false, false, false] rfl rfl (by kernel_rfl) (fun _ _ _ h => h) (Or.inl ⟨by rfl, ?_⟩) hHeld ?_ ?_
    rotate_left
    · rintro w' ⟨s0, s1⟩
      go_simp
      with_reducible rfl
    rotate_left
    · simp only [Act.put, List.setIfInBounds_toArray, List.set_cons_zero, List.set_cons_succ, i64_w, i32_w]
      rfl
    refine take_ (i := 5) (N := some 229) (v := ?_) (a' := ?_) #[true, true, true, true, true, true, false, false, false, false, false] rfl rfl (by kernel_rfl) (fun _ _ _ h => h) (Or.inl ⟨by rfl, ?_⟩) hHeld ?_ ?_
    rotate_left
    · rintro w' ⟨s0, s1⟩
      go_simp
      with_reducible rfl
    rotate_left
    · simp only [Act.put, List.setIfInBounds_toArray, List.set_cons_zero, List.set_cons_succ, i64_w, i32_w]
      rfl
    refine one_ (i := 6) (N := some 230) #[true, true, true, true, true, true, true, false, false, false, false] rfl rfl (by kernel_rfl) (by decide) (fun K hK => ?_)
    refine value_ (w1 := ?_) (v := ?_) (by rfl) rfl ?_ ?_
    rotate_left 2
    · go_simp
      constructor <;> with_reducible rfl
    refine hK.out _ _ (sOf _ (hw0.trans ((below_one wc.drew (.cells #[.pointer p'] 28)).mono hw0.size))) (fun hHeld => ?_)
    clear hK K
    refine norm_ (a' := ?_) ?_ ?_
    rotate_left
    · show Act.put _ (some 230) _ = _
      simp only [Act.put, List.setIfInBounds_toArray, List.set_cons_zero, List.set_cons_succ, i64_w, i32_w]
      rfl
    have hd := h.later hw0
    have gd := gn.later hw0
    refine last_ (i := 7) (N := some 231) #[true, true, true, true, true, true, true, true, false, false, false] rfl rfl (by kernel_rfl) (by decide) (fun K hK => ?_)
    refine step_append_cells (w0 := W) n₀ (by rfl) (.tmp 228) (.tmp 230) 75 28 (.agg #[.pointer none]) 1 8 rfl Try.underlying75 info28 rfl (by omega) (by omega) (.slice (some ⟨bm, 0, none⟩) es.length cm) es.length (es.map fun e => Value.pointer e.p) [.pointer p'] rfl rfl rfl (by simp [Value.oneCell']) hd.om ((hbW.trans (hw0.mono hbW.size)).mono hn0) (Nat.le_trans hn0 (Nat.le_trans hbW.size hw0.size)) (by omega) ?_
    intro v1 y1 ho hb1 hg hat
    obtain ⟨gm, cm', rfl, hcm', hgm0, hgm, hmm⟩ := row1_open ho (by omega)
    clear hmm
    refine hK.out _ _ ?_
    clear hK K
    refine norm_ (a' := ?_) ?_ ?_
    rotate_left
    · show Act.put _ (some 231) _ = _
      simp only [Act.put, List.setIfInBounds_toArray, List.set_cons_zero, List.set_cons_succ, i64_w, i32_w]
      rfl
    have wd1 := hd.pushM gd (by simpa using ho) hg hat
    have tB : tagAt y1 B 78 := tag_of hd.tag (hg.block B hd.lt fun e => absurd (tag_one hd.tag (own_tag hd.om e.symm).1) (by decide))
    have eB : y1.cell? ⟨B, 0, none⟩ = _ := (World.cell?_of_block (a := ⟨B, 0, none⟩) (hg.block B hd.lt fun e => absurd (tag_one hd.tag (own_tag hd.om e.symm).1) (by decide))).trans hd.c0
    have fB : y1.frozen? ⟨B, 0, none⟩ = _ := (World.frozen?_of_block (a := ⟨B, 0, none⟩) (hg.block B hd.lt fun e => absurd (tag_one hd.tag (own_tag hd.om e.symm).1) (by decide))).trans (hd.fr 0)
    refine pure_ (i := 8) (N := some 232) (v := ?_) (a' := ?_) #[true, true, true, true, true, true, true, true, true, false, false] rfl rfl (by kernel_rfl) (fun _ _ _ h => h) (Or.inl ⟨by rfl, ?_⟩) ?_ ?_
    rotate_left
    · intro w'
      go_simp
      with_reducible rfl
    rotate_left
    · simp only [Act.put, List.setIfInBounds_toArray, List.set_cons_zero, List.set_cons_succ, i64_w, i32_w]
      rfl
    refine pure_ (i := 9) (N := some 233) (v := ?_) (a' := ?_) #[true, true, true, true, true, true, true, true, true, true, false] rfl rfl (by kernel_rfl) (fun _ _ _ h => h) (Or.inl ⟨by rfl, ?_⟩) ?_ ?_
    rotate_left
    · intro w'
      go_simp
      with_reducible rfl
    rotate_left
    · simp only [Act.put, List.setIfInBounds_toArray, List.set_cons_zero, List.set_cons_succ, i64_w, i32_w]
      rfl
    refine last_ (i := 10) (N := none) #[true, true, true, true, true, true, true, true, true, true, true] rfl rfl (by kernel_rfl) (by decide) (fun K hK => ?_)
    refine skip_ (w1 := ?_) (by rfl) rfl ?_ ?_
    rotate_left
    · go_simp
      with_reducible rfl
    refine hK.out _ _ ?_
    clear hK K
    refine done_ (by kernel_rfl) ?_
    have n7B : b7 ≠ B := fun e => absurd m7.base (by omega)
    have n7m : some b7 ≠ (Value.slice (some ⟨bm, 0, none⟩) es.length cm).ownBlock := fun e => by
      injection e with e
      have e : b7 = bm := e
      exact absurd m7.base (by omega)
    have n7l : some b7 ≠ (Value.slice (some ⟨bl, 0, none⟩) es.length cl).ownBlock := fun e => by
      injection e with e
      have e : b7 = bl := e
      exact absurd m7.base (by omega)
    have lt7d : b7 < wc.drew.heap.size := Nat.lt_of_lt_of_le lt7 hw0.size
    have x7 : (y1.setCell ⟨B, 0, none⟩ (.slice (some ⟨gm, 0, none⟩) (es.length + 1) cm')).cell? ⟨b7, 0, none⟩ = some (.pointer p') := by
      rw [World.cell?_setCell_far (h := Ne.symm n7B)]
      exact (World.cell?_of_block (a := ⟨b7, 0, none⟩) (hg.block b7 lt7d n7m)).trans (sOf _ hw0).2
    have lt7y : b7 < (y1.setCell ⟨B, 0, none⟩ (.slice (some ⟨gm, 0, none⟩) (es.length + 1) cm')).heap.size := by rw [size_set]; exact Nat.lt_of_lt_of_le lt7d hg.size
    have hb3 := hb1.setCell (p := ⟨B, 0, none⟩) h.base (.slice (some ⟨gm, 0, none⟩) (es.length + 1) cm')
    have hsz := hd.om
    generalize y1.setCell ⟨B, 0, none⟩ (.slice (some ⟨gm, 0, none⟩) (es.length + 1) cm') = y3 at x7 lt7y hb3 wd1 ⊢
    clear tB eB fB hg hat hd gd hsz ho hcm' hgm0 hgm sOf hb1 m7
    have r0 := wd1.c0
    have r1 := wd1.c1
    have rf := wd1.fr 1
    have hn3 : n₀ ≤ y3.heap.size := Nat.le_trans hn0 hb3.size
    go_upto_region 36 with (at_builtin; refine print_append (w0 := W) n₀ rfl (.tmp 238) (.tmp 240) 76 22 (.slice none 0 0) 24 rfl Try.underlying76 info22 rfl (by omega) (.slice (some ⟨bl, 0, none⟩) es.length cl) (es.map fun e => e.s) (.slice A9 t'.toList.length c9) rfl rfl rfl (by simpa using wd1.ol) hb3 hn3 (by simp; omega) ?_; intro v2 y2 ho2 hb2 hg2 hat2; rw [show (es.map (fun e : En => e.s) ++ [Value.slice A9 t'.toList.length c9]).length = es.length + 1 from by simp] at ho2; obtain ⟨gl, cl', rfl, hcl', hgl0, hgl, hmm⟩ := row1_open ho2 (by omega); clear hmm; have qB : y2.cell? ⟨B, 1, none⟩ = _ := (World.cell?_of_block (a := ⟨B, 1, none⟩) (hg2.block B wd1.lt fun e => absurd (tag_one wd1.tag (own_tag wd1.ol e.symm).1) (by decide))).trans r1; have qF : y2.frozen? ⟨B, 1, none⟩ = _ := (World.frozen?_of_block (a := ⟨B, 1, none⟩) (hg2.block B wd1.lt fun e => absurd (tag_one wd1.tag (own_tag wd1.ol e.symm).1) (by decide))).trans rf)
    have wd2 := wd1.pushL (e := ⟨p', .slice A9 t'.toList.length c9, t'⟩) (by simpa using ho2) hg2 hat2
    have q7 : (y2.setCell ⟨B, 1, none⟩ (.slice (some ⟨gl, 0, none⟩) (es.length + 1) cl')).cell? ⟨b7, 0, none⟩ = some (.pointer p') := by
      rw [World.cell?_setCell_far (h := Ne.symm n7B)]
      exact (World.cell?_of_block (a := ⟨b7, 0, none⟩) (hg2.block b7 lt7y n7l)).trans x7
    have hb4 := hb2.setCell (p := ⟨B, 1, none⟩) h.base (.slice (some ⟨gl, 0, none⟩) (es.length + 1) cl')
    generalize y2.setCell ⟨B, 1, none⟩ (.slice (some ⟨gl, 0, none⟩) (es.length + 1) cl') = y4 at q7 hb4 wd2 ⊢
    clear qB qF hg2 hat2 ho2 hb2 r0 r1 rf x7 lt7y
    have ge := wd2.all ⟨p', .slice A9 t'.toList.length c9, t'⟩ (by simp)
    have zs : t'.size ≤ 1099511627776 := by have := ge.size; simp at this; omega
    go_wp2_with (go_at_call 19; refine (same_true ge.tree zs ge.row).mono ?_; rintro e z ⟨rfl, hz⟩)
    go_ret
    exact ⟨rfl, hb4.trans (hz.mono (Nat.le_trans hn0 hb4.size)), _, _, _, wd2.later hz⟩
end Go.Proofs.MT.II
