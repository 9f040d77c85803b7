/- The law TreeWalks, walked. -/
import Derived.Test.YtnhngaadegebfaaTreePlays
import Derived.Test.YtnhngaadegebfaaUps
namespace Go.Proofs.MT.II
open Go.RowKit Go.Proofs.YtnhngaadegebfaaW.PrintLast Go.Proofs.YtnhngaadegebfaaW.PrintWords
set_option linter.unusedVariables false
set_option linter.unusedSimpArgs false

set_option maxRecDepth 100000 in
set_option maxHeartbeats 3200000 in
theorem TreeWalks_walk (l : List Step) (hok : ∀ o ∈ l, o.ok) (A : Option Addr) (c : Nat) (hc : l.length ≤ c) (w : World) (hr : Steps5 w A l) (k stop : Int) (hk0 : -9223372036854775808 ≤ k) (hk1 : k ≤ 9223372036854775807) (ha0 : 0 ≤ stop) (ha1 : stop ≤ 255) :
    Calls Try.prog 9 #[.slice A l.length c, .int .i64 k, .int .u8 stop] w fun e w' => e = .returned (.bool true) ∧ Below w.heap.size w w' := by
  clear hk0 hk1
  go_enter Try.func9, Try.ntmps9
  by_cases h200 : (l.length : Int) ≤ 200
  · go_upto_region 5 with (first
      | (go_at_call 37; refine (few_any _ _ _ _).mono ?_; rw [decide_eq_true h200]; rintro e x ⟨rfl, rfl⟩)
      | (go_at_call 38; refine (played_any l (by omega) hok A c hc _ hr).mono ?_; rintro e x ⟨B, vm, vl, ks, es, rfl, hx, wd, hes, hks⟩))
    obtain ⟨bm, cm, bl, cl, rfl, rfl, hcm, hcl, rd⟩ := wd.opened (by omega)
    have hne : 0 < es.length := by omega
    have hks' : ks.length ≤ 1000 := by omega
    have hel : es.length ≤ 1000 := by omega
    clear hes hks
    go_loopg [8, 9] es.length (fun k x8 x9 wr => x8 = .bool true ∧ ∃ i : Nat, x9 = .int .i64 i ∧ i ≤ es.length ∧ Below x.heap.size x wr ∧ Hid (es.length - i = k))
    case atStart => exact ⟨rfl, 0, rfl, by omega, Below.refl _ _, rfl⟩
    case round =>
      obtain ⟨rfl, i, rfl, hi, hb, HN⟩ := hrel
      obtain ⟨c0, c1, -⟩ := rd wr hb
      by_cases hlt : i < es.length
      · have a1 : (i : Int) < (es.length : Int) := by omega
        have a2 : (0 : Int) ≤ (i : Int) := by omega
        have a3 : IntKind.i64.wrap ((i : Int) + 1) = ((i + 1 : Nat) : Int) := by rw [IntKind.wrap_i64]; push_cast; omega
        obtain ⟨p, A1, c1', t, he, g, hc1, hz, hs⟩ := wd.entry hks' hlt
        go_upto_region 7 with fail
        clear c0
        have g := g.later hb
        have sOf : ∀ y, Below wr.heap.size wr y → y.cell? ⟨B, 0, none⟩ = some (.slice (some ⟨bm, 0, none⟩) es.length cm) ∧ y.cell? ⟨B, 1, none⟩ = some (.slice (some ⟨bl, 0, none⟩) es.length cl) ∧ y.cell? ⟨bm, i, none⟩ = some (.pointer p) ∧ y.cell? ⟨bl, i, none⟩ = some (.slice A1 t.toList.length c1') := fun y hy => by
          have h := hb.trans (hy.mono hb.size)
          exact ⟨(rd y h).1, (rd y h).2.1, ((rd y h).2.2 i _ he).1, ((rd y h).2.2 i _ he).2⟩
        have hbx := Lib.hid hb
        have RD := Lib.hid rd
        clear hb rd he c1
        obtain ⟨W, hW⟩ : ∃ W, W = wr := ⟨_, rfl⟩
        rw [← hW]
        rw [← hW] at sOf g hbx
        clear hW
        have hw0 : Below W.heap.size W W.drew := Below.drew (Below.refl _ _)
        refine start_ (n := 17) (S := fun w' => w'.cell? ⟨B, 0, none⟩ = some (.slice (some ⟨bm, 0, none⟩) es.length cm) ∧ w'.cell? ⟨B, 1, none⟩ = some (.slice (some ⟨bl, 0, none⟩) es.length cl) ∧ w'.cell? ⟨bm, i, none⟩ = some (.pointer p) ∧ w'.cell? ⟨bl, i, none⟩ = some (.slice A1 t.toList.length c1')) (ds := []) #[false, false, false, false, false, false, false, false, false, false, false, false, false, false, false, false, false] (by kernel_rfl) rfl rfl (sOf _ (Below.drew (Below.refl _ _))) (fun hHeld => ?_)
        refine pure_ (i := 0) (N := some 34) (v := ?_) (a' := ?_) #[true, false, false, false, false, false, false, false, false, false, false, false, false, false, false, false, false] rfl rfl (by kernel_rfl) (fun _ _ _ h => h) (Or.inl ⟨by rfl, ?_⟩) ?_ ?_
        rotate_left
        · intro w'
          go_simp
          with_reducible rfl
        rotate_left
        · simp only [Act.put, List.setIfInBounds_toArray, List.set_cons_zero, List.set_cons_succ, i64_w, i32_w]
          rfl
        refine pure_ (i := 1) (N := some 35) (v := ?_) (a' := ?_) #[true, true, false, false, false, false, false, false, false, false, false, false, false, false, false, false, false] rfl rfl (by kernel_rfl) (fun _ _ _ h => h) (Or.inl ⟨by rfl, ?_⟩) ?_ ?_
        rotate_left
        · intro w'
          go_simp
          with_reducible rfl
        rotate_left
        · simp only [Act.put, List.setIfInBounds_toArray, List.set_cons_zero, List.set_cons_succ, i64_w, i32_w]
          rfl
        refine pure_ (i := 2) (N := some 36) (v := ?_) (a' := ?_) #[true, true, true, false, false, false, false, false, false, false, false, false, false, false, false, false, false] rfl rfl (by kernel_rfl) (fun _ _ _ h => h) (Or.inl ⟨by rfl, ?_⟩) ?_ ?_
        rotate_left
        · intro w'
          go_simp
          with_reducible rfl
        rotate_left
        · simp only [Act.put, List.setIfInBounds_toArray, List.set_cons_zero, List.set_cons_succ, i64_w, i32_w]
          rfl
        refine take_ (i := 3) (N := some 37) (v := ?_) (a' := ?_) #[true, true, true, true, false, false, false, false, false, false, false, false, false, false, false, false, false] rfl rfl (by kernel_rfl) (fun _ _ _ h => h) (Or.inl ⟨by rfl, ?_⟩) hHeld ?_ ?_
        rotate_left
        · rintro w' ⟨s0, s1, s2, s3⟩
          go_simp
          with_reducible rfl
        rotate_left
        · simp only [Act.put, List.setIfInBounds_toArray, List.set_cons_zero, List.set_cons_succ, i64_w, i32_w]
          rfl
        refine pure_ (i := 4) (N := some 38) (v := ?_) (a' := ?_) #[true, true, true, true, true, false, false, false, false, false, false, false, false, false, false, false, false] rfl rfl (by kernel_rfl) (fun _ _ _ h => h) (Or.inl ⟨by rfl, ?_⟩) ?_ ?_
        rotate_left
        · intro w'
          go_simp
          with_reducible rfl
        rotate_left
        · simp only [Act.put, List.setIfInBounds_toArray, List.set_cons_zero, List.set_cons_succ, i64_w, i32_w]
          rfl
        refine pure_ (i := 5) (N := some 39) (v := ?_) (a' := ?_) #[true, true, true, true, true, true, false, false, false, false, false, false, false, false, false, false, false] rfl rfl (by kernel_rfl) (fun _ _ _ h => h) (Or.inl ⟨by rfl, ?_⟩) ?_ ?_
        rotate_left
        · intro w'
          go_simp
          with_reducible rfl
        rotate_left
        · simp only [Act.put, List.setIfInBounds_toArray, List.set_cons_zero, List.set_cons_succ, i64_w, i32_w]
          rfl
        refine take_ (i := 6) (N := some 40) (v := ?_) (a' := ?_) #[true, true, true, true, true, true, true, false, false, false, false, false, false, false, false, false, false] rfl rfl (by kernel_rfl) (fun _ _ _ h => h) (Or.inl ⟨by rfl, ?_⟩) hHeld ?_ ?_
        rotate_left
        · rintro w' ⟨s0, s1, s2, s3⟩
          go_simp
          with_reducible rfl
        rotate_left
        · simp only [Act.put, List.setIfInBounds_toArray, List.set_cons_zero, List.set_cons_succ, i64_w, i32_w]
          rfl
        refine pure_ (i := 7) (N := some 41) (v := ?_) (a' := ?_) #[true, true, true, true, true, true, true, true, false, false, false, false, false, false, false, false, false] rfl rfl (by kernel_rfl) (fun _ _ _ h => h) (Or.inl ⟨by rfl, ?_⟩) ?_ ?_
        rotate_left
        · intro w'
          go_simp
          with_reducible rfl
        rotate_left
        · simp only [Act.put, List.setIfInBounds_toArray, List.set_cons_zero, List.set_cons_succ, i64_w, i32_w]
          rfl
        refine pure_ (i := 8) (N := some 42) (v := ?_) (a' := ?_) #[true, true, true, true, true, true, true, true, true, false, false, false, false, false, false, false, false] rfl rfl (by kernel_rfl) (fun _ _ _ h => h) (Or.inl ⟨by rfl, ?_⟩) ?_ ?_
        rotate_left
        · intro w'
          go_simp
          with_reducible rfl
        rotate_left
        · simp only [Act.put, List.setIfInBounds_toArray, List.set_cons_zero, List.set_cons_succ, i64_w, i32_w]
          rfl
        refine pure_ (i := 9) (N := some 43) (v := ?_) (a' := ?_) #[true, true, true, true, true, true, true, true, true, true, false, false, false, false, false, false, false] rfl rfl (by kernel_rfl) (fun _ _ _ h => h) (Or.inl ⟨by rfl, ?_⟩) ?_ ?_
        rotate_left
        · intro w'
          go_simp
          with_reducible rfl
        rotate_left
        · simp only [Act.put, List.setIfInBounds_toArray, List.set_cons_zero, List.set_cons_succ, i64_w, i32_w]
          rfl
        refine take_ (i := 10) (N := some 44) (v := ?_) (a' := ?_) #[true, true, true, true, true, true, true, true, true, true, true, false, false, false, false, false, false] rfl rfl (by kernel_rfl) (fun _ _ _ h => h) (Or.inl ⟨by rfl, ?_⟩) hHeld ?_ ?_
        rotate_left
        · rintro w' ⟨s0, s1, s2, s3⟩
          go_simp
          with_reducible rfl
        rotate_left
        · simp only [Act.put, List.setIfInBounds_toArray, List.set_cons_zero, List.set_cons_succ, i64_w, i32_w]
          rfl
        refine pure_ (i := 11) (N := some 45) (v := ?_) (a' := ?_) #[true, true, true, true, true, true, true, true, true, true, true, true, false, false, false, false, false] rfl rfl (by kernel_rfl) (fun _ _ _ h => h) (Or.inl ⟨by rfl, ?_⟩) ?_ ?_
        rotate_left
        · intro w'
          go_simp
          with_reducible rfl
        rotate_left
        · simp only [Act.put, List.setIfInBounds_toArray, List.set_cons_zero, List.set_cons_succ, i64_w, i32_w]
          rfl
        refine pure_ (i := 12) (N := some 46) (v := ?_) (a' := ?_) #[true, true, true, true, true, true, true, true, true, true, true, true, true, false, false, false, false] rfl rfl (by kernel_rfl) (fun _ _ _ h => h) (Or.inl ⟨by rfl, ?_⟩) ?_ ?_
        rotate_left
        · intro w'
          go_simp
          with_reducible rfl
        rotate_left
        · simp only [Act.put, List.setIfInBounds_toArray, List.set_cons_zero, List.set_cons_succ, i64_w, i32_w]
          rfl
        refine take_ (i := 13) (N := some 47) (v := ?_) (a' := ?_) #[true, true, true, true, true, true, true, true, true, true, true, true, true, true, false, false, false] rfl rfl (by kernel_rfl) (fun _ _ _ h => h) (Or.inl ⟨by rfl, ?_⟩) hHeld ?_ ?_
        rotate_left
        · rintro w' ⟨s0, s1, s2, s3⟩
          go_simp
          with_reducible rfl
        rotate_left
        · simp only [Act.put, List.setIfInBounds_toArray, List.set_cons_zero, List.set_cons_succ, i64_w, i32_w]
          rfl
        refine one_ (i := 14) (N := some 10) #[true, true, true, true, true, true, true, true, true, true, true, true, true, true, true, false, false] rfl rfl (by kernel_rfl) (by decide) (fun K hK => ?_)
        refine value_ (w1 := ?_) (v := ?_) (by rfl) rfl ?_ ?_
        rotate_left 2
        · go_simp
          constructor <;> with_reducible rfl
        refine hK.out _ _ (sOf _ (hw0.trans ((below_one W.drew (.cells #[.pointer none] 28)).mono hw0.size))) (fun hHeld => ?_)
        clear hK K
        refine norm_ (a' := ?_) ?_ ?_
        rotate_left
        · show Act.put _ (some 10) _ = _
          simp only [Act.put, List.setIfInBounds_toArray, List.set_cons_zero, List.set_cons_succ, i64_w, i32_w]
          rfl
        have hk0 := hw0.trans ((below_one W.drew (.cells #[.pointer none] 28)).mono hw0.size)
        have mb := MBox.new (n₀ := W.heap.size) (W := W.drew) (p := none) (t := .nil) hw0.size rfl
        have e0 := mb.cell
        have f0 := mb.fr
        refine one_ (i := 15) (N := none) #[true, true, true, true, true, true, true, true, true, true, true, true, true, true, true, true, false] rfl rfl (by kernel_rfl) (by decide) (fun K hK => ?_)
        refine skip_ (w1 := ?_) (by rfl) rfl ?_ ?_
        rotate_left
        · go_simp
          with_reducible rfl
        refine hK.out _ _ (sOf _ (Below.drew (below_one W _))) (fun hHeld => ?_)
        clear hK K
        refine pure_ (i := 16) (N := some 11) (v := ?_) (a' := ?_) #[true, true, true, true, true, true, true, true, true, true, true, true, true, true, true, true, true] rfl rfl (by kernel_rfl) (fun _ _ _ h => h) (Or.inl ⟨by rfl, ?_⟩) ?_ ?_
        rotate_left
        · intro w'
          go_simp
          with_reducible rfl
        rotate_left
        · simp only [Act.put, List.setIfInBounds_toArray, List.set_cons_zero, List.set_cons_succ, i64_w, i32_w]
          rfl
        refine done_ (by kernel_rfl) ?_
        have hbW : Below W.heap.size W ((W.alloc (.cells #[.pointer p] 28)).drew) := Below.drew (below_one W _)
        have mb2 := (MBox.new (n₀ := W.heap.size) (W := W) (Nat.le_refl _) g.tree).below (Below.drew (Below.refl _ _))
        have g := g.later hbW
        have hbx := hbx.out.trans (hbW.mono hbx.out.size)
        generalize (W.alloc (.cells #[.pointer p] 28)).drew = x2 at mb2 g hbx ⊢
        generalize W.heap.size = b11 at mb2 ⊢
        clear sOf hw0 hk0 hbW mb e0 f0
        obtain ⟨N, hN⟩ : ∃ N, N = t.toList.length := ⟨_, rfl⟩
        have hlen : N ≤ 1000 := by rw [hN, T.length_toList]; exact hz
        have n0 : 0 ≤ stop % ((N : Int) + 2) := Int.emod_nonneg _ (by omega)
        have n1 : stop % ((N : Int) + 2) < (N : Int) + 2 := Int.emod_lt_of_pos _ (by omega)
        have hrow : Row2 ek ev x2.heap.size x2 A1 t.toList := (holds_row g.row).2.2
        have hz' : t.size ≤ 1099511627776 := by omega
        have U : ∀ (q : Int) y, Below x2.heap.size x2 y → Calls Try.prog 41 #[.agg #[.pointer p], .slice A1 N c1', .int .i64 q] y fun e z => e = .returned (.bool true) ∧ Below x2.heap.size x2 z := fun q y hy => by
          rw [hN]
          exact (callsIn_wide.1 (up_in 3 (Nat.le_refl _) p t hz' A1 c1' q y (g.later hy).tree (hrow.later hy) hc1)).mono fun e z ⟨h1, h2⟩ => ⟨h1, hy.trans (h2.mono hy.size)⟩
        have D : ∀ (q : Int) y, Below x2.heap.size x2 y → Calls Try.prog 43 #[.agg #[.pointer p], .slice A1 N c1', .int .i64 q] y fun e z => e = .returned (.bool true) ∧ Below x2.heap.size x2 z := fun q y hy => by
          rw [hN]
          exact (callsIn_wide.1 (down_in 3 (Nat.le_refl _) p t hz' A1 c1' q y (g.later hy).tree (hrow.later hy) hc1)).mono fun e z ⟨h1, h2⟩ => ⟨h1, hy.trans (h2.mono hy.size)⟩
        have F : ∀ (q : Int) y, 0 ≤ q → q ≤ 1002 → Below x2.heap.size x2 y → Calls Try.prog 42 #[.agg #[.pointer p], .slice A1 N c1', .int .i64 k, .int .i64 q] y fun e z => e = .returned (.bool true) ∧ Below x2.heap.size x2 z := fun q y h0 h1 hy => by
          rw [hN]
          exact (callsIn_wide.1 (from_in' 3 (Nat.le_refl _) p t hz' hs A1 c1' k q h0 (by omega) _ y (g.later hy).tree (g.later hy).row (hrow.later hy) hc1)).mono fun e z ⟨h1, h2⟩ => ⟨h1, hy.trans (h2.mono hy.size)⟩
        rw [← hN]
        have HU := Lib.hid U
        have HD := Lib.hid D
        have HF := Lib.hid F
        have HM := Lib.hid mb2
        have C0 := mb2.cell
        have hr2 : Below x2.heap.size x2 x2 := Below.refl _ _
        have nq : IntKind.i64.wrap ((N : Int) + 1) = (N : Int) + 1 := by rw [IntKind.wrap_i64]; omega
        have HQ := Lib.hid nq
        have HHN := Lib.hid hN
        have g' := Lib.hid g
        clear U D F mb2 nq g hrow hN
        go_upto_region 9 with fail
        go_wp2_with (first
          | (go_at_call 41; (with_reducible refine (HU.out _ _ (by assumption)).mono ?_); rintro e y ⟨rfl, hy⟩; have cy := (HM.out.below hy).cell)
          | (go_at_call 43; (with_reducible refine (HD.out _ _ (by assumption)).mono ?_); rintro e y ⟨rfl, hy⟩; have cy := (HM.out.below hy).cell)
          | (go_at_call 42; (with_reducible refine (HF.out _ _ (by omega) (by omega) (by assumption)).mono ?_); rintro e y ⟨rfl, hy⟩; have cy := (HM.out.below hy).cell))
        go_roundg (es.length - (i + 1))
        case measure => have := HN.out; omega
        case rel => exact ⟨rfl, i + 1, rfl, by omega, hbx.trans (hy.mono hbx.size), rfl⟩
      · obtain rfl : i = es.length := by omega
        go_wp2_with (go_at_call 13; refine (alive_true (Below.refl _ _)).mono ?_; rintro e y ⟨rfl, hy⟩)
        go_ret
        exact ⟨rfl, hx.trans ((hb.trans (hy.mono hb.size)).mono hx.size)⟩
  · go_wp2_with (first
      | (go_at_call 37; refine (few_any _ _ _ _).mono ?_; rw [decide_eq_false h200]; rintro e x ⟨rfl, rfl⟩)
      | (go_at_call 13; refine (alive_true (Below.refl _ _)).mono ?_; rintro e x ⟨rfl, hx⟩))
    go_ret
    exact ⟨rfl, hx⟩
end Go.Proofs.MT.II
