/- The law TreeLooks, walked. -/
import Derived.Test.YtnhngaadegebfaaTreePlays
import Derived.Test.YtnhngaadegebfaaLooks
namespace Go.Proofs.MT.II
open Go.RowKit Go.Proofs.YtnhngaadegebfaaW.PrintLast Go.Proofs.YtnhngaadegebfaaW.PrintWords
set_option linter.unusedVariables false
set_option linter.unusedSimpArgs false

set_option maxRecDepth 100000 in
set_option maxHeartbeats 3200000 in
theorem TreeLooks_walk (l : List Step) (hok : ∀ o ∈ l, o.ok) (A : Option Addr) (c : Nat) (hc : l.length ≤ c) (w : World) (hr : Steps5 w A l) (k at_ : Int) (hk0 : -9223372036854775808 ≤ k) (hk1 : k ≤ 9223372036854775807) (ha0 : -9223372036854775808 ≤ at_) (ha1 : at_ ≤ 9223372036854775807) :
    Calls Try.prog 10 #[.slice A l.length c, .int .i64 k, .int .i64 at_] w fun e w' => e = .returned (.bool true) ∧ Below w.heap.size w w' := by
  clear hk0 hk1 ha0
  go_enter Try.func10, Try.ntmps10
  by_cases h200 : (l.length : Int) ≤ 200
  · go_upto_region 5 with (first
      | (go_at_call 37; refine (few_any _ _ _ _).mono ?_; rw [decide_eq_true h200]; rintro e x ⟨rfl, rfl⟩)
      | (go_at_call 38; refine (played_any l (by omega) hok A c hc _ hr).mono ?_; rintro e x ⟨B, vm, vl, ks, es, rfl, hx, wd, hes, hks⟩))
    obtain ⟨bm, cm, bl, cl, rfl, rfl, hcm, hcl, rd⟩ := wd.opened (by omega)
    have hne : 0 < es.length := by omega
    have hks' : ks.length ≤ 1000 := by omega
    have hel : es.length ≤ 1000 := by omega
    clear hes hks
    go_loopg [8, 9] es.length (fun k x8 x9 wr => x8 = .bool true ∧ ∃ i : Nat, x9 = .int .i64 i ∧ i ≤ es.length ∧ Below x.heap.size x wr ∧ Hid (es.length - i = k))
    case atStart => exact ⟨rfl, 0, rfl, by omega, Below.refl _ _, rfl⟩
    case round =>
      obtain ⟨rfl, i, rfl, hi, hb, HN⟩ := hrel
      obtain ⟨c0, c1, -⟩ := rd wr hb
      by_cases hlt : i < es.length
      · have a1 : (i : Int) < (es.length : Int) := by omega
        have a2 : (0 : Int) ≤ (i : Int) := by omega
        have a3 : IntKind.i64.wrap ((i : Int) + 1) = ((i + 1 : Nat) : Int) := by rw [IntKind.wrap_i64]; push_cast; omega
        obtain ⟨p, A1, c1', t, he, g, hc1, hz, hs⟩ := wd.entry hks' hlt
        have f0 : ∀ y, Below x.heap.size x y → y.cell? ⟨B, 0, none⟩ = some (.slice (some ⟨bm, 0, none⟩) es.length cm) := fun y h => (rd y h).1
        have f1 : ∀ y, Below x.heap.size x y → y.cell? ⟨B, 1, none⟩ = some (.slice (some ⟨bl, 0, none⟩) es.length cl) := fun y h => (rd y h).2.1
        have f2 : ∀ y, Below x.heap.size x y → y.cell? ⟨bm, i, none⟩ = some (.pointer p) := fun y h => ((rd y h).2.2 i _ he).1
        have f3 : ∀ y, Below x.heap.size x y → y.cell? ⟨bl, i, none⟩ = some (.slice A1 t.toList.length c1') := fun y h => ((rd y h).2.2 i _ he).2
        have L : ∀ (q : Int) y, Below x.heap.size x y → Calls Try.prog 44 #[.agg #[.pointer p], .slice A1 t.toList.length c1', .int .i64 q] y fun e z => e = .returned (.bool true) ∧ Below x.heap.size x z := fun q y hy =>
          (looks_any t hs hz q p A1 _ c1' y _ (g.later hy).tree (g.later hy).row).mono fun e z ⟨h1, h2⟩ => ⟨h1, hy.trans (h2.mono hy.size)⟩
        have S' : ∀ y, Below x.heap.size x y → Calls Try.prog 45 #[.agg #[.pointer p], .slice A1 t.toList.length c1', .int .i64 at_] y fun e z => e = .returned (.bool true) ∧ Below x.heap.size x z := fun y hy =>
          (stands_any t hs hz at_ ha1 p A1 _ c1' y _ (g.later hy).tree (g.later hy).row).mono fun e z ⟨h1, h2⟩ => ⟨h1, hy.trans (h2.mono hy.size)⟩
        clear rd he
        go_upto_region 7 with fail
        clear c0 c1
        go_region_held3 (fun w' => Below x.heap.size x w') (repeat (first | assumption | exact Below.refl _ _ | apply Below.drew)) (first
          | (go_at_call 44; (with_reducible refine (L k _ (by assumption)).mono ?_); rintro e y ⟨rfl, hy1⟩)
          | (go_at_call 44; (with_reducible refine (L at_ _ (by assumption)).mono ?_); rintro e y ⟨rfl, hy2⟩)
          | (go_at_call 45; refine (S' _ (by assumption)).mono ?_; rintro e y ⟨rfl, hy3⟩))
        go_wp2
        go_roundg (es.length - (i + 1))
        case measure => have := HN.out; omega
        case rel => exact ⟨rfl, i + 1, rfl, by omega, hy3, rfl⟩
      · obtain rfl : i = es.length := by omega
        clear hlt hi HN c1
        have e1 : IntKind.i64.wrap ((es.length : Int) - 1) = ((es.length - 1 : Nat) : Int) := by rw [IntKind.wrap_i64]; omega
        obtain ⟨i, hi⟩ : ∃ i, i = es.length - 1 := ⟨_, rfl⟩
        rw [← hi] at e1
        have hilt : i < es.length := by omega
        have a1 : (i : Int) < (es.length : Int) := by omega
        have a2 : (0 : Int) ≤ (i : Int) := by omega
        clear hi
        obtain ⟨p, A1, c1, t, he, g, hc1, hz, hs⟩ := wd.entry hks' hilt
        go_upto_region 9 with fail
        clear c0
        have g := g.later hb
        have sOf : ∀ y, Below wr.heap.size wr y → y.cell? ⟨B, 0, none⟩ = some (.slice (some ⟨bm, 0, none⟩) es.length cm) ∧ y.cell? ⟨B, 1, none⟩ = some (.slice (some ⟨bl, 0, none⟩) es.length cl) ∧ y.cell? ⟨bm, i, none⟩ = some (.pointer p) ∧ y.cell? ⟨bl, i, none⟩ = some (.slice A1 t.toList.length c1) := fun y hy => by
          have h := hb.trans (hy.mono hb.size)
          exact ⟨(rd y h).1, (rd y h).2.1, ((rd y h).2.2 i _ he).1, ((rd y h).2.2 i _ he).2⟩
        have hbx := hx.trans (hb.mono hx.size)
        clear hb rd wd he hx
        obtain ⟨W, hW⟩ : ∃ W, W = wr := ⟨_, rfl⟩
        rw [← hW]
        rw [← hW] at sOf g hbx
        clear hW
        have hw0 : Below W.heap.size W W.drew := Below.drew (Below.refl _ _)
        refine start_ (n := 17) (S := fun w' => w'.cell? ⟨B, 0, none⟩ = some (.slice (some ⟨bm, 0, none⟩) es.length cm) ∧ w'.cell? ⟨B, 1, none⟩ = some (.slice (some ⟨bl, 0, none⟩) es.length cl) ∧ w'.cell? ⟨bm, i, none⟩ = some (.pointer p) ∧ w'.cell? ⟨bl, i, none⟩ = some (.slice A1 t.toList.length c1)) (ds := []) #[false, false, false, false, false, false, false, false, false, false, false, false, false, false, false, false, false] (by kernel_rfl) rfl rfl (sOf _ (Below.drew (Below.refl _ _))) (fun hHeld => ?_)
        refine pure_ (i := 0) (N := some 93) (v := ?_) (a' := ?_) #[true, false, false, false, false, false, false, false, false, false, false, false, false, false, false, false, false] rfl rfl (by kernel_rfl) (fun _ _ _ h => h) (Or.inl ⟨by rfl, ?_⟩) ?_ ?_
        rotate_left
        · intro w'
          go_simp
          with_reducible rfl
        rotate_left
        · simp only [Act.put, List.setIfInBounds_toArray, List.set_cons_zero, List.set_cons_succ, i64_w, i32_w]
          rfl
        refine pure_ (i := 1) (N := some 94) (v := ?_) (a' := ?_) #[true, true, false, false, false, false, false, false, false, false, false, false, false, false, false, false, false] rfl rfl (by kernel_rfl) (fun _ _ _ h => h) (Or.inl ⟨by rfl, ?_⟩) ?_ ?_
        rotate_left
        · intro w'
          go_simp
          with_reducible rfl
        rotate_left
        · simp only [Act.put, List.setIfInBounds_toArray, List.set_cons_zero, List.set_cons_succ, i64_w, i32_w]
          rfl
        refine pure_ (i := 2) (N := some 95) (v := ?_) (a' := ?_) #[true, true, true, false, false, false, false, false, false, false, false, false, false, false, false, false, false] rfl rfl (by kernel_rfl) (fun _ _ _ h => h) (Or.inl ⟨by rfl, ?_⟩) ?_ ?_
        rotate_left
        · intro w'
          go_simp
          with_reducible rfl
        rotate_left
        · simp only [Act.put, List.setIfInBounds_toArray, List.set_cons_zero, List.set_cons_succ, i64_w, i32_w]
          rfl
        refine take_ (i := 3) (N := some 96) (v := ?_) (a' := ?_) #[true, true, true, true, false, false, false, false, false, false, false, false, false, false, false, false, false] rfl rfl (by kernel_rfl) (fun _ _ _ h => h) (Or.inl ⟨by rfl, ?_⟩) hHeld ?_ ?_
        rotate_left
        · rintro w' ⟨s0, s1, s2, s3⟩
          go_simp
          with_reducible rfl
        rotate_left
        · simp only [Act.put, List.setIfInBounds_toArray, List.set_cons_zero, List.set_cons_succ, i64_w, i32_w]
          rfl
        refine pure_ (i := 4) (N := some 97) (v := ?_) (a' := ?_) #[true, true, true, true, true, false, false, false, false, false, false, false, false, false, false, false, false] rfl rfl (by kernel_rfl) (fun _ _ _ h => h) (Or.inl ⟨by rfl, ?_⟩) ?_ ?_
        rotate_left
        · intro w'
          go_simp
          with_reducible rfl
        rotate_left
        · simp only [Act.put, List.setIfInBounds_toArray, List.set_cons_zero, List.set_cons_succ, i64_w, i32_w]
          rfl
        refine pure_ (i := 5) (N := some 98) (v := ?_) (a' := ?_) #[true, true, true, true, true, true, false, false, false, false, false, false, false, false, false, false, false] rfl rfl (by kernel_rfl) (fun _ _ _ h => h) (Or.inl ⟨by rfl, ?_⟩) ?_ ?_
        rotate_left
        · intro w'
          go_simp
          with_reducible rfl
        rotate_left
        · simp only [Act.put, List.setIfInBounds_toArray, List.set_cons_zero, List.set_cons_succ, i64_w, i32_w]
          rfl
        refine take_ (i := 6) (N := some 99) (v := ?_) (a' := ?_) #[true, true, true, true, true, true, true, false, false, false, false, false, false, false, false, false, false] rfl rfl (by kernel_rfl) (fun _ _ _ h => h) (Or.inl ⟨by rfl, ?_⟩) hHeld ?_ ?_
        rotate_left
        · rintro w' ⟨s0, s1, s2, s3⟩
          go_simp
          with_reducible rfl
        rotate_left
        · simp only [Act.put, List.setIfInBounds_toArray, List.set_cons_zero, List.set_cons_succ, i64_w, i32_w]
          rfl
        refine pure_ (i := 7) (N := some 100) (v := ?_) (a' := ?_) #[true, true, true, true, true, true, true, true, false, false, false, false, false, false, false, false, false] rfl rfl (by kernel_rfl) (fun _ _ _ h => h) (Or.inl ⟨by rfl, ?_⟩) ?_ ?_
        rotate_left
        · intro w'
          go_simp
          with_reducible rfl
        rotate_left
        · simp only [Act.put, List.setIfInBounds_toArray, List.set_cons_zero, List.set_cons_succ, i64_w, i32_w]
          rfl
        refine pure_ (i := 8) (N := some 101) (v := ?_) (a' := ?_) #[true, true, true, true, true, true, true, true, true, false, false, false, false, false, false, false, false] rfl rfl (by kernel_rfl) (fun _ _ _ h => h) (Or.inl ⟨by rfl, ?_⟩) ?_ ?_
        rotate_left
        · intro w'
          go_simp
          with_reducible rfl
        rotate_left
        · simp only [Act.put, List.setIfInBounds_toArray, List.set_cons_zero, List.set_cons_succ, i64_w, i32_w]
          rfl
        refine pure_ (i := 9) (N := some 102) (v := ?_) (a' := ?_) #[true, true, true, true, true, true, true, true, true, true, false, false, false, false, false, false, false] rfl rfl (by kernel_rfl) (fun _ _ _ h => h) (Or.inl ⟨by rfl, ?_⟩) ?_ ?_
        rotate_left
        · intro w'
          go_simp
          with_reducible rfl
        rotate_left
        · simp only [Act.put, List.setIfInBounds_toArray, List.set_cons_zero, List.set_cons_succ, i64_w, i32_w]
          rfl
        refine take_ (i := 10) (N := some 103) (v := ?_) (a' := ?_) #[true, true, true, true, true, true, true, true, true, true, true, false, false, false, false, false, false] rfl rfl (by kernel_rfl) (fun _ _ _ h => h) (Or.inl ⟨by rfl, ?_⟩) hHeld ?_ ?_
        rotate_left
        · rintro w' ⟨s0, s1, s2, s3⟩
          go_simp
          with_reducible rfl
        rotate_left
        · simp only [Act.put, List.setIfInBounds_toArray, List.set_cons_zero, List.set_cons_succ, i64_w, i32_w]
          rfl
        refine pure_ (i := 11) (N := some 104) (v := ?_) (a' := ?_) #[true, true, true, true, true, true, true, true, true, true, true, true, false, false, false, false, false] rfl rfl (by kernel_rfl) (fun _ _ _ h => h) (Or.inl ⟨by rfl, ?_⟩) ?_ ?_
        rotate_left
        · intro w'
          go_simp
          with_reducible rfl
        rotate_left
        · simp only [Act.put, List.setIfInBounds_toArray, List.set_cons_zero, List.set_cons_succ, i64_w, i32_w]
          rfl
        refine pure_ (i := 12) (N := some 105) (v := ?_) (a' := ?_) #[true, true, true, true, true, true, true, true, true, true, true, true, true, false, false, false, false] rfl rfl (by kernel_rfl) (fun _ _ _ h => h) (Or.inl ⟨by rfl, ?_⟩) ?_ ?_
        rotate_left
        · intro w'
          go_simp
          with_reducible rfl
        rotate_left
        · simp only [Act.put, List.setIfInBounds_toArray, List.set_cons_zero, List.set_cons_succ, i64_w, i32_w]
          rfl
        refine take_ (i := 13) (N := some 106) (v := ?_) (a' := ?_) #[true, true, true, true, true, true, true, true, true, true, true, true, true, true, false, false, false] rfl rfl (by kernel_rfl) (fun _ _ _ h => h) (Or.inl ⟨by rfl, ?_⟩) hHeld ?_ ?_
        rotate_left
        · rintro w' ⟨s0, s1, s2, s3⟩
          go_simp
          with_reducible rfl
        rotate_left
        · simp only [Act.put, List.setIfInBounds_toArray, List.set_cons_zero, List.set_cons_succ, i64_w, i32_w]
          rfl
        refine one_ (i := 14) (N := some 11) #[true, true, true, true, true, true, true, true, true, true, true, true, true, true, true, false, false] rfl rfl (by kernel_rfl) (by decide) (fun K hK => ?_)
        refine value_ (w1 := ?_) (v := ?_) (by rfl) rfl ?_ ?_
        rotate_left 2
        · go_simp
          constructor <;> with_reducible rfl
        refine hK.out _ _ (sOf _ (hw0.trans ((below_one W.drew (.cells #[.pointer none] 28)).mono hw0.size))) (fun hHeld => ?_)
        clear hK K
        refine norm_ (a' := ?_) ?_ ?_
        rotate_left
        · show Act.put _ (some 11) _ = _
          simp only [Act.put, List.setIfInBounds_toArray, List.set_cons_zero, List.set_cons_succ, i64_w, i32_w]
          rfl
        have hk0 := hw0.trans ((below_one W.drew (.cells #[.pointer none] 28)).mono hw0.size)
        have mb := MBox.new (n₀ := W.heap.size) (W := W.drew) (p := none) (t := .nil) hw0.size rfl
        have e0 := mb.cell
        have f0 := mb.fr
        refine one_ (i := 15) (N := none) #[true, true, true, true, true, true, true, true, true, true, true, true, true, true, true, true, false] rfl rfl (by kernel_rfl) (by decide) (fun K hK => ?_)
        refine skip_ (w1 := ?_) (by rfl) rfl ?_ ?_
        rotate_left
        · go_simp
          with_reducible rfl
        refine hK.out _ _ (sOf _ (Below.drew (below_one W _))) (fun hHeld => ?_)
        clear hK K
        refine pure_ (i := 16) (N := some 12) (v := ?_) (a' := ?_) #[true, true, true, true, true, true, true, true, true, true, true, true, true, true, true, true, true] rfl rfl (by kernel_rfl) (fun _ _ _ h => h) (Or.inl ⟨by rfl, ?_⟩) ?_ ?_
        rotate_left
        · intro w'
          go_simp
          with_reducible rfl
        rotate_left
        · simp only [Act.put, List.setIfInBounds_toArray, List.set_cons_zero, List.set_cons_succ, i64_w, i32_w]
          rfl
        refine done_ (by kernel_rfl) ?_
        have hbW : Below W.heap.size W ((W.alloc (.cells #[.pointer p] 28)).drew) := Below.drew (below_one W _)
        have mb2 := (MBox.new (n₀ := W.heap.size) (W := W) (Nat.le_refl _) g.tree).below (Below.drew (Below.refl _ _))
        have g := g.later hbW
        have hbx := hbx.trans (hbW.mono hbx.size)
        generalize (W.alloc (.cells #[.pointer p] 28)).drew = x2 at mb2 g hbx ⊢
        generalize W.heap.size = b11 at mb2 ⊢
        clear sOf hw0 hk0 hbW mb e0 f0
        go_wp2_with fail
        go_loopg [8, 13] t.toList.length (fun k x8 x13 wr => x8 = .bool true ∧ ∃ j : Nat, x13 = .int .i64 j ∧ j ≤ t.toList.length ∧ Below x2.heap.size x2 wr ∧ Hid (t.toList.length - j = k))
        case atStart => exact ⟨rfl, 0, rfl, by omega, Below.refl _ _, rfl⟩
        case round =>
          obtain ⟨rfl, j, rfl, hj, hb, HN⟩ := hrel
          have hlen : t.toList.length ≤ 1000 := by rw [T.length_toList]; exact hz
          by_cases hlt : j < t.toList.length
          · have b1 : (j : Int) < (t.toList.length : Int) := by omega
            have b2 : (0 : Int) ≤ (j : Int) := by omega
            have b3 : IntKind.i64.wrap ((j : Int) + 1) = ((j + 1 : Nat) : Int) := by rw [IntKind.wrap_i64]; push_cast; omega
            have b4 : IntKind.i64.wrap ((j : Int) - 1) = (j : Int) - 1 := by rw [IntKind.wrap_i64]; omega
            obtain ⟨⟨k0, v0⟩, hxx⟩ : ∃ x, t.toList[j]? = some x := ⟨_, List.getElem?_eq_getElem hlt⟩
            obtain ⟨-, -, hrow⟩ := holds_row g.row
            rcases hrow with h0 | ⟨rb, ro, rfl, hrb, hrc⟩
            · rw [h0] at hlt; simp at hlt
            have f0 : ∀ y, Below x2.heap.size x2 y → y.cell? ⟨b11, 0, none⟩ = some (.pointer p) := fun y h => (mb2.below h).cell
            have f1 : ∀ y, Below x2.heap.size x2 y → y.cell? ⟨rb, ro + j * 2, none⟩ = some (.int .i64 k0) := fun y h => (h.cell (p := ⟨rb, _, none⟩) hrb).trans (hrc j _ hxx).1
            have L : ∀ (q : Int) y, Below x2.heap.size x2 y → Calls Try.prog 44 #[.agg #[.pointer p], .slice (some ⟨rb, ro, none⟩) t.toList.length c1, .int .i64 q] y fun e z => e = .returned (.bool true) ∧ Below x2.heap.size x2 z := fun q y hy =>
              (looks_any t hs hz q p _ _ c1 y _ (g.later hy).tree (g.later hy).row).mono fun e z ⟨h1, h2⟩ => ⟨h1, hy.trans (h2.mono hy.size)⟩
            have S' : ∀ (q : Int) y, q ≤ 9223372036854775807 → Below x2.heap.size x2 y → Calls Try.prog 45 #[.agg #[.pointer p], .slice (some ⟨rb, ro, none⟩) t.toList.length c1, .int .i64 q] y fun e z => e = .returned (.bool true) ∧ Below x2.heap.size x2 z := fun q y hq hy =>
              (stands_any t hs hz q hq p _ _ c1 y _ (g.later hy).tree (g.later hy).row).mono fun e z ⟨h1, h2⟩ => ⟨h1, hy.trans (h2.mono hy.size)⟩
            clear hrc
            go_upto_region 13 with fail
            go_region_held3 (fun w' => Below x2.heap.size x2 w') (repeat (first | assumption | exact Below.refl _ _ | apply Below.drew)) (first
              | (go_at_call 44; (with_reducible refine (L k0 _ (by assumption)).mono ?_); rintro e y ⟨rfl, hy1⟩)
              | (go_at_call 45; (with_reducible refine (S' ((j : Int) - 1) _ (by omega) (by assumption)).mono ?_); rintro e y ⟨rfl, hy2⟩)
              | (go_at_call 45; (with_reducible refine (S' ((j + 1 : Nat) : Int) _ (by omega) (by assumption)).mono ?_); rintro e y ⟨rfl, hy3⟩)
              | (go_at_call 45; (with_reducible refine (S' ((j : Int) + 1) _ (by omega) (by assumption)).mono ?_); rintro e y ⟨rfl, hy3⟩))
            go_wp2
            go_roundg (t.toList.length - (j + 1))
            case measure => have := HN.out; omega
            case rel => exact ⟨rfl, j + 1, rfl, by omega, hy3, rfl⟩
          · obtain rfl : j = t.toList.length := by omega
            go_wp2_with (go_at_call 13; refine (alive_true (Below.refl _ _)).mono ?_; rintro e y ⟨rfl, hy⟩)
            go_ret
            exact ⟨rfl, hbx.trans ((hb.trans (hy.mono hb.size)).mono hbx.size)⟩
  · go_wp2_with (first
      | (go_at_call 37; refine (few_any _ _ _ _).mono ?_; rw [decide_eq_false h200]; rintro e x ⟨rfl, rfl⟩)
      | (go_at_call 13; refine (alive_true (Below.refl _ _)).mono ?_; rintro e x ⟨rfl, hx⟩))
    go_ret
    exact ⟨rfl, hx⟩
end Go.Proofs.MT.II
