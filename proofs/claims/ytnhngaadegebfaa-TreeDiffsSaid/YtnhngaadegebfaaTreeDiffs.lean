/- The law TreeDiffs, walked. -/
import Derived.Test.YtnhngaadegebfaaBoxCalls
import Derived.Test.YtnhngaadegebfaaRefDiff
namespace Go.Proofs.MT.II
open Go.RowKit Go.Proofs.YtnhngaadegebfaaW.PrintLast Go.Proofs.YtnhngaadegebfaaW.PrintWords
set_option linter.unusedVariables false
set_option linter.unusedSimpArgs false

theorem flatC_all {l : List Ch} : ∀ {i : Nat} {c : Ch}, l[i]? = some c → (flatC l)[i * 5]? = some (.int .i64 c.key) ∧ (flatC l)[i * 5 + 1]? = some (.int .i64 c.old) ∧ (flatC l)[i * 5 + 2]? = some (.int .i64 c.new) ∧ (flatC l)[i * 5 + 3]? = some (.bool c.had) ∧ (flatC l)[i * 5 + 4]? = some (.bool c.has) := by
  induction l with
  | nil => intro i c h; cases h
  | cons y ys ih =>
    intro i c h
    cases i with
    | zero => injection h with h; subst h; exact ⟨rfl, rfl, rfl, rfl, rfl⟩
    | succ i =>
      have := ih (i := i) (c := c) h
      rw [show (i + 1) * 5 = i * 5 + 1 + 1 + 1 + 1 + 1 from by omega]
      exact this
/-- A row of changes, read, whatever its type. -/
theorem rowE {e : Nat} {W : World} {base : Nat} {v : Value} {l : List Ch} (h : W.ownsRow base e 5 v l.length (flatC l)) :
    ∃ A c, v = .slice A l.length c ∧ l.length ≤ c ∧ (l = [] ∨ ∃ b, A = some ⟨b, 0, none⟩ ∧ b < W.heap.size ∧ ∀ i ch, l[i]? = some ch → W.cell? ⟨b, i * 5, none⟩ = some (.int .i64 ch.key) ∧ W.cell? ⟨b, i * 5 + 1, none⟩ = some (.int .i64 ch.old) ∧ W.cell? ⟨b, i * 5 + 2, none⟩ = some (.int .i64 ch.new) ∧ W.cell? ⟨b, i * 5 + 3, none⟩ = some (.bool ch.had) ∧ W.cell? ⟨b, i * 5 + 4, none⟩ = some (.bool ch.has)) := by
  obtain ⟨_, ⟨rfl, h0⟩ | ⟨g, cap, cur, rfl, hg, hh, hn, hm, hs, ht⟩⟩ := h
  · have : l = [] := List.eq_nil_of_length_eq_zero h0
    subst this
    exact ⟨none, 0, rfl, by simp, .inl rfl⟩
  · refine ⟨_, cap, rfl, hn, .inr ⟨g, rfl, ?_, ?_⟩⟩
    · rcases Nat.lt_or_ge g W.heap.size with h | h
      · exact h
      · rw [Array.getElem?_eq_none h] at hh; cases hh
    · intro i x hx
      have hi : i < l.length := by
        rcases Nat.lt_or_ge i l.length with h | h
        · exact h
        · rw [List.getElem?_eq_none h] at hx; cases hx
      obtain ⟨h0, h1, h2, h3, h4⟩ := flatC_all hx
      rw [← ht, List.getElem?_take, if_pos (by omega), Array.getElem?_toList] at h0 h1 h2 h3 h4
      simp only [World.cell?, hh]
      exact ⟨by simpa using h0, by simpa using h1, by simpa using h2, by simpa using h3, by simpa using h4⟩

set_option maxRecDepth 100000 in
set_option maxHeartbeats 12800000 in
theorem TreeDiffs_walk (l : List Step) (hok : ∀ o ∈ l, o.ok) (A : Option Addr) (c : Nat) (hc : l.length ≤ c) (w : World) (hr : Steps5 w A l) (xx yy : Int) (hx0 : 0 ≤ xx) (hx1 : xx ≤ 255) (hy0 : 0 ≤ yy) (hy1 : yy ≤ 255) :
    Calls Try.prog 11 #[.slice A l.length c, .int .u8 xx, .int .u8 yy] w fun e w' => e = .returned (.bool true) ∧ Below w.heap.size w w' := by
  go_enter Try.func11, Try.ntmps11
  by_cases h200 : (l.length : Int) ≤ 200
  · go_upto_region 4 with (first
      | (go_at_call 37; refine (few_any _ _ _ _).mono ?_; rw [decide_eq_true h200]; rintro e x ⟨rfl, rfl⟩)
      | (go_at_call 38; refine (played_any l (by omega) hok A c hc _ hr).mono ?_; rintro e x ⟨B, vm, vl, ks, es, rfl, hx, wd, hes, hks⟩))
    obtain ⟨bm, cm, bl, cl, rfl, rfl, hcm, hcl, rd⟩ := wd.opened (by omega)
    have hne : 0 < es.length := by omega
    have hks' : ks.length ≤ 1000 := by omega
    have hel : es.length ≤ 1000 := by omega
    clear hes hks
    have n0 : 0 < (es.length : Int) := by omega
    obtain ⟨i, hi, hin⟩ : ∃ i : Nat, xx % (es.length : Int) = i ∧ i < es.length := ⟨(xx % (es.length : Int)).toNat, by have := Int.emod_nonneg xx (b := (es.length : Int)) (by omega); omega, by have h1 := Int.emod_lt_of_pos xx n0; have := Int.emod_nonneg xx (b := (es.length : Int)) (by omega); omega⟩
    obtain ⟨j, hj, hjn⟩ : ∃ j : Nat, yy % (es.length : Int) = j ∧ j < es.length := ⟨(yy % (es.length : Int)).toNat, by have := Int.emod_nonneg yy (b := (es.length : Int)) (by omega); omega, by have h1 := Int.emod_lt_of_pos yy n0; have := Int.emod_nonneg yy (b := (es.length : Int)) (by omega); omega⟩
    have t1' : xx.tmod (es.length : Int) = (i : Int) := by rw [Int.tmod_eq_emod_of_nonneg hx0]; exact hi
    have t2' : yy.tmod (es.length : Int) = (j : Int) := by rw [Int.tmod_eq_emod_of_nonneg hy0]; exact hj
    have w1 : IntKind.i64.wrap xx = xx := by rw [IntKind.wrap_i64]; omega
    have w2 : IntKind.i64.wrap yy = yy := by rw [IntKind.wrap_i64]; omega
    have nn : ¬ (es.length : Int) = 0 := by omega
    have nn2 : ¬ es = [] := by intro e; rw [e] at hne; simp at hne
    have a1 : (i : Int) < (es.length : Int) := by omega
    have a2 : (0 : Int) ≤ (i : Int) := by omega
    have a3 : (j : Int) < (es.length : Int) := by omega
    have a4 : (0 : Int) ≤ (j : Int) := by omega
    obtain ⟨p1, A1, c1, t1, he1, g1, hc1, hz1, s1⟩ := wd.entry hks' hin
    obtain ⟨p2, A2, c2, t2, he2, g2, hc2, hz2, s2⟩ := wd.entry hks' hjn
    have f0 : ∀ y, Below x.heap.size x y → y.cell? ⟨B, 0, none⟩ = some (.slice (some ⟨bm, 0, none⟩) es.length cm) := fun y h => (rd y h).1
    have f1 : ∀ y, Below x.heap.size x y → y.cell? ⟨B, 1, none⟩ = some (.slice (some ⟨bl, 0, none⟩) es.length cl) := fun y h => (rd y h).2.1
    have f2 : ∀ y, Below x.heap.size x y → y.cell? ⟨bm, i, none⟩ = some (.pointer p1) := fun y h => ((rd y h).2.2 i _ he1).1
    have f3 : ∀ y, Below x.heap.size x y → y.cell? ⟨bm, j, none⟩ = some (.pointer p2) := fun y h => ((rd y h).2.2 j _ he2).1
    have f4 : ∀ y, Below x.heap.size x y → y.cell? ⟨bl, i, none⟩ = some (.slice A1 t1.toList.length c1) := fun y h => ((rd y h).2.2 i _ he1).2
    have f5 : ∀ y, Below x.heap.size x y → y.cell? ⟨bl, j, none⟩ = some (.slice A2 t2.toList.length c2) := fun y h => ((rd y h).2.2 j _ he2).2
    have hbd : ∀ y, Below x.heap.size x y → ∀ k, Bad B (.slice (some ⟨bm, 0, none⟩) es.length cm) (.slice (some ⟨bl, 0, none⟩) es.length cl) k → k < y.heap.size := by
      rintro y hy k (h1 | h1 | h1)
      · rw [h1]; exact World.block_lt_of_cell? y ⟨B, 0, none⟩ (f0 y hy)
      · injection h1 with h1
        have h1 : bm = k := h1
        rw [← h1]; exact World.block_lt_of_cell? y ⟨bm, i, none⟩ (f2 y hy)
      · injection h1 with h1
        have h1 : bl = k := h1
        rw [← h1]; exact World.block_lt_of_cell? y ⟨bl, i, none⟩ (f4 y hy)
    have x0 := f0 _ (Below.refl _ _)
    clear rd wd he1 he2
    go_quiet (fail)
    go_upto_region 5 with fail
    have hb0 := below_draws (Below.refl x.heap.size x) nq
    clear x0
    go_region_held3 (fun w' => Below x.heap.size x w') (repeat (first | assumption | exact Below.refl _ _ | exact below_draws (Below.refl _ _) _ | apply Below.drew)) (first
      | (go_at_call 46; refine (diff_any t1 t2 p1 p2 _ (g1.later (by assumption)).tree (g2.later (by assumption)).tree (by omega) (by omega)).mono ?_; rintro e y1 ⟨v1, rfl, ho1, hx1⟩; have hk1 : Below x.heap.size x y1 := Below.trans (by assumption) (hx1.mono (Below.size (by assumption))); obtain ⟨AD, cD, rfl, hcD, hrD⟩ := rowE ho1; have HRD := Lib.hid hrD; clear ho1 hrD)
      | (go_at_call 47; refine (refDiff (g1.later (by assumption)).row (g2.later (by assumption)).row s1 s2 hz1 hz2 (hbd _ (by assumption))).mono ?_; rintro e y2 ⟨v2, rfl, ho2, hx2⟩; have hk2 : Below x.heap.size x y2 := Below.trans (by assumption) (hx2.mono (Below.size (by assumption))); obtain ⟨AE, cE, rfl, hcE, hrE⟩ := rowE ho2; have HRE := Lib.hid hrE; clear ho2 hrE))
    have hbx := hx.trans (hk2.mono hx.size)
    obtain ⟨cs, hcs⟩ : ∃ cs, cs = diffL t1.toList t2.toList := ⟨_, rfl⟩
    have HR1 := HRD.out
    have HR2 := HRE.out
    have hcl : cs.length ≤ 2000 := by
      have := (told4 _ t1.toList t2.toList (Nat.le_refl _) s1 s2).len
      rw [← hcs, T.length_toList, T.length_toList] at this
      omega
    rw [← hcs] at HR1 HR2
    simp only [← hcs]
    clear HRD HRE
    clear hcs hcD hcE f0 f1 f2 f3 f4 f5 hbd g1 g2 hk1 hk2
    go_upto_region 9 with fail
    go_loopg [13] cs.length (fun k x13 wr => ∃ j : Nat, x13 = .int .i64 j ∧ j ≤ cs.length ∧ Below y2.heap.size y2 wr ∧ Hid (cs.length - j = k))
    case atStart => exact ⟨0, rfl, by omega, Below.refl _ _, rfl⟩
    case round =>
      obtain ⟨j, rfl, hj, hb, HN⟩ := hrel
      by_cases hlt : j < cs.length
      · have b1 : (j : Int) < (cs.length : Int) := by omega
        have b2 : (0 : Int) ≤ (j : Int) := by omega
        have b3 : IntKind.i64.wrap ((j : Int) + 1) = ((j + 1 : Nat) : Int) := by rw [IntKind.wrap_i64]; push_cast; omega
        obtain ⟨ch, hch⟩ : ∃ x, cs[j]? = some x := ⟨_, List.getElem?_eq_getElem hlt⟩
        rcases HR1 with h0 | ⟨bD, rfl, hbD, hcD⟩
        · rw [h0] at hlt; simp at hlt
        rcases HR2 with h0 | ⟨bE, rfl, hbE, hcE⟩
        · rw [h0] at hlt; simp at hlt
        have q1 := hcD j ch hch
        have q2 := hcE j ch hch
        have hb2 := hx2.trans (hb.mono hx2.size)
        have r0 := (hb2.cell (p := ⟨bD, _, none⟩) hbD).trans q1.1
        have r1 := (hb2.cell (p := ⟨bD, _, none⟩) hbD).trans q1.2.1
        have r2 := (hb2.cell (p := ⟨bD, _, none⟩) hbD).trans q1.2.2.1
        have r3 := (hb2.cell (p := ⟨bD, _, none⟩) hbD).trans q1.2.2.2.1
        have r4 := (hb2.cell (p := ⟨bD, _, none⟩) hbD).trans q1.2.2.2.2
        have s0 := (hb.cell (p := ⟨bE, _, none⟩) hbE).trans q2.1
        have s1' := (hb.cell (p := ⟨bE, _, none⟩) hbE).trans q2.2.1
        have s2' := (hb.cell (p := ⟨bE, _, none⟩) hbE).trans q2.2.2.1
        have s3 := (hb.cell (p := ⟨bE, _, none⟩) hbE).trans q2.2.2.2.1
        have s4 := (hb.cell (p := ⟨bE, _, none⟩) hbE).trans q2.2.2.2.2
        have ltD : bD < wr.heap.size := Nat.lt_of_lt_of_le hbD hb2.size
        have ltE : bE < wr.heap.size := Nat.lt_of_lt_of_le hbE hb.size
        have neD : ¬ wr.heap.size = bD := by omega
        have neE : ¬ wr.heap.size = bE := by omega
        have neD2 : ¬ wr.heap.size + 1 = bD := by omega
        have neE2 : ¬ wr.heap.size + 1 = bE := by omega
        have ltD2 : bD < wr.heap.size + 1 := by omega
        have ltE2 : bE < wr.heap.size + 1 := by omega
        clear hcD hcE q1 q2
        go_upto_region 11 with fail
        go_region
        all_goals (
          go_wp2_with fail
          go_roundg (cs.length - (j + 1))
          case measure => have := HN.out; omega
          case rel => exact ⟨j + 1, rfl, by omega, hb.trans ((Below.drew (below_two wr _ _)).mono hb.size), rfl⟩)
      · obtain rfl : j = cs.length := by omega
        go_wp2_with (go_at_call 13; refine (alive_true (Below.refl _ _)).mono ?_; rintro e y ⟨rfl, hy⟩)
        go_ret
        exact ⟨rfl, hbx.trans ((hb.trans (hy.mono hb.size)).mono hbx.size)⟩
  · go_wp2_with (first
      | (go_at_call 37; refine (few_any _ _ _ _).mono ?_; rw [decide_eq_false h200]; rintro e x ⟨rfl, rfl⟩)
      | (go_at_call 13; refine (alive_true (Below.refl _ _)).mono ?_; rintro e x ⟨rfl, hx⟩))
    go_ret
    exact ⟨rfl, hx⟩
end Go.Proofs.MT.II
