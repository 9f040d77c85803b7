/- list: a map's pairs as rows. -/
import Derived.Test.YtnhngaadegebfaaRefCalls
import Derived.Deep.DeepCutAuto
import Derived.Test.YtnhngaadegebfaaWLast
namespace Go.Proofs.MT.II
open Go.RowKit Go.Proofs.YtnhngaadegebfaaW.PrintLast Go.Proofs.YtnhngaadegebfaaW.PrintWords Go.Proofs.Ytnhngaadegebfaa.Q
set_option linter.unusedVariables false
set_option linter.unusedSimpArgs false

/-- A row of one's own is read, whatever its type. -/
theorem own_row {W : World} {base e : Nat} {v : Value} {l : List (Int × Int)} (h : W.ownsRow base e 2 v l.length (flat l)) :
    ∃ A c, v = .slice A l.length c ∧ l.length ≤ c ∧ Row2 ek ev W.heap.size W A l := by
  obtain ⟨_, ⟨rfl, h0⟩ | ⟨g, cap, cur, rfl, hg, hh, hn, hm, hs, ht⟩⟩ := h
  · have : l = [] := List.eq_nil_of_length_eq_zero h0
    subst this
    exact ⟨none, 0, rfl, by simp, .inl rfl⟩
  · refine ⟨_, cap, rfl, hn, .inr ⟨g, 0, rfl, ?_, ?_⟩⟩
    · rcases Nat.lt_or_ge g W.heap.size with h | h
      · exact h
      · rw [Array.getElem?_eq_none h] at hh; cases hh
    · intro i x hx
      have hi : i < l.length := by
        rcases Nat.lt_or_ge i l.length with h | h
        · exact h
        · rw [List.getElem?_eq_none h] at hx; cases hx
      obtain ⟨h0, h1⟩ := flat_get hx
      rw [← ht, List.getElem?_take, if_pos (by omega)] at h0 h1
      simp only [World.cell?, hh, Nat.zero_add]
      rw [Array.getElem?_toList] at h0 h1
      exact ⟨by simpa using h0, by simpa using h1⟩

set_option maxRecDepth 100000 in
set_option maxHeartbeats 1600000 in
theorem list_any (t : T Int Int) (p : Option Addr) (w : World) (h : Tr w.heap.size w p t) (hs : t.size ≤ 1000000) :
    Calls Try.prog 40 #[.agg #[.pointer p]] w fun e w' => ∃ A c, e = .returned (.slice A t.toList.length c) ∧ t.toList.length ≤ c ∧ Row2 ek ev w'.heap.size w' A t.toList ∧ Below w.heap.size w w' := by
  have hb := below_one w (.cells #[.pointer p] 28)
  have hc0 : (w.alloc (.cells #[.pointer p] 28)).cell? ⟨w.heap.size, 0, none⟩ = some (.pointer p) := cell_new _ _ _ _ _ _ rfl
  have ht1 := h.later hb
  go_enter Try.func40, Try.ntmps40
  go_upto_region 2 with fail
  generalize w.alloc (.cells #[.pointer p] 28) = w1 at hb hc0 ht1 ⊢
  go_upto_region 4 with (go_at_call 18; refine (Pairs_any p t (by omega) _ ht1).mono ?_; rintro e w2 ⟨v, rfl, hown, -, hb2⟩)
  have hown := Kd.own_raise (b' := w.heap.size) hown fun k hk => Nat.le_trans hb.size (own_tag hown hk).2
  have hb := hb.trans (hb2.mono hb.size)
  have hlen := T.length_toList t
  clear hb2 hc0 ht1 h
  obtain ⟨P, cp, rfl, hcp, -⟩ := own_row hown
  have hn1 : t.toList.length ≤ 1000000 := by omega
  clear hlen
  go_loopg [3, 5] t.toList.length (fun k x3 x5 wr => ∃ j : Nat, x5 = .int .i64 j ∧ j ≤ t.toList.length ∧ wr.ownsRow w.heap.size 38 2 x3 j (flat (t.toList.take j)) ∧ wr.ownsRow w.heap.size 36 2 (.slice P t.toList.length cp) t.toList.length (flat t.toList) ∧ Below w.heap.size w wr ∧ Hid (t.toList.length - j = k))
  case atStart => exact ⟨0, rfl, by omega, ⟨by simp [flat], .inl ⟨rfl, rfl⟩⟩, hown, hb, rfl⟩
  case round =>
    clear hown hb
    obtain ⟨j, rfl, hj, hout, hrow, hb, HN⟩ := hrel
    by_cases hlt : j < t.toList.length
    · have a1 : (j : Int) < (t.toList.length : Int) := by omega
      have a2 : (0 : Int) ≤ (j : Int) := by omega
      have a3 : IntKind.i64.wrap ((j : Int) + 1) = ((j + 1 : Nat) : Int) := by rw [IntKind.wrap_i64]; push_cast; omega
      obtain ⟨⟨k0, v0⟩, hx⟩ : ∃ x, t.toList[j]? = some x := ⟨_, List.getElem?_eq_getElem hlt⟩
      obtain ⟨_, _, he, -, hr⟩ := own_row hrow
      injection he with he1 he2 he3
      subst he1 he3
      rcases hr with h0 | ⟨b, o, rfl, hlb, hc⟩
      · rw [h0] at hlt; simp at hlt
      obtain ⟨d0, d1⟩ := hc j _ hx
      clear hc
      have sOf : ∀ y, Below wr.heap.size wr y → y.cell? ⟨b, o + j * 2, none⟩ = some (.int .i64 k0) ∧ y.cell? ⟨b, o + j * 2 + 1, none⟩ = some (.int .i64 v0) := fun y hy => ⟨(hy.cell (p := ⟨b, _, none⟩) hlb).trans d0, (hy.cell (p := ⟨b, _, none⟩) hlb).trans d1⟩
      have hw0 : Below wr.heap.size wr wr.drew := Below.drew (Below.refl _ _)
      go_upto_region 6 with fail
      refine start_ (n := 15) (S := fun w' => w'.cell? ⟨b, o + j * 2, none⟩ = some (.int .i64 k0) ∧ w'.cell? ⟨b, o + j * 2 + 1, none⟩ = some (.int .i64 v0)) (ds := [13]) #[false, false, false, false, false, false, false, false, false, false, false, false, false, false, false] (by kernel_rfl) rfl rfl (sOf _ (Below.drew (Below.refl _ _))) (fun hHeld => ?_)
      refine pure_ (i := 0) (N := some 14) (v := ?_) (a' := ?_) #[true, false, false, false, false, false, false, false, false, false, false, false, false, false, false] rfl rfl (by kernel_rfl) (fun _ _ _ h => h) (Or.inl ⟨by rfl, ?_⟩) ?_ ?_
      rotate_left
      · intro w'
        go_simp
        with_reducible rfl
      rotate_left
      · simp only [Act.put, List.setIfInBounds_toArray, List.set_cons_zero, List.set_cons_succ, i64_w, i32_w]
        rfl
      refine pure_ (i := 1) (N := some 15) (v := ?_) (a' := ?_) #[true, true, false, false, false, false, false, false, false, false, false, false, false, false, false] rfl rfl (by kernel_rfl) (fun _ _ _ h => h) (Or.inl ⟨by rfl, ?_⟩) ?_ ?_
      rotate_left
      · intro w'
        go_simp
        with_reducible rfl
      rotate_left
      · simp only [Act.put, List.setIfInBounds_toArray, List.set_cons_zero, List.set_cons_succ, i64_w, i32_w]
        rfl
      refine pure_ (i := 2) (N := some 16) (v := ?_) (a' := ?_) #[true, true, true, false, false, false, false, false, false, false, false, false, false, false, false] rfl rfl (by kernel_rfl) (fun _ _ _ h => h) (Or.inl ⟨by rfl, ?_⟩) ?_ ?_
      rotate_left
      · intro w'
        go_simp
        with_reducible rfl
      rotate_left
      · simp only [Act.put, List.setIfInBounds_toArray, List.set_cons_zero, List.set_cons_succ, i64_w, i32_w]
        rfl
      refine pure_ (i := 3) (N := some 17) (v := ?_) (a' := ?_) #[true, true, true, true, false, false, false, false, false, false, false, false, false, false, false] rfl rfl (by kernel_rfl) (fun _ _ _ h => h) (Or.inl ⟨by rfl, ?_⟩) ?_ ?_
      rotate_left
      · intro w'
        go_simp
        with_reducible rfl
      rotate_left
      · simp only [Act.put, List.setIfInBounds_toArray, List.set_cons_zero, List.set_cons_succ, i64_w, i32_w]
        rfl
      refine pure_ (i := 4) (N := some 18) (v := ?_) (a' := ?_) #[true, true, true, true, true, false, false, false, false, false, false, false, false, false, false] rfl rfl (by kernel_rfl) (fun _ _ _ h => h) (Or.inl ⟨by rfl, ?_⟩) ?_ ?_
      rotate_left
      · intro w'
        go_simp
        with_reducible rfl
      rotate_left
      · simp only [Act.put, List.setIfInBounds_toArray, List.set_cons_zero, List.set_cons_succ, i64_w, i32_w]
        rfl
      refine take_ (i := 5) (N := some 19) (v := ?_) (a' := ?_) #[true, true, true, true, true, true, false, false, false, false, false, false, false, false, false] rfl rfl (by kernel_rfl) (fun _ _ _ h => h) (Or.inl ⟨by rfl, ?_⟩) hHeld ?_ ?_
      rotate_left
      · rintro w' ⟨s0, s1⟩
        go_simp
        with_reducible rfl
      rotate_left
      · simp only [Act.put, List.setIfInBounds_toArray, List.set_cons_zero, List.set_cons_succ, i64_w, i32_w]
        rfl
      refine pure_ (i := 6) (N := some 20) (v := ?_) (a' := ?_) #[true, true, true, true, true, true, true, false, false, false, false, false, false, false, false] rfl rfl (by kernel_rfl) (fun _ _ _ h => h) (Or.inl ⟨by rfl, ?_⟩) ?_ ?_
      rotate_left
      · intro w'
        go_simp
        with_reducible rfl
      rotate_left
      · simp only [Act.put, List.setIfInBounds_toArray, List.set_cons_zero, List.set_cons_succ, i64_w, i32_w]
        rfl
      refine pure_ (i := 7) (N := some 21) (v := ?_) (a' := ?_) #[true, true, true, true, true, true, true, true, false, false, false, false, false, false, false] rfl rfl (by kernel_rfl) (fun _ _ _ h => h) (Or.inl ⟨by rfl, ?_⟩) ?_ ?_
      rotate_left
      · intro w'
        go_simp
        with_reducible rfl
      rotate_left
      · simp only [Act.put, List.setIfInBounds_toArray, List.set_cons_zero, List.set_cons_succ, i64_w, i32_w]
        rfl
      refine pure_ (i := 8) (N := some 22) (v := ?_) (a' := ?_) #[true, true, true, true, true, true, true, true, true, false, false, false, false, false, false] rfl rfl (by kernel_rfl) (fun _ _ _ h => h) (Or.inl ⟨by rfl, ?_⟩) ?_ ?_
      rotate_left
      · intro w'
        go_simp
        with_reducible rfl
      rotate_left
      · simp only [Act.put, List.setIfInBounds_toArray, List.set_cons_zero, List.set_cons_succ, i64_w, i32_w]
        rfl
      refine pure_ (i := 9) (N := some 23) (v := ?_) (a' := ?_) #[true, true, true, true, true, true, true, true, true, true, false, false, false, false, false] rfl rfl (by kernel_rfl) (fun _ _ _ h => h) (Or.inl ⟨by rfl, ?_⟩) ?_ ?_
      rotate_left
      · intro w'
        go_simp
        with_reducible rfl
      rotate_left
      · simp only [Act.put, List.setIfInBounds_toArray, List.set_cons_zero, List.set_cons_succ, i64_w, i32_w]
        rfl
      refine take_ (i := 10) (N := some 24) (v := ?_) (a' := ?_) #[true, true, true, true, true, true, true, true, true, true, true, false, false, false, false] rfl rfl (by kernel_rfl) (fun _ _ _ h => h) (Or.inl ⟨by rfl, ?_⟩) hHeld ?_ ?_
      rotate_left
      · rintro w' ⟨s0, s1⟩
        go_simp
        with_reducible rfl
      rotate_left
      · simp only [Act.put, List.setIfInBounds_toArray, List.set_cons_zero, List.set_cons_succ, i64_w, i32_w]
        rfl
      refine pure_ (i := 11) (N := some 25) (v := ?_) (a' := ?_) #[true, true, true, true, true, true, true, true, true, true, true, true, false, false, false] rfl rfl (by kernel_rfl) (fun _ _ _ h => h) (Or.inl ⟨by rfl, ?_⟩) ?_ ?_
      rotate_left
      · intro w'
        go_simp
        with_reducible rfl
      rotate_left
      · simp only [Act.put, List.setIfInBounds_toArray, List.set_cons_zero, List.set_cons_succ, i64_w, i32_w]
        rfl
      refine one_ (i := 12) (N := some 26) #[true, true, true, true, true, true, true, true, true, true, true, true, true, false, false] rfl rfl (by kernel_rfl) (by decide) (fun K hK => ?_)
      refine value_ (w1 := ?_) (v := ?_) (by rfl) rfl ?_ ?_
      rotate_left 2
      · go_simp
        constructor <;> with_reducible rfl
      refine hK.out _ _ (sOf _ (hw0.trans ((below_one wr.drew (.cells #[.int .i64 k0, .int .i64 v0] 38)).mono hw0.size))) (fun hHeld => ?_)
      clear hK K
      refine norm_ (a' := ?_) ?_ ?_
      rotate_left
      · show Act.put _ (some 26) _ = _
        simp only [Act.put, List.setIfInBounds_toArray, List.set_cons_zero, List.set_cons_succ, i64_w, i32_w]
        rfl
      refine last_ (i := 13) (N := some 27) #[true, true, true, true, true, true, true, true, true, true, true, true, true, true, false] rfl rfl (by kernel_rfl) (by decide) (fun K hK => ?_)
      refine step_append_cells (w0 := w) (W := wr.drew) w.heap.size (by rfl) (.tmp 14) (.tmp 26) 22 38 (.agg #[.int .i64 0, .int .i64 0]) 2 16 rfl Try.underlying22 info38 rfl (by omega) (by omega) u3 j (flat (t.toList.take j)) [.int .i64 k0, .int .i64 v0] rfl rfl rfl (by simp [Value.oneCell']) (own_step hout fun k _ hk => hw0.block k hk) (hb.trans (hw0.mono hb.size)) (Nat.le_trans hb.size hw0.size) (by omega) ?_
      intro v1 y1 ho hb1 hg hat
      refine hK.out _ _ ?_
      clear hK K
      refine norm_ (a' := ?_) ?_ ?_
      rotate_left
      · show Act.put _ (some 27) _ = _
        simp only [Act.put, List.setIfInBounds_toArray, List.set_cons_zero, List.set_cons_succ, i64_w, i32_w]
        rfl
      refine pure_ (i := 14) (N := some 3) (v := ?_) (a' := ?_) #[true, true, true, true, true, true, true, true, true, true, true, true, true, true, true] rfl rfl (by kernel_rfl) (fun _ _ _ h => h) (Or.inl ⟨by rfl, ?_⟩) ?_ ?_
      rotate_left
      · intro w'
        go_simp
        with_reducible rfl
      rotate_left
      · simp only [Act.put, List.setIfInBounds_toArray, List.set_cons_zero, List.set_cons_succ, i64_w, i32_w]
        rfl
      refine done_ (by kernel_rfl) ?_
      have hrow' := own_step (W' := y1) hrow fun k hk hlt => (hg.block k (Nat.lt_of_lt_of_le hlt hw0.size) fun e => absurd (tag_one (own_tag hrow hk).1 (own_tag hout e.symm).1) (by decide)).trans (hw0.block k hlt)
      go_wp2
      go_roundg (t.toList.length - (j + 1))
      case measure => have := HN.out; omega
      case rel =>
        refine ⟨j + 1, rfl, by omega, ?_, hrow', hb1, rfl⟩
        rw [List.take_add_one, hx]
        rw [show (some (k0, v0) : Option (Int × Int)).toList = [(k0, v0)] from rfl, flat_snoc]
        exact ho
    · obtain rfl : j = t.toList.length := by omega
      go_wp2_with fail
      rw [List.take_length] at hout
      obtain ⟨A, c, rfl, hc, hr⟩ := own_row hout
      go_ret
      exact ⟨A, c, rfl, hc, hr, hb⟩
end Go.Proofs.MT.II
