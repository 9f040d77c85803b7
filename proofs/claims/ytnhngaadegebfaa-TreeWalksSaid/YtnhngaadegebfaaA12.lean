/- Range and Join (II). -/
import Derived.Test.YtnhngaadegebfaaProg
import Derived.Test.YtnhngaadegebfaaBase
import Derived.Test.YtnhngaadegebfaaA89
import Derived.BigQuiet
import Derived.Deep.QuietTactic
import Derived.Deep.RegionHeld3
import Derived.KernelRfl
namespace Go.Proofs.MT.II
open Go.RowKit
set_option maxRecDepth 100000 in
set_option maxHeartbeats 2000000 in
theorem Range_any (t : T Int Int) (a b : Int) (p : Option Addr) (w : World) (h : Tr w.heap.size w p t) (hs : t.size + 1 ≤ 1099511627776) :
    Calls Try.prog 36 #[.agg #[.pointer p], .int .i64 a, .int .i64 b] w (MakesM (T.range a b t) w) := by
  have hb := below_two w (.cells #[.pointer p] 28) (.cells #[.pointer none] 28)
  cases hk : KOrd.lt a b with
  | false =>
    have HR : Hid (T.range a b t = .nil) := by simp [Hid, T.range, hk]
    have hk' : b ≤ a := by simpa using hk
    all_goals clear hk
    all_goals go_enter Try.func36, Try.ntmps36
    all_goals go_wp2
    all_goals exact bodyPost_ret (v := .agg #[.pointer none]) (by simp [results, Try.results36, go_sem]) rfl ⟨none, rfl, by rw [HR.out]; rfl, hb⟩
  | true =>
    obtain ⟨at_, hat⟩ : ∃ x, x = (T.cut a t).2.1 := ⟨_, rfl⟩
    obtain ⟨r, hr⟩ : ∃ x, x = (T.cut a t).2.2 := ⟨_, rfl⟩
    have HR : Hid (T.range a b t = (T.cut b (T.rangeR at_ r)).1) := by rw [hat, hr]; simp [Hid, T.range, hk]
    have hz : r.size ≤ t.size := by have := cut_sizes a t; rw [hr]; omega
    have HAT := Lib.hid hat
    have HRR := Lib.hid hr
    have hk' : a < b := by simpa using hk
    clear hk hat hr
    go_enter Try.func36, Try.ntmps36
    go_wp2_with fail
    refine (cut_any a t p _ (h.later hb) (by omega)).mono ?_
    rintro e w1 ⟨p1, q1, r1, rfl, -, hq1, hr1, hb1⟩
    rw [← HAT.out] at hq1
    rw [← HRR.out] at hr1
    have hb2 := hb.trans (hb1.mono hb.size)
    have tg1 : tagAt w1 (w.heap.size + 1) 28 := tagAt.below (tag_at _ _ 28 _ _ (by simp)) hb1 (by simp)
    obtain ⟨hc, hf⟩ := bcell hb1
    have hc1 : w1.cell? ⟨w.heap.size + 1, 0, none⟩ = some (.pointer none) := by rw [hc _ _ (by simp)]; exact cell_new' _ _ _ _ _ _ _ (by simp) rfl
    have hf1 : w1.frozen? ⟨w.heap.size + 1, 0, none⟩ = false := by rw [hf _ _ (by simp)]; exact frozen_new' _ _ _ _ _ (by simp)
    have hlt1 : w.heap.size + 1 < w1.heap.size := Nat.lt_of_lt_of_le (by simp) hb1.size
    clear hc hf hb1 hb h
    cases at_ with
    | nil =>
      obtain rfl : q1 = none := hq1
      go_wp2_with (go_at_call 69; refine (cut_any b r r1 _ hr1 (by omega)).mono ?_; rintro e w2 ⟨p2, q2, r2, rfl, hp2, -, -, hb3⟩; obtain ⟨hc, hf⟩ := bcell hb3; have hc2 := (hc _ 0 hlt1).trans hc1; have hf2 := (hf _ 0 hlt1).trans hf1)
      exact bodyPost_ret (v := .agg #[.pointer p2]) (by simp [results, Try.results36, go_sem, hc2]) rfl
        ⟨p2, rfl, by rw [HR.out]; exact hp2.stored (a := ⟨w.heap.size + 1, 0, none⟩) (tagAt.below tg1 hb3 hlt1) (by decide) _, (hb2.trans (hb3.mono hb2.size)).setCell (p := ⟨w.heap.size + 1, 0, none⟩) (by simp) _⟩
    | node al ak av ar =>
      obtain ⟨ba, pl, pr, rfl, hba, c0, c1, c2, c3, c4, hal, har⟩ := id hq1
      have f0 : ∀ w', Below w1.heap.size w1 w' → w'.cell? ⟨ba, 0, none⟩ = some (.int .i64 ak) := cell_later (a := ⟨ba, 0, none⟩) hba c0
      have f1 : ∀ w', Below w1.heap.size w1 w' → w'.cell? ⟨ba, 1, none⟩ = some (.int .i64 av) := cell_later (a := ⟨ba, 1, none⟩) hba c1
      clear hal har c0 c1 c2 c3 c4
      go_wp2_with fail
      go_region_held3 (fun w' => Below w1.heap.size w1 w') (repeat (first | assumption | exact Below.refl _ _ | apply Below.drew)) (first | (go_at_call 75; refine (link_any .nil r ak av none r1 _ rfl (hr1.later (by assumption)) (by simp [T.size]; omega)).mono ?_; rintro e w2 ⟨p2, rfl, hp2, hb3⟩; have hk2 : Below w1.heap.size w1 w2 := Below.trans (by assumption) (hb3.mono (Below.size (by assumption)))))
      obtain ⟨hc', hf'⟩ := bcell hk2
      have hc2' := (hc' _ 0 hlt1).trans hc1
      have hf2' := (hf' _ 0 hlt1).trans hf1
      have hlt2 := Nat.lt_of_lt_of_le hlt1 hk2.size
      have tg2 := tagAt.below tg1 hk2 hlt1
      have hb4 := hb2.trans (hk2.mono hb2.size)
      go_wp2_with (go_at_call 69; refine (cut_any b (T.link .nil ak av r) p2 _ hp2 (by rw [T.link_size]; simp [T.size]; omega)).mono ?_; rintro e w3 ⟨p3, q3, r3, rfl, hp3, -, -, hb5⟩; obtain ⟨hc, hf⟩ := bcell hb5; have hc3 := (hc _ 0 hlt2).trans hc2'; have hf3 := (hf _ 0 hlt2).trans hf2')
      exact bodyPost_ret (v := .agg #[.pointer p3]) (by simp [results, Try.results36, go_sem, hc3]) rfl
        ⟨p3, rfl, by rw [HR.out]; exact hp3.stored (a := ⟨w.heap.size + 1, 0, none⟩) (tagAt.below tg2 hb5 hlt2) (by decide) _, (hb4.trans (hb5.mono hb4.size)).setCell (p := ⟨w.heap.size + 1, 0, none⟩) (by simp) _⟩

theorem told_parts (X : T Int Int) : ∃ k v b, toldV X = .tuple #[.int .i64 k, .int .i64 v, .bool b] ∧ ((X = .nil ∧ b = false) ∨ ∃ l r, X = .node l k v r ∧ b = true) := by
  cases X with
  | nil => exact ⟨0, 0, false, rfl, .inl ⟨rfl, rfl⟩⟩
  | node l k v r => exact ⟨k, v, true, rfl, .inr ⟨l, r, rfl, rfl⟩⟩
/-- What Join leaves. -/
def JoinSaid (A B : T Int Int) (w : World) (e : Ending) (w' : World) : Prop :=
  ∃ p c, e = .returned (.tuple #[.agg #[.pointer p], .int .i64 c]) ∧ Below w.heap.size w w' ∧
    ((T.clash A B = false ∧ c = 0 ∧ Tr w'.heap.size w' p (T.merge A B)) ∨ (T.clash A B = true ∧ c = 2 ∧ p = none))

set_option maxRecDepth 100000 in
set_option maxHeartbeats 2000000 in
theorem Join_any (A B : T Int Int) (p q : Option Addr) (w : World) (hA : Tr w.heap.size w p A) (hB : Tr w.heap.size w q B) (hs : A.size + B.size ≤ 1099511627776) :
    Calls Try.prog 33 #[.agg #[.pointer p], .agg #[.pointer q]] w (JoinSaid A B w) := by
  have hb := below_three w (.cells #[.pointer p] 28) (.cells #[.pointer q] 28) (.cells #[.pointer none] 28)
  have hA1 := hA.later hb
  have hB1 := hB.later hb
  obtain ⟨W, hW⟩ : ∃ W, W = ((w.alloc (.cells #[.pointer p] 28)).alloc (.cells #[.pointer q] 28)).alloc (.cells #[.pointer none] 28) := ⟨_, rfl⟩
  have c0 : W.cell? ⟨w.heap.size, 0, none⟩ = some (.pointer p) := by rw [hW, World.cell?_alloc_lt (h := by simp; omega), World.cell?_alloc_lt (h := by simp)]; exact cell_new _ _ _ _ _ _ rfl
  have c1 : W.cell? ⟨w.heap.size + 1, 0, none⟩ = some (.pointer q) := by rw [hW, World.cell?_alloc_lt (h := by simp)]; exact cell_new' _ _ _ _ _ _ _ (by simp) rfl
  have c2 : W.cell? ⟨w.heap.size + 1 + 1, 0, none⟩ = some (.pointer none) := by rw [hW]; exact cell_new' _ _ _ _ _ _ _ (by simp) rfl
  have f2 : W.frozen? ⟨w.heap.size + 1 + 1, 0, none⟩ = false := by rw [hW]; exact frozen_new' _ _ _ _ _ (by simp)
  have tg : tagAt W (w.heap.size + 1 + 1) 28 := by rw [hW]; exact tag_at _ _ _ _ _ (by simp)
  have hsz : w.heap.size + 1 + 1 < W.heap.size := by rw [hW]; simp
  have g0 : ∀ w', Below W.heap.size W w' → w'.cell? ⟨w.heap.size, 0, none⟩ = some (.pointer p) := cell_later (a := ⟨_, 0, none⟩) (by show w.heap.size < _; omega) c0
  have g1 : ∀ w', Below W.heap.size W w' → w'.cell? ⟨w.heap.size + 1, 0, none⟩ = some (.pointer q) := cell_later (a := ⟨_, 0, none⟩) (by show w.heap.size + 1 < _; omega) c1
  have g2 : ∀ w', Below W.heap.size W w' → w'.cell? ⟨w.heap.size + 1 + 1, 0, none⟩ = some (.pointer none) := cell_later (a := ⟨_, 0, none⟩) hsz c2
  have g3 : ∀ w', Below W.heap.size W w' → w'.frozen? ⟨w.heap.size + 1 + 1, 0, none⟩ = false := fun w' h => ((bcell h).2 _ 0 hsz).trans f2
  rw [← hW] at hA1 hB1 hb
  go_enter Try.func33, Try.ntmps33
  go_wp2_with fail
  rw [← hW]
  clear hW c0 c1 c2 f2
  have hwr : IntKind.i64.wrap ((A.size : Int) - 1) = (A.size : Int) - 1 := by rw [IntKind.wrap_i64]; omega
  obtain ⟨kx, vx, bx, hX, hX'⟩ := told_parts (T.at_ ((A.size : Int) - 1) A)
  obtain ⟨ky, vy, b_y, hY, hY'⟩ := told_parts (T.at_ 0 B)
  have HC : Hid (T.clash A B = (bx && b_y && decide (ky ≤ kx))) := by
    show T.clash A B = _
    unfold T.clash
    rcases hX' with ⟨h1, rfl⟩ | ⟨l1, r1, h1, rfl⟩
    · rw [h1]; rfl
    · rcases hY' with ⟨h2, rfl⟩ | ⟨l2, r2, h2, rfl⟩
      · rw [h1, h2]; rfl
      · rw [h1, h2]
        by_cases h : ky ≤ kx <;> simp [h, KOrd.lt] <;> omega
  clear hX' hY'
  have HX := Lib.hid hX
  have HY := Lib.hid hY
  clear hX hY
  go_region_held3 (fun w' => Below W.heap.size W w') (repeat (first | assumption | exact Below.refl _ _ | apply Below.drew)) (first
    | (go_at_call 17; refine (Len_any A p _ (hA1.later (by assumption))).mono ?_; rintro e w1 ⟨rfl, hb1⟩; have hk1 : Below W.heap.size W w1 := Below.trans (by assumption) (hb1.mono (Below.size (by assumption))))
    | (go_at_call 71; refine (At_any A ((A.size : Int) - 1) (by omega) p _ (hA1.later (by assumption))).mono ?_; rw [HX.out]; rintro e w2 ⟨rfl, hb2⟩; have hk2 : Below W.heap.size W w2 := Below.trans hk1 (hb2.mono hk1.size)))
  have g1' := g1 _ hk2
  go_wp2_with (first
    | (go_at_call 71; refine (At_any B 0 (by omega) q _ (hB1.later hk2)).mono ?_; rw [HY.out]; rintro e w3 ⟨rfl, hb3⟩; have hk3 := hk2.trans (hb3.mono hk2.size); have e0 := g0 _ hk3; have e1 := g1 _ hk3; have e2 := g2 _ hk3; have e3 := g3 _ hk3)
    | (go_at_call 72; refine (merge_any A B p q _ (hA1.later hk3) (hB1.later hk3) hs).mono ?_; rintro e w4 ⟨p4, rfl, hp4, hb4⟩; have hk4 := hk3.trans (hb4.mono hk3.size); have e4 := g2 _ hk4; have e5 := g3 _ hk4))
  all_goals first
    | exact bodyPost_ret (v := .tuple #[.agg #[.pointer p4], .int .i64 0]) (by simp [results, Try.results33, go_sem, e4]) rfl
        ⟨p4, 0, rfl, (hb.trans (hk4.mono hb.size)).setCell (p := ⟨w.heap.size + 1 + 1, 0, none⟩) (by simp; omega) _,
          .inl ⟨by rw [HC.out]; simp [*] <;> omega, rfl, hp4.stored (a := ⟨w.heap.size + 1 + 1, 0, none⟩) (tagAt.below tg hk4 hsz) (by decide) _⟩⟩
    | exact bodyPost_ret (v := .tuple #[.agg #[.pointer none], .int .i64 2]) (by simp [results, Try.results33, go_sem, e2]) rfl
        ⟨none, 2, rfl, (hb.trans (hk3.mono hb.size)).setCell (p := ⟨w.heap.size + 1 + 1, 0, none⟩) (by simp; omega) _,
          .inr ⟨by rw [HC.out]; simp [*], rfl, rfl⟩⟩
end Go.Proofs.MT.II
