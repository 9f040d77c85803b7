/- Range and Join (SI). -/
import Derived.Test.YtnhngaadegebfaaProg
import Derived.Test.YtnhngaadegebfaaBase
import Derived.Test.YtnhngaadegebfaaB89
import Derived.Laws.Cover1
import Derived.BigQuiet
import Derived.Deep.QuietTactic
import Derived.Deep.RegionHeld3
import Derived.KernelRfl
namespace Go.Proofs.MT.SI
open Go.RowKit
set_option maxRecDepth 100000 in
set_option maxHeartbeats 2000000 in
theorem Range_any (t : T ByteArray Int) (a b : ByteArray) (p : Option Addr) (w : World) (h : Tr w.heap.size w p t) (hs : t.size + 1 ≤ 1099511627776) :
    Calls Try.prog 30 #[.agg #[.pointer p], .string a, .string b] w (MakesM (T.range a b t) w) := by
  have hb := below_two w (.cells #[.pointer p] 44) (.cells #[.pointer none] 44)
  cases hk : KOrd.lt a b with
  | false =>
    have HR : Hid (T.range a b t = .nil) := by simp [Hid, T.range, hk]
    rcases leOr hk with hk' | rfl
    all_goals clear hk
    all_goals go_enter Try.func30, Try.ntmps30
    all_goals go_wp2
    all_goals exact bodyPost_ret (v := .agg #[.pointer none]) (by simp [results, Try.results30, go_sem]) rfl ⟨none, rfl, by rw [HR.out]; rfl, hb⟩
  | true =>
    obtain ⟨at_, hat⟩ : ∃ x, x = (T.cut a t).2.1 := ⟨_, rfl⟩
    obtain ⟨r, hr⟩ : ∃ x, x = (T.cut a t).2.2 := ⟨_, rfl⟩
    have HR : Hid (T.range a b t = (T.cut b (T.rangeR at_ r)).1) := by rw [hat, hr]; simp [Hid, T.range, hk]
    have hz : r.size ≤ t.size := by have := cut_sizes a t; rw [hr]; omega
    have HAT := Lib.hid hat
    have HRR := Lib.hid hr
    obtain ⟨-, hkn, -⟩ := ltAll hk
    have hk' : Op.bytesLess b.toList a.toList = false := lt_asymm hk
    clear hk hat hr
    go_enter Try.func30, Try.ntmps30
    go_wp2_with fail
    refine (cut_any a t p _ (h.later hb) (by omega)).mono ?_
    rintro e w1 ⟨p1, q1, r1, rfl, -, hq1, hr1, hb1⟩
    rw [← HAT.out] at hq1
    rw [← HRR.out] at hr1
    have hb2 := hb.trans (hb1.mono hb.size)
    have tg1 : tagAt w1 (w.heap.size + 1) 44 := tagAt.below (tag_at _ _ 44 _ _ (by simp)) hb1 (by simp)
    obtain ⟨hc, hf⟩ := bcell hb1
    have hc1 : w1.cell? ⟨w.heap.size + 1, 0, none⟩ = some (.pointer none) := by rw [hc _ _ (by simp)]; exact cell_new' _ _ _ _ _ _ _ (by simp) rfl
    have hf1 : w1.frozen? ⟨w.heap.size + 1, 0, none⟩ = false := by rw [hf _ _ (by simp)]; exact frozen_new' _ _ _ _ _ (by simp)
    have hlt1 : w.heap.size + 1 < w1.heap.size := Nat.lt_of_lt_of_le (by simp) hb1.size
    clear hc hf hb1 hb h
    cases at_ with
    | nil =>
      obtain rfl : q1 = none := hq1
      go_wp2_with (go_at_call 64; refine (cut_any b r r1 _ hr1 (by omega)).mono ?_; rintro e w2 ⟨p2, q2, r2, rfl, hp2, -, -, hb3⟩; obtain ⟨hc, hf⟩ := bcell hb3; have hc2 := (hc _ 0 hlt1).trans hc1; have hf2 := (hf _ 0 hlt1).trans hf1)
      exact bodyPost_ret (v := .agg #[.pointer p2]) (by simp [results, Try.results30, go_sem, hc2]) rfl
        ⟨p2, rfl, by rw [HR.out]; exact hp2.stored (a := ⟨w.heap.size + 1, 0, none⟩) (tagAt.below tg1 hb3 hlt1) (by decide) _, (hb2.trans (hb3.mono hb2.size)).setCell (p := ⟨w.heap.size + 1, 0, none⟩) (by simp) _⟩
    | node al ak av ar =>
      obtain ⟨ba, pl, pr, rfl, hba, c0, c1, c2, c3, c4, hal, har⟩ := id hq1
      have f0 : ∀ w', Below w1.heap.size w1 w' → w'.cell? ⟨ba, 0, none⟩ = some (.string ak) := cell_later (a := ⟨ba, 0, none⟩) hba c0
      have f1 : ∀ w', Below w1.heap.size w1 w' → w'.cell? ⟨ba, 1, none⟩ = some (.int .i64 av) := cell_later (a := ⟨ba, 1, none⟩) hba c1
      clear hal har c0 c1 c2 c3 c4
      go_wp2_with fail
      go_region_held3 (fun w' => Below w1.heap.size w1 w') (repeat (first | assumption | exact Below.refl _ _ | apply Below.drew)) (first | (go_at_call 66; refine (link_any .nil r ak av none r1 _ rfl (hr1.later (by assumption)) (by simp [T.size]; omega)).mono ?_; rintro e w2 ⟨p2, rfl, hp2, hb3⟩; have hk2 : Below w1.heap.size w1 w2 := Below.trans (by assumption) (hb3.mono (Below.size (by assumption)))))
      obtain ⟨hc', hf'⟩ := bcell hk2
      have hc2' := (hc' _ 0 hlt1).trans hc1
      have hf2' := (hf' _ 0 hlt1).trans hf1
      have hlt2 := Nat.lt_of_lt_of_le hlt1 hk2.size
      have tg2 := tagAt.below tg1 hk2 hlt1
      have hb4 := hb2.trans (hk2.mono hb2.size)
      go_wp2_with (go_at_call 64; refine (cut_any b (T.link .nil ak av r) p2 _ hp2 (by rw [T.link_size]; simp [T.size]; omega)).mono ?_; rintro e w3 ⟨p3, q3, r3, rfl, hp3, -, -, hb5⟩; obtain ⟨hc, hf⟩ := bcell hb5; have hc3 := (hc _ 0 hlt2).trans hc2'; have hf3 := (hf _ 0 hlt2).trans hf2')
      exact bodyPost_ret (v := .agg #[.pointer p3]) (by simp [results, Try.results30, go_sem, hc3]) rfl
        ⟨p3, rfl, by rw [HR.out]; exact hp3.stored (a := ⟨w.heap.size + 1, 0, none⟩) (tagAt.below tg2 hb5 hlt2) (by decide) _, (hb4.trans (hb5.mono hb4.size)).setCell (p := ⟨w.heap.size + 1, 0, none⟩) (by simp) _⟩
end Go.Proofs.MT.SI
