/- The tree's function balanced (II). -/
import Derived.Test.YtnhngaadegebfaaProg
import Derived.Test.YtnhngaadegebfaaTreeLaws
import Derived.Test.YtnhngaadegebfaaA1
import Derived.Deep.QuietTactic
import Derived.BigQuiet
import Derived.Deep.RegionHeld3
import Derived.KernelRfl
namespace Go.Proofs.MT.II
open Go.RowKit

set_option maxRecDepth 100000 in
set_option maxHeartbeats 2000000 in
theorem balanced_right (A B : T Int Int) (k : Int) (v : Int) (p q : Option Addr) (h1 : T.light A B = false) (w : World) (hA : Tr w.heap.size w p A) (hB : Tr w.heap.size w q B) (sA : A.size ≤ 1099511627776) (sB : B.size ≤ 1099511627776) :
    Calls Try.prog 96 #[.pointer p, .int .i64 k, .int .i64 v, .pointer q] w (Makes (.balanced A k v B) w) := by
  cases B with
  | nil => simp [T.light, T.size] at h1
  | node rl rk rv rr =>
  have hB' := hB
  obtain ⟨b, pl, pr, rfl, hb, c0, c1, c2, c3, c4, hl, hr⟩ := hB'
  go_enter Try.func96, Try.ntmps96
  go_wp2_with fail
  refine (light_any A _ _ _ _ _ hA hB sA sB).mono ?_
  rintro e w' ⟨rfl, rfl⟩
  rw [h1]
  go_wp2_with fail
  have f0 := cell_later (a := ⟨b, 0, none⟩) hb c0
  have f1 := cell_later (a := ⟨b, 1, none⟩) hb c1
  have f2 := cell_later (a := ⟨b, 2, none⟩) hb c2
  have f3 := cell_later (a := ⟨b, 3, none⟩) hb c3
  have H1 : Hid (T.light A (.node rl rk rv rr) = false) := h1
  simp only [T.size] at sB
  clear c0 c1 c2 c3 c4 h1
  go_region_held3 (fun w' => Below w.heap.size w w') (repeat (first | assumption | exact Below.refl _ _ | apply Below.drew)) (first
          | (go_at_call 118; refine (turned_any rl rr _ _ w.heap.size _ (hl.below (by assumption)) (hr.below (by assumption)) (by omega) (by omega)).mono ?_; rintro e w' ⟨rfl, rfl⟩))
  cases h2 : T.turned rl rr with
  | true =>
    have H2 : Hid (T.balanced A k v (.node rl rk rv rr) = .node (.node A k v rl) rk rv rr) := by simp [Hid, T.balanced, T.balR, h2, H1.out]
    clear H1
    go_wp2_with fail
    go_region_held3 (fun w' => Below w.heap.size w w') (repeat (first | assumption | exact Below.refl _ _ | apply Below.drew)) (first
          | (go_at_call_of 91 pl; refine (over_any A rl k v _ _ _ (hA.later (by assumption)) (hl.later (by assumption)) (by omega) (by omega)).mono ?_; rintro e w1 ⟨p1, rfl, ht1, hb1⟩; have hk1 : Below w.heap.size w w1 := Below.trans (by assumption) (hb1.mono (Below.size (by assumption))))
          | (go_at_call_of 91 pr; refine (over_any (.node A k v rl) rr rk rv _ _ _ ht1 (hr.later (by assumption)) (by simp only [T.size]; omega) (by omega)).mono ?_; rintro e w2 ⟨p2, rfl, ht2, hb2⟩; have hk2 : Below w.heap.size w w2 := Below.trans hk1 (hb2.mono (Below.size hk1))))
    go_wp2
    go_ret
    exact ⟨p2, rfl, by rw [H2.out]; exact ht2, hk2⟩
  | false =>
    cases rl with
    | nil => simp [T.turned, T.size] at h2; omega
    | node ml mk mv mr =>
    obtain ⟨bm, pml, pmr, rfl, hbm, d0, d1, d2, d3, d4, hml, hmr⟩ := hl
    have g0 := cell_later (a := ⟨bm, 0, none⟩) hbm d0
    have g1 := cell_later (a := ⟨bm, 1, none⟩) hbm d1
    have g2 := cell_later (a := ⟨bm, 2, none⟩) hbm d2
    have g3 := cell_later (a := ⟨bm, 3, none⟩) hbm d3
    simp only [T.size] at sB
    have H2 : Hid (T.balanced A k v (.node (.node ml mk mv mr) rk rv rr) = .node (.node A k v ml) mk mv (.node mr rk rv rr)) := by simp [Hid, T.balanced, T.balR, h2, H1.out]
    clear d0 d1 d2 d3 d4 h2 H1
    go_wp2_with fail
    go_region_held3 (fun w' => Below w.heap.size w w') (repeat (first | assumption | exact Below.refl _ _ | apply Below.drew)) (first
          | (go_at_call_of 91 pml; refine (over_any A ml k v _ _ _ (hA.later (by assumption)) (hml.later (by assumption)) (by omega) (by omega)).mono ?_; rintro e w1 ⟨p1, rfl, ht1, hb1⟩; have hk1 : Below w.heap.size w w1 := Below.trans (by assumption) (hb1.mono (Below.size (by assumption))))
          | (go_at_call_of 91 pmr; refine (over_any mr rr rk rv _ _ _ (hmr.later (by assumption)) (hr.later (by assumption)) (by omega) (by omega)).mono ?_; rintro e w2 ⟨p2, rfl, ht2, hb2⟩; have hk2 : Below w.heap.size w w2 := Below.trans hk1 (hb2.mono (Below.size hk1)))
          | (go_at_call_of 91 p1; refine (over_any (.node A k v ml) (.node mr rk rv rr) mk mv _ _ _ (ht1.later hb2) ht2 (by simp only [T.size]; omega) (by simp only [T.size]; omega)).mono ?_; rintro e w3 ⟨p3, rfl, ht3, hb3⟩; have hk3 : Below w.heap.size w w3 := Below.trans hk2 (hb3.mono (Below.size hk2))))
    go_wp2
    go_ret
    exact ⟨p3, rfl, by rw [H2.out]; exact ht3, hk3⟩

set_option maxRecDepth 100000 in
set_option maxHeartbeats 2000000 in
theorem balanced_left (A B : T Int Int) (k : Int) (v : Int) (p q : Option Addr) (h1 : T.light A B = true) (h3 : T.light B A = false) (w : World) (hA : Tr w.heap.size w p A) (hB : Tr w.heap.size w q B) (sA : A.size ≤ 1099511627776) (sB : B.size ≤ 1099511627776) :
    Calls Try.prog 96 #[.pointer p, .int .i64 k, .int .i64 v, .pointer q] w (Makes (.balanced A k v B) w) := by
  cases A with
  | nil => simp [T.light, T.size] at h3
  | node ll lk lv lr =>
  have hA' := hA
  obtain ⟨b, pl, pr, rfl, hb, c0, c1, c2, c3, c4, hl, hr⟩ := hA'
  go_enter Try.func96, Try.ntmps96
  go_wp2_with fail
  refine (light_any _ B _ _ _ _ hA hB sA sB).mono ?_
  rintro e w' ⟨rfl, rfl⟩
  rw [h1]
  go_wp2_with fail
  refine (light_any B _ _ _ _ _ hB hA sB sA).mono ?_
  rintro e w' ⟨rfl, rfl⟩
  rw [h3]
  go_wp2_with fail
  have f0 := cell_later (a := ⟨b, 0, none⟩) hb c0
  have f1 := cell_later (a := ⟨b, 1, none⟩) hb c1
  have f2 := cell_later (a := ⟨b, 2, none⟩) hb c2
  have f3 := cell_later (a := ⟨b, 3, none⟩) hb c3
  have H1 : Hid (T.light (.node ll lk lv lr) B = true) := h1
  have H3 : Hid (T.light B (.node ll lk lv lr) = false) := h3
  simp only [T.size] at sA
  clear c0 c1 c2 c3 c4 h1 h3
  go_region_held3 (fun w' => Below w.heap.size w w') (repeat (first | assumption | exact Below.refl _ _ | apply Below.drew)) (first
          | (go_at_call 118; refine (turned_any lr ll _ _ w.heap.size _ (hr.below (by assumption)) (hl.below (by assumption)) (by omega) (by omega)).mono ?_; rintro e w' ⟨rfl, rfl⟩))
  cases h2 : T.turned lr ll with
  | true =>
    have H2 : Hid (T.balanced (.node ll lk lv lr) k v B = .node ll lk lv (.node lr k v B)) := by simp [Hid, T.balanced, T.balL, h2, H1.out, H3.out]
    clear H1 H3
    go_wp2_with fail
    go_region_held3 (fun w' => Below w.heap.size w w') (repeat (first | assumption | exact Below.refl _ _ | apply Below.drew)) (first
          | (go_at_call_of 91 pr; refine (over_any lr B k v _ _ _ (hr.later (by assumption)) (hB.later (by assumption)) (by omega) (by omega)).mono ?_; rintro e w1 ⟨p1, rfl, ht1, hb1⟩; have hk1 : Below w.heap.size w w1 := Below.trans (by assumption) (hb1.mono (Below.size (by assumption))))
          | (go_at_call_of 91 pl; refine (over_any ll (.node lr k v B) lk lv _ _ _ (hl.later (by assumption)) ht1 (by omega) (by simp only [T.size]; omega)).mono ?_; rintro e w2 ⟨p2, rfl, ht2, hb2⟩; have hk2 : Below w.heap.size w w2 := Below.trans hk1 (hb2.mono (Below.size hk1))))
    go_wp2
    go_ret
    exact ⟨p2, rfl, by rw [H2.out]; exact ht2, hk2⟩
  | false =>
    cases lr with
    | nil => simp [T.turned, T.size] at h2; omega
    | node ml mk mv mr =>
    obtain ⟨bm, pml, pmr, rfl, hbm, d0, d1, d2, d3, d4, hml, hmr⟩ := hr
    have g0 := cell_later (a := ⟨bm, 0, none⟩) hbm d0
    have g1 := cell_later (a := ⟨bm, 1, none⟩) hbm d1
    have g2 := cell_later (a := ⟨bm, 2, none⟩) hbm d2
    have g3 := cell_later (a := ⟨bm, 3, none⟩) hbm d3
    simp only [T.size] at sA
    have H2 : Hid (T.balanced (.node ll lk lv (.node ml mk mv mr)) k v B = .node (.node ll lk lv ml) mk mv (.node mr k v B)) := by simp [Hid, T.balanced, T.balL, h2, H1.out, H3.out]
    clear d0 d1 d2 d3 d4 h2 H1 H3
    go_wp2_with fail
    go_region_held3 (fun w' => Below w.heap.size w w') (repeat (first | assumption | exact Below.refl _ _ | apply Below.drew)) (first
          | (go_at_call_of 91 pml; refine (over_any ll ml lk lv _ _ _ (hl.later (by assumption)) (hml.later (by assumption)) (by omega) (by omega)).mono ?_; rintro e w1 ⟨p1, rfl, ht1, hb1⟩; have hk1 : Below w.heap.size w w1 := Below.trans (by assumption) (hb1.mono (Below.size (by assumption))))
          | (go_at_call_of 91 pmr; refine (over_any mr B k v _ _ _ (hmr.later (by assumption)) (hB.later (by assumption)) (by omega) (by omega)).mono ?_; rintro e w2 ⟨p2, rfl, ht2, hb2⟩; have hk2 : Below w.heap.size w w2 := Below.trans hk1 (hb2.mono (Below.size hk1)))
          | (go_at_call_of 91 p1; refine (over_any (.node ll lk lv ml) (.node mr k v B) mk mv _ _ _ (ht1.later hb2) ht2 (by simp only [T.size]; omega) (by simp only [T.size]; omega)).mono ?_; rintro e w3 ⟨p3, rfl, ht3, hb3⟩; have hk3 : Below w.heap.size w w3 := Below.trans hk2 (hb3.mono (Below.size hk2))))
    go_wp2
    go_ret
    exact ⟨p3, rfl, by rw [H2.out]; exact ht3, hk3⟩

set_option maxRecDepth 100000 in
set_option maxHeartbeats 2000000 in
theorem balanced_same (A B : T Int Int) (k : Int) (v : Int) (p q : Option Addr) (h1 : T.light A B = true) (h3 : T.light B A = true) (w : World) (hA : Tr w.heap.size w p A) (hB : Tr w.heap.size w q B) (sA : A.size ≤ 1099511627776) (sB : B.size ≤ 1099511627776) :
    Calls Try.prog 96 #[.pointer p, .int .i64 k, .int .i64 v, .pointer q] w (Makes (.balanced A k v B) w) := by
  go_enter Try.func96, Try.ntmps96
  go_wp2_with fail
  refine (light_any A B _ _ _ _ hA hB sA sB).mono ?_
  rintro e w' ⟨rfl, rfl⟩
  rw [h1]
  go_wp2_with fail
  refine (light_any B A _ _ _ _ hB hA sB sA).mono ?_
  rintro e w' ⟨rfl, rfl⟩
  rw [h3]
  go_wp2_with fail
  have H2 : Hid (T.balanced A k v B = .node A k v B) := by simp [Hid, T.balanced, h1, h3]
  refine (over_any A B k v _ _ _ hA hB (by omega) (by omega)).mono ?_
  rintro e w1 ⟨p1, rfl, ht1, hb1⟩
  go_wp2
  go_ret
  exact ⟨p1, rfl, by rw [H2.out]; exact ht1, hb1⟩

theorem balanced_any (A B : T Int Int) (k : Int) (v : Int) (p q : Option Addr) (w : World) (hA : Tr w.heap.size w p A) (hB : Tr w.heap.size w q B) (sA : A.size ≤ 1099511627776) (sB : B.size ≤ 1099511627776) :
    Calls Try.prog 96 #[.pointer p, .int .i64 k, .int .i64 v, .pointer q] w (Makes (.balanced A k v B) w) := by
  cases h1 : T.light A B with
  | false => exact balanced_right A B k v p q h1 w hA hB sA sB
  | true =>
    cases h3 : T.light B A with
    | false => exact balanced_left A B k v p q h1 h3 w hA hB sA sB
    | true => exact balanced_same A B k v p q h1 h3 w hA hB sA sB
end Go.Proofs.MT.II
