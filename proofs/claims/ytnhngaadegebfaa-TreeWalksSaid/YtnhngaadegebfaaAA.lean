/- The walks of the map of ints by ints: up to Put, Union, Intersect, Subtract, find. -/
import Derived.Test.YtnhngaadegebfaaProg
import Derived.Test.YtnhngaadegebfaaBase
import Derived.Deep.QuietTactic
import Derived.BigQuiet
import Derived.Deep.RegionHeld3
import Derived.KernelRfl
import Derived.Deep.LoopGhost

/- The tree's small functions (II): len, weight, light, turned, over. -/
namespace Go.Proofs.MT.II
open Go.RowKit

abbrev ek : Int → Value := .int .i64
abbrev ev : Int → Value := .int .i64
abbrev Tr (n₀ : Nat) (w : World) (p : Option Addr) (t : T Int Int) : Prop := IsTree ek ev 121 n₀ w p t

theorem len_nil (w : World) : Calls Try.prog 54 #[.pointer none] w fun e w' => e = .returned (.int .i64 0) ∧ w = w' := by
  go_enter Try.func54, Try.ntmps54
  go_wp2
  go_ret
  simp

theorem len_node (b : Nat) (n : Int) (w : World) (h : w.cell? ⟨b, 4, none⟩ = some (.int .i64 n)) :
    Calls Try.prog 54 #[.pointer (some ⟨b, 0, none⟩)] w fun e w' => e = .returned (.int .i64 n) ∧ w = w' := by
  go_enter Try.func54, Try.ntmps54
  go_wp2
  go_ret
  simp

theorem len_any (T : T Int Int) (p : Option Addr) (n₀ : Nat) (w : World) (h : Tr n₀ w p T) :
    Calls Try.prog 54 #[.pointer p] w fun e w' => e = .returned (.int .i64 T.size) ∧ w = w' := by
  cases T with
  | nil => obtain rfl : p = none := h; exact len_nil w
  | node l k v r => obtain ⟨b, pl, pr, rfl, hb, h0, h1, h2, h3, h4, hl, hr⟩ := h; exact len_node b _ w h4.1

theorem cell_later {w : World} {a : Addr} {v : Value} (ha : a.block < w.heap.size) (h : w.cell? a = some v) : ∀ w', Below w.heap.size w w' → w'.cell? a = some v := fun _ hb => (hb.cell ha).trans h

theorem later_two {P : World → Prop} {w w1 : World} (f : ∀ w', Below w.heap.size w w' → P w') (h : Below w.heap.size w w1) : ∀ w', Below w1.heap.size w1 w' → P w' := fun w' h' => f w' (h.trans (h'.mono h.size))

/-- What a call that makes a tree leaves: the tree, and all that was there. -/
def Makes (T : T Int Int) (w : World) (e : Ending) (w' : World) : Prop :=
  ∃ p, e = .returned (.pointer p) ∧ Tr w'.heap.size w' p T ∧ Below w.heap.size w w'

theorem node_new (w : World) (A B : T Int Int) (k : Int) (v : Int) (p q : Option Addr) (hA : Tr w.heap.size w p A) (hB : Tr w.heap.size w q B) :
    Tr (w.alloc (.cells #[ek k, ev v, .pointer p, .pointer q, .int .i64 ((A.size : Int) + B.size + 1)] 121)).heap.size
      (w.alloc (.cells #[ek k, ev v, .pointer p, .pointer q, .int .i64 ((A.size : Int) + B.size + 1)] 121)) (some ⟨w.heap.size, 0, none⟩) (.node A k v B) := by
  have hb : Below w.heap.size w (w.alloc (.cells #[ek k, ev v, .pointer p, .pointer q, .int .i64 ((A.size : Int) + B.size + 1)] 121)) := (Below.refl _ _).alloc (Nat.le_refl _) _
  exact ⟨w.heap.size, p, q, rfl, by simp, cell_new _ _ _ _ _ _ rfl, cell_new _ _ _ _ _ _ rfl, cell_new _ _ _ _ _ _ rfl, cell_new _ _ _ _ _ _ rfl, ⟨cell_new _ _ _ _ _ _ rfl, tag_new _ _ _ _⟩, hA.later hb, hB.later hb⟩

theorem over_any (A B : T Int Int) (k : Int) (v : Int) (p q : Option Addr) (w : World) (hA : Tr w.heap.size w p A) (hB : Tr w.heap.size w q B) (sA : A.size ≤ 4398046511104) (sB : B.size ≤ 4398046511104) :
    Calls Try.prog 91 #[.pointer p, .int .i64 k, .int .i64 v, .pointer q] w (Makes (.node A k v B) w) := by
  go_enter Try.func91, Try.ntmps91
  go_wp2_with fail
  refine (len_any A _ _ _ hA).mono ?_
  rintro e w' ⟨rfl, rfl⟩
  go_wp2_with fail
  refine (len_any B _ _ _ hB).mono ?_
  rintro e w' ⟨rfl, rfl⟩
  go_wp2
  go_ret
  refine ⟨_, rfl, ?_, (Below.refl _ _).alloc (Nat.le_refl _) _⟩
  exact node_new w A B k v p q hA hB

theorem weight_any (T : T Int Int) (p : Option Addr) (n₀ : Nat) (w : World) (h : Tr n₀ w p T) (hs : T.size ≤ 1099511627776) :
    Calls Try.prog 120 #[.pointer p] w fun e w' => e = .returned (.int .i64 (T.size + 1 : Nat)) ∧ w = w' := by
  go_enter Try.func120, Try.ntmps120
  go_wp2_with (go_at_call 54; refine (len_any T _ n₀ _ h).mono ?_; rintro e w' ⟨rfl, rfl⟩)
  go_ret
  simp

theorem light_any (A B : T Int Int) (p q : Option Addr) (n₀ : Nat) (w : World) (hA : Tr n₀ w p A) (hB : Tr n₀ w q B) (sA : A.size ≤ 1099511627776) (sB : B.size ≤ 1099511627776) :
    Calls Try.prog 103 #[.pointer p, .pointer q] w fun e w' => e = .returned (.bool (T.light A B)) ∧ w = w' := by
  go_enter Try.func103, Try.ntmps103
  go_wp2_with fail
  refine (weight_any B _ n₀ _ hB sB).mono ?_
  rintro e w' ⟨rfl, rfl⟩
  go_wp2_with fail
  refine (weight_any A _ n₀ _ hA sA).mono ?_
  rintro e w' ⟨rfl, rfl⟩
  go_wp2
  go_ret
  refine ⟨?_, rfl⟩
  congr 2
  simp [T.light]
  omega

theorem turned_any (A B : T Int Int) (p q : Option Addr) (n₀ : Nat) (w : World) (hA : Tr n₀ w p A) (hB : Tr n₀ w q B) (sA : A.size ≤ 1099511627776) (sB : B.size ≤ 1099511627776) :
    Calls Try.prog 118 #[.pointer p, .pointer q] w fun e w' => e = .returned (.bool (T.turned A B)) ∧ w = w' := by
  go_enter Try.func118, Try.ntmps118
  go_wp2_with fail
  refine (weight_any A _ n₀ _ hA sA).mono ?_
  rintro e w' ⟨rfl, rfl⟩
  go_wp2_with fail
  refine (weight_any B _ n₀ _ hB sB).mono ?_
  rintro e w' ⟨rfl, rfl⟩
  go_wp2
  go_ret
  refine ⟨?_, rfl⟩
  congr 2
  simp [T.turned]
  omega
end Go.Proofs.MT.II

/- The tree's function balanced (II). -/
namespace Go.Proofs.MT.II
open Go.RowKit

set_option maxRecDepth 100000 in
set_option maxHeartbeats 2000000 in
theorem balanced_right (A B : T Int Int) (k : Int) (v : Int) (p q : Option Addr) (h1 : T.light A B = false) (w : World) (hA : Tr w.heap.size w p A) (hB : Tr w.heap.size w q B) (sA : A.size ≤ 1099511627776) (sB : B.size ≤ 1099511627776) :
    Calls Try.prog 96 #[.pointer p, .int .i64 k, .int .i64 v, .pointer q] w (Makes (.balanced A k v B) w) := by
  cases B with
  | nil => simp [T.light, T.size] at h1
  | node rl rk rv rr =>
  have hB' := hB
  obtain ⟨b, pl, pr, rfl, hb, c0, c1, c2, c3, c4, hl, hr⟩ := hB'
  go_enter Try.func96, Try.ntmps96
  go_wp2_with fail
  refine (light_any A _ _ _ _ _ hA hB sA sB).mono ?_
  rintro e w' ⟨rfl, rfl⟩
  rw [h1]
  go_wp2_with fail
  have f0 := cell_later (a := ⟨b, 0, none⟩) hb c0
  have f1 := cell_later (a := ⟨b, 1, none⟩) hb c1
  have f2 := cell_later (a := ⟨b, 2, none⟩) hb c2
  have f3 := cell_later (a := ⟨b, 3, none⟩) hb c3
  have H1 : Hid (T.light A (.node rl rk rv rr) = false) := h1
  simp only [T.size] at sB
  clear c0 c1 c2 c3 c4 h1
  go_region_held3 (fun w' => Below w.heap.size w w') (repeat (first | assumption | exact Below.refl _ _ | apply Below.drew)) (first
          | (go_at_call 118; refine (turned_any rl rr _ _ w.heap.size _ (hl.below (by assumption)) (hr.below (by assumption)) (by omega) (by omega)).mono ?_; rintro e w' ⟨rfl, rfl⟩))
  cases h2 : T.turned rl rr with
  | true =>
    have H2 : Hid (T.balanced A k v (.node rl rk rv rr) = .node (.node A k v rl) rk rv rr) := by simp [Hid, T.balanced, T.balR, h2, H1.out]
    clear H1
    go_wp2_with fail
    go_region_held3 (fun w' => Below w.heap.size w w') (repeat (first | assumption | exact Below.refl _ _ | apply Below.drew)) (first
          | (go_at_call_of 91 pl; refine (over_any A rl k v _ _ _ (hA.later (by assumption)) (hl.later (by assumption)) (by omega) (by omega)).mono ?_; rintro e w1 ⟨p1, rfl, ht1, hb1⟩; have hk1 : Below w.heap.size w w1 := Below.trans (by assumption) (hb1.mono (Below.size (by assumption))))
          | (go_at_call_of 91 pr; refine (over_any (.node A k v rl) rr rk rv _ _ _ ht1 (hr.later (by assumption)) (by simp only [T.size]; omega) (by omega)).mono ?_; rintro e w2 ⟨p2, rfl, ht2, hb2⟩; have hk2 : Below w.heap.size w w2 := Below.trans hk1 (hb2.mono (Below.size hk1))))
    go_wp2
    go_ret
    exact ⟨p2, rfl, by rw [H2.out]; exact ht2, hk2⟩
  | false =>
    cases rl with
    | nil => simp [T.turned, T.size] at h2; omega
    | node ml mk mv mr =>
    obtain ⟨bm, pml, pmr, rfl, hbm, d0, d1, d2, d3, d4, hml, hmr⟩ := hl
    have g0 := cell_later (a := ⟨bm, 0, none⟩) hbm d0
    have g1 := cell_later (a := ⟨bm, 1, none⟩) hbm d1
    have g2 := cell_later (a := ⟨bm, 2, none⟩) hbm d2
    have g3 := cell_later (a := ⟨bm, 3, none⟩) hbm d3
    simp only [T.size] at sB
    have H2 : Hid (T.balanced A k v (.node (.node ml mk mv mr) rk rv rr) = .node (.node A k v ml) mk mv (.node mr rk rv rr)) := by simp [Hid, T.balanced, T.balR, h2, H1.out]
    clear d0 d1 d2 d3 d4 h2 H1
    go_wp2_with fail
    go_region_held3 (fun w' => Below w.heap.size w w') (repeat (first | assumption | exact Below.refl _ _ | apply Below.drew)) (first
          | (go_at_call_of 91 pml; refine (over_any A ml k v _ _ _ (hA.later (by assumption)) (hml.later (by assumption)) (by omega) (by omega)).mono ?_; rintro e w1 ⟨p1, rfl, ht1, hb1⟩; have hk1 : Below w.heap.size w w1 := Below.trans (by assumption) (hb1.mono (Below.size (by assumption))))
          | (go_at_call_of 91 pmr; refine (over_any mr rr rk rv _ _ _ (hmr.later (by assumption)) (hr.later (by assumption)) (by omega) (by omega)).mono ?_; rintro e w2 ⟨p2, rfl, ht2, hb2⟩; have hk2 : Below w.heap.size w w2 := Below.trans hk1 (hb2.mono (Below.size hk1)))
          | (go_at_call_of 91 p1; refine (over_any (.node A k v ml) (.node mr rk rv rr) mk mv _ _ _ (ht1.later hb2) ht2 (by simp only [T.size]; omega) (by simp only [T.size]; omega)).mono ?_; rintro e w3 ⟨p3, rfl, ht3, hb3⟩; have hk3 : Below w.heap.size w w3 := Below.trans hk2 (hb3.mono (Below.size hk2))))
    go_wp2
    go_ret
    exact ⟨p3, rfl, by rw [H2.out]; exact ht3, hk3⟩

set_option maxRecDepth 100000 in
set_option maxHeartbeats 2000000 in
theorem balanced_left (A B : T Int Int) (k : Int) (v : Int) (p q : Option Addr) (h1 : T.light A B = true) (h3 : T.light B A = false) (w : World) (hA : Tr w.heap.size w p A) (hB : Tr w.heap.size w q B) (sA : A.size ≤ 1099511627776) (sB : B.size ≤ 1099511627776) :
    Calls Try.prog 96 #[.pointer p, .int .i64 k, .int .i64 v, .pointer q] w (Makes (.balanced A k v B) w) := by
  cases A with
  | nil => simp [T.light, T.size] at h3
  | node ll lk lv lr =>
  have hA' := hA
  obtain ⟨b, pl, pr, rfl, hb, c0, c1, c2, c3, c4, hl, hr⟩ := hA'
  go_enter Try.func96, Try.ntmps96
  go_wp2_with fail
  refine (light_any _ B _ _ _ _ hA hB sA sB).mono ?_
  rintro e w' ⟨rfl, rfl⟩
  rw [h1]
  go_wp2_with fail
  refine (light_any B _ _ _ _ _ hB hA sB sA).mono ?_
  rintro e w' ⟨rfl, rfl⟩
  rw [h3]
  go_wp2_with fail
  have f0 := cell_later (a := ⟨b, 0, none⟩) hb c0
  have f1 := cell_later (a := ⟨b, 1, none⟩) hb c1
  have f2 := cell_later (a := ⟨b, 2, none⟩) hb c2
  have f3 := cell_later (a := ⟨b, 3, none⟩) hb c3
  have H1 : Hid (T.light (.node ll lk lv lr) B = true) := h1
  have H3 : Hid (T.light B (.node ll lk lv lr) = false) := h3
  simp only [T.size] at sA
  clear c0 c1 c2 c3 c4 h1 h3
  go_region_held3 (fun w' => Below w.heap.size w w') (repeat (first | assumption | exact Below.refl _ _ | apply Below.drew)) (first
          | (go_at_call 118; refine (turned_any lr ll _ _ w.heap.size _ (hr.below (by assumption)) (hl.below (by assumption)) (by omega) (by omega)).mono ?_; rintro e w' ⟨rfl, rfl⟩))
  cases h2 : T.turned lr ll with
  | true =>
    have H2 : Hid (T.balanced (.node ll lk lv lr) k v B = .node ll lk lv (.node lr k v B)) := by simp [Hid, T.balanced, T.balL, h2, H1.out, H3.out]
    clear H1 H3
    go_wp2_with fail
    go_region_held3 (fun w' => Below w.heap.size w w') (repeat (first | assumption | exact Below.refl _ _ | apply Below.drew)) (first
          | (go_at_call_of 91 pr; refine (over_any lr B k v _ _ _ (hr.later (by assumption)) (hB.later (by assumption)) (by omega) (by omega)).mono ?_; rintro e w1 ⟨p1, rfl, ht1, hb1⟩; have hk1 : Below w.heap.size w w1 := Below.trans (by assumption) (hb1.mono (Below.size (by assumption))))
          | (go_at_call_of 91 pl; refine (over_any ll (.node lr k v B) lk lv _ _ _ (hl.later (by assumption)) ht1 (by omega) (by simp only [T.size]; omega)).mono ?_; rintro e w2 ⟨p2, rfl, ht2, hb2⟩; have hk2 : Below w.heap.size w w2 := Below.trans hk1 (hb2.mono (Below.size hk1))))
    go_wp2
    go_ret
    exact ⟨p2, rfl, by rw [H2.out]; exact ht2, hk2⟩
  | false =>
    cases lr with
    | nil => simp [T.turned, T.size] at h2; omega
    | node ml mk mv mr =>
    obtain ⟨bm, pml, pmr, rfl, hbm, d0, d1, d2, d3, d4, hml, hmr⟩ := hr
    have g0 := cell_later (a := ⟨bm, 0, none⟩) hbm d0
    have g1 := cell_later (a := ⟨bm, 1, none⟩) hbm d1
    have g2 := cell_later (a := ⟨bm, 2, none⟩) hbm d2
    have g3 := cell_later (a := ⟨bm, 3, none⟩) hbm d3
    simp only [T.size] at sA
    have H2 : Hid (T.balanced (.node ll lk lv (.node ml mk mv mr)) k v B = .node (.node ll lk lv ml) mk mv (.node mr k v B)) := by simp [Hid, T.balanced, T.balL, h2, H1.out, H3.out]
    clear d0 d1 d2 d3 d4 h2 H1 H3
    go_wp2_with fail
    go_region_held3 (fun w' => Below w.heap.size w w') (repeat (first | assumption | exact Below.refl _ _ | apply Below.drew)) (first
          | (go_at_call_of 91 pml; refine (over_any ll ml lk lv _ _ _ (hl.later (by assumption)) (hml.later (by assumption)) (by omega) (by omega)).mono ?_; rintro e w1 ⟨p1, rfl, ht1, hb1⟩; have hk1 : Below w.heap.size w w1 := Below.trans (by assumption) (hb1.mono (Below.size (by assumption))))
          | (go_at_call_of 91 pmr; refine (over_any mr B k v _ _ _ (hmr.later (by assumption)) (hB.later (by assumption)) (by omega) (by omega)).mono ?_; rintro e w2 ⟨p2, rfl, ht2, hb2⟩; have hk2 : Below w.heap.size w w2 := Below.trans hk1 (hb2.mono (Below.size hk1)))
          | (go_at_call_of 91 p1; refine (over_any (.node ll lk lv ml) (.node mr k v B) mk mv _ _ _ (ht1.later hb2) ht2 (by simp only [T.size]; omega) (by simp only [T.size]; omega)).mono ?_; rintro e w3 ⟨p3, rfl, ht3, hb3⟩; have hk3 : Below w.heap.size w w3 := Below.trans hk2 (hb3.mono (Below.size hk2))))
    go_wp2
    go_ret
    exact ⟨p3, rfl, by rw [H2.out]; exact ht3, hk3⟩

set_option maxRecDepth 100000 in
set_option maxHeartbeats 2000000 in
theorem balanced_same (A B : T Int Int) (k : Int) (v : Int) (p q : Option Addr) (h1 : T.light A B = true) (h3 : T.light B A = true) (w : World) (hA : Tr w.heap.size w p A) (hB : Tr w.heap.size w q B) (sA : A.size ≤ 1099511627776) (sB : B.size ≤ 1099511627776) :
    Calls Try.prog 96 #[.pointer p, .int .i64 k, .int .i64 v, .pointer q] w (Makes (.balanced A k v B) w) := by
  go_enter Try.func96, Try.ntmps96
  go_wp2_with fail
  refine (light_any A B _ _ _ _ hA hB sA sB).mono ?_
  rintro e w' ⟨rfl, rfl⟩
  rw [h1]
  go_wp2_with fail
  refine (light_any B A _ _ _ _ hB hA sB sA).mono ?_
  rintro e w' ⟨rfl, rfl⟩
  rw [h3]
  go_wp2_with fail
  have H2 : Hid (T.balanced A k v B = .node A k v B) := by simp [Hid, T.balanced, h1, h3]
  refine (over_any A B k v _ _ _ hA hB (by omega) (by omega)).mono ?_
  rintro e w1 ⟨p1, rfl, ht1, hb1⟩
  go_wp2
  go_ret
  exact ⟨p1, rfl, by rw [H2.out]; exact ht1, hb1⟩

theorem balanced_any (A B : T Int Int) (k : Int) (v : Int) (p q : Option Addr) (w : World) (hA : Tr w.heap.size w p A) (hB : Tr w.heap.size w q B) (sA : A.size ≤ 1099511627776) (sB : B.size ≤ 1099511627776) :
    Calls Try.prog 96 #[.pointer p, .int .i64 k, .int .i64 v, .pointer q] w (Makes (.balanced A k v B) w) := by
  cases h1 : T.light A B with
  | false => exact balanced_right A B k v p q h1 w hA hB sA sB
  | true =>
    cases h3 : T.light B A with
    | false => exact balanced_left A B k v p q h1 h3 w hA hB sA sB
    | true => exact balanced_same A B k v p q h1 h3 w hA hB sA sB
end Go.Proofs.MT.II

/- The tree's functions link, behead, merge (II). -/
namespace Go.Proofs.MT.II
open Go.RowKit

def LinkSaid (n : Nat) : Prop := ∀ (A B : T Int Int) (k : Int) (v : Int) (p q : Option Addr), A.size + B.size ≤ n → ∀ (w : World) (_ : Tr w.heap.size w p A) (_ : Tr w.heap.size w q B) (_ : A.size + B.size + 1 ≤ 1099511627776),
    Calls Try.prog 75 #[.pointer p, .int .i64 k, .int .i64 v, .pointer q] w (Makes (.link A k v B) w)

set_option maxRecDepth 100000 in
set_option maxHeartbeats 2000000 in
theorem link_right (n : Nat) (IH : LinkSaid n) (A B : T Int Int) (k : Int) (v : Int) (p q : Option Addr) (hn : A.size + B.size ≤ n + 1) (h1 : T.light A B = false) (w : World) (hA : Tr w.heap.size w p A) (hB : Tr w.heap.size w q B) (sAB : A.size + B.size + 1 ≤ 1099511627776) :
    Calls Try.prog 75 #[.pointer p, .int .i64 k, .int .i64 v, .pointer q] w (Makes (.link A k v B) w) := by
  cases B with
  | nil => simp [T.light, T.size] at h1
  | node rl rk rv rr =>
  have hB' := hB
  obtain ⟨b, pl, pr, rfl, hb, c0, c1, c2, c3, c4, hl, hr⟩ := hB'
  go_enter Try.func75, Try.ntmps75
  go_wp2_with fail
  refine (light_any A _ _ _ _ _ hA hB (by omega) (by omega)).mono ?_
  rintro e w' ⟨rfl, rfl⟩
  rw [h1]
  go_wp2_with fail
  have f0 := cell_later (a := ⟨b, 0, none⟩) hb c0
  have f1 := cell_later (a := ⟨b, 1, none⟩) hb c1
  have f2 := cell_later (a := ⟨b, 2, none⟩) hb c2
  have f3 := cell_later (a := ⟨b, 3, none⟩) hb c3
  have H2 : Hid (T.link A k v (.node rl rk rv rr) = T.balanced (.link A k v rl) rk rv rr) := by simp only [Hid]; rw [T.link.eq_def]; simp [h1]
  have hz := T.link_size A k v rl
  simp only [T.size] at sAB hn
  clear c0 c1 c2 c3 c4 h1
  go_region_held3 (fun w' => Below w.heap.size w w') (repeat (first | assumption | exact Below.refl _ _ | apply Below.drew)) (first
          | (go_at_call 75; refine (IH A rl k v _ _ (by omega) _ (hA.later (by assumption)) (hl.later (by assumption)) (by omega)).mono ?_; rintro e w1 ⟨p1, rfl, ht1, hb1⟩; have hk1 : Below w.heap.size w w1 := Below.trans (by assumption) (hb1.mono (Below.size (by assumption))))
          | (go_at_call 96; refine (balanced_any (.link A k v rl) rr rk rv _ _ _ ht1 (hr.later (by assumption)) (by omega) (by omega)).mono ?_; rintro e w2 ⟨p2, rfl, ht2, hb2⟩; have hk2 : Below w.heap.size w w2 := Below.trans hk1 (hb2.mono (Below.size hk1))))
  go_wp2
  go_ret
  exact ⟨p2, rfl, by rw [H2.out]; exact ht2, hk2⟩

set_option maxRecDepth 100000 in
set_option maxHeartbeats 2000000 in
theorem link_left (n : Nat) (IH : LinkSaid n) (A B : T Int Int) (k : Int) (v : Int) (p q : Option Addr) (hn : A.size + B.size ≤ n + 1) (h1 : T.light A B = true) (h3 : T.light B A = false) (w : World) (hA : Tr w.heap.size w p A) (hB : Tr w.heap.size w q B) (sAB : A.size + B.size + 1 ≤ 1099511627776) :
    Calls Try.prog 75 #[.pointer p, .int .i64 k, .int .i64 v, .pointer q] w (Makes (.link A k v B) w) := by
  cases A with
  | nil => simp [T.light, T.size] at h3
  | node ll lk lv lr =>
  have hA' := hA
  obtain ⟨b, pl, pr, rfl, hb, c0, c1, c2, c3, c4, hl, hr⟩ := hA'
  go_enter Try.func75, Try.ntmps75
  go_wp2_with fail
  refine (light_any _ B _ _ _ _ hA hB (by omega) (by omega)).mono ?_
  rintro e w' ⟨rfl, rfl⟩
  rw [h1]
  go_wp2_with fail
  refine (light_any B _ _ _ _ _ hB hA (by omega) (by omega)).mono ?_
  rintro e w' ⟨rfl, rfl⟩
  rw [h3]
  go_wp2_with fail
  have f0 := cell_later (a := ⟨b, 0, none⟩) hb c0
  have f1 := cell_later (a := ⟨b, 1, none⟩) hb c1
  have f2 := cell_later (a := ⟨b, 2, none⟩) hb c2
  have f3 := cell_later (a := ⟨b, 3, none⟩) hb c3
  have H2 : Hid (T.link (.node ll lk lv lr) k v B = T.balanced ll lk lv (.link lr k v B)) := by simp only [Hid]; rw [T.link.eq_def]; simp [h1, h3]
  have hz := T.link_size lr k v B
  simp only [T.size] at sAB hn
  clear c0 c1 c2 c3 c4 h1 h3
  go_region_held3 (fun w' => Below w.heap.size w w') (repeat (first | assumption | exact Below.refl _ _ | apply Below.drew)) (first
          | (go_at_call 75; refine (IH lr B k v _ _ (by omega) _ (hr.later (by assumption)) (hB.later (by assumption)) (by omega)).mono ?_; rintro e w1 ⟨p1, rfl, ht1, hb1⟩; have hk1 : Below w.heap.size w w1 := Below.trans (by assumption) (hb1.mono (Below.size (by assumption))))
          | (go_at_call 96; refine (balanced_any ll (.link lr k v B) lk lv _ _ _ (hl.later (by assumption)) ht1 (by omega) (by omega)).mono ?_; rintro e w2 ⟨p2, rfl, ht2, hb2⟩; have hk2 : Below w.heap.size w w2 := Below.trans hk1 (hb2.mono (Below.size hk1))))
  go_wp2
  go_ret
  exact ⟨p2, rfl, by rw [H2.out]; exact ht2, hk2⟩

set_option maxRecDepth 100000 in
set_option maxHeartbeats 2000000 in
theorem link_same (A B : T Int Int) (k : Int) (v : Int) (p q : Option Addr) (h1 : T.light A B = true) (h3 : T.light B A = true) (w : World) (hA : Tr w.heap.size w p A) (hB : Tr w.heap.size w q B) (sAB : A.size + B.size + 1 ≤ 1099511627776) :
    Calls Try.prog 75 #[.pointer p, .int .i64 k, .int .i64 v, .pointer q] w (Makes (.link A k v B) w) := by
  go_enter Try.func75, Try.ntmps75
  go_wp2_with fail
  refine (light_any A B _ _ _ _ hA hB (by omega) (by omega)).mono ?_
  rintro e w' ⟨rfl, rfl⟩
  rw [h1]
  go_wp2_with fail
  refine (light_any B A _ _ _ _ hB hA (by omega) (by omega)).mono ?_
  rintro e w' ⟨rfl, rfl⟩
  rw [h3]
  go_wp2_with fail
  have H2 : Hid (T.link A k v B = .node A k v B) := by simp only [Hid]; rw [T.link.eq_def]; simp [h1, h3]
  refine (over_any A B k v _ _ _ hA hB (by omega) (by omega)).mono ?_
  rintro e w1 ⟨p1, rfl, ht1, hb1⟩
  go_wp2
  go_ret
  exact ⟨p1, rfl, by rw [H2.out]; exact ht1, hb1⟩

theorem link_all (n : Nat) : LinkSaid n := by
  induction n with
  | zero =>
    intro A B k v p q h w hA hB sAB
    have h1 : T.light A B = true := by simp [T.light]; omega
    have h3 : T.light B A = true := by simp [T.light]; omega
    exact link_same A B k v p q h1 h3 w hA hB sAB
  | succ n IH =>
    intro A B k v p q h w hA hB sAB
    cases h1 : T.light A B with
    | false => exact link_right n IH A B k v p q h h1 w hA hB sAB
    | true =>
      cases h3 : T.light B A with
      | false => exact link_left n IH A B k v p q h h1 h3 w hA hB sAB
      | true => exact link_same A B k v p q h1 h3 w hA hB sAB

theorem link_any (A B : T Int Int) (k : Int) (v : Int) (p q : Option Addr) (w : World) (hA : Tr w.heap.size w p A) (hB : Tr w.heap.size w q B) (sAB : A.size + B.size + 1 ≤ 1099511627776) :
    Calls Try.prog 75 #[.pointer p, .int .i64 k, .int .i64 v, .pointer q] w (Makes (.link A k v B) w) := link_all _ A B k v p q (Nat.le_refl _) w hA hB sAB

set_option maxRecDepth 100000 in
set_option maxHeartbeats 2000000 in
theorem behead_any (t : T Int Int) : ∀ (p : Option Addr) (w : World), Tr w.heap.size w p t → t ≠ .nil → t.size ≤ 1099511627776 →
    Calls Try.prog 102 #[.pointer p] w (Makes t.behead w) := by
  induction t with
  | nil => intro p w _ h; exact absurd rfl h
  | node l k v r ihl ihr =>
  intro p w ht _ hs
  clear ihr
  have ht' := ht
  obtain ⟨b, pl, pr, rfl, hb, c0, c1, c2, c3, c4, hl, hr⟩ := ht'
  cases l with
  | nil =>
    obtain rfl : pl = none := hl
    clear ihl
    go_enter Try.func102, Try.ntmps102
    go_wp2
    go_ret
    exact ⟨pr, rfl, hr, Below.refl _ _⟩
  | node a1 a2 a3 a4 =>
    obtain ⟨bl, pll, plr, rfl, hbl, -⟩ := id hl
    have IH : Hid (∀ (p : Option Addr) (w : World), Tr w.heap.size w p (.node a1 a2 a3 a4) → (T.node a1 a2 a3 a4) ≠ .nil → (T.node a1 a2 a3 a4).size ≤ 1099511627776 → Calls Try.prog 102 #[.pointer p] w (Makes (T.node a1 a2 a3 a4).behead w)) := ihl
    have H2 : Hid ((T.node (.node a1 a2 a3 a4) k v r).behead = T.balanced (T.node a1 a2 a3 a4).behead k v r) := by simp only [Hid]; rw [T.behead]
    have hz := T.behead_size (t := T.node a1 a2 a3 a4) (by intro h; cases h)
    generalize hL : T.node a1 a2 a3 a4 = L at *
    have hne : Hid (L ≠ .nil) := by rw [← hL]; intro h; cases h
    clear ihl hL
    simp only [T.size] at hs
    have f0 := cell_later (a := ⟨b, 0, none⟩) hb c0
    have f1 := cell_later (a := ⟨b, 1, none⟩) hb c1
    have f2 := cell_later (a := ⟨b, 2, none⟩) hb c2
    have f3 := cell_later (a := ⟨b, 3, none⟩) hb c3
    go_enter Try.func102, Try.ntmps102
    go_wp2_with fail
    clear c0 c1 c2 c3 c4
    go_region_held3 (fun w' => Below w.heap.size w w') (repeat (first | assumption | exact Below.refl _ _ | apply Below.drew)) (first
          | (go_at_call 102; refine (IH.out _ _ (hl.later (by assumption)) hne.out (by omega)).mono ?_; rintro e w1 ⟨p1, rfl, ht1, hb1⟩; have hk1 : Below w.heap.size w w1 := Below.trans (by assumption) (hb1.mono (Below.size (by assumption))))
          | (go_at_call 96; refine (balanced_any L.behead r k v _ _ _ ht1 (hr.later (by assumption)) (by omega) (by omega)).mono ?_; rintro e w2 ⟨p2, rfl, ht2, hb2⟩; have hk2 : Below w.heap.size w w2 := Below.trans hk1 (hb2.mono (Below.size hk1))))
    go_wp2
    go_ret
    exact ⟨p2, rfl, by rw [H2.out]; exact ht2, hk2⟩

/-- Down the left side to the first key. -/
theorem first_left {l : T Int Int} {k : Int} {v : Int} {r : T Int Int} {x : Int} {y : Int} (h : (T.node l k v r).first = some (x, y)) : (l = .nil ∧ k = x ∧ v = y) ∨ (l ≠ .nil ∧ l.first = some (x, y)) := by
  cases l with
  | nil => simp [T.first] at h; exact .inl ⟨rfl, h.1, h.2⟩
  | node a b c d => exact .inr ⟨by simp, by simpa [T.first] using h⟩

set_option maxRecDepth 100000 in
set_option maxHeartbeats 2000000 in
theorem merge_any (A B : T Int Int) (p q : Option Addr) (w : World) (hA : Tr w.heap.size w p A) (hB : Tr w.heap.size w q B) (sAB : A.size + B.size ≤ 1099511627776) :
    Calls Try.prog 72 #[.pointer p, .pointer q] w (Makes (.merge A B) w) := by
  cases B with
  | nil =>
    obtain rfl : q = none := hB
    go_enter Try.func72, Try.ntmps72
    go_wp2
    go_ret
    exact ⟨p, rfl, hA, Below.refl _ _⟩
  | node rl rk rv rr =>
    obtain ⟨⟨x, y⟩, hf⟩ := T.first_node rl rk rv rr
    have H2 : Hid (T.merge A (.node rl rk rv rr) = T.link A x y (T.node rl rk rv rr).behead) := by simp only [Hid, T.merge, hf]
    have hz := T.behead_size (t := T.node rl rk rv rr) (by intro h; cases h)
    obtain ⟨b, pl, pr, rfl, hb, -⟩ := id hB
    generalize hL : T.node rl rk rv rr = B at *
    have hne : Hid (B ≠ .nil) := by rw [← hL]; intro h; cases h
    have HF : Hid (B.first = some (x, y)) := hf
    clear hL hf
    go_enter Try.func72, Try.ntmps72
    go_wp2_with fail
    go_loopg [5] B.size (fun k p5 wr => w = wr ∧ ∃ (F : T Int Int) (p' : Option Addr), p5 = .pointer p' ∧ Tr w.heap.size w p' F ∧ F.size = k ∧ F ≠ .nil ∧ F.first = some (x, y))
    case atStart => exact ⟨rfl, B, _, rfl, hB, rfl, hne.out, HF.out⟩
    case round =>
      obtain ⟨rfl, F, p', rfl, hF, hk, hFn, hFf⟩ := hrel
      cases F with
      | nil => exact absurd rfl hFn
      | node l k v r =>
      obtain ⟨bf, pfl, pfr, rfl, hbf, c0, c1, c2, c3, c4, hl, hr⟩ := hF
      have HK : Hid ((T.node l k v r).size = gk) := hk
      clear hk hFn
      rcases first_left hFf with ⟨rfl, rfl, rfl⟩ | ⟨hn, hlf⟩
      · obtain rfl : pfl = none := hl
        clear hFf
        have f0 := cell_later (a := ⟨bf, 0, none⟩) hbf c0
        have f1 := cell_later (a := ⟨bf, 1, none⟩) hbf c1
        go_wp2_with fail
        go_region_held3 (fun w' => Below w.heap.size w w') (repeat (first | assumption | exact Below.refl _ _ | apply Below.drew)) (first
          | (go_at_call 102; refine (behead_any B _ _ (hB.later (by assumption)) hne.out (by omega)).mono ?_; rintro e w1 ⟨p1, rfl, ht1, hb1⟩; have hk1 : Below w.heap.size w w1 := Below.trans (by assumption) (hb1.mono (Below.size (by assumption))))
          | (go_at_call 75; refine (link_any A B.behead k v _ _ _ (hA.later (hk1)) ht1 (by omega)).mono ?_; rintro e w2 ⟨p2, rfl, ht2, hb2⟩; have hk2 : Below w.heap.size w w2 := Below.trans hk1 (hb2.mono (Below.size hk1))))
        go_wp2
        go_ret
        exact ⟨p2, rfl, by rw [H2.out]; exact ht2, hk2⟩
      · clear hFf
        have HN : Hid (l ≠ .nil) := hn
        have HL : Hid (l.first = some (x, y)) := hlf
        clear hn hlf
        cases l with
        | nil => exact absurd rfl HN.out
        | node a1 a2 a3 a4 =>
        obtain ⟨bl, pll, plr, rfl, hbl, -⟩ := id hl
        generalize hL : T.node a1 a2 a3 a4 = L at *
        clear hL
        go_wp2
        go_roundg L.size
        case measure => have := HK.out; simp only [T.size] at this; omega
        case rel => exact ⟨rfl, L, _, rfl, hl, rfl, HN.out, HL.out⟩
end Go.Proofs.MT.II

/- The tree's functions put, remove, cut (II). -/
namespace Go.Proofs.MT.II
open Go.RowKit

set_option maxRecDepth 100000 in
set_option maxHeartbeats 2000000 in
theorem put_any (k : Int) (x : Int) (t : T Int Int) : ∀ (p : Option Addr) (w : World), Tr w.heap.size w p t → t.size + 1 ≤ 1099511627776 → Calls Try.prog 61 #[.pointer p, .int .i64 k, .int .i64 x] w (Makes (T.put k x t) w) := by
  induction t with
  | nil =>
    intro p w ht _
    obtain rfl : p = none := ht
    go_enter Try.func61, Try.ntmps61
    go_wp2_with fail
    refine (over_any .nil .nil k x _ _ _ rfl rfl (by simp [T.size]) (by simp [T.size])).mono ?_
    rintro e w1 ⟨p1, rfl, ht1, hb1⟩
    go_wp2
    go_ret
    exact ⟨p1, rfl, ht1, hb1⟩
  | node l q v r ihl ihr =>
  intro p w ht hs
  have IHl : Hid (∀ (p : Option Addr) (w : World), Tr w.heap.size w p l → l.size + 1 ≤ 1099511627776 → Calls Try.prog 61 #[.pointer p, .int .i64 k, .int .i64 x] w (Makes (T.put k x l) w)) := ihl
  have IHr : Hid (∀ (p : Option Addr) (w : World), Tr w.heap.size w p r → r.size + 1 ≤ 1099511627776 → Calls Try.prog 61 #[.pointer p, .int .i64 k, .int .i64 x] w (Makes (T.put k x r) w)) := ihr
  clear ihl ihr
  have ht' := ht
  obtain ⟨b, pl, pr, rfl, hb, c0, c1, c2, c3, c4, hl, hr⟩ := ht'
  have f0 := cell_later (a := ⟨b, 0, none⟩) hb c0
  have f1 := cell_later (a := ⟨b, 1, none⟩) hb c1
  have f2 := cell_later (a := ⟨b, 2, none⟩) hb c2
  have f3 := cell_later (a := ⟨b, 3, none⟩) hb c3
  simp only [T.size] at hs
  clear c1 c2 c3 c4
  have hzl := T.put_size k x l
  have hzr := T.put_size k x r
  cases hk : KOrd.lt k q with
  | true =>
    have H2 : Hid (T.put k x (.node l q v r) = T.balanced (T.put k x l) q v r) := by simp [Hid, T.put, hk]
    have hk' : k < q := by simpa using hk
    clear hk
    go_enter Try.func61, Try.ntmps61
    go_wp2_with fail
    clear c0
    go_region_held3 (fun w' => Below w.heap.size w w') (repeat (first | assumption | exact Below.refl _ _ | apply Below.drew)) (first
          | (go_at_call 61; refine (IHl.out _ _ (hl.later (by assumption)) (by omega)).mono ?_; rintro e w1 ⟨p1, rfl, ht1, hb1⟩; have hk1 : Below w.heap.size w w1 := Below.trans (by assumption) (hb1.mono (Below.size (by assumption))))
          | (go_at_call 96; refine (balanced_any (T.put k x l) r q v _ _ _ ht1 (hr.later (by assumption)) (by omega) (by omega)).mono ?_; rintro e w2 ⟨p2, rfl, ht2, hb2⟩; have hk2 : Below w.heap.size w w2 := Below.trans hk1 (hb2.mono (Below.size hk1))))
    go_wp2
    go_ret
    exact ⟨p2, rfl, by rw [H2.out]; exact ht2, hk2⟩
  | false =>
    cases hq : KOrd.lt q k with
    | true =>
      have H2 : Hid (T.put k x (.node l q v r) = T.balanced l q v (T.put k x r)) := by simp [Hid, T.put, hk, hq]
      have hk' : q ≤ k := by simpa using hk
      have hq' : q < k := by simpa using hq
      clear hk hq
      go_enter Try.func61, Try.ntmps61
      go_wp2_with fail
      clear c0
      go_region_held3 (fun w' => Below w.heap.size w w') (repeat (first | assumption | exact Below.refl _ _ | apply Below.drew)) (first
          | (go_at_call 61; refine (IHr.out _ _ (hr.later (by assumption)) (by omega)).mono ?_; rintro e w1 ⟨p1, rfl, ht1, hb1⟩; have hk1 : Below w.heap.size w w1 := Below.trans (by assumption) (hb1.mono (Below.size (by assumption))))
          | (go_at_call 96; refine (balanced_any l (T.put k x r) q v _ _ _ (hl.later (by assumption)) ht1 (by omega) (by omega)).mono ?_; rintro e w2 ⟨p2, rfl, ht2, hb2⟩; have hk2 : Below w.heap.size w w2 := Below.trans hk1 (hb2.mono (Below.size hk1))))
      go_wp2
      go_ret
      exact ⟨p2, rfl, by rw [H2.out]; exact ht2, hk2⟩
    | false =>
      have H2 : Hid (T.put k x (.node l q v r) = .node l k x r) := by simp [Hid, T.put, hk, hq]
      have hk' : q ≤ k := by simpa using hk
      have hq' : k ≤ q := by simpa using hq
      clear hk hq
      go_enter Try.func61, Try.ntmps61
      go_wp2_with fail
      clear c0
      go_region_held3 (fun w' => Below w.heap.size w w') (repeat (first | assumption | exact Below.refl _ _ | apply Below.drew)) (first
          | (go_at_call 91; refine (over_any l r k x _ _ _ (hl.later (by assumption)) (hr.later (by assumption)) (by omega) (by omega)).mono ?_; rintro e w1 ⟨p1, rfl, ht1, hb1⟩; have hk1 : Below w.heap.size w w1 := Below.trans (by assumption) (hb1.mono (Below.size (by assumption)))))
      go_wp2
      go_ret
      exact ⟨p1, rfl, by rw [H2.out]; exact ht1, hk1⟩

set_option maxRecDepth 100000 in
set_option maxHeartbeats 2000000 in
theorem remove_any (k : Int) (t : T Int Int) : ∀ (p : Option Addr) (w : World), Tr w.heap.size w p t → t.size ≤ 1099511627776 → Calls Try.prog 59 #[.pointer p, .int .i64 k] w (Makes (T.remove k t) w) := by
  induction t with
  | nil =>
    intro p w ht _
    obtain rfl : p = none := ht
    go_enter Try.func59, Try.ntmps59
    go_wp2
    go_ret
    exact ⟨none, rfl, rfl, Below.refl _ _⟩
  | node l q v r ihl ihr =>
  intro p w ht hs
  have IHl : Hid (∀ (p : Option Addr) (w : World), Tr w.heap.size w p l → l.size ≤ 1099511627776 → Calls Try.prog 59 #[.pointer p, .int .i64 k] w (Makes (T.remove k l) w)) := ihl
  have IHr : Hid (∀ (p : Option Addr) (w : World), Tr w.heap.size w p r → r.size ≤ 1099511627776 → Calls Try.prog 59 #[.pointer p, .int .i64 k] w (Makes (T.remove k r) w)) := ihr
  clear ihl ihr
  have ht' := ht
  obtain ⟨b, pl, pr, rfl, hb, c0, c1, c2, c3, c4, hl, hr⟩ := ht'
  have f0 := cell_later (a := ⟨b, 0, none⟩) hb c0
  have f1 := cell_later (a := ⟨b, 1, none⟩) hb c1
  have f2 := cell_later (a := ⟨b, 2, none⟩) hb c2
  have f3 := cell_later (a := ⟨b, 3, none⟩) hb c3
  simp only [T.size] at hs
  clear c1 c2 c3 c4
  have hzl := T.remove_size k l
  have hzr := T.remove_size k r
  cases hk : KOrd.lt k q with
  | true =>
    have H2 : Hid (T.remove k (.node l q v r) = T.balanced (T.remove k l) q v r) := by simp [Hid, T.remove, hk]
    have hk' : k < q := by simpa using hk
    clear hk
    go_enter Try.func59, Try.ntmps59
    go_wp2_with fail
    clear c0
    go_region_held3 (fun w' => Below w.heap.size w w') (repeat (first | assumption | exact Below.refl _ _ | apply Below.drew)) (first
          | (go_at_call 59; refine (IHl.out _ _ (hl.later (by assumption)) (by omega)).mono ?_; rintro e w1 ⟨p1, rfl, ht1, hb1⟩; have hk1 : Below w.heap.size w w1 := Below.trans (by assumption) (hb1.mono (Below.size (by assumption))))
          | (go_at_call 96; refine (balanced_any (T.remove k l) r q v _ _ _ ht1 (hr.later (by assumption)) (by omega) (by omega)).mono ?_; rintro e w2 ⟨p2, rfl, ht2, hb2⟩; have hk2 : Below w.heap.size w w2 := Below.trans hk1 (hb2.mono (Below.size hk1))))
    go_wp2
    go_ret
    exact ⟨p2, rfl, by rw [H2.out]; exact ht2, hk2⟩
  | false =>
    cases hq : KOrd.lt q k with
    | true =>
      have H2 : Hid (T.remove k (.node l q v r) = T.balanced l q v (T.remove k r)) := by simp [Hid, T.remove, hk, hq]
      have hk' : q ≤ k := by simpa using hk
      have hq' : q < k := by simpa using hq
      clear hk hq
      go_enter Try.func59, Try.ntmps59
      go_wp2_with fail
      clear c0
      go_region_held3 (fun w' => Below w.heap.size w w') (repeat (first | assumption | exact Below.refl _ _ | apply Below.drew)) (first
          | (go_at_call 59; refine (IHr.out _ _ (hr.later (by assumption)) (by omega)).mono ?_; rintro e w1 ⟨p1, rfl, ht1, hb1⟩; have hk1 : Below w.heap.size w w1 := Below.trans (by assumption) (hb1.mono (Below.size (by assumption))))
          | (go_at_call 96; refine (balanced_any l (T.remove k r) q v _ _ _ (hl.later (by assumption)) ht1 (by omega) (by omega)).mono ?_; rintro e w2 ⟨p2, rfl, ht2, hb2⟩; have hk2 : Below w.heap.size w w2 := Below.trans hk1 (hb2.mono (Below.size hk1))))
      go_wp2
      go_ret
      exact ⟨p2, rfl, by rw [H2.out]; exact ht2, hk2⟩
    | false =>
      have H2 : Hid (T.remove k (.node l q v r) = T.merge l r) := by simp [Hid, T.remove, hk, hq]
      have hk' : q ≤ k := by simpa using hk
      have hq' : k ≤ q := by simpa using hq
      clear hk hq
      go_enter Try.func59, Try.ntmps59
      go_wp2_with fail
      clear c0
      go_region_held3 (fun w' => Below w.heap.size w w') (repeat (first | assumption | exact Below.refl _ _ | apply Below.drew)) (first
          | (go_at_call 72; refine (merge_any l r _ _ _ (hl.later (by assumption)) (hr.later (by assumption)) (by omega)).mono ?_; rintro e w1 ⟨p1, rfl, ht1, hb1⟩; have hk1 : Below w.heap.size w w1 := Below.trans (by assumption) (hb1.mono (Below.size (by assumption)))))
      go_wp2
      go_ret
      exact ⟨p1, rfl, by rw [H2.out]; exact ht1, hk1⟩

/-- What a cut leaves: both sides and the node between them. -/
def Cuts (c : T Int Int × T Int Int × T Int Int) (w : World) (e : Ending) (w' : World) : Prop :=
  ∃ p q r, e = .returned (.tuple #[.pointer p, .pointer q, .pointer r]) ∧ Tr w'.heap.size w' p c.1 ∧ Tr w'.heap.size w' q c.2.1 ∧ Tr w'.heap.size w' r c.2.2 ∧ Below w.heap.size w w'

theorem cut_sizes (k : Int) (t : T Int Int) : (T.cut k t).1.size + (T.cut k t).2.2.size ≤ t.size := by
  induction t with
  | nil => simp [T.cut, T.size]
  | node l q v r ihl ihr =>
    rw [T.cut]
    split
    · simp only [T.link_size, T.size]; omega
    · split
      · simp only [T.link_size, T.size]; omega
      · simp only [T.size]; omega

set_option maxRecDepth 100000 in
set_option maxHeartbeats 2000000 in
theorem cut_any (k : Int) (t : T Int Int) : ∀ (p : Option Addr) (w : World), Tr w.heap.size w p t → t.size ≤ 1099511627776 → Calls Try.prog 69 #[.pointer p, .int .i64 k] w (Cuts (T.cut k t) w) := by
  induction t with
  | nil =>
    intro p w ht _
    obtain rfl : p = none := ht
    go_enter Try.func69, Try.ntmps69
    go_wp2
    go_ret3
    exact ⟨none, none, none, rfl, rfl, rfl, rfl, Below.refl _ _⟩
  | node l q v r ihl ihr =>
  intro p w ht hs
  have IHl : Hid (∀ (p : Option Addr) (w : World), Tr w.heap.size w p l → l.size ≤ 1099511627776 → Calls Try.prog 69 #[.pointer p, .int .i64 k] w (Cuts (T.cut k l) w)) := ihl
  have IHr : Hid (∀ (p : Option Addr) (w : World), Tr w.heap.size w p r → r.size ≤ 1099511627776 → Calls Try.prog 69 #[.pointer p, .int .i64 k] w (Cuts (T.cut k r) w)) := ihr
  clear ihl ihr
  have ht' := ht
  obtain ⟨b, pl, pr, rfl, hb, c0, c1, c2, c3, c4, hl, hr⟩ := ht'
  have f0 := cell_later (a := ⟨b, 0, none⟩) hb c0
  have f1 := cell_later (a := ⟨b, 1, none⟩) hb c1
  have f2 := cell_later (a := ⟨b, 2, none⟩) hb c2
  have f3 := cell_later (a := ⟨b, 3, none⟩) hb c3
  simp only [T.size] at hs
  clear c1 c4
  have hzl := cut_sizes k l
  have hzr := cut_sizes k r
  cases hk : KOrd.lt k q with
  | true =>
    have H2 : Hid (T.cut k (.node l q v r) = ((T.cut k l).1, (T.cut k l).2.1, T.link (T.cut k l).2.2 q v r)) := by simp [Hid, T.cut, hk]
    have hk' : k < q := by simpa using hk
    clear hk c3
    go_enter Try.func69, Try.ntmps69
    go_wp2_with fail
    refine (IHl.out _ _ hl (by omega)).mono ?_
    rintro e w1 ⟨p1, q1, r1, rfl, hp1, hq1, hr1, hb1⟩
    have hk1 : Below w.heap.size w w1 := hb1
    clear c0 c2
    go_wp2_with fail
    have hr' := hr.later hb1
    have f0' := later_two f0 hb1
    have f1' := later_two f1 hb1
    have f3' := later_two f3 hb1
    clear f0 f1 f2 f3
    go_region_held3 (fun w' => Below w1.heap.size w1 w') (repeat (first | assumption | exact Below.refl _ _ | apply Below.drew)) (first
          | (go_at_call 75; refine (link_any (T.cut k l).2.2 r q v _ _ _ (hr1.later (by assumption)) (hr'.later (by assumption)) (by omega)).mono ?_; rintro e w2 ⟨p2, rfl, ht2, hb2⟩; have hk2 : Below w1.heap.size w1 w2 := Below.trans (by assumption) (hb2.mono (Below.size (by assumption)))))
    go_wp2
    go_ret3
    exact ⟨p1, q1, p2, rfl, by rw [H2.out]; exact hp1.later hk2, by rw [H2.out]; exact hq1.later hk2, by rw [H2.out]; exact ht2, hk1.trans (hk2.mono hk1.size)⟩
  | false =>
    cases hq : KOrd.lt q k with
    | true =>
      have H2 : Hid (T.cut k (.node l q v r) = (T.link l q v (T.cut k r).1, (T.cut k r).2.1, (T.cut k r).2.2)) := by simp [Hid, T.cut, hk, hq]
      have hk' : q ≤ k := by simpa using hk
      have hq' : q < k := by simpa using hq
      clear hk hq c2
      go_enter Try.func69, Try.ntmps69
      go_wp2_with fail
      refine (IHr.out _ _ hr (by omega)).mono ?_
      rintro e w1 ⟨p1, q1, r1, rfl, hp1, hq1, hr1, hb1⟩
      have hk1 : Below w.heap.size w w1 := hb1
      clear c0 c3
      go_wp2_with fail
      have hl' := hl.later hb1
      have f0' := later_two f0 hb1
      have f1' := later_two f1 hb1
      have f2' := later_two f2 hb1
      clear f0 f1 f2 f3
      go_region_held3 (fun w' => Below w1.heap.size w1 w') (repeat (first | assumption | exact Below.refl _ _ | apply Below.drew)) (first
          | (go_at_call 75; refine (link_any l (T.cut k r).1 q v _ _ _ (hl'.later (by assumption)) (hp1.later (by assumption)) (by omega)).mono ?_; rintro e w2 ⟨p2, rfl, ht2, hb2⟩; have hk2 : Below w1.heap.size w1 w2 := Below.trans (by assumption) (hb2.mono (Below.size (by assumption)))))
      go_wp2
      go_ret3
      exact ⟨p2, q1, r1, rfl, by rw [H2.out]; exact ht2, by rw [H2.out]; exact hq1.later hk2, by rw [H2.out]; exact hr1.later hk2, hk1.trans (hk2.mono hk1.size)⟩
    | false =>
      have H2 : Hid (T.cut k (.node l q v r) = (l, .node l q v r, r)) := by simp [Hid, T.cut, hk, hq]
      have hk' : q ≤ k := by simpa using hk
      have hq' : k ≤ q := by simpa using hq
      clear hk hq
      go_enter Try.func69, Try.ntmps69
      go_wp2_with fail
      go_quiet (fail)
      go_wp2
      go_ret3
      have hbd : Below w.heap.size w (w.drewN nq) := below_draws (Below.refl _ _) _
      exact ⟨pl, some ⟨b, 0, none⟩, pr, rfl, by rw [H2.out]; exact hl.later hbd, by rw [H2.out]; exact ht.later hbd, by rw [H2.out]; exact hr.later hbd, hbd⟩
end Go.Proofs.MT.II

/- The tree's functions union, intersect, subtract, depth, told (II). -/
namespace Go.Proofs.MT.II
open Go.RowKit

theorem union_size_le (b : T Int Int) : ∀ a : T Int Int, (T.union a b).size ≤ a.size + b.size := by
  induction b with
  | nil => intro a; simp [T.union, T.size]
  | node l k v r ihl ihr =>
    intro a
    cases a with
    | nil => simp [T.union, T.size]
    | node a1 a2 a3 a4 =>
      have h := cut_sizes k (T.node a1 a2 a3 a4)
      have h1 := ihl (T.cut k (T.node a1 a2 a3 a4)).1
      have h2 := ihr (T.cut k (T.node a1 a2 a3 a4)).2.2
      rw [T.union, T.link_size]
      simp only [T.size] at *
      omega
theorem subtract_size_le (b : T Int Int) : ∀ a : T Int Int, (T.subtract a b).size ≤ a.size := by
  induction b with
  | nil => intro a; simp [T.subtract]
  | node l k v r ihl ihr =>
    intro a
    cases a with
    | nil => simp [T.subtract, T.size]
    | node a1 a2 a3 a4 =>
      have h := cut_sizes k (T.node a1 a2 a3 a4)
      have h1 := ihl (T.cut k (T.node a1 a2 a3 a4)).1
      have h2 := ihr (T.cut k (T.node a1 a2 a3 a4)).2.2
      rw [T.subtract, T.merge_size]
      omega
theorem intersect_size_le (b : T Int Int) : ∀ a : T Int Int, (T.intersect a b).size ≤ b.size := by
  induction b with
  | nil => intro a; simp [T.intersect]
  | node l k v r ihl ihr =>
    intro a
    cases a with
    | nil => simp [T.intersect, T.size]
    | node a1 a2 a3 a4 =>
      have h1 := ihl (T.cut k (T.node a1 a2 a3 a4)).1
      have h2 := ihr (T.cut k (T.node a1 a2 a3 a4)).2.2
      rw [T.intersect]
      split <;> simp only [T.merge_size, T.link_size, T.size] at * <;> omega
theorem union_nil_left (b : T Int Int) : T.union .nil b = b := by cases b <;> rfl
theorem subtract_nil_left (b : T Int Int) : T.subtract .nil b = .nil := by cases b <;> rfl
theorem intersect_nil_left (b : T Int Int) : T.intersect .nil b = .nil := by cases b <;> rfl

set_option maxRecDepth 100000 in
set_option maxHeartbeats 2000000 in
theorem union_any (t : T Int Int) : ∀ (A : T Int Int) (p q : Option Addr) (w : World), Tr w.heap.size w p A → Tr w.heap.size w q t → A.size + t.size + 1 ≤ 1099511627776 → Calls Try.prog 73 #[.pointer p, .pointer q] w (Makes (T.union A t) w) := by
  induction t with
  | nil =>
    intro A p q w hA hB _
    obtain rfl : q = none := hB
    cases A with
    | nil =>
      obtain rfl : p = none := hA
      go_enter Try.func73, Try.ntmps73
      go_wp2
      go_ret
      exact ⟨none, rfl, rfl, Below.refl _ _⟩
    | node a1 a2 a3 a4 =>
      obtain ⟨ba, pla, pra, rfl, hba, -⟩ := id hA
      go_enter Try.func73, Try.ntmps73
      go_wp2
      go_ret
      exact ⟨_, rfl, hA, Below.refl _ _⟩
  | node l q v r ihl ihr =>
  intro A p pq w hA ht hs
  have IHl : Hid (∀ (A : T Int Int) (p q : Option Addr) (w : World), Tr w.heap.size w p A → Tr w.heap.size w q l → A.size + l.size + 1 ≤ 1099511627776 → Calls Try.prog 73 #[.pointer p, .pointer q] w (Makes (T.union A l) w)) := ihl
  have IHr : Hid (∀ (A : T Int Int) (p q : Option Addr) (w : World), Tr w.heap.size w p A → Tr w.heap.size w q r → A.size + r.size + 1 ≤ 1099511627776 → Calls Try.prog 73 #[.pointer p, .pointer q] w (Makes (T.union A r) w)) := ihr
  clear ihl ihr
  have ht' := ht
  obtain ⟨b, pl, pr, rfl, hb, c0, c1, c2, c3, c4, hl, hr⟩ := ht'
  cases A with
  | nil =>
    obtain rfl : p = none := hA
    go_enter Try.func73, Try.ntmps73
    go_wp2
    go_ret
    exact ⟨_, rfl, ht, Below.refl _ _⟩
  | node a1 a2 a3 a4 =>
    obtain ⟨ba, pla, pra, rfl, hba, -⟩ := id hA
    have H2 : Hid (T.union (.node a1 a2 a3 a4) (.node l q v r) = T.link (T.union (T.cut q (.node a1 a2 a3 a4)).1 l) q v (T.union (T.cut q (.node a1 a2 a3 a4)).2.2 r)) := by simp only [Hid]; rw [T.union]
    generalize hL : T.node a1 a2 a3 a4 = A at *
    clear hL
    have hzc := cut_sizes q A
    have hz1 := union_size_le l (T.cut q A).1
    have hz2 := union_size_le r (T.cut q A).2.2
    simp only [T.size] at hs
    have f0 := cell_later (a := ⟨b, 0, none⟩) hb c0
    have f1 := cell_later (a := ⟨b, 1, none⟩) hb c1
    have f2 := cell_later (a := ⟨b, 2, none⟩) hb c2
    have f3 := cell_later (a := ⟨b, 3, none⟩) hb c3
    clear c1 c2 c3 c4
    go_enter Try.func73, Try.ntmps73
    go_wp2_with fail
    refine (cut_any q A _ _ hA (by omega)).mono ?_
    rintro e w1 ⟨p1, q1, r1, rfl, hp1, hq1, hr1, hb1⟩
    clear c0
    have hl' := hl.later hb1
    have hr' := hr.later hb1
    have f0' := later_two f0 hb1
    have f1' := later_two f1 hb1
    have f2' := later_two f2 hb1
    have f3' := later_two f3 hb1
    clear f0 f1 f2 f3
    go_wp2_with fail
    go_region_held3 (fun w' => Below w1.heap.size w1 w') (repeat (first | assumption | exact Below.refl _ _ | apply Below.drew)) (first
          | (go_at_call_of 73 pl; refine (IHl.out _ _ _ _ (hp1.later (by assumption)) (hl'.later (by assumption)) (by omega)).mono ?_; rintro e w2 ⟨p2, rfl, ht2, hb2⟩; have hk2 : Below w1.heap.size w1 w2 := Below.trans (by assumption) (hb2.mono (Below.size (by assumption))))
          | (go_at_call_of 73 pr; refine (IHr.out _ _ _ _ (hr1.later (by assumption)) (hr'.later (by assumption)) (by omega)).mono ?_; rintro e w3 ⟨p3, rfl, ht3, hb3⟩; have hk3 : Below w1.heap.size w1 w3 := Below.trans hk2 (hb3.mono (Below.size hk2)))
          | (go_at_call 75; refine (link_any (T.union (T.cut q A).1 l) (T.union (T.cut q A).2.2 r) q v _ _ _ (ht2.later hb3) ht3 (by omega)).mono ?_; rintro e w4 ⟨p4, rfl, ht4, hb4⟩; have hk4 : Below w1.heap.size w1 w4 := Below.trans hk3 (hb4.mono (Below.size hk3))))
    go_wp2
    go_ret
    exact ⟨p4, rfl, by rw [H2.out]; exact ht4, hb1.trans (hk4.mono hb1.size)⟩

set_option maxRecDepth 100000 in
set_option maxHeartbeats 2000000 in
theorem subtract_any (t : T Int Int) : ∀ (A : T Int Int) (p q : Option Addr) (w : World), Tr w.heap.size w p A → Tr w.heap.size w q t → A.size + t.size + 1 ≤ 1099511627776 → Calls Try.prog 74 #[.pointer p, .pointer q] w (Makes (T.subtract A t) w) := by
  induction t with
  | nil =>
    intro A p q w hA hB _
    obtain rfl : q = none := hB
    cases A with
    | nil =>
      obtain rfl : p = none := hA
      go_enter Try.func74, Try.ntmps74
      go_wp2
      go_ret
      exact ⟨none, rfl, rfl, Below.refl _ _⟩
    | node a1 a2 a3 a4 =>
      obtain ⟨ba, pla, pra, rfl, hba, -⟩ := id hA
      go_enter Try.func74, Try.ntmps74
      go_wp2
      go_ret
      exact ⟨_, rfl, hA, Below.refl _ _⟩
  | node l q v r ihl ihr =>
  intro A p pq w hA ht hs
  have IHl : Hid (∀ (A : T Int Int) (p q : Option Addr) (w : World), Tr w.heap.size w p A → Tr w.heap.size w q l → A.size + l.size + 1 ≤ 1099511627776 → Calls Try.prog 74 #[.pointer p, .pointer q] w (Makes (T.subtract A l) w)) := ihl
  have IHr : Hid (∀ (A : T Int Int) (p q : Option Addr) (w : World), Tr w.heap.size w p A → Tr w.heap.size w q r → A.size + r.size + 1 ≤ 1099511627776 → Calls Try.prog 74 #[.pointer p, .pointer q] w (Makes (T.subtract A r) w)) := ihr
  clear ihl ihr
  have ht' := ht
  obtain ⟨b, pl, pr, rfl, hb, c0, c1, c2, c3, c4, hl, hr⟩ := ht'
  cases A with
  | nil =>
    obtain rfl : p = none := hA
    go_enter Try.func74, Try.ntmps74
    go_wp2
    go_ret
    exact ⟨_, rfl, rfl, Below.refl _ _⟩
  | node a1 a2 a3 a4 =>
    obtain ⟨ba, pla, pra, rfl, hba, -⟩ := id hA
    have H2 : Hid (T.subtract (.node a1 a2 a3 a4) (.node l q v r) = T.merge (T.subtract (T.cut q (.node a1 a2 a3 a4)).1 l) (T.subtract (T.cut q (.node a1 a2 a3 a4)).2.2 r)) := by simp only [Hid]; rw [T.subtract]
    generalize hL : T.node a1 a2 a3 a4 = A at *
    clear hL
    have hzc := cut_sizes q A
    have hz1 := subtract_size_le l (T.cut q A).1
    have hz2 := subtract_size_le r (T.cut q A).2.2
    simp only [T.size] at hs
    have f0 := cell_later (a := ⟨b, 0, none⟩) hb c0
    have f1 := cell_later (a := ⟨b, 1, none⟩) hb c1
    have f2 := cell_later (a := ⟨b, 2, none⟩) hb c2
    have f3 := cell_later (a := ⟨b, 3, none⟩) hb c3
    clear c1 c2 c3 c4
    go_enter Try.func74, Try.ntmps74
    go_wp2_with fail
    refine (cut_any q A _ _ hA (by omega)).mono ?_
    rintro e w1 ⟨p1, q1, r1, rfl, hp1, hq1, hr1, hb1⟩
    clear c0
    have hl' := hl.later hb1
    have hr' := hr.later hb1
    have f0' := later_two f0 hb1
    have f1' := later_two f1 hb1
    have f2' := later_two f2 hb1
    have f3' := later_two f3 hb1
    clear f0 f1 f2 f3
    go_wp2_with fail
    go_region_held3 (fun w' => Below w1.heap.size w1 w') (repeat (first | assumption | exact Below.refl _ _ | apply Below.drew)) (first
          | (go_at_call_of 74 pl; refine (IHl.out _ _ _ _ (hp1.later (by assumption)) (hl'.later (by assumption)) (by omega)).mono ?_; rintro e w2 ⟨p2, rfl, ht2, hb2⟩; have hk2 : Below w1.heap.size w1 w2 := Below.trans (by assumption) (hb2.mono (Below.size (by assumption))))
          | (go_at_call_of 74 pr; refine (IHr.out _ _ _ _ (hr1.later (by assumption)) (hr'.later (by assumption)) (by omega)).mono ?_; rintro e w3 ⟨p3, rfl, ht3, hb3⟩; have hk3 : Below w1.heap.size w1 w3 := Below.trans hk2 (hb3.mono (Below.size hk2)))
          | (go_at_call 72; refine (merge_any (T.subtract (T.cut q A).1 l) (T.subtract (T.cut q A).2.2 r) _ _ _ (ht2.later hb3) ht3 (by omega)).mono ?_; rintro e w4 ⟨p4, rfl, ht4, hb4⟩; have hk4 : Below w1.heap.size w1 w4 := Below.trans hk3 (hb4.mono (Below.size hk3))))
    go_wp2
    go_ret
    exact ⟨p4, rfl, by rw [H2.out]; exact ht4, hb1.trans (hk4.mono hb1.size)⟩

set_option maxRecDepth 100000 in
set_option maxHeartbeats 2000000 in
theorem intersect_any (t : T Int Int) : ∀ (A : T Int Int) (p q : Option Addr) (w : World), Tr w.heap.size w p A → Tr w.heap.size w q t → A.size + t.size + 1 ≤ 1099511627776 → Calls Try.prog 77 #[.pointer p, .pointer q] w (Makes (T.intersect A t) w) := by
  induction t with
  | nil =>
    intro A p q w hA hB _
    obtain rfl : q = none := hB
    cases A with
    | nil =>
      obtain rfl : p = none := hA
      go_enter Try.func77, Try.ntmps77
      go_wp2
      go_ret
      exact ⟨none, rfl, rfl, Below.refl _ _⟩
    | node a1 a2 a3 a4 =>
      obtain ⟨ba, pla, pra, rfl, hba, -⟩ := id hA
      go_enter Try.func77, Try.ntmps77
      go_wp2
      go_ret
      exact ⟨_, rfl, rfl, Below.refl _ _⟩
  | node l q v r ihl ihr =>
  intro A p pq w hA ht hs
  have IHl : Hid (∀ (A : T Int Int) (p q : Option Addr) (w : World), Tr w.heap.size w p A → Tr w.heap.size w q l → A.size + l.size + 1 ≤ 1099511627776 → Calls Try.prog 77 #[.pointer p, .pointer q] w (Makes (T.intersect A l) w)) := ihl
  have IHr : Hid (∀ (A : T Int Int) (p q : Option Addr) (w : World), Tr w.heap.size w p A → Tr w.heap.size w q r → A.size + r.size + 1 ≤ 1099511627776 → Calls Try.prog 77 #[.pointer p, .pointer q] w (Makes (T.intersect A r) w)) := ihr
  clear ihl ihr
  have ht' := ht
  obtain ⟨b, pl, pr, rfl, hb, c0, c1, c2, c3, c4, hl, hr⟩ := ht'
  cases A with
  | nil =>
    obtain rfl : p = none := hA
    go_enter Try.func77, Try.ntmps77
    go_wp2
    go_ret
    exact ⟨_, rfl, rfl, Below.refl _ _⟩
  | node a1 a2 a3 a4 =>
    obtain ⟨ba, pla, pra, rfl, hba, -⟩ := id hA
    have H2 : Hid ((T.cut q (.node a1 a2 a3 a4)).2.1 = .nil → T.intersect (.node a1 a2 a3 a4) (.node l q v r) = T.merge (T.intersect (T.cut q (.node a1 a2 a3 a4)).1 l) (T.intersect (T.cut q (.node a1 a2 a3 a4)).2.2 r)) := by intro h; rw [T.intersect, h]
    have H4 : Hid (∀ x1 x2 x3 x4, (T.cut q (.node a1 a2 a3 a4)).2.1 = .node x1 x2 x3 x4 → T.intersect (.node a1 a2 a3 a4) (.node l q v r) = T.link (T.intersect (T.cut q (.node a1 a2 a3 a4)).1 l) q v (T.intersect (T.cut q (.node a1 a2 a3 a4)).2.2 r)) := by intro x1 x2 x3 x4 h; rw [T.intersect, h]
    generalize hL : T.node a1 a2 a3 a4 = A at *
    clear hL
    have hzc := cut_sizes q A
    have hz1 := intersect_size_le l (T.cut q A).1
    have hz2 := intersect_size_le r (T.cut q A).2.2
    simp only [T.size] at hs
    have f0 := cell_later (a := ⟨b, 0, none⟩) hb c0
    have f1 := cell_later (a := ⟨b, 1, none⟩) hb c1
    have f2 := cell_later (a := ⟨b, 2, none⟩) hb c2
    have f3 := cell_later (a := ⟨b, 3, none⟩) hb c3
    clear c1 c2 c3 c4
    go_enter Try.func77, Try.ntmps77
    go_wp2_with fail
    refine (cut_any q A _ _ hA (by omega)).mono ?_
    rintro e w1 ⟨p1, q1, r1, rfl, hp1, hq1, hr1, hb1⟩
    clear c0
    have hl' := hl.later hb1
    have hr' := hr.later hb1
    have f0' := later_two f0 hb1
    have f1' := later_two f1 hb1
    have f2' := later_two f2 hb1
    have f3' := later_two f3 hb1
    clear f0 f1 f2 f3
    go_wp2_with fail
    go_region_held3 (fun w' => Below w1.heap.size w1 w') (repeat (first | assumption | exact Below.refl _ _ | apply Below.drew)) (first
          | (go_at_call_of 77 pl; refine (IHl.out _ _ _ _ (hp1.later (by assumption)) (hl'.later (by assumption)) (by omega)).mono ?_; rintro e w2 ⟨p2, rfl, ht2, hb2⟩; have hk2 : Below w1.heap.size w1 w2 := Below.trans (by assumption) (hb2.mono (Below.size (by assumption))))
          | (go_at_call_of 77 pr; refine (IHr.out _ _ _ _ (hr1.later (by assumption)) (hr'.later (by assumption)) (by omega)).mono ?_; rintro e w3 ⟨p3, rfl, ht3, hb3⟩; have hk3 : Below w1.heap.size w1 w3 := Below.trans hk2 (hb3.mono (Below.size hk2))))
    have ht2' := ht2.later hb3
    have hq3 := hq1.later hk3
    cases hC : (T.cut q A).2.1 with
    | nil =>
      rw [hC] at hq3
      obtain rfl : q1 = none := hq3
      have HC := Lib.hid hC
      clear hC hq1
      go_wp2_with fail
      refine (merge_any (T.intersect (T.cut q A).1 l) (T.intersect (T.cut q A).2.2 r) _ _ _ ht2' ht3 (by omega)).mono ?_
      rintro e w4 ⟨p4, rfl, ht4, hb4⟩
      go_wp2
      go_ret
      exact ⟨p4, rfl, by rw [H2.out HC.out]; exact ht4, hb1.trans ((hk3.trans (hb4.mono hk3.size)).mono hb1.size)⟩
    | node x1 x2 x3 x4 =>
      rw [hC] at hq3
      obtain ⟨bx, plx, prx, rfl, hbx, -⟩ := hq3
      have HC := Lib.hid hC
      clear hC hq1
      go_wp2_with fail
      have f0'' := later_two f0' hk3
      have f1'' := later_two f1' hk3
      clear f0' f1' f2' f3'
      go_region_held3 (fun w' => Below w3.heap.size w3 w') (repeat (first | assumption | exact Below.refl _ _ | apply Below.drew)) (first
          | (go_at_call 75; refine (link_any (T.intersect (T.cut q A).1 l) (T.intersect (T.cut q A).2.2 r) q v _ _ _ (ht2'.later (by assumption)) (ht3.later (by assumption)) (by omega)).mono ?_; rintro e w4 ⟨p4, rfl, ht4, hb4⟩; have hk4 : Below w3.heap.size w3 w4 := Below.trans (by assumption) (hb4.mono (Below.size (by assumption)))))
      go_wp2
      go_ret
      exact ⟨p4, rfl, by rw [H4.out _ _ _ _ HC.out]; exact ht4, hb1.trans ((hk3.trans (hk4.mono hk3.size)).mono hb1.size)⟩

set_option maxRecDepth 100000 in
set_option maxHeartbeats 2000000 in
theorem told_nil (w : World) : Calls Try.prog 70 #[.pointer none] w fun e w' => e = .returned (.tuple #[.int .i64 0, .int .i64 0, .bool false]) ∧ w = w' := by
  go_enter Try.func70, Try.ntmps70
  go_wp2
  go_ret3
  exact ⟨rfl, rfl⟩

set_option maxRecDepth 100000 in
set_option maxHeartbeats 2000000 in
theorem told_node (l : T Int Int) (k : Int) (v : Int) (r : T Int Int) (p : Option Addr) (n₀ : Nat) (w : World) (h : Tr n₀ w p (.node l k v r)) :
    Calls Try.prog 70 #[.pointer p] w fun e w' => e = .returned (.tuple #[ek k, ev v, .bool true]) ∧ ∃ n, w' = w.drewN n := by
  obtain ⟨b, pl, pr, rfl, hb, c0, c1, c2, c3, c4, hl, hr⟩ := h
  clear c2 c3 c4 hl hr
  go_enter Try.func70, Try.ntmps70
  go_wp2_with fail
  go_quiet (fail)
  go_wp2
  go_ret3
  exact ⟨rfl, _, rfl⟩

theorem depth_le_size (t : T Int Int) : t.depth ≤ t.size := by
  induction t with
  | nil => simp [T.depth]
  | node l k v r ihl ihr => simp only [T.depth, T.size]; omega

set_option maxRecDepth 100000 in
set_option maxHeartbeats 2000000 in
theorem depth_any (t : T Int Int) : ∀ (p : Option Addr) (w : World), Tr w.heap.size w p t → t.size ≤ 1099511627776 → Calls Try.prog 101 #[.pointer p] w fun e w' => e = .returned (.int .i64 (T.depth t)) ∧ Below w.heap.size w w' := by
  induction t with
  | nil =>
    intro p w ht _
    obtain rfl : p = none := ht
    go_enter Try.func101, Try.ntmps101
    go_wp2
    go_ret
    exact ⟨rfl, Below.refl _ _⟩
  | node l k v r ihl ihr =>
  intro p w ht hs
  have IHl : Hid (∀ (p : Option Addr) (w : World), Tr w.heap.size w p l → l.size ≤ 1099511627776 → Calls Try.prog 101 #[.pointer p] w fun e w' => e = .returned (.int .i64 (T.depth l)) ∧ Below w.heap.size w w') := ihl
  have IHr : Hid (∀ (p : Option Addr) (w : World), Tr w.heap.size w p r → r.size ≤ 1099511627776 → Calls Try.prog 101 #[.pointer p] w fun e w' => e = .returned (.int .i64 (T.depth r)) ∧ Below w.heap.size w w') := ihr
  clear ihl ihr
  obtain ⟨b, pl, pr, rfl, hb, c0, c1, c2, c3, c4, hl, hr⟩ := ht
  have f2 := cell_later (a := ⟨b, 2, none⟩) hb c2
  have f3 := cell_later (a := ⟨b, 3, none⟩) hb c3
  have hzl := depth_le_size l
  have hzr := depth_le_size r
  simp only [T.size] at hs
  clear c0 c1 c2 c3 c4
  go_enter Try.func101, Try.ntmps101
  go_wp2_with fail
  go_region_held3 (fun w' => Below w.heap.size w w') (repeat (first | assumption | exact Below.refl _ _ | apply Below.drew)) (first
          | (go_at_call_of 101 pl; refine (IHl.out _ _ (hl.later (by assumption)) (by omega)).mono ?_; rintro e w2 ⟨rfl, hb2⟩; have hk2 : Below w.heap.size w w2 := Below.trans (by assumption) (hb2.mono (Below.size (by assumption))))
          | (go_at_call_of 101 pr; refine (IHr.out _ _ (hr.later (by assumption)) (by omega)).mono ?_; rintro e w3 ⟨rfl, hb3⟩; have hk3 : Below w.heap.size w w3 := Below.trans hk2 (hb3.mono hk2.size)))
  all_goals go_wp2
  all_goals go_ret
  all_goals exact ⟨ret_int (by rw [IntKind.wrap_i64]; simp only [T.depth]; omega), hk3⟩
end Go.Proofs.MT.II

/- The map's methods (II), first part. -/
namespace Go.Proofs.MT.II
open Go.RowKit

/-- What a call that makes a map leaves. -/
def MakesM (T : T Int Int) (w : World) (e : Ending) (w' : World) : Prop :=
  ∃ p, e = .returned (.agg #[.pointer p]) ∧ Tr w'.heap.size w' p T ∧ Below w.heap.size w w'

/-- The three results that tell of a node. -/
def toldV : T Int Int → Value
  | .nil => .tuple #[.int .i64 0, .int .i64 0, .bool false]
  | .node _ k v _ => .tuple #[.int .i64 k, .int .i64 v, .bool true]

theorem told_any (t : T Int Int) (n₀ : Nat) (p : Option Addr) (w : World) (h : Tr n₀ w p t) :
    Calls Try.prog 70 #[.pointer p] w fun e w' => e = .returned (toldV t) ∧ ∃ n, w' = w.drewN n := by
  cases t with
  | nil =>
    obtain rfl : p = none := h
    exact (told_nil w).mono fun e w' ⟨h1, h2⟩ => ⟨h1, 0, h2.symm⟩
  | node l k v r => exact told_node l k v r p n₀ w h

theorem Len_any (t : T Int Int) (p : Option Addr) (w : World) (h : Tr w.heap.size w p t) :
    Calls Try.prog 17 #[.agg #[.pointer p]] w fun e w' => e = .returned (.int .i64 t.size) ∧ Below w.heap.size w w' := by
  go_enter Try.func17, Try.ntmps17
  go_wp2_with fail
  have hb := (Below.refl w.heap.size w).alloc (Nat.le_refl _) (.cells #[.pointer p] 28)
  refine (len_any t _ _ _ (h.later hb)).mono ?_
  rintro e w' ⟨rfl, rfl⟩
  go_wp2
  go_ret
  exact ⟨rfl, hb⟩

theorem Depth_any (t : T Int Int) (p : Option Addr) (w : World) (h : Tr w.heap.size w p t) (hs : t.size ≤ 1099511627776) :
    Calls Try.prog 67 #[.agg #[.pointer p]] w fun e w' => e = .returned (.int .i64 t.depth) ∧ Below w.heap.size w w' := by
  go_enter Try.func67, Try.ntmps67
  go_wp2_with fail
  have hb := (Below.refl w.heap.size w).alloc (Nat.le_refl _) (.cells #[.pointer p] 28)
  refine (depth_any t _ _ (h.later hb) hs).mono ?_
  rintro e w' ⟨rfl, hb1⟩
  go_wp2
  go_ret
  exact ⟨rfl, hb.trans (hb1.mono hb.size)⟩

theorem Put_any (t : T Int Int) (k : Int) (v : Int) (p : Option Addr) (w : World) (h : Tr w.heap.size w p t) (hs : t.size + 1 ≤ 1099511627776) :
    Calls Try.prog 24 #[.agg #[.pointer p], .int .i64 k, .int .i64 v] w (MakesM (t.put k v) w) := by
  go_enter Try.func24, Try.ntmps24
  go_wp2_with fail
  have hb := below_two w (.cells #[.pointer p] 28) (.cells #[.pointer none] 28)
  refine (put_any k v t _ _ (h.later hb) hs).mono ?_
  rintro e w1 ⟨p1, rfl, ht1, hb1⟩
  obtain ⟨hc, hf⟩ := bcell hb1
  go_wp2
  exact bodyPost_ret (v := .agg #[.pointer p1]) (by simp [results, Try.results24, go_sem, hc]) rfl ⟨p1, rfl, ht1.stored (a := ⟨w.heap.size + 1, 0, none⟩) (tagAt.below (tag_at _ _ 28 _ _ (by simp)) hb1 (by simp)) (by decide) _, (hb.trans (hb1.mono hb.size)).setCell (p := ⟨w.heap.size + 1, 0, none⟩) (by simp) _⟩

theorem Union_any (A B : T Int Int) (p q : Option Addr) (w : World) (hA : Tr w.heap.size w p A) (hB : Tr w.heap.size w q B) (hs : A.size + B.size + 1 ≤ 1099511627776) :
    Calls Try.prog 34 #[.agg #[.pointer p], .agg #[.pointer q]] w (MakesM (T.union A B) w) := by
  go_enter Try.func34, Try.ntmps34
  go_wp2_with fail
  have hb := below_three w (.cells #[.pointer p] 28) (.cells #[.pointer q] 28) (.cells #[.pointer none] 28)
  refine (union_any B A _ _ _ (hA.later hb) (hB.later hb) hs).mono ?_
  rintro e w1 ⟨p1, rfl, ht1, hb1⟩
  obtain ⟨hc, hf⟩ := bcell hb1
  go_wp2
  exact bodyPost_ret (v := .agg #[.pointer p1]) (by simp [results, Try.results34, go_sem, hc]) rfl ⟨p1, rfl, ht1.stored (a := ⟨w.heap.size + 2, 0, none⟩) (tagAt.below (tag_at _ _ 28 _ _ (by simp)) hb1 (by simp)) (by decide) _, (hb.trans (hb1.mono hb.size)).setCell (p := ⟨w.heap.size + 2, 0, none⟩) (by simp) _⟩

theorem Intersect_any (A B : T Int Int) (p q : Option Addr) (w : World) (hA : Tr w.heap.size w p A) (hB : Tr w.heap.size w q B) (hs : A.size + B.size + 1 ≤ 1099511627776) :
    Calls Try.prog 39 #[.agg #[.pointer p], .agg #[.pointer q]] w (MakesM (T.intersect A B) w) := by
  go_enter Try.func39, Try.ntmps39
  go_wp2_with fail
  have hb := below_three w (.cells #[.pointer p] 28) (.cells #[.pointer q] 28) (.cells #[.pointer none] 28)
  refine (intersect_any B A _ _ _ (hA.later hb) (hB.later hb) hs).mono ?_
  rintro e w1 ⟨p1, rfl, ht1, hb1⟩
  obtain ⟨hc, hf⟩ := bcell hb1
  go_wp2
  exact bodyPost_ret (v := .agg #[.pointer p1]) (by simp [results, Try.results39, go_sem, hc]) rfl ⟨p1, rfl, ht1.stored (a := ⟨w.heap.size + 2, 0, none⟩) (tagAt.below (tag_at _ _ 28 _ _ (by simp)) hb1 (by simp)) (by decide) _, (hb.trans (hb1.mono hb.size)).setCell (p := ⟨w.heap.size + 2, 0, none⟩) (by simp) _⟩

theorem Subtract_any (A B : T Int Int) (p q : Option Addr) (w : World) (hA : Tr w.heap.size w p A) (hB : Tr w.heap.size w q B) (hs : A.size + B.size + 1 ≤ 1099511627776) :
    Calls Try.prog 35 #[.agg #[.pointer p], .agg #[.pointer q]] w (MakesM (T.subtract A B) w) := by
  go_enter Try.func35, Try.ntmps35
  go_wp2_with fail
  have hb := below_three w (.cells #[.pointer p] 28) (.cells #[.pointer q] 28) (.cells #[.pointer none] 28)
  refine (subtract_any B A _ _ _ (hA.later hb) (hB.later hb) hs).mono ?_
  rintro e w1 ⟨p1, rfl, ht1, hb1⟩
  obtain ⟨hc, hf⟩ := bcell hb1
  go_wp2
  exact bodyPost_ret (v := .agg #[.pointer p1]) (by simp [results, Try.results35, go_sem, hc]) rfl ⟨p1, rfl, ht1.stored (a := ⟨w.heap.size + 2, 0, none⟩) (tagAt.below (tag_at _ _ 28 _ _ (by simp)) hb1 (by simp)) (by decide) _, (hb.trans (hb1.mono hb.size)).setCell (p := ⟨w.heap.size + 2, 0, none⟩) (by simp) _⟩

set_option maxRecDepth 100000 in
set_option maxHeartbeats 2000000 in
theorem find_any (t : T Int Int) (k : Int) (p : Option Addr) (w : World) (h : Tr w.heap.size w p t) :
    Calls Try.prog 58 #[.agg #[.pointer p], .int .i64 k] w fun e w' => ∃ q, e = .returned (.pointer q) ∧ Tr w.heap.size w' q (t.find k) ∧ w' = w.alloc (.cells #[.pointer p] 28) := by
  have hb := (Below.refl w.heap.size w).alloc (Nat.le_refl _) (.cells #[.pointer p] 28)
  have h' : Tr w.heap.size (w.alloc (.cells #[.pointer p] 28)) p t := h.below hb
  go_enter Try.func58, Try.ntmps58
  go_wp2_with fail
  go_loopg [5] t.size (fun n p5 wr => w.alloc (.cells #[.pointer p] 28) = wr ∧ ∃ (F : T Int Int) (p' : Option Addr), p5 = .pointer p' ∧ Tr w.heap.size (w.alloc (.cells #[.pointer p] 28)) p' F ∧ Hid (F.size = n) ∧ Hid (F.find k = t.find k))
  case atStart => exact ⟨rfl, t, _, rfl, h', rfl, rfl⟩
  case round =>
    obtain ⟨rfl, F, p', rfl, hF, HS, hr⟩ := hrel
    cases F with
    | nil =>
      obtain rfl : p' = none := hF
      go_wp2
      go_ret
      exact ⟨none, rfl, by rw [← hr.out]; rfl, rfl⟩
    | node l q v r =>
      obtain ⟨b, pl, pr, rfl, hb', c0, c1, c2, c3, c4, hl, hr'⟩ := id hF
      cases hk : KOrd.lt k q with
      | true =>
        have HE : Hid ((T.node l q v r).find k = l.find k) := by simp [Hid, T.find, hk]
        have hk' : k < q := by simpa using hk
        clear hk c4
        go_wp2
        go_roundg l.size
        case measure => have := HS.out; simp only [T.size] at this; omega
        case rel => exact ⟨rfl, l, _, rfl, hl, rfl, HE.out.symm.trans hr.out⟩
      | false =>
        cases hq : KOrd.lt q k with
        | true =>
          have HE : Hid ((T.node l q v r).find k = r.find k) := by simp [Hid, T.find, hk, hq]
          have hk' : q ≤ k := by simpa using hk
          have hq' : q < k := by simpa using hq
          clear hk hq c4
          go_wp2
          go_roundg r.size
          case measure => have := HS.out; simp only [T.size] at this; omega
          case rel => exact ⟨rfl, r, _, rfl, hr', rfl, HE.out.symm.trans hr.out⟩
        | false =>
          have HE : Hid ((T.node l q v r).find k = .node l q v r) := by simp [Hid, T.find, hk, hq]
          obtain rfl : k = q := KOrd.tri hk hq
          clear hk hq c4
          go_wp2
          go_ret
          exact ⟨_, rfl, by rw [← hr.out, HE.out]; exact hF, rfl⟩
end Go.Proofs.MT.II

/- A map variable: a box in memory whose pointer leads to a tree. -/
namespace Go.Proofs.MT.II
open Go.RowKit

structure MBox (n₀ : Nat) (W : World) (b : Nat) (p : Option Addr) (t : T Int Int) : Prop where
  base : n₀ ≤ b
  lt : b < W.heap.size
  tag : tagAt W b 28
  fr : W.frozen? ⟨b, 0, none⟩ = false
  cell : W.cell? ⟨b, 0, none⟩ = some (.pointer p)
  tree : Tr W.heap.size W p t

theorem MBox.below {n₀ : Nat} {W W' : World} {b : Nat} {p : Option Addr} {t : T Int Int} (h : MBox n₀ W b p t) (hb : Below W.heap.size W W') : MBox n₀ W' b p t :=
  ⟨h.base, Nat.lt_of_lt_of_le h.lt hb.size, h.tag.below hb h.lt, ((bcell hb).2 b 0 h.lt).trans h.fr, ((bcell hb).1 b 0 h.lt).trans h.cell, h.tree.later hb⟩

/-- A new map is stored. -/
theorem MBox.set {n₀ : Nat} {W : World} {b : Nat} {p p' : Option Addr} {t t' : T Int Int} (h : MBox n₀ W b p t) (ht : Tr W.heap.size W p' t') : MBox n₀ (W.setCell ⟨b, 0, none⟩ (.pointer p')) b p' t' :=
  ⟨h.base, by rw [size_set]; exact h.lt, h.tag.setCell _ _, by rw [World.frozen?_setCell]; exact h.fr, World.cell?_setCell_same (h := h.cell) .., ht.stored (a := ⟨b, 0, none⟩) h.tag (by decide) _⟩

/-- A store into another box. -/
theorem MBox.far {n₀ : Nat} {W : World} {b c : Nat} {p : Option Addr} {t : T Int Int} (h : MBox n₀ W b p t) (hc : tagAt W c 28) (hne : c ≠ b) (v : Value) : MBox n₀ (W.setCell ⟨c, 0, none⟩ v) b p t :=
  ⟨h.base, by rw [size_set]; exact h.lt, h.tag.setCell _ _, by rw [World.frozen?_setCell]; exact h.fr, by rw [World.cell?_setCell_far (h := hne)]; exact h.cell, h.tree.stored (a := ⟨c, 0, none⟩) hc (by decide) _⟩

/-- A new box. -/
theorem MBox.new {n₀ : Nat} {W : World} {p : Option Addr} {t : T Int Int} (hn : n₀ ≤ W.heap.size) (ht : Tr W.heap.size W p t) : MBox n₀ (W.alloc (.cells #[.pointer p] 28)) W.heap.size p t :=
  ⟨hn, by simp, tag_at _ _ _ _ _ rfl, by simp [go_sem], cell_new _ _ _ _ _ _ rfl, ht.later ((Below.refl W.heap.size W).alloc (Nat.le_refl _) _)⟩

theorem below_one (w : World) (o : Obj) : Below w.heap.size w (w.alloc o) := (Below.refl w.heap.size w).alloc (Nat.le_refl _) o

/-- A store into a box leaves what is below the boxes. -/
theorem MBox.belowSet {n₀ : Nat} {w W : World} {b : Nat} {p : Option Addr} {t : T Int Int} (h : MBox n₀ W b p t) (hb : Below n₀ w W) (v : Value) : Below n₀ w (W.setCell ⟨b, 0, none⟩ v) :=
  hb.setCell (p := ⟨b, 0, none⟩) h.base v
end Go.Proofs.MT.II
