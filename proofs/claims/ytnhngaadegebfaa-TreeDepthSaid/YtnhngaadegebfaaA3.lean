/- The tree's functions link, behead, merge (II). -/
import Derived.Test.YtnhngaadegebfaaProg
import Derived.Test.YtnhngaadegebfaaTreeLaws
import Derived.Test.YtnhngaadegebfaaA2
import Derived.Deep.LoopGhost
import Derived.Deep.QuietTactic
import Derived.BigQuiet
import Derived.Deep.RegionHeld3
import Derived.KernelRfl
namespace Go.Proofs.MT.II
open Go.RowKit

def LinkSaid (n : Nat) : Prop := ∀ (A B : T Int Int) (k : Int) (v : Int) (p q : Option Addr), A.size + B.size ≤ n → ∀ (w : World) (_ : Tr w.heap.size w p A) (_ : Tr w.heap.size w q B) (_ : A.size + B.size + 1 ≤ 1099511627776),
    Calls Try.prog 75 #[.pointer p, .int .i64 k, .int .i64 v, .pointer q] w (Makes (.link A k v B) w)

set_option maxRecDepth 100000 in
set_option maxHeartbeats 2000000 in
theorem link_right (n : Nat) (IH : LinkSaid n) (A B : T Int Int) (k : Int) (v : Int) (p q : Option Addr) (hn : A.size + B.size ≤ n + 1) (h1 : T.light A B = false) (w : World) (hA : Tr w.heap.size w p A) (hB : Tr w.heap.size w q B) (sAB : A.size + B.size + 1 ≤ 1099511627776) :
    Calls Try.prog 75 #[.pointer p, .int .i64 k, .int .i64 v, .pointer q] w (Makes (.link A k v B) w) := by
  cases B with
  | nil => simp [T.light, T.size] at h1
  | node rl rk rv rr =>
  have hB' := hB
  obtain ⟨b, pl, pr, rfl, hb, c0, c1, c2, c3, c4, hl, hr⟩ := hB'
  go_enter Try.func75, Try.ntmps75
  go_wp2_with fail
  refine (light_any A _ _ _ _ _ hA hB (by omega) (by omega)).mono ?_
  rintro e w' ⟨rfl, rfl⟩
  rw [h1]
  go_wp2_with fail
  have f0 := cell_later (a := ⟨b, 0, none⟩) hb c0
  have f1 := cell_later (a := ⟨b, 1, none⟩) hb c1
  have f2 := cell_later (a := ⟨b, 2, none⟩) hb c2
  have f3 := cell_later (a := ⟨b, 3, none⟩) hb c3
  have H2 : Hid (T.link A k v (.node rl rk rv rr) = T.balanced (.link A k v rl) rk rv rr) := by simp only [Hid]; rw [T.link.eq_def]; simp [h1]
  have hz := T.link_size A k v rl
  simp only [T.size] at sAB hn
  clear c0 c1 c2 c3 c4 h1
  go_region_held3 (fun w' => Below w.heap.size w w') (repeat (first | assumption | exact Below.refl _ _ | apply Below.drew)) (first
          | (go_at_call 75; refine (IH A rl k v _ _ (by omega) _ (hA.later (by assumption)) (hl.later (by assumption)) (by omega)).mono ?_; rintro e w1 ⟨p1, rfl, ht1, hb1⟩; have hk1 : Below w.heap.size w w1 := Below.trans (by assumption) (hb1.mono (Below.size (by assumption))))
          | (go_at_call 96; refine (balanced_any (.link A k v rl) rr rk rv _ _ _ ht1 (hr.later (by assumption)) (by omega) (by omega)).mono ?_; rintro e w2 ⟨p2, rfl, ht2, hb2⟩; have hk2 : Below w.heap.size w w2 := Below.trans hk1 (hb2.mono (Below.size hk1))))
  go_wp2
  go_ret
  exact ⟨p2, rfl, by rw [H2.out]; exact ht2, hk2⟩

set_option maxRecDepth 100000 in
set_option maxHeartbeats 2000000 in
theorem link_left (n : Nat) (IH : LinkSaid n) (A B : T Int Int) (k : Int) (v : Int) (p q : Option Addr) (hn : A.size + B.size ≤ n + 1) (h1 : T.light A B = true) (h3 : T.light B A = false) (w : World) (hA : Tr w.heap.size w p A) (hB : Tr w.heap.size w q B) (sAB : A.size + B.size + 1 ≤ 1099511627776) :
    Calls Try.prog 75 #[.pointer p, .int .i64 k, .int .i64 v, .pointer q] w (Makes (.link A k v B) w) := by
  cases A with
  | nil => simp [T.light, T.size] at h3
  | node ll lk lv lr =>
  have hA' := hA
  obtain ⟨b, pl, pr, rfl, hb, c0, c1, c2, c3, c4, hl, hr⟩ := hA'
  go_enter Try.func75, Try.ntmps75
  go_wp2_with fail
  refine (light_any _ B _ _ _ _ hA hB (by omega) (by omega)).mono ?_
  rintro e w' ⟨rfl, rfl⟩
  rw [h1]
  go_wp2_with fail
  refine (light_any B _ _ _ _ _ hB hA (by omega) (by omega)).mono ?_
  rintro e w' ⟨rfl, rfl⟩
  rw [h3]
  go_wp2_with fail
  have f0 := cell_later (a := ⟨b, 0, none⟩) hb c0
  have f1 := cell_later (a := ⟨b, 1, none⟩) hb c1
  have f2 := cell_later (a := ⟨b, 2, none⟩) hb c2
  have f3 := cell_later (a := ⟨b, 3, none⟩) hb c3
  have H2 : Hid (T.link (.node ll lk lv lr) k v B = T.balanced ll lk lv (.link lr k v B)) := by simp only [Hid]; rw [T.link.eq_def]; simp [h1, h3]
  have hz := T.link_size lr k v B
  simp only [T.size] at sAB hn
  clear c0 c1 c2 c3 c4 h1 h3
  go_region_held3 (fun w' => Below w.heap.size w w') (repeat (first | assumption | exact Below.refl _ _ | apply Below.drew)) (first
          | (go_at_call 75; refine (IH lr B k v _ _ (by omega) _ (hr.later (by assumption)) (hB.later (by assumption)) (by omega)).mono ?_; rintro e w1 ⟨p1, rfl, ht1, hb1⟩; have hk1 : Below w.heap.size w w1 := Below.trans (by assumption) (hb1.mono (Below.size (by assumption))))
          | (go_at_call 96; refine (balanced_any ll (.link lr k v B) lk lv _ _ _ (hl.later (by assumption)) ht1 (by omega) (by omega)).mono ?_; rintro e w2 ⟨p2, rfl, ht2, hb2⟩; have hk2 : Below w.heap.size w w2 := Below.trans hk1 (hb2.mono (Below.size hk1))))
  go_wp2
  go_ret
  exact ⟨p2, rfl, by rw [H2.out]; exact ht2, hk2⟩

set_option maxRecDepth 100000 in
set_option maxHeartbeats 2000000 in
theorem link_same (A B : T Int Int) (k : Int) (v : Int) (p q : Option Addr) (h1 : T.light A B = true) (h3 : T.light B A = true) (w : World) (hA : Tr w.heap.size w p A) (hB : Tr w.heap.size w q B) (sAB : A.size + B.size + 1 ≤ 1099511627776) :
    Calls Try.prog 75 #[.pointer p, .int .i64 k, .int .i64 v, .pointer q] w (Makes (.link A k v B) w) := by
  go_enter Try.func75, Try.ntmps75
  go_wp2_with fail
  refine (light_any A B _ _ _ _ hA hB (by omega) (by omega)).mono ?_
  rintro e w' ⟨rfl, rfl⟩
  rw [h1]
  go_wp2_with fail
  refine (light_any B A _ _ _ _ hB hA (by omega) (by omega)).mono ?_
  rintro e w' ⟨rfl, rfl⟩
  rw [h3]
  go_wp2_with fail
  have H2 : Hid (T.link A k v B = .node A k v B) := by simp only [Hid]; rw [T.link.eq_def]; simp [h1, h3]
  refine (over_any A B k v _ _ _ hA hB (by omega) (by omega)).mono ?_
  rintro e w1 ⟨p1, rfl, ht1, hb1⟩
  go_wp2
  go_ret
  exact ⟨p1, rfl, by rw [H2.out]; exact ht1, hb1⟩

theorem link_all (n : Nat) : LinkSaid n := by
  induction n with
  | zero =>
    intro A B k v p q h w hA hB sAB
    have h1 : T.light A B = true := by simp [T.light]; omega
    have h3 : T.light B A = true := by simp [T.light]; omega
    exact link_same A B k v p q h1 h3 w hA hB sAB
  | succ n IH =>
    intro A B k v p q h w hA hB sAB
    cases h1 : T.light A B with
    | false => exact link_right n IH A B k v p q h h1 w hA hB sAB
    | true =>
      cases h3 : T.light B A with
      | false => exact link_left n IH A B k v p q h h1 h3 w hA hB sAB
      | true => exact link_same A B k v p q h1 h3 w hA hB sAB

theorem link_any (A B : T Int Int) (k : Int) (v : Int) (p q : Option Addr) (w : World) (hA : Tr w.heap.size w p A) (hB : Tr w.heap.size w q B) (sAB : A.size + B.size + 1 ≤ 1099511627776) :
    Calls Try.prog 75 #[.pointer p, .int .i64 k, .int .i64 v, .pointer q] w (Makes (.link A k v B) w) := link_all _ A B k v p q (Nat.le_refl _) w hA hB sAB

set_option maxRecDepth 100000 in
set_option maxHeartbeats 2000000 in
theorem behead_any (t : T Int Int) : ∀ (p : Option Addr) (w : World), Tr w.heap.size w p t → t ≠ .nil → t.size ≤ 1099511627776 →
    Calls Try.prog 102 #[.pointer p] w (Makes t.behead w) := by
  induction t with
  | nil => intro p w _ h; exact absurd rfl h
  | node l k v r ihl ihr =>
  intro p w ht _ hs
  clear ihr
  have ht' := ht
  obtain ⟨b, pl, pr, rfl, hb, c0, c1, c2, c3, c4, hl, hr⟩ := ht'
  cases l with
  | nil =>
    obtain rfl : pl = none := hl
    clear ihl
    go_enter Try.func102, Try.ntmps102
    go_wp2
    go_ret
    exact ⟨pr, rfl, hr, Below.refl _ _⟩
  | node a1 a2 a3 a4 =>
    obtain ⟨bl, pll, plr, rfl, hbl, -⟩ := id hl
    have IH : Hid (∀ (p : Option Addr) (w : World), Tr w.heap.size w p (.node a1 a2 a3 a4) → (T.node a1 a2 a3 a4) ≠ .nil → (T.node a1 a2 a3 a4).size ≤ 1099511627776 → Calls Try.prog 102 #[.pointer p] w (Makes (T.node a1 a2 a3 a4).behead w)) := ihl
    have H2 : Hid ((T.node (.node a1 a2 a3 a4) k v r).behead = T.balanced (T.node a1 a2 a3 a4).behead k v r) := by simp only [Hid]; rw [T.behead]
    have hz := T.behead_size (t := T.node a1 a2 a3 a4) (by intro h; cases h)
    generalize hL : T.node a1 a2 a3 a4 = L at *
    have hne : Hid (L ≠ .nil) := by rw [← hL]; intro h; cases h
    clear ihl hL
    simp only [T.size] at hs
    have f0 := cell_later (a := ⟨b, 0, none⟩) hb c0
    have f1 := cell_later (a := ⟨b, 1, none⟩) hb c1
    have f2 := cell_later (a := ⟨b, 2, none⟩) hb c2
    have f3 := cell_later (a := ⟨b, 3, none⟩) hb c3
    go_enter Try.func102, Try.ntmps102
    go_wp2_with fail
    clear c0 c1 c2 c3 c4
    go_region_held3 (fun w' => Below w.heap.size w w') (repeat (first | assumption | exact Below.refl _ _ | apply Below.drew)) (first
          | (go_at_call 102; refine (IH.out _ _ (hl.later (by assumption)) hne.out (by omega)).mono ?_; rintro e w1 ⟨p1, rfl, ht1, hb1⟩; have hk1 : Below w.heap.size w w1 := Below.trans (by assumption) (hb1.mono (Below.size (by assumption))))
          | (go_at_call 96; refine (balanced_any L.behead r k v _ _ _ ht1 (hr.later (by assumption)) (by omega) (by omega)).mono ?_; rintro e w2 ⟨p2, rfl, ht2, hb2⟩; have hk2 : Below w.heap.size w w2 := Below.trans hk1 (hb2.mono (Below.size hk1))))
    go_wp2
    go_ret
    exact ⟨p2, rfl, by rw [H2.out]; exact ht2, hk2⟩

/-- Down the left side to the first key. -/
theorem first_left {l : T Int Int} {k : Int} {v : Int} {r : T Int Int} {x : Int} {y : Int} (h : (T.node l k v r).first = some (x, y)) : (l = .nil ∧ k = x ∧ v = y) ∨ (l ≠ .nil ∧ l.first = some (x, y)) := by
  cases l with
  | nil => simp [T.first] at h; exact .inl ⟨rfl, h.1, h.2⟩
  | node a b c d => exact .inr ⟨by simp, by simpa [T.first] using h⟩

set_option maxRecDepth 100000 in
set_option maxHeartbeats 2000000 in
theorem merge_any (A B : T Int Int) (p q : Option Addr) (w : World) (hA : Tr w.heap.size w p A) (hB : Tr w.heap.size w q B) (sAB : A.size + B.size ≤ 1099511627776) :
    Calls Try.prog 72 #[.pointer p, .pointer q] w (Makes (.merge A B) w) := by
  cases B with
  | nil =>
    obtain rfl : q = none := hB
    go_enter Try.func72, Try.ntmps72
    go_wp2
    go_ret
    exact ⟨p, rfl, hA, Below.refl _ _⟩
  | node rl rk rv rr =>
    obtain ⟨⟨x, y⟩, hf⟩ := T.first_node rl rk rv rr
    have H2 : Hid (T.merge A (.node rl rk rv rr) = T.link A x y (T.node rl rk rv rr).behead) := by simp only [Hid, T.merge, hf]
    have hz := T.behead_size (t := T.node rl rk rv rr) (by intro h; cases h)
    obtain ⟨b, pl, pr, rfl, hb, -⟩ := id hB
    generalize hL : T.node rl rk rv rr = B at *
    have hne : Hid (B ≠ .nil) := by rw [← hL]; intro h; cases h
    have HF : Hid (B.first = some (x, y)) := hf
    clear hL hf
    go_enter Try.func72, Try.ntmps72
    go_wp2_with fail
    go_loopg [5] B.size (fun k p5 wr => w = wr ∧ ∃ (F : T Int Int) (p' : Option Addr), p5 = .pointer p' ∧ Tr w.heap.size w p' F ∧ F.size = k ∧ F ≠ .nil ∧ F.first = some (x, y))
    case atStart => exact ⟨rfl, B, _, rfl, hB, rfl, hne.out, HF.out⟩
    case round =>
      obtain ⟨rfl, F, p', rfl, hF, hk, hFn, hFf⟩ := hrel
      cases F with
      | nil => exact absurd rfl hFn
      | node l k v r =>
      obtain ⟨bf, pfl, pfr, rfl, hbf, c0, c1, c2, c3, c4, hl, hr⟩ := hF
      have HK : Hid ((T.node l k v r).size = gk) := hk
      clear hk hFn
      rcases first_left hFf with ⟨rfl, rfl, rfl⟩ | ⟨hn, hlf⟩
      · obtain rfl : pfl = none := hl
        clear hFf
        have f0 := cell_later (a := ⟨bf, 0, none⟩) hbf c0
        have f1 := cell_later (a := ⟨bf, 1, none⟩) hbf c1
        go_wp2_with fail
        go_region_held3 (fun w' => Below w.heap.size w w') (repeat (first | assumption | exact Below.refl _ _ | apply Below.drew)) (first
          | (go_at_call 102; refine (behead_any B _ _ (hB.later (by assumption)) hne.out (by omega)).mono ?_; rintro e w1 ⟨p1, rfl, ht1, hb1⟩; have hk1 : Below w.heap.size w w1 := Below.trans (by assumption) (hb1.mono (Below.size (by assumption))))
          | (go_at_call 75; refine (link_any A B.behead k v _ _ _ (hA.later (hk1)) ht1 (by omega)).mono ?_; rintro e w2 ⟨p2, rfl, ht2, hb2⟩; have hk2 : Below w.heap.size w w2 := Below.trans hk1 (hb2.mono (Below.size hk1))))
        go_wp2
        go_ret
        exact ⟨p2, rfl, by rw [H2.out]; exact ht2, hk2⟩
      · clear hFf
        have HN : Hid (l ≠ .nil) := hn
        have HL : Hid (l.first = some (x, y)) := hlf
        clear hn hlf
        cases l with
        | nil => exact absurd rfl HN.out
        | node a1 a2 a3 a4 =>
        obtain ⟨bl, pll, plr, rfl, hbl, -⟩ := id hl
        generalize hL : T.node a1 a2 a3 a4 = L at *
        clear hL
        go_wp2
        go_roundg L.size
        case measure => have := HK.out; simp only [T.size] at this; omega
        case rel => exact ⟨rfl, L, _, rfl, hl, rfl, HN.out, HL.out⟩
end Go.Proofs.MT.II
