/- The tree's functions union, intersect, subtract, depth, told (II). -/
import Derived.Test.YtnhngaadegebfaaProg
import Derived.Test.YtnhngaadegebfaaTreeLaws
import Derived.Test.YtnhngaadegebfaaA4
import Derived.Test.YtnhngaadegebfaaOrd
import Derived.Deep.QuietTactic
import Derived.BigQuiet
import Derived.Deep.RegionHeld3
import Derived.KernelRfl
namespace Go.Proofs.MT.II
open Go.RowKit

theorem union_size_le (b : T Int Int) : ∀ a : T Int Int, (T.union a b).size ≤ a.size + b.size := by
  induction b with
  | nil => intro a; simp [T.union, T.size]
  | node l k v r ihl ihr =>
    intro a
    cases a with
    | nil => simp [T.union, T.size]
    | node a1 a2 a3 a4 =>
      have h := cut_sizes k (T.node a1 a2 a3 a4)
      have h1 := ihl (T.cut k (T.node a1 a2 a3 a4)).1
      have h2 := ihr (T.cut k (T.node a1 a2 a3 a4)).2.2
      rw [T.union, T.link_size]
      simp only [T.size] at *
      omega
theorem subtract_size_le (b : T Int Int) : ∀ a : T Int Int, (T.subtract a b).size ≤ a.size := by
  induction b with
  | nil => intro a; simp [T.subtract]
  | node l k v r ihl ihr =>
    intro a
    cases a with
    | nil => simp [T.subtract, T.size]
    | node a1 a2 a3 a4 =>
      have h := cut_sizes k (T.node a1 a2 a3 a4)
      have h1 := ihl (T.cut k (T.node a1 a2 a3 a4)).1
      have h2 := ihr (T.cut k (T.node a1 a2 a3 a4)).2.2
      rw [T.subtract, T.merge_size]
      omega
theorem intersect_size_le (b : T Int Int) : ∀ a : T Int Int, (T.intersect a b).size ≤ b.size := by
  induction b with
  | nil => intro a; simp [T.intersect]
  | node l k v r ihl ihr =>
    intro a
    cases a with
    | nil => simp [T.intersect, T.size]
    | node a1 a2 a3 a4 =>
      have h1 := ihl (T.cut k (T.node a1 a2 a3 a4)).1
      have h2 := ihr (T.cut k (T.node a1 a2 a3 a4)).2.2
      rw [T.intersect]
      split <;> simp only [T.merge_size, T.link_size, T.size] at * <;> omega
theorem union_nil_left (b : T Int Int) : T.union .nil b = b := by cases b <;> rfl
theorem subtract_nil_left (b : T Int Int) : T.subtract .nil b = .nil := by cases b <;> rfl
theorem intersect_nil_left (b : T Int Int) : T.intersect .nil b = .nil := by cases b <;> rfl

set_option maxRecDepth 100000 in
set_option maxHeartbeats 2000000 in
theorem union_any (t : T Int Int) : ∀ (A : T Int Int) (p q : Option Addr) (w : World), Tr w.heap.size w p A → Tr w.heap.size w q t → A.size + t.size + 1 ≤ 1099511627776 → Calls Try.prog 73 #[.pointer p, .pointer q] w (Makes (T.union A t) w) := by
  induction t with
  | nil =>
    intro A p q w hA hB _
    obtain rfl : q = none := hB
    cases A with
    | nil =>
      obtain rfl : p = none := hA
      go_enter Try.func73, Try.ntmps73
      go_wp2
      go_ret
      exact ⟨none, rfl, rfl, Below.refl _ _⟩
    | node a1 a2 a3 a4 =>
      obtain ⟨ba, pla, pra, rfl, hba, -⟩ := id hA
      go_enter Try.func73, Try.ntmps73
      go_wp2
      go_ret
      exact ⟨_, rfl, hA, Below.refl _ _⟩
  | node l q v r ihl ihr =>
  intro A p pq w hA ht hs
  have IHl : Hid (∀ (A : T Int Int) (p q : Option Addr) (w : World), Tr w.heap.size w p A → Tr w.heap.size w q l → A.size + l.size + 1 ≤ 1099511627776 → Calls Try.prog 73 #[.pointer p, .pointer q] w (Makes (T.union A l) w)) := ihl
  have IHr : Hid (∀ (A : T Int Int) (p q : Option Addr) (w : World), Tr w.heap.size w p A → Tr w.heap.size w q r → A.size + r.size + 1 ≤ 1099511627776 → Calls Try.prog 73 #[.pointer p, .pointer q] w (Makes (T.union A r) w)) := ihr
  clear ihl ihr
  have ht' := ht
  obtain ⟨b, pl, pr, rfl, hb, c0, c1, c2, c3, c4, hl, hr⟩ := ht'
  cases A with
  | nil =>
    obtain rfl : p = none := hA
    go_enter Try.func73, Try.ntmps73
    go_wp2
    go_ret
    exact ⟨_, rfl, ht, Below.refl _ _⟩
  | node a1 a2 a3 a4 =>
    obtain ⟨ba, pla, pra, rfl, hba, -⟩ := id hA
    have H2 : Hid (T.union (.node a1 a2 a3 a4) (.node l q v r) = T.link (T.union (T.cut q (.node a1 a2 a3 a4)).1 l) q v (T.union (T.cut q (.node a1 a2 a3 a4)).2.2 r)) := by simp only [Hid]; rw [T.union]
    generalize hL : T.node a1 a2 a3 a4 = A at *
    clear hL
    have hzc := cut_sizes q A
    have hz1 := union_size_le l (T.cut q A).1
    have hz2 := union_size_le r (T.cut q A).2.2
    simp only [T.size] at hs
    have f0 := cell_later (a := ⟨b, 0, none⟩) hb c0
    have f1 := cell_later (a := ⟨b, 1, none⟩) hb c1
    have f2 := cell_later (a := ⟨b, 2, none⟩) hb c2
    have f3 := cell_later (a := ⟨b, 3, none⟩) hb c3
    clear c1 c2 c3 c4
    go_enter Try.func73, Try.ntmps73
    go_wp2_with fail
    refine (cut_any q A _ _ hA (by omega)).mono ?_
    rintro e w1 ⟨p1, q1, r1, rfl, hp1, hq1, hr1, hb1⟩
    clear c0
    have hl' := hl.later hb1
    have hr' := hr.later hb1
    have f0' := later_two f0 hb1
    have f1' := later_two f1 hb1
    have f2' := later_two f2 hb1
    have f3' := later_two f3 hb1
    clear f0 f1 f2 f3
    go_wp2_with fail
    go_region_held3 (fun w' => Below w1.heap.size w1 w') (repeat (first | assumption | exact Below.refl _ _ | apply Below.drew)) (first
          | (go_at_call_of 73 pl; refine (IHl.out _ _ _ _ (hp1.later (by assumption)) (hl'.later (by assumption)) (by omega)).mono ?_; rintro e w2 ⟨p2, rfl, ht2, hb2⟩; have hk2 : Below w1.heap.size w1 w2 := Below.trans (by assumption) (hb2.mono (Below.size (by assumption))))
          | (go_at_call_of 73 pr; refine (IHr.out _ _ _ _ (hr1.later (by assumption)) (hr'.later (by assumption)) (by omega)).mono ?_; rintro e w3 ⟨p3, rfl, ht3, hb3⟩; have hk3 : Below w1.heap.size w1 w3 := Below.trans hk2 (hb3.mono (Below.size hk2)))
          | (go_at_call 75; refine (link_any (T.union (T.cut q A).1 l) (T.union (T.cut q A).2.2 r) q v _ _ _ (ht2.later hb3) ht3 (by omega)).mono ?_; rintro e w4 ⟨p4, rfl, ht4, hb4⟩; have hk4 : Below w1.heap.size w1 w4 := Below.trans hk3 (hb4.mono (Below.size hk3))))
    go_wp2
    go_ret
    exact ⟨p4, rfl, by rw [H2.out]; exact ht4, hb1.trans (hk4.mono hb1.size)⟩

set_option maxRecDepth 100000 in
set_option maxHeartbeats 2000000 in
theorem subtract_any (t : T Int Int) : ∀ (A : T Int Int) (p q : Option Addr) (w : World), Tr w.heap.size w p A → Tr w.heap.size w q t → A.size + t.size + 1 ≤ 1099511627776 → Calls Try.prog 74 #[.pointer p, .pointer q] w (Makes (T.subtract A t) w) := by
  induction t with
  | nil =>
    intro A p q w hA hB _
    obtain rfl : q = none := hB
    cases A with
    | nil =>
      obtain rfl : p = none := hA
      go_enter Try.func74, Try.ntmps74
      go_wp2
      go_ret
      exact ⟨none, rfl, rfl, Below.refl _ _⟩
    | node a1 a2 a3 a4 =>
      obtain ⟨ba, pla, pra, rfl, hba, -⟩ := id hA
      go_enter Try.func74, Try.ntmps74
      go_wp2
      go_ret
      exact ⟨_, rfl, hA, Below.refl _ _⟩
  | node l q v r ihl ihr =>
  intro A p pq w hA ht hs
  have IHl : Hid (∀ (A : T Int Int) (p q : Option Addr) (w : World), Tr w.heap.size w p A → Tr w.heap.size w q l → A.size + l.size + 1 ≤ 1099511627776 → Calls Try.prog 74 #[.pointer p, .pointer q] w (Makes (T.subtract A l) w)) := ihl
  have IHr : Hid (∀ (A : T Int Int) (p q : Option Addr) (w : World), Tr w.heap.size w p A → Tr w.heap.size w q r → A.size + r.size + 1 ≤ 1099511627776 → Calls Try.prog 74 #[.pointer p, .pointer q] w (Makes (T.subtract A r) w)) := ihr
  clear ihl ihr
  have ht' := ht
  obtain ⟨b, pl, pr, rfl, hb, c0, c1, c2, c3, c4, hl, hr⟩ := ht'
  cases A with
  | nil =>
    obtain rfl : p = none := hA
    go_enter Try.func74, Try.ntmps74
    go_wp2
    go_ret
    exact ⟨_, rfl, rfl, Below.refl _ _⟩
  | node a1 a2 a3 a4 =>
    obtain ⟨ba, pla, pra, rfl, hba, -⟩ := id hA
    have H2 : Hid (T.subtract (.node a1 a2 a3 a4) (.node l q v r) = T.merge (T.subtract (T.cut q (.node a1 a2 a3 a4)).1 l) (T.subtract (T.cut q (.node a1 a2 a3 a4)).2.2 r)) := by simp only [Hid]; rw [T.subtract]
    generalize hL : T.node a1 a2 a3 a4 = A at *
    clear hL
    have hzc := cut_sizes q A
    have hz1 := subtract_size_le l (T.cut q A).1
    have hz2 := subtract_size_le r (T.cut q A).2.2
    simp only [T.size] at hs
    have f0 := cell_later (a := ⟨b, 0, none⟩) hb c0
    have f1 := cell_later (a := ⟨b, 1, none⟩) hb c1
    have f2 := cell_later (a := ⟨b, 2, none⟩) hb c2
    have f3 := cell_later (a := ⟨b, 3, none⟩) hb c3
    clear c1 c2 c3 c4
    go_enter Try.func74, Try.ntmps74
    go_wp2_with fail
    refine (cut_any q A _ _ hA (by omega)).mono ?_
    rintro e w1 ⟨p1, q1, r1, rfl, hp1, hq1, hr1, hb1⟩
    clear c0
    have hl' := hl.later hb1
    have hr' := hr.later hb1
    have f0' := later_two f0 hb1
    have f1' := later_two f1 hb1
    have f2' := later_two f2 hb1
    have f3' := later_two f3 hb1
    clear f0 f1 f2 f3
    go_wp2_with fail
    go_region_held3 (fun w' => Below w1.heap.size w1 w') (repeat (first | assumption | exact Below.refl _ _ | apply Below.drew)) (first
          | (go_at_call_of 74 pl; refine (IHl.out _ _ _ _ (hp1.later (by assumption)) (hl'.later (by assumption)) (by omega)).mono ?_; rintro e w2 ⟨p2, rfl, ht2, hb2⟩; have hk2 : Below w1.heap.size w1 w2 := Below.trans (by assumption) (hb2.mono (Below.size (by assumption))))
          | (go_at_call_of 74 pr; refine (IHr.out _ _ _ _ (hr1.later (by assumption)) (hr'.later (by assumption)) (by omega)).mono ?_; rintro e w3 ⟨p3, rfl, ht3, hb3⟩; have hk3 : Below w1.heap.size w1 w3 := Below.trans hk2 (hb3.mono (Below.size hk2)))
          | (go_at_call 72; refine (merge_any (T.subtract (T.cut q A).1 l) (T.subtract (T.cut q A).2.2 r) _ _ _ (ht2.later hb3) ht3 (by omega)).mono ?_; rintro e w4 ⟨p4, rfl, ht4, hb4⟩; have hk4 : Below w1.heap.size w1 w4 := Below.trans hk3 (hb4.mono (Below.size hk3))))
    go_wp2
    go_ret
    exact ⟨p4, rfl, by rw [H2.out]; exact ht4, hb1.trans (hk4.mono hb1.size)⟩

set_option maxRecDepth 100000 in
set_option maxHeartbeats 2000000 in
theorem intersect_any (t : T Int Int) : ∀ (A : T Int Int) (p q : Option Addr) (w : World), Tr w.heap.size w p A → Tr w.heap.size w q t → A.size + t.size + 1 ≤ 1099511627776 → Calls Try.prog 77 #[.pointer p, .pointer q] w (Makes (T.intersect A t) w) := by
  induction t with
  | nil =>
    intro A p q w hA hB _
    obtain rfl : q = none := hB
    cases A with
    | nil =>
      obtain rfl : p = none := hA
      go_enter Try.func77, Try.ntmps77
      go_wp2
      go_ret
      exact ⟨none, rfl, rfl, Below.refl _ _⟩
    | node a1 a2 a3 a4 =>
      obtain ⟨ba, pla, pra, rfl, hba, -⟩ := id hA
      go_enter Try.func77, Try.ntmps77
      go_wp2
      go_ret
      exact ⟨_, rfl, rfl, Below.refl _ _⟩
  | node l q v r ihl ihr =>
  intro A p pq w hA ht hs
  have IHl : Hid (∀ (A : T Int Int) (p q : Option Addr) (w : World), Tr w.heap.size w p A → Tr w.heap.size w q l → A.size + l.size + 1 ≤ 1099511627776 → Calls Try.prog 77 #[.pointer p, .pointer q] w (Makes (T.intersect A l) w)) := ihl
  have IHr : Hid (∀ (A : T Int Int) (p q : Option Addr) (w : World), Tr w.heap.size w p A → Tr w.heap.size w q r → A.size + r.size + 1 ≤ 1099511627776 → Calls Try.prog 77 #[.pointer p, .pointer q] w (Makes (T.intersect A r) w)) := ihr
  clear ihl ihr
  have ht' := ht
  obtain ⟨b, pl, pr, rfl, hb, c0, c1, c2, c3, c4, hl, hr⟩ := ht'
  cases A with
  | nil =>
    obtain rfl : p = none := hA
    go_enter Try.func77, Try.ntmps77
    go_wp2
    go_ret
    exact ⟨_, rfl, rfl, Below.refl _ _⟩
  | node a1 a2 a3 a4 =>
    obtain ⟨ba, pla, pra, rfl, hba, -⟩ := id hA
    have H2 : Hid ((T.cut q (.node a1 a2 a3 a4)).2.1 = .nil → T.intersect (.node a1 a2 a3 a4) (.node l q v r) = T.merge (T.intersect (T.cut q (.node a1 a2 a3 a4)).1 l) (T.intersect (T.cut q (.node a1 a2 a3 a4)).2.2 r)) := by intro h; rw [T.intersect, h]
    have H4 : Hid (∀ x1 x2 x3 x4, (T.cut q (.node a1 a2 a3 a4)).2.1 = .node x1 x2 x3 x4 → T.intersect (.node a1 a2 a3 a4) (.node l q v r) = T.link (T.intersect (T.cut q (.node a1 a2 a3 a4)).1 l) q v (T.intersect (T.cut q (.node a1 a2 a3 a4)).2.2 r)) := by intro x1 x2 x3 x4 h; rw [T.intersect, h]
    generalize hL : T.node a1 a2 a3 a4 = A at *
    clear hL
    have hzc := cut_sizes q A
    have hz1 := intersect_size_le l (T.cut q A).1
    have hz2 := intersect_size_le r (T.cut q A).2.2
    simp only [T.size] at hs
    have f0 := cell_later (a := ⟨b, 0, none⟩) hb c0
    have f1 := cell_later (a := ⟨b, 1, none⟩) hb c1
    have f2 := cell_later (a := ⟨b, 2, none⟩) hb c2
    have f3 := cell_later (a := ⟨b, 3, none⟩) hb c3
    clear c1 c2 c3 c4
    go_enter Try.func77, Try.ntmps77
    go_wp2_with fail
    refine (cut_any q A _ _ hA (by omega)).mono ?_
    rintro e w1 ⟨p1, q1, r1, rfl, hp1, hq1, hr1, hb1⟩
    clear c0
    have hl' := hl.later hb1
    have hr' := hr.later hb1
    have f0' := later_two f0 hb1
    have f1' := later_two f1 hb1
    have f2' := later_two f2 hb1
    have f3' := later_two f3 hb1
    clear f0 f1 f2 f3
    go_wp2_with fail
    go_region_held3 (fun w' => Below w1.heap.size w1 w') (repeat (first | assumption | exact Below.refl _ _ | apply Below.drew)) (first
          | (go_at_call_of 77 pl; refine (IHl.out _ _ _ _ (hp1.later (by assumption)) (hl'.later (by assumption)) (by omega)).mono ?_; rintro e w2 ⟨p2, rfl, ht2, hb2⟩; have hk2 : Below w1.heap.size w1 w2 := Below.trans (by assumption) (hb2.mono (Below.size (by assumption))))
          | (go_at_call_of 77 pr; refine (IHr.out _ _ _ _ (hr1.later (by assumption)) (hr'.later (by assumption)) (by omega)).mono ?_; rintro e w3 ⟨p3, rfl, ht3, hb3⟩; have hk3 : Below w1.heap.size w1 w3 := Below.trans hk2 (hb3.mono (Below.size hk2))))
    have ht2' := ht2.later hb3
    have hq3 := hq1.later hk3
    cases hC : (T.cut q A).2.1 with
    | nil =>
      rw [hC] at hq3
      obtain rfl : q1 = none := hq3
      have HC := Lib.hid hC
      clear hC hq1
      go_wp2_with fail
      refine (merge_any (T.intersect (T.cut q A).1 l) (T.intersect (T.cut q A).2.2 r) _ _ _ ht2' ht3 (by omega)).mono ?_
      rintro e w4 ⟨p4, rfl, ht4, hb4⟩
      go_wp2
      go_ret
      exact ⟨p4, rfl, by rw [H2.out HC.out]; exact ht4, hb1.trans ((hk3.trans (hb4.mono hk3.size)).mono hb1.size)⟩
    | node x1 x2 x3 x4 =>
      rw [hC] at hq3
      obtain ⟨bx, plx, prx, rfl, hbx, -⟩ := hq3
      have HC := Lib.hid hC
      clear hC hq1
      go_wp2_with fail
      have f0'' := later_two f0' hk3
      have f1'' := later_two f1' hk3
      clear f0' f1' f2' f3'
      go_region_held3 (fun w' => Below w3.heap.size w3 w') (repeat (first | assumption | exact Below.refl _ _ | apply Below.drew)) (first
          | (go_at_call 75; refine (link_any (T.intersect (T.cut q A).1 l) (T.intersect (T.cut q A).2.2 r) q v _ _ _ (ht2'.later (by assumption)) (ht3.later (by assumption)) (by omega)).mono ?_; rintro e w4 ⟨p4, rfl, ht4, hb4⟩; have hk4 : Below w3.heap.size w3 w4 := Below.trans (by assumption) (hb4.mono (Below.size (by assumption)))))
      go_wp2
      go_ret
      exact ⟨p4, rfl, by rw [H4.out _ _ _ _ HC.out]; exact ht4, hb1.trans ((hk3.trans (hk4.mono hk3.size)).mono hb1.size)⟩

set_option maxRecDepth 100000 in
set_option maxHeartbeats 2000000 in
theorem told_nil (w : World) : Calls Try.prog 70 #[.pointer none] w fun e w' => e = .returned (.tuple #[.int .i64 0, .int .i64 0, .bool false]) ∧ w = w' := by
  go_enter Try.func70, Try.ntmps70
  go_wp2
  go_ret3
  exact ⟨rfl, rfl⟩

set_option maxRecDepth 100000 in
set_option maxHeartbeats 2000000 in
theorem told_node (l : T Int Int) (k : Int) (v : Int) (r : T Int Int) (p : Option Addr) (n₀ : Nat) (w : World) (h : Tr n₀ w p (.node l k v r)) :
    Calls Try.prog 70 #[.pointer p] w fun e w' => e = .returned (.tuple #[ek k, ev v, .bool true]) ∧ ∃ n, w' = w.drewN n := by
  obtain ⟨b, pl, pr, rfl, hb, c0, c1, c2, c3, c4, hl, hr⟩ := h
  clear c2 c3 c4 hl hr
  go_enter Try.func70, Try.ntmps70
  go_wp2_with fail
  go_quiet (fail)
  go_wp2
  go_ret3
  exact ⟨rfl, _, rfl⟩

theorem depth_le_size (t : T Int Int) : t.depth ≤ t.size := by
  induction t with
  | nil => simp [T.depth]
  | node l k v r ihl ihr => simp only [T.depth, T.size]; omega

set_option maxRecDepth 100000 in
set_option maxHeartbeats 2000000 in
theorem depth_any (t : T Int Int) : ∀ (p : Option Addr) (w : World), Tr w.heap.size w p t → t.size ≤ 1099511627776 → Calls Try.prog 101 #[.pointer p] w fun e w' => e = .returned (.int .i64 (T.depth t)) ∧ Below w.heap.size w w' := by
  induction t with
  | nil =>
    intro p w ht _
    obtain rfl : p = none := ht
    go_enter Try.func101, Try.ntmps101
    go_wp2
    go_ret
    exact ⟨rfl, Below.refl _ _⟩
  | node l k v r ihl ihr =>
  intro p w ht hs
  have IHl : Hid (∀ (p : Option Addr) (w : World), Tr w.heap.size w p l → l.size ≤ 1099511627776 → Calls Try.prog 101 #[.pointer p] w fun e w' => e = .returned (.int .i64 (T.depth l)) ∧ Below w.heap.size w w') := ihl
  have IHr : Hid (∀ (p : Option Addr) (w : World), Tr w.heap.size w p r → r.size ≤ 1099511627776 → Calls Try.prog 101 #[.pointer p] w fun e w' => e = .returned (.int .i64 (T.depth r)) ∧ Below w.heap.size w w') := ihr
  clear ihl ihr
  obtain ⟨b, pl, pr, rfl, hb, c0, c1, c2, c3, c4, hl, hr⟩ := ht
  have f2 := cell_later (a := ⟨b, 2, none⟩) hb c2
  have f3 := cell_later (a := ⟨b, 3, none⟩) hb c3
  have hzl := depth_le_size l
  have hzr := depth_le_size r
  simp only [T.size] at hs
  clear c0 c1 c2 c3 c4
  go_enter Try.func101, Try.ntmps101
  go_wp2_with fail
  go_region_held3 (fun w' => Below w.heap.size w w') (repeat (first | assumption | exact Below.refl _ _ | apply Below.drew)) (first
          | (go_at_call_of 101 pl; refine (IHl.out _ _ (hl.later (by assumption)) (by omega)).mono ?_; rintro e w2 ⟨rfl, hb2⟩; have hk2 : Below w.heap.size w w2 := Below.trans (by assumption) (hb2.mono (Below.size (by assumption))))
          | (go_at_call_of 101 pr; refine (IHr.out _ _ (hr.later (by assumption)) (by omega)).mono ?_; rintro e w3 ⟨rfl, hb3⟩; have hk3 : Below w.heap.size w w3 := Below.trans hk2 (hb3.mono hk2.size)))
  all_goals go_wp2
  all_goals go_ret
  all_goals exact ⟨ret_int (by rw [IntKind.wrap_i64]; simp only [T.depth]; omega), hk3⟩
end Go.Proofs.MT.II
