/- The tree's functions put, remove, cut (II). -/
import Derived.Test.YtnhngaadegebfaaProg
import Derived.Test.YtnhngaadegebfaaTreeLaws
import Derived.Test.YtnhngaadegebfaaA3
import Derived.Test.YtnhngaadegebfaaOrd
import Derived.Deep.QuietTactic
import Derived.BigQuiet
import Derived.Deep.RegionHeld3
import Derived.KernelRfl
namespace Go.Proofs.MT.II
open Go.RowKit

set_option maxRecDepth 100000 in
set_option maxHeartbeats 2000000 in
theorem put_any (k : Int) (x : Int) (t : T Int Int) : ∀ (p : Option Addr) (w : World), Tr w.heap.size w p t → t.size + 1 ≤ 1099511627776 → Calls Try.prog 61 #[.pointer p, .int .i64 k, .int .i64 x] w (Makes (T.put k x t) w) := by
  induction t with
  | nil =>
    intro p w ht _
    obtain rfl : p = none := ht
    go_enter Try.func61, Try.ntmps61
    go_wp2_with fail
    refine (over_any .nil .nil k x _ _ _ rfl rfl (by simp [T.size]) (by simp [T.size])).mono ?_
    rintro e w1 ⟨p1, rfl, ht1, hb1⟩
    go_wp2
    go_ret
    exact ⟨p1, rfl, ht1, hb1⟩
  | node l q v r ihl ihr =>
  intro p w ht hs
  have IHl : Hid (∀ (p : Option Addr) (w : World), Tr w.heap.size w p l → l.size + 1 ≤ 1099511627776 → Calls Try.prog 61 #[.pointer p, .int .i64 k, .int .i64 x] w (Makes (T.put k x l) w)) := ihl
  have IHr : Hid (∀ (p : Option Addr) (w : World), Tr w.heap.size w p r → r.size + 1 ≤ 1099511627776 → Calls Try.prog 61 #[.pointer p, .int .i64 k, .int .i64 x] w (Makes (T.put k x r) w)) := ihr
  clear ihl ihr
  have ht' := ht
  obtain ⟨b, pl, pr, rfl, hb, c0, c1, c2, c3, c4, hl, hr⟩ := ht'
  have f0 := cell_later (a := ⟨b, 0, none⟩) hb c0
  have f1 := cell_later (a := ⟨b, 1, none⟩) hb c1
  have f2 := cell_later (a := ⟨b, 2, none⟩) hb c2
  have f3 := cell_later (a := ⟨b, 3, none⟩) hb c3
  simp only [T.size] at hs
  clear c1 c2 c3 c4
  have hzl := T.put_size k x l
  have hzr := T.put_size k x r
  cases hk : KOrd.lt k q with
  | true =>
    have H2 : Hid (T.put k x (.node l q v r) = T.balanced (T.put k x l) q v r) := by simp [Hid, T.put, hk]
    have hk' : k < q := by simpa using hk
    clear hk
    go_enter Try.func61, Try.ntmps61
    go_wp2_with fail
    clear c0
    go_region_held3 (fun w' => Below w.heap.size w w') (repeat (first | assumption | exact Below.refl _ _ | apply Below.drew)) (first
          | (go_at_call 61; refine (IHl.out _ _ (hl.later (by assumption)) (by omega)).mono ?_; rintro e w1 ⟨p1, rfl, ht1, hb1⟩; have hk1 : Below w.heap.size w w1 := Below.trans (by assumption) (hb1.mono (Below.size (by assumption))))
          | (go_at_call 96; refine (balanced_any (T.put k x l) r q v _ _ _ ht1 (hr.later (by assumption)) (by omega) (by omega)).mono ?_; rintro e w2 ⟨p2, rfl, ht2, hb2⟩; have hk2 : Below w.heap.size w w2 := Below.trans hk1 (hb2.mono (Below.size hk1))))
    go_wp2
    go_ret
    exact ⟨p2, rfl, by rw [H2.out]; exact ht2, hk2⟩
  | false =>
    cases hq : KOrd.lt q k with
    | true =>
      have H2 : Hid (T.put k x (.node l q v r) = T.balanced l q v (T.put k x r)) := by simp [Hid, T.put, hk, hq]
      have hk' : q ≤ k := by simpa using hk
      have hq' : q < k := by simpa using hq
      clear hk hq
      go_enter Try.func61, Try.ntmps61
      go_wp2_with fail
      clear c0
      go_region_held3 (fun w' => Below w.heap.size w w') (repeat (first | assumption | exact Below.refl _ _ | apply Below.drew)) (first
          | (go_at_call 61; refine (IHr.out _ _ (hr.later (by assumption)) (by omega)).mono ?_; rintro e w1 ⟨p1, rfl, ht1, hb1⟩; have hk1 : Below w.heap.size w w1 := Below.trans (by assumption) (hb1.mono (Below.size (by assumption))))
          | (go_at_call 96; refine (balanced_any l (T.put k x r) q v _ _ _ (hl.later (by assumption)) ht1 (by omega) (by omega)).mono ?_; rintro e w2 ⟨p2, rfl, ht2, hb2⟩; have hk2 : Below w.heap.size w w2 := Below.trans hk1 (hb2.mono (Below.size hk1))))
      go_wp2
      go_ret
      exact ⟨p2, rfl, by rw [H2.out]; exact ht2, hk2⟩
    | false =>
      have H2 : Hid (T.put k x (.node l q v r) = .node l k x r) := by simp [Hid, T.put, hk, hq]
      have hk' : q ≤ k := by simpa using hk
      have hq' : k ≤ q := by simpa using hq
      clear hk hq
      go_enter Try.func61, Try.ntmps61
      go_wp2_with fail
      clear c0
      go_region_held3 (fun w' => Below w.heap.size w w') (repeat (first | assumption | exact Below.refl _ _ | apply Below.drew)) (first
          | (go_at_call 91; refine (over_any l r k x _ _ _ (hl.later (by assumption)) (hr.later (by assumption)) (by omega) (by omega)).mono ?_; rintro e w1 ⟨p1, rfl, ht1, hb1⟩; have hk1 : Below w.heap.size w w1 := Below.trans (by assumption) (hb1.mono (Below.size (by assumption)))))
      go_wp2
      go_ret
      exact ⟨p1, rfl, by rw [H2.out]; exact ht1, hk1⟩

set_option maxRecDepth 100000 in
set_option maxHeartbeats 2000000 in
theorem remove_any (k : Int) (t : T Int Int) : ∀ (p : Option Addr) (w : World), Tr w.heap.size w p t → t.size ≤ 1099511627776 → Calls Try.prog 59 #[.pointer p, .int .i64 k] w (Makes (T.remove k t) w) := by
  induction t with
  | nil =>
    intro p w ht _
    obtain rfl : p = none := ht
    go_enter Try.func59, Try.ntmps59
    go_wp2
    go_ret
    exact ⟨none, rfl, rfl, Below.refl _ _⟩
  | node l q v r ihl ihr =>
  intro p w ht hs
  have IHl : Hid (∀ (p : Option Addr) (w : World), Tr w.heap.size w p l → l.size ≤ 1099511627776 → Calls Try.prog 59 #[.pointer p, .int .i64 k] w (Makes (T.remove k l) w)) := ihl
  have IHr : Hid (∀ (p : Option Addr) (w : World), Tr w.heap.size w p r → r.size ≤ 1099511627776 → Calls Try.prog 59 #[.pointer p, .int .i64 k] w (Makes (T.remove k r) w)) := ihr
  clear ihl ihr
  have ht' := ht
  obtain ⟨b, pl, pr, rfl, hb, c0, c1, c2, c3, c4, hl, hr⟩ := ht'
  have f0 := cell_later (a := ⟨b, 0, none⟩) hb c0
  have f1 := cell_later (a := ⟨b, 1, none⟩) hb c1
  have f2 := cell_later (a := ⟨b, 2, none⟩) hb c2
  have f3 := cell_later (a := ⟨b, 3, none⟩) hb c3
  simp only [T.size] at hs
  clear c1 c2 c3 c4
  have hzl := T.remove_size k l
  have hzr := T.remove_size k r
  cases hk : KOrd.lt k q with
  | true =>
    have H2 : Hid (T.remove k (.node l q v r) = T.balanced (T.remove k l) q v r) := by simp [Hid, T.remove, hk]
    have hk' : k < q := by simpa using hk
    clear hk
    go_enter Try.func59, Try.ntmps59
    go_wp2_with fail
    clear c0
    go_region_held3 (fun w' => Below w.heap.size w w') (repeat (first | assumption | exact Below.refl _ _ | apply Below.drew)) (first
          | (go_at_call 59; refine (IHl.out _ _ (hl.later (by assumption)) (by omega)).mono ?_; rintro e w1 ⟨p1, rfl, ht1, hb1⟩; have hk1 : Below w.heap.size w w1 := Below.trans (by assumption) (hb1.mono (Below.size (by assumption))))
          | (go_at_call 96; refine (balanced_any (T.remove k l) r q v _ _ _ ht1 (hr.later (by assumption)) (by omega) (by omega)).mono ?_; rintro e w2 ⟨p2, rfl, ht2, hb2⟩; have hk2 : Below w.heap.size w w2 := Below.trans hk1 (hb2.mono (Below.size hk1))))
    go_wp2
    go_ret
    exact ⟨p2, rfl, by rw [H2.out]; exact ht2, hk2⟩
  | false =>
    cases hq : KOrd.lt q k with
    | true =>
      have H2 : Hid (T.remove k (.node l q v r) = T.balanced l q v (T.remove k r)) := by simp [Hid, T.remove, hk, hq]
      have hk' : q ≤ k := by simpa using hk
      have hq' : q < k := by simpa using hq
      clear hk hq
      go_enter Try.func59, Try.ntmps59
      go_wp2_with fail
      clear c0
      go_region_held3 (fun w' => Below w.heap.size w w') (repeat (first | assumption | exact Below.refl _ _ | apply Below.drew)) (first
          | (go_at_call 59; refine (IHr.out _ _ (hr.later (by assumption)) (by omega)).mono ?_; rintro e w1 ⟨p1, rfl, ht1, hb1⟩; have hk1 : Below w.heap.size w w1 := Below.trans (by assumption) (hb1.mono (Below.size (by assumption))))
          | (go_at_call 96; refine (balanced_any l (T.remove k r) q v _ _ _ (hl.later (by assumption)) ht1 (by omega) (by omega)).mono ?_; rintro e w2 ⟨p2, rfl, ht2, hb2⟩; have hk2 : Below w.heap.size w w2 := Below.trans hk1 (hb2.mono (Below.size hk1))))
      go_wp2
      go_ret
      exact ⟨p2, rfl, by rw [H2.out]; exact ht2, hk2⟩
    | false =>
      have H2 : Hid (T.remove k (.node l q v r) = T.merge l r) := by simp [Hid, T.remove, hk, hq]
      have hk' : q ≤ k := by simpa using hk
      have hq' : k ≤ q := by simpa using hq
      clear hk hq
      go_enter Try.func59, Try.ntmps59
      go_wp2_with fail
      clear c0
      go_region_held3 (fun w' => Below w.heap.size w w') (repeat (first | assumption | exact Below.refl _ _ | apply Below.drew)) (first
          | (go_at_call 72; refine (merge_any l r _ _ _ (hl.later (by assumption)) (hr.later (by assumption)) (by omega)).mono ?_; rintro e w1 ⟨p1, rfl, ht1, hb1⟩; have hk1 : Below w.heap.size w w1 := Below.trans (by assumption) (hb1.mono (Below.size (by assumption)))))
      go_wp2
      go_ret
      exact ⟨p1, rfl, by rw [H2.out]; exact ht1, hk1⟩

/-- What a cut leaves: both sides and the node between them. -/
def Cuts (c : T Int Int × T Int Int × T Int Int) (w : World) (e : Ending) (w' : World) : Prop :=
  ∃ p q r, e = .returned (.tuple #[.pointer p, .pointer q, .pointer r]) ∧ Tr w'.heap.size w' p c.1 ∧ Tr w'.heap.size w' q c.2.1 ∧ Tr w'.heap.size w' r c.2.2 ∧ Below w.heap.size w w'

theorem cut_sizes (k : Int) (t : T Int Int) : (T.cut k t).1.size + (T.cut k t).2.2.size ≤ t.size := by
  induction t with
  | nil => simp [T.cut, T.size]
  | node l q v r ihl ihr =>
    rw [T.cut]
    split
    · simp only [T.link_size, T.size]; omega
    · split
      · simp only [T.link_size, T.size]; omega
      · simp only [T.size]; omega

set_option maxRecDepth 100000 in
set_option maxHeartbeats 2000000 in
theorem cut_any (k : Int) (t : T Int Int) : ∀ (p : Option Addr) (w : World), Tr w.heap.size w p t → t.size ≤ 1099511627776 → Calls Try.prog 69 #[.pointer p, .int .i64 k] w (Cuts (T.cut k t) w) := by
  induction t with
  | nil =>
    intro p w ht _
    obtain rfl : p = none := ht
    go_enter Try.func69, Try.ntmps69
    go_wp2
    go_ret3
    exact ⟨none, none, none, rfl, rfl, rfl, rfl, Below.refl _ _⟩
  | node l q v r ihl ihr =>
  intro p w ht hs
  have IHl : Hid (∀ (p : Option Addr) (w : World), Tr w.heap.size w p l → l.size ≤ 1099511627776 → Calls Try.prog 69 #[.pointer p, .int .i64 k] w (Cuts (T.cut k l) w)) := ihl
  have IHr : Hid (∀ (p : Option Addr) (w : World), Tr w.heap.size w p r → r.size ≤ 1099511627776 → Calls Try.prog 69 #[.pointer p, .int .i64 k] w (Cuts (T.cut k r) w)) := ihr
  clear ihl ihr
  have ht' := ht
  obtain ⟨b, pl, pr, rfl, hb, c0, c1, c2, c3, c4, hl, hr⟩ := ht'
  have f0 := cell_later (a := ⟨b, 0, none⟩) hb c0
  have f1 := cell_later (a := ⟨b, 1, none⟩) hb c1
  have f2 := cell_later (a := ⟨b, 2, none⟩) hb c2
  have f3 := cell_later (a := ⟨b, 3, none⟩) hb c3
  simp only [T.size] at hs
  clear c1 c4
  have hzl := cut_sizes k l
  have hzr := cut_sizes k r
  cases hk : KOrd.lt k q with
  | true =>
    have H2 : Hid (T.cut k (.node l q v r) = ((T.cut k l).1, (T.cut k l).2.1, T.link (T.cut k l).2.2 q v r)) := by simp [Hid, T.cut, hk]
    have hk' : k < q := by simpa using hk
    clear hk c3
    go_enter Try.func69, Try.ntmps69
    go_wp2_with fail
    refine (IHl.out _ _ hl (by omega)).mono ?_
    rintro e w1 ⟨p1, q1, r1, rfl, hp1, hq1, hr1, hb1⟩
    have hk1 : Below w.heap.size w w1 := hb1
    clear c0 c2
    go_wp2_with fail
    have hr' := hr.later hb1
    have f0' := later_two f0 hb1
    have f1' := later_two f1 hb1
    have f3' := later_two f3 hb1
    clear f0 f1 f2 f3
    go_region_held3 (fun w' => Below w1.heap.size w1 w') (repeat (first | assumption | exact Below.refl _ _ | apply Below.drew)) (first
          | (go_at_call 75; refine (link_any (T.cut k l).2.2 r q v _ _ _ (hr1.later (by assumption)) (hr'.later (by assumption)) (by omega)).mono ?_; rintro e w2 ⟨p2, rfl, ht2, hb2⟩; have hk2 : Below w1.heap.size w1 w2 := Below.trans (by assumption) (hb2.mono (Below.size (by assumption)))))
    go_wp2
    go_ret3
    exact ⟨p1, q1, p2, rfl, by rw [H2.out]; exact hp1.later hk2, by rw [H2.out]; exact hq1.later hk2, by rw [H2.out]; exact ht2, hk1.trans (hk2.mono hk1.size)⟩
  | false =>
    cases hq : KOrd.lt q k with
    | true =>
      have H2 : Hid (T.cut k (.node l q v r) = (T.link l q v (T.cut k r).1, (T.cut k r).2.1, (T.cut k r).2.2)) := by simp [Hid, T.cut, hk, hq]
      have hk' : q ≤ k := by simpa using hk
      have hq' : q < k := by simpa using hq
      clear hk hq c2
      go_enter Try.func69, Try.ntmps69
      go_wp2_with fail
      refine (IHr.out _ _ hr (by omega)).mono ?_
      rintro e w1 ⟨p1, q1, r1, rfl, hp1, hq1, hr1, hb1⟩
      have hk1 : Below w.heap.size w w1 := hb1
      clear c0 c3
      go_wp2_with fail
      have hl' := hl.later hb1
      have f0' := later_two f0 hb1
      have f1' := later_two f1 hb1
      have f2' := later_two f2 hb1
      clear f0 f1 f2 f3
      go_region_held3 (fun w' => Below w1.heap.size w1 w') (repeat (first | assumption | exact Below.refl _ _ | apply Below.drew)) (first
          | (go_at_call 75; refine (link_any l (T.cut k r).1 q v _ _ _ (hl'.later (by assumption)) (hp1.later (by assumption)) (by omega)).mono ?_; rintro e w2 ⟨p2, rfl, ht2, hb2⟩; have hk2 : Below w1.heap.size w1 w2 := Below.trans (by assumption) (hb2.mono (Below.size (by assumption)))))
      go_wp2
      go_ret3
      exact ⟨p2, q1, r1, rfl, by rw [H2.out]; exact ht2, by rw [H2.out]; exact hq1.later hk2, by rw [H2.out]; exact hr1.later hk2, hk1.trans (hk2.mono hk1.size)⟩
    | false =>
      have H2 : Hid (T.cut k (.node l q v r) = (l, .node l q v r, r)) := by simp [Hid, T.cut, hk, hq]
      have hk' : q ≤ k := by simpa using hk
      have hq' : k ≤ q := by simpa using hq
      clear hk hq
      go_enter Try.func69, Try.ntmps69
      go_wp2_with fail
      go_quiet (fail)
      go_wp2
      go_ret3
      have hbd : Below w.heap.size w (w.drewN nq) := below_draws (Below.refl _ _) _
      exact ⟨pl, some ⟨b, 0, none⟩, pr, rfl, by rw [H2.out]; exact hl.later hbd, by rw [H2.out]; exact ht.later hbd, by rw [H2.out]; exact hr.later hbd, hbd⟩
end Go.Proofs.MT.II
