/- The tree's functions union, intersect, subtract, depth, told (IS). -/
import Derived.Test.YtnhngaadegebfaaProg
import Derived.Test.YtnhngaadegebfaaTreeLaws
import Derived.Test.YtnhngaadegebfaaC1
import Derived.Test.YtnhngaadegebfaaOrd
import Derived.Deep.QuietTactic
import Derived.BigQuiet
import Derived.Deep.RegionHeld3
import Derived.KernelRfl
namespace Go.Proofs.MT.IS
open Go.RowKit

set_option maxRecDepth 100000 in
set_option maxHeartbeats 2000000 in
theorem told_nil (w : World) : Calls Try.prog 88 #[.pointer none] w fun e w' => e = .returned (.tuple #[.int .i64 0, .string ⟨#[]⟩, .bool false]) ∧ w = w' := by
  go_enter Try.func88, Try.ntmps88
  go_wp2
  go_ret3
  exact ⟨rfl, rfl⟩

set_option maxRecDepth 100000 in
set_option maxHeartbeats 2000000 in
theorem told_node (l : T Int ByteArray) (k : Int) (v : ByteArray) (r : T Int ByteArray) (p : Option Addr) (n₀ : Nat) (w : World) (h : Tr n₀ w p (.node l k v r)) :
    Calls Try.prog 88 #[.pointer p] w fun e w' => e = .returned (.tuple #[ek k, ev v, .bool true]) ∧ ∃ n, w' = w.drewN n := by
  obtain ⟨b, pl, pr, rfl, hb, c0, c1, c2, c3, c4, hl, hr⟩ := h
  clear c2 c3 c4 hl hr
  go_enter Try.func88, Try.ntmps88
  go_wp2_with fail
  go_quiet (fail)
  go_wp2
  go_ret3
  exact ⟨rfl, _, rfl⟩

theorem depth_le_size (t : T Int ByteArray) : t.depth ≤ t.size := by
  induction t with
  | nil => simp [T.depth]
  | node l k v r ihl ihr => simp only [T.depth, T.size]; omega

set_option maxRecDepth 100000 in
set_option maxHeartbeats 2000000 in
theorem depth_any (t : T Int ByteArray) : ∀ (p : Option Addr) (w : World), Tr w.heap.size w p t → t.size ≤ 1099511627776 → Calls Try.prog 90 #[.pointer p] w fun e w' => e = .returned (.int .i64 (T.depth t)) ∧ Below w.heap.size w w' := by
  induction t with
  | nil =>
    intro p w ht _
    obtain rfl : p = none := ht
    go_enter Try.func90, Try.ntmps90
    go_wp2
    go_ret
    exact ⟨rfl, Below.refl _ _⟩
  | node l k v r ihl ihr =>
  intro p w ht hs
  have IHl : Hid (∀ (p : Option Addr) (w : World), Tr w.heap.size w p l → l.size ≤ 1099511627776 → Calls Try.prog 90 #[.pointer p] w fun e w' => e = .returned (.int .i64 (T.depth l)) ∧ Below w.heap.size w w') := ihl
  have IHr : Hid (∀ (p : Option Addr) (w : World), Tr w.heap.size w p r → r.size ≤ 1099511627776 → Calls Try.prog 90 #[.pointer p] w fun e w' => e = .returned (.int .i64 (T.depth r)) ∧ Below w.heap.size w w') := ihr
  clear ihl ihr
  obtain ⟨b, pl, pr, rfl, hb, c0, c1, c2, c3, c4, hl, hr⟩ := ht
  have f2 := cell_later (a := ⟨b, 2, none⟩) hb c2
  have f3 := cell_later (a := ⟨b, 3, none⟩) hb c3
  have hzl := depth_le_size l
  have hzr := depth_le_size r
  simp only [T.size] at hs
  clear c0 c1 c2 c3 c4
  go_enter Try.func90, Try.ntmps90
  go_wp2_with fail
  go_region_held3 (fun w' => Below w.heap.size w w') (repeat (first | assumption | exact Below.refl _ _ | apply Below.drew)) (first
          | (go_at_call_of 90 pl; refine (IHl.out _ _ (hl.later (by assumption)) (by omega)).mono ?_; rintro e w2 ⟨rfl, hb2⟩; have hk2 : Below w.heap.size w w2 := Below.trans (by assumption) (hb2.mono (Below.size (by assumption))))
          | (go_at_call_of 90 pr; refine (IHr.out _ _ (hr.later (by assumption)) (by omega)).mono ?_; rintro e w3 ⟨rfl, hb3⟩; have hk3 : Below w.heap.size w w3 := Below.trans hk2 (hb3.mono hk2.size)))
  all_goals go_wp2
  all_goals go_ret
  all_goals exact ⟨ret_int (by rw [IntKind.wrap_i64]; simp only [T.depth]; omega), hk3⟩
end Go.Proofs.MT.IS
