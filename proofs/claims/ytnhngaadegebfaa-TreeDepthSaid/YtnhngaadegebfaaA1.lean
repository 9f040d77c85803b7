/- The tree's small functions (II): len, weight, light, turned, over. -/
import Derived.Test.YtnhngaadegebfaaProg
import Derived.Test.YtnhngaadegebfaaTreeLaws
import Derived.Test.YtnhngaadegebfaaMem
import Derived.Deep.QuietTactic
import Derived.BigQuiet
import Derived.Deep.RegionHeld3
import Derived.KernelRfl
namespace Go.Proofs.MT.II
open Go.RowKit

abbrev ek : Int → Value := .int .i64
abbrev ev : Int → Value := .int .i64
abbrev Tr (n₀ : Nat) (w : World) (p : Option Addr) (t : T Int Int) : Prop := IsTree ek ev 121 n₀ w p t

theorem len_nil (w : World) : Calls Try.prog 54 #[.pointer none] w fun e w' => e = .returned (.int .i64 0) ∧ w = w' := by
  go_enter Try.func54, Try.ntmps54
  go_wp2
  go_ret
  simp

theorem len_node (b : Nat) (n : Int) (w : World) (h : w.cell? ⟨b, 4, none⟩ = some (.int .i64 n)) :
    Calls Try.prog 54 #[.pointer (some ⟨b, 0, none⟩)] w fun e w' => e = .returned (.int .i64 n) ∧ w = w' := by
  go_enter Try.func54, Try.ntmps54
  go_wp2
  go_ret
  simp

theorem len_any (T : T Int Int) (p : Option Addr) (n₀ : Nat) (w : World) (h : Tr n₀ w p T) :
    Calls Try.prog 54 #[.pointer p] w fun e w' => e = .returned (.int .i64 T.size) ∧ w = w' := by
  cases T with
  | nil => obtain rfl : p = none := h; exact len_nil w
  | node l k v r => obtain ⟨b, pl, pr, rfl, hb, h0, h1, h2, h3, h4, hl, hr⟩ := h; exact len_node b _ w h4.1

theorem cell_later {w : World} {a : Addr} {v : Value} (ha : a.block < w.heap.size) (h : w.cell? a = some v) : ∀ w', Below w.heap.size w w' → w'.cell? a = some v := fun _ hb => (hb.cell ha).trans h

theorem later_two {P : World → Prop} {w w1 : World} (f : ∀ w', Below w.heap.size w w' → P w') (h : Below w.heap.size w w1) : ∀ w', Below w1.heap.size w1 w' → P w' := fun w' h' => f w' (h.trans (h'.mono h.size))

/-- What a call that makes a tree leaves: the tree, and all that was there. -/
def Makes (T : T Int Int) (w : World) (e : Ending) (w' : World) : Prop :=
  ∃ p, e = .returned (.pointer p) ∧ Tr w'.heap.size w' p T ∧ Below w.heap.size w w'

theorem node_new (w : World) (A B : T Int Int) (k : Int) (v : Int) (p q : Option Addr) (hA : Tr w.heap.size w p A) (hB : Tr w.heap.size w q B) :
    Tr (w.alloc (.cells #[ek k, ev v, .pointer p, .pointer q, .int .i64 ((A.size : Int) + B.size + 1)] 121)).heap.size
      (w.alloc (.cells #[ek k, ev v, .pointer p, .pointer q, .int .i64 ((A.size : Int) + B.size + 1)] 121)) (some ⟨w.heap.size, 0, none⟩) (.node A k v B) := by
  have hb : Below w.heap.size w (w.alloc (.cells #[ek k, ev v, .pointer p, .pointer q, .int .i64 ((A.size : Int) + B.size + 1)] 121)) := (Below.refl _ _).alloc (Nat.le_refl _) _
  exact ⟨w.heap.size, p, q, rfl, by simp, cell_new _ _ _ _ _ _ rfl, cell_new _ _ _ _ _ _ rfl, cell_new _ _ _ _ _ _ rfl, cell_new _ _ _ _ _ _ rfl, ⟨cell_new _ _ _ _ _ _ rfl, tag_new _ _ _ _⟩, hA.later hb, hB.later hb⟩

theorem over_any (A B : T Int Int) (k : Int) (v : Int) (p q : Option Addr) (w : World) (hA : Tr w.heap.size w p A) (hB : Tr w.heap.size w q B) (sA : A.size ≤ 4398046511104) (sB : B.size ≤ 4398046511104) :
    Calls Try.prog 91 #[.pointer p, .int .i64 k, .int .i64 v, .pointer q] w (Makes (.node A k v B) w) := by
  go_enter Try.func91, Try.ntmps91
  go_wp2_with fail
  refine (len_any A _ _ _ hA).mono ?_
  rintro e w' ⟨rfl, rfl⟩
  go_wp2_with fail
  refine (len_any B _ _ _ hB).mono ?_
  rintro e w' ⟨rfl, rfl⟩
  go_wp2
  go_ret
  refine ⟨_, rfl, ?_, (Below.refl _ _).alloc (Nat.le_refl _) _⟩
  exact node_new w A B k v p q hA hB

theorem weight_any (T : T Int Int) (p : Option Addr) (n₀ : Nat) (w : World) (h : Tr n₀ w p T) (hs : T.size ≤ 1099511627776) :
    Calls Try.prog 120 #[.pointer p] w fun e w' => e = .returned (.int .i64 (T.size + 1 : Nat)) ∧ w = w' := by
  go_enter Try.func120, Try.ntmps120
  go_wp2_with (go_at_call 54; refine (len_any T _ n₀ _ h).mono ?_; rintro e w' ⟨rfl, rfl⟩)
  go_ret
  simp

theorem light_any (A B : T Int Int) (p q : Option Addr) (n₀ : Nat) (w : World) (hA : Tr n₀ w p A) (hB : Tr n₀ w q B) (sA : A.size ≤ 1099511627776) (sB : B.size ≤ 1099511627776) :
    Calls Try.prog 103 #[.pointer p, .pointer q] w fun e w' => e = .returned (.bool (T.light A B)) ∧ w = w' := by
  go_enter Try.func103, Try.ntmps103
  go_wp2_with fail
  refine (weight_any B _ n₀ _ hB sB).mono ?_
  rintro e w' ⟨rfl, rfl⟩
  go_wp2_with fail
  refine (weight_any A _ n₀ _ hA sA).mono ?_
  rintro e w' ⟨rfl, rfl⟩
  go_wp2
  go_ret
  refine ⟨?_, rfl⟩
  congr 2
  simp [T.light]
  omega

theorem turned_any (A B : T Int Int) (p q : Option Addr) (n₀ : Nat) (w : World) (hA : Tr n₀ w p A) (hB : Tr n₀ w q B) (sA : A.size ≤ 1099511627776) (sB : B.size ≤ 1099511627776) :
    Calls Try.prog 118 #[.pointer p, .pointer q] w fun e w' => e = .returned (.bool (T.turned A B)) ∧ w = w' := by
  go_enter Try.func118, Try.ntmps118
  go_wp2_with fail
  refine (weight_any A _ n₀ _ hA sA).mono ?_
  rintro e w' ⟨rfl, rfl⟩
  go_wp2_with fail
  refine (weight_any B _ n₀ _ hB sB).mono ?_
  rintro e w' ⟨rfl, rfl⟩
  go_wp2
  go_ret
  refine ⟨?_, rfl⟩
  congr 2
  simp [T.turned]
  omega
end Go.Proofs.MT.II
