/- The tree's small functions (IS): len, weight, light, turned, over. -/
import Derived.Test.YtnhngaadegebfaaProg
import Derived.Test.YtnhngaadegebfaaTreeLaws
import Derived.Test.YtnhngaadegebfaaMem
import Derived.Deep.QuietTactic
import Derived.BigQuiet
import Derived.Deep.RegionHeld3
import Derived.KernelRfl
namespace Go.Proofs.MT.IS
open Go.RowKit

abbrev ek : Int → Value := .int .i64
abbrev ev : ByteArray → Value := .string
abbrev Tr (n₀ : Nat) (w : World) (p : Option Addr) (t : T Int ByteArray) : Prop := IsTree ek ev 145 n₀ w p t

theorem len_nil (w : World) : Calls Try.prog 89 #[.pointer none] w fun e w' => e = .returned (.int .i64 0) ∧ w = w' := by
  go_enter Try.func89, Try.ntmps89
  go_wp2
  go_ret
  simp

theorem len_node (b : Nat) (n : Int) (w : World) (h : w.cell? ⟨b, 4, none⟩ = some (.int .i64 n)) :
    Calls Try.prog 89 #[.pointer (some ⟨b, 0, none⟩)] w fun e w' => e = .returned (.int .i64 n) ∧ w = w' := by
  go_enter Try.func89, Try.ntmps89
  go_wp2
  go_ret
  simp

theorem len_any (T : T Int ByteArray) (p : Option Addr) (n₀ : Nat) (w : World) (h : Tr n₀ w p T) :
    Calls Try.prog 89 #[.pointer p] w fun e w' => e = .returned (.int .i64 T.size) ∧ w = w' := by
  cases T with
  | nil => obtain rfl : p = none := h; exact len_nil w
  | node l k v r => obtain ⟨b, pl, pr, rfl, hb, h0, h1, h2, h3, h4, hl, hr⟩ := h; exact len_node b _ w h4.1

theorem cell_later {w : World} {a : Addr} {v : Value} (ha : a.block < w.heap.size) (h : w.cell? a = some v) : ∀ w', Below w.heap.size w w' → w'.cell? a = some v := fun _ hb => (hb.cell ha).trans h

theorem later_two {P : World → Prop} {w w1 : World} (f : ∀ w', Below w.heap.size w w' → P w') (h : Below w.heap.size w w1) : ∀ w', Below w1.heap.size w1 w' → P w' := fun w' h' => f w' (h.trans (h'.mono h.size))

/-- What a call that makes a tree leaves: the tree, and all that was there. -/
def Makes (T : T Int ByteArray) (w : World) (e : Ending) (w' : World) : Prop :=
  ∃ p, e = .returned (.pointer p) ∧ Tr w'.heap.size w' p T ∧ Below w.heap.size w w'

theorem node_new (w : World) (A B : T Int ByteArray) (k : Int) (v : ByteArray) (p q : Option Addr) (hA : Tr w.heap.size w p A) (hB : Tr w.heap.size w q B) :
    Tr (w.alloc (.cells #[ek k, ev v, .pointer p, .pointer q, .int .i64 ((A.size : Int) + B.size + 1)] 145)).heap.size
      (w.alloc (.cells #[ek k, ev v, .pointer p, .pointer q, .int .i64 ((A.size : Int) + B.size + 1)] 145)) (some ⟨w.heap.size, 0, none⟩) (.node A k v B) := by
  have hb : Below w.heap.size w (w.alloc (.cells #[ek k, ev v, .pointer p, .pointer q, .int .i64 ((A.size : Int) + B.size + 1)] 145)) := (Below.refl _ _).alloc (Nat.le_refl _) _
  exact ⟨w.heap.size, p, q, rfl, by simp, cell_new _ _ _ _ _ _ rfl, cell_new _ _ _ _ _ _ rfl, cell_new _ _ _ _ _ _ rfl, cell_new _ _ _ _ _ _ rfl, ⟨cell_new _ _ _ _ _ _ rfl, tag_new _ _ _ _⟩, hA.later hb, hB.later hb⟩

theorem over_any (A B : T Int ByteArray) (k : Int) (v : ByteArray) (p q : Option Addr) (w : World) (hA : Tr w.heap.size w p A) (hB : Tr w.heap.size w q B) (sA : A.size ≤ 4398046511104) (sB : B.size ≤ 4398046511104) :
    Calls Try.prog 115 #[.pointer p, .int .i64 k, .string v, .pointer q] w (Makes (.node A k v B) w) := by
  go_enter Try.func115, Try.ntmps115
  go_wp2_with fail
  refine (len_any A _ _ _ hA).mono ?_
  rintro e w' ⟨rfl, rfl⟩
  go_wp2_with fail
  refine (len_any B _ _ _ hB).mono ?_
  rintro e w' ⟨rfl, rfl⟩
  go_wp2
  go_ret
  refine ⟨_, rfl, ?_, (Below.refl _ _).alloc (Nat.le_refl _) _⟩
  exact node_new w A B k v p q hA hB
end Go.Proofs.MT.IS
