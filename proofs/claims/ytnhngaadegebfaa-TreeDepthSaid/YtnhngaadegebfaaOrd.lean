/- The orders of the two kinds of keys: whole numbers by size, strings by their bytes. -/
import Derived.Test.YtnhngaadegebfaaTreeLaws
import Derived.Deep.Draws
import Derived.WalkKit
import Derived.Lib.Hide
namespace Go.Proofs.MT

instance : KOrd Int where
  lt a b := decide (a < b)
  irrefl a := by simp
  trans h1 h2 := by simp at *; omega
  tri h1 h2 := by simp at *; omega

@[simp] theorem ltInt_true (a b : Int) : (KOrd.lt a b = true) ↔ a < b := by simp [KOrd.lt]
@[simp] theorem ltInt_false (a b : Int) : (KOrd.lt a b = false) ↔ b ≤ a := by simp [KOrd.lt]

open Go.RowKit in
theorem below_draws {B : Nat} {a w : World} (h : Below B a w) : ∀ n, Below B a (w.drewN n) := fun _ => h.trans ⟨rfl, rfl, rfl, Nat.le_refl _, fun _ _ => rfl⟩

theorem ret_int {k : IntKind} {a b : Int} (h : a = b) : Ending.returned (.int k a) = .returned (.int k b) := by rw [h]

end Go.Proofs.MT
