/- A tree and a store into a block of another type; what a call that adds memory alone leaves of the blocks that a caller has laid. -/
import Derived.Test.YtnhngaadegebfaaMem
import Derived.Test.YtnhngaadegebfaaOrd
namespace Go.Proofs.MT
open Go.RowKit

theorem size_set (A : World) (a : Addr) (v : Value) : (A.setCell a v).heap.size = A.heap.size := by simp [World.setCell]

theorem IsTree.stored {K V : Type} {ek : K → Value} {ev : V → Value} {st : TypeId} {A : World} {a : Addr} {t' : TypeId} (ha : tagAt A a.block t') (hne : t' ≠ st) (v : Value) {p : Option Addr} {t : T K V}
    (ht : IsTree ek ev st A.heap.size A p t) : IsTree ek ev st (A.setCell a v).heap.size (A.setCell a v) p t := by
  rw [size_set]
  exact ht.setCell ha hne v

theorem bcell {W w1 : World} (hb : Below W.heap.size W w1) : (∀ b o, b < W.heap.size → w1.cell? ⟨b, o, none⟩ = W.cell? ⟨b, o, none⟩) ∧ (∀ b o, b < W.heap.size → w1.frozen? ⟨b, o, none⟩ = W.frozen? ⟨b, o, none⟩) :=
  ⟨fun b o h => hb.cell (p := ⟨b, o, none⟩) h, fun b o h => hb.frozen (p := ⟨b, o, none⟩) h⟩

theorem tag_at (w : World) (cs : Array Value) (t : TypeId) (f : Nat × Nat) (n : Nat) (h : w.heap.size = n) : tagAt (w.alloc (.cells cs t f)) n t := h ▸ tag_new w cs t f

theorem below_two (w : World) (o o' : Obj) : Below w.heap.size w ((w.alloc o).alloc o') := ((Below.refl w.heap.size w).alloc (Nat.le_refl _) o).alloc (by simp) o'
theorem below_three (w : World) (o o' o'' : Obj) : Below w.heap.size w (((w.alloc o).alloc o').alloc o'') := (below_two w o o').alloc (by simp; omega) o''

end Go.Proofs.MT
