/- A map variable: a box in memory whose pointer leads to a tree. -/
import Derived.Test.YtnhngaadegebfaaA6
namespace Go.Proofs.MT.II
open Go.RowKit

structure MBox (n₀ : Nat) (W : World) (b : Nat) (p : Option Addr) (t : T Int Int) : Prop where
  base : n₀ ≤ b
  lt : b < W.heap.size
  tag : tagAt W b 28
  fr : W.frozen? ⟨b, 0, none⟩ = false
  cell : W.cell? ⟨b, 0, none⟩ = some (.pointer p)
  tree : Tr W.heap.size W p t

theorem MBox.below {n₀ : Nat} {W W' : World} {b : Nat} {p : Option Addr} {t : T Int Int} (h : MBox n₀ W b p t) (hb : Below W.heap.size W W') : MBox n₀ W' b p t :=
  ⟨h.base, Nat.lt_of_lt_of_le h.lt hb.size, h.tag.below hb h.lt, ((bcell hb).2 b 0 h.lt).trans h.fr, ((bcell hb).1 b 0 h.lt).trans h.cell, h.tree.later hb⟩

/-- A new map is stored. -/
theorem MBox.set {n₀ : Nat} {W : World} {b : Nat} {p p' : Option Addr} {t t' : T Int Int} (h : MBox n₀ W b p t) (ht : Tr W.heap.size W p' t') : MBox n₀ (W.setCell ⟨b, 0, none⟩ (.pointer p')) b p' t' :=
  ⟨h.base, by rw [size_set]; exact h.lt, h.tag.setCell _ _, by rw [World.frozen?_setCell]; exact h.fr, World.cell?_setCell_same (h := h.cell) .., ht.stored (a := ⟨b, 0, none⟩) h.tag (by decide) _⟩

/-- A store into another box. -/
theorem MBox.far {n₀ : Nat} {W : World} {b c : Nat} {p : Option Addr} {t : T Int Int} (h : MBox n₀ W b p t) (hc : tagAt W c 28) (hne : c ≠ b) (v : Value) : MBox n₀ (W.setCell ⟨c, 0, none⟩ v) b p t :=
  ⟨h.base, by rw [size_set]; exact h.lt, h.tag.setCell _ _, by rw [World.frozen?_setCell]; exact h.fr, by rw [World.cell?_setCell_far (h := hne)]; exact h.cell, h.tree.stored (a := ⟨c, 0, none⟩) hc (by decide) _⟩

/-- A new box. -/
theorem MBox.new {n₀ : Nat} {W : World} {p : Option Addr} {t : T Int Int} (hn : n₀ ≤ W.heap.size) (ht : Tr W.heap.size W p t) : MBox n₀ (W.alloc (.cells #[.pointer p] 28)) W.heap.size p t :=
  ⟨hn, by simp, tag_at _ _ _ _ _ rfl, by simp [go_sem], cell_new _ _ _ _ _ _ rfl, ht.later ((Below.refl W.heap.size W).alloc (Nat.le_refl _) _)⟩

theorem below_one (w : World) (o : Obj) : Below w.heap.size w (w.alloc o) := (Below.refl w.heap.size w).alloc (Nat.le_refl _) o

/-- A store into a box leaves what is below the boxes. -/
theorem MBox.belowSet {n₀ : Nat} {w W : World} {b : Nat} {p : Option Addr} {t : T Int Int} (h : MBox n₀ W b p t) (hb : Below n₀ w W) (v : Value) : Below n₀ w (W.setCell ⟨b, 0, none⟩ v) :=
  hb.setCell (p := ⟨b, 0, none⟩) h.base v
end Go.Proofs.MT.II
