/- How a tree lies in memory: nodes of five cells, below a block number; what lies below stays as it is while memory is only added. -/
import Derived.Test.YtnhngaadegebfaaTree
import Derived.WalkKit
namespace Go.Proofs.MT
open Go.RowKit

/-- The block is of cells of this type. -/
def tagAt (W : World) (b : Nat) (t : TypeId) : Prop := ∃ cs f, W.heap[b]? = some (.cells cs t f)

/-- The tree T at the pointer p, in blocks below n₀, each of the nodes' type. -/
def IsTree {K V : Type} (ek : K → Value) (ev : V → Value) (st : TypeId) (n₀ : Nat) (W : World) : Option Addr → T K V → Prop
  | p, .nil => p = none
  | p, .node l k v r => ∃ (b : Nat) (pl pr : Option Addr), p = some ⟨b, 0, none⟩ ∧ b < n₀ ∧ W.cell? ⟨b, 0, none⟩ = some (ek k) ∧ W.cell? ⟨b, 1, none⟩ = some (ev v) ∧
      W.cell? ⟨b, 2, none⟩ = some (.pointer pl) ∧ W.cell? ⟨b, 3, none⟩ = some (.pointer pr) ∧ (W.cell? ⟨b, 4, none⟩ = some (.int .i64 (l.size + r.size + 1 : Nat)) ∧ tagAt W b st) ∧
      IsTree ek ev st n₀ W pl l ∧ IsTree ek ev st n₀ W pr r

/-- The tree lies as it lay in a world that has each of its blocks. -/
theorem IsTree.carry {K V : Type} {ek : K → Value} {ev : V → Value} {st : TypeId} {n₀ : Nat} {A B : World} (h : ∀ b, b < n₀ → tagAt A b st → B.heap[b]? = A.heap[b]?) :
    ∀ {p : Option Addr} {t : T K V}, IsTree ek ev st n₀ A p t → IsTree ek ev st n₀ B p t
  | _, .nil, ht => ht
  | _, .node _ _ _ _, ⟨b, pl, pr, hp, hb, h0, h1, h2, h3, h4, hl, hr⟩ =>
    have e := h b hb h4.2
    have c : ∀ o, B.cell? ⟨b, o, none⟩ = A.cell? ⟨b, o, none⟩ := fun _ => World.cell?_of_block (w := A) e
    ⟨b, pl, pr, hp, hb, (c 0).trans h0, (c 1).trans h1, (c 2).trans h2, (c 3).trans h3, ⟨(c 4).trans h4.1, by obtain ⟨cs, f, hh⟩ := h4.2; exact ⟨cs, f, e.trans hh⟩⟩, IsTree.carry h hl, IsTree.carry h hr⟩

theorem IsTree.below {K V : Type} {ek : K → Value} {ev : V → Value} {st : TypeId} {n₀ : Nat} {A B : World} (h : Below n₀ A B) {p : Option Addr} {t : T K V} (ht : IsTree ek ev st n₀ A p t) : IsTree ek ev st n₀ B p t :=
  ht.carry fun b hb _ => h.block b hb

/-- A store into a block of another type. -/
theorem IsTree.setCell {K V : Type} {ek : K → Value} {ev : V → Value} {st : TypeId} {n₀ : Nat} {A : World} {a : Addr} {t' : TypeId} (ha : tagAt A a.block t') (hne : t' ≠ st) (v : Value) {p : Option Addr} {t : T K V} (ht : IsTree ek ev st n₀ A p t) :
    IsTree ek ev st n₀ (A.setCell a v) p t :=
  ht.carry fun b _ htag => Below.heap_setCell A a v b (by
    rintro rfl
    obtain ⟨cs, f, h1⟩ := ha
    obtain ⟨cs', f', h2⟩ := htag
    rw [h1] at h2
    cases h2
    exact hne rfl)

theorem IsTree.mono {K V : Type} {ek : K → Value} {ev : V → Value} {st : TypeId} {n₀ n₁ : Nat} {A : World} (h : n₀ ≤ n₁) : ∀ {p : Option Addr} {t : T K V}, IsTree ek ev st n₀ A p t → IsTree ek ev st n₁ A p t
  | _, .nil, ht => ht
  | _, .node _ _ _ _, ⟨b, pl, pr, hp, hb, h0, h1, h2, h3, h4, hl, hr⟩ => ⟨b, pl, pr, hp, Nat.lt_of_lt_of_le hb h, h0, h1, h2, h3, h4, IsTree.mono h hl, IsTree.mono h hr⟩

/-- A tree in a world, and after a call that adds memory alone. -/
theorem IsTree.later {K V : Type} {ek : K → Value} {ev : V → Value} {st : TypeId} {A B : World} {p : Option Addr} {t : T K V} (h : IsTree ek ev st A.heap.size A p t) (hb : Below A.heap.size A B) : IsTree ek ev st B.heap.size B p t :=
  (h.below hb).mono hb.size

theorem heap_new (w : World) (o : Obj) : (w.alloc o).heap[w.heap.size]? = some o := by
  show (w.heap.push o)[w.heap.size]? = _
  simp

theorem cell_new (w : World) (cs : Array Value) (t : TypeId) (f : Nat × Nat) (i : Nat) (v : Value) (h : cs[i]? = some v) : (w.alloc (.cells cs t f)).cell? ⟨w.heap.size, i, none⟩ = some v := by
  simp only [World.cell?]
  rw [heap_new]
  exact h

theorem tag_new (w : World) (cs : Array Value) (t : TypeId) (f : Nat × Nat) : tagAt (w.alloc (.cells cs t f)) w.heap.size t := ⟨cs, f, heap_new _ _⟩

theorem tagAt.below {n : Nat} {A B : World} {b : Nat} {t : TypeId} (h : tagAt A b t) (hb : Below n A B) (hn : b < n) : tagAt B b t := by
  obtain ⟨cs, f, h⟩ := h
  exact ⟨cs, f, (hb.block b hn).trans h⟩

theorem tagAt.alloc {A : World} {b : Nat} {t : TypeId} (h : tagAt A b t) (o : Obj) : tagAt (A.alloc o) b t := by
  have hh := h
  obtain ⟨cs, f, h⟩ := h
  have hlt : b < A.heap.size := (Array.getElem?_eq_some_iff.1 h).1
  exact hh.below ((Below.refl A.heap.size A).alloc (Nat.le_refl _) o) hlt

theorem tagAt.setCell {A : World} {b : Nat} {t : TypeId} (h : tagAt A b t) (a : Addr) (v : Value) : tagAt (A.setCell a v) b t := by
  obtain ⟨cs, f, h⟩ := h
  by_cases e : b = a.block
  · subst e
    refine ⟨if a.spot.isSome then cs else cs.setIfInBounds a.off v, f, ?_⟩
    simp only [World.setCell, Array.getElem?_modify, h]
    simp
  · exact ⟨cs, f, (Below.heap_setCell A a v b e).trans h⟩

end Go.Proofs.MT
