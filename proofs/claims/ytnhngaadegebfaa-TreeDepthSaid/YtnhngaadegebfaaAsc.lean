/- Lists whose keys ascend, said step by step. -/
import Derived.Test.YtnhngaadegebfaaTreeLaws
namespace Go.Proofs.MT
variable {K V : Type} [KOrd K]

def AscTo (l : List (K × V)) (n : Nat) : Prop := ∀ i x y, i + 1 < n → l[i]? = some x → l[i + 1]? = some y → KOrd.lt x.1 y.1 = true

theorem AscTo.zero (l : List (K × V)) : AscTo l 0 := fun i x y h => by omega
theorem AscTo.one (l : List (K × V)) : AscTo l (0 + 1) := fun i x y h => by omega
theorem AscTo.succ {l : List (K × V)} {i : Nat} {y x : K × V} (h : AscTo l (i + 1)) (hy : l[i]? = some y) (hx : l[i + 1]? = some x) (hk : KOrd.lt y.1 x.1 = true) : AscTo l (i + 1 + 1) := by
  intro j a b hj ha hb
  by_cases e : j = i
  · subst e
    rw [hy] at ha
    rw [hx] at hb
    injection ha with ha
    injection hb with hb
    rw [← ha, ← hb]
    exact hk
  · exact h j a b (by omega) ha hb
theorem AscTo.not {l : List (K × V)} {i : Nat} {y x : K × V} (hy : l[i]? = some y) (hx : l[i + 1]? = some x) (hk : KOrd.lt y.1 x.1 = false) : ¬ AscTo l l.length := by
  intro h
  have hlt : i + 1 < l.length := by
    rcases Nat.lt_or_ge (i + 1) l.length with h | h
    · exact h
    · rw [List.getElem?_eq_none h] at hx
      cases hx
  rw [h i y x hlt hy hx] at hk
  cases hk

theorem AscTo.sorted : ∀ {l : List (K × V)}, AscTo l l.length → Sorted l
  | [], _ => List.Pairwise.nil
  | [_], _ => by simp [Sorted]
  | a :: b :: l, h => by
    have h' : AscTo (b :: l) (b :: l).length := fun i x y hi hx hy => h (i + 1) x y (by simp at hi ⊢; omega) hx hy
    have hs := AscTo.sorted h'
    refine List.Pairwise.cons ?_ hs
    have hab : KOrd.lt a.1 b.1 = true := h 0 a b (by simp) rfl rfl
    intro q hq
    rcases List.mem_cons.1 hq with rfl | hq
    · exact hab
    · exact KOrd.trans hab ((List.pairwise_cons.1 hs).1 q hq)
theorem Sorted.ascTo {l : List (K × V)} (h : Sorted l) (n : Nat) : AscTo l n := by
  intro i x y _ hx hy
  obtain ⟨h1, e1⟩ := List.getElem?_eq_some_iff.1 hx
  obtain ⟨h2, e2⟩ := List.getElem?_eq_some_iff.1 hy
  have := List.pairwise_iff_getElem.1 h i (i + 1) h1 h2 (by omega)
  rw [e1, e2] at this
  exact this
end Go.Proofs.MT
