/- Calls upon maps in their boxes. (TreeRanges and TreeSets hold the same words: not to be imported beside them.) -/
import Derived.Test.YtnhngaadegebfaaTreePlays
import Derived.Test.YtnhngaadegebfaaList
namespace Go.Proofs.MT.II
open Go.RowKit
set_option linter.unusedVariables false

section
variable {n₀ : Nat} {W y : World} {b : Nat} {p : Option Addr} {t : T Int Int}
theorem MBox.len (m : MBox n₀ W b p t) (hy : Below W.heap.size W y) : Calls Try.prog 17 #[.agg #[.pointer p]] y fun e z => e = .returned (.int .i64 t.size) ∧ Below W.heap.size W z :=
  (Len_any t p y (m.below hy).tree).mono fun _ _ ⟨h1, h2⟩ => ⟨h1, hy.trans (h2.mono hy.size)⟩
theorem MBox.list (m : MBox n₀ W b p t) (hz : t.size ≤ 1000000) (hy : Below W.heap.size W y) : Calls Try.prog 40 #[.agg #[.pointer p]] y fun e z => ∃ A c, e = .returned (.slice A t.toList.length c) ∧ t.toList.length ≤ c ∧ Row2 ek ev z.heap.size z A t.toList ∧ Below W.heap.size W z :=
  (list_any t p y (m.below hy).tree hz).mono fun _ _ ⟨A, c, h1, h2, h3, h4⟩ => ⟨A, c, h1, h2, h3, hy.trans (h4.mono hy.size)⟩
theorem MBox.same {A : Option Addr} {c : Nat} {l : List (Int × Int)} (m : MBox n₀ W b p t) (hz : t.size ≤ 1000000) (hl : t.toList = l) (hc : l.length ≤ c) (hr : Row2 ek ev y.heap.size y A l) (hy : Below W.heap.size W y) : Calls Try.prog 19 #[.agg #[.pointer p], .slice A l.length c] y fun e z => e = .returned (.bool true) ∧ Below W.heap.size W z :=
  (same_any t p l A c y (m.below hy).tree (by omega) hr hc (by rw [← hl, T.length_toList]; omega)).mono fun _ _ ⟨h1, h2⟩ => ⟨by rw [h1, decide_eq_true hl], hy.trans (h2.mono hy.size)⟩
theorem len_none (hy : Below W.heap.size W y) : Calls Try.prog 17 #[.agg #[.pointer none]] y fun e z => e = .returned (.int .i64 0) ∧ Below W.heap.size W z :=
  (Len_any .nil none y rfl).mono fun _ _ ⟨h1, h2⟩ => ⟨h1, hy.trans (h2.mono hy.size)⟩
theorem alive_in (hy : Below W.heap.size W y) : Calls Try.prog 13 #[] y fun e z => e = .returned (.bool true) ∧ Below W.heap.size W z :=
  (IS.alive_any y).mono fun _ _ ⟨h1, h2⟩ => ⟨h1, hy.trans (h2.mono hy.size)⟩
end

section
variable {n₀ : Nat} {W y : World} {b : Nat} {p : Option Addr} {t : T Int Int}
theorem MBox.list2 (m : MBox n₀ W b p t) (hz : t.size ≤ 1000000) (hy : Below W.heap.size W y) : Calls Try.prog 40 #[.agg #[.pointer p]] y fun e z => ∃ A c, e = .returned (.slice A t.toList.length c) ∧ t.toList.length ≤ c ∧ Row2 ek ev z.heap.size z A t.toList ∧ Below y.heap.size y z ∧ Below W.heap.size W z :=
  (list_any t p y (m.below hy).tree hz).mono fun _ _ ⟨A, c, h1, h2, h3, h4⟩ => ⟨A, c, h1, h2, h3, h4, hy.trans (h4.mono hy.size)⟩
theorem same_tree {A : Option Addr} {c : Nat} {l : List (Int × Int)} (h : Tr y.heap.size y p t) (hz : t.size ≤ 1000000) (hl : t.toList = l) (hc : l.length ≤ c) (hr : Row2 ek ev y.heap.size y A l) (hy : Below W.heap.size W y) : Calls Try.prog 19 #[.agg #[.pointer p], .slice A l.length c] y fun e z => e = .returned (.bool true) ∧ Below W.heap.size W z :=
  (same_any t p l A c y h (by omega) hr hc (by rw [← hl, T.length_toList]; omega)).mono fun _ _ ⟨h1, h2⟩ => ⟨by rw [h1, decide_eq_true hl], hy.trans (h2.mono hy.size)⟩
theorem len_tree (h : Tr y.heap.size y p t) (hy : Below W.heap.size W y) : Calls Try.prog 17 #[.agg #[.pointer p]] y fun e z => e = .returned (.int .i64 t.size) ∧ Below W.heap.size W z :=
  (Len_any t p y h).mono fun _ _ ⟨h1, h2⟩ => ⟨h1, hy.trans (h2.mono hy.size)⟩
theorem MBox.lenN {N : Nat} (m : MBox n₀ W b p t) (hN : t.size = N) (hy : Below W.heap.size W y) : Calls Try.prog 17 #[.agg #[.pointer p]] y fun e z => e = .returned (.int .i64 N) ∧ Below W.heap.size W z := by
  subst hN; exact m.len hy
end

end Go.Proofs.MT.II
