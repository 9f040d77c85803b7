/- A row of pairs that is the law's own, from a place on as it was made. -/
import Derived.Test.YtnhngaadegebfaaSame
namespace Go.Proofs.MT.II
open Go.RowKit

/-- From pair number j on, the row holds the list's pairs; it may be stored into. -/
def Mine (n₀ : Nat) (W : World) (P : Option Addr) (l : List (Int × Int)) (j : Nat) : Prop :=
  l = [] ∨ ∃ g, P = some ⟨g, 0, none⟩ ∧ n₀ ≤ g ∧ g < W.heap.size ∧ tagAt W g 36 ∧ (∀ k, W.frozen? ⟨g, k, none⟩ = false) ∧
    ∀ i x, j ≤ i → l[i]? = some x → W.cell? ⟨g, i * 2, none⟩ = some (ek x.1) ∧ W.cell? ⟨g, i * 2 + 1, none⟩ = some (ev x.2)

theorem Mine.of {W : World} {base : Nat} {v : Value} {l : List (Int × Int)} (h : W.ownsRow base 36 2 v l.length (flat l)) :
    ∃ A c, v = .slice A l.length c ∧ l.length ≤ c ∧ c ≤ maxLen ∧ Row2 ek ev W.heap.size W A l ∧ Mine base W A l 0 := by
  obtain ⟨A, c, rfl, h1, h2, h3⟩ := own_row2 h
  refine ⟨A, c, rfl, h1, h2, h3, ?_⟩
  obtain ⟨_, ⟨e, h0⟩ | ⟨g, cap, cur, e, hg, hh, hn, hm, hs, ht⟩⟩ := h
  · exact .inl (List.eq_nil_of_length_eq_zero h0)
  · injection e with e1 e2 e3
    subst e1
    rcases h3 with h3 | ⟨b, o, e4, hlt, hc⟩
    · exact .inl h3
    · injection e4 with e4
      injection e4 with e5 e6
      subst e5 e6
      exact .inr ⟨g, rfl, hg, hlt, ⟨_, _, hh⟩, fun k => by simp [World.frozen?, hh], fun i x _ hx => by simpa using hc i x hx⟩

theorem Mine.mono {n₀ : Nat} {W : World} {P : Option Addr} {l : List (Int × Int)} {j j' : Nat} (h : Mine n₀ W P l j) (hj : j ≤ j') : Mine n₀ W P l j' := by
  rcases h with h | ⟨g, h1, h2, h3, h4, h5, h6⟩
  · exact .inl h
  · exact .inr ⟨g, h1, h2, h3, h4, h5, fun i x hi hx => h6 i x (by omega) hx⟩

theorem Mine.below {n₀ : Nat} {W W' : World} {P : Option Addr} {l : List (Int × Int)} {j : Nat} (h : Mine n₀ W P l j) (hb : Below W.heap.size W W') : Mine n₀ W' P l j := by
  obtain ⟨hc, hf⟩ := bcell hb
  rcases h with h | ⟨g, h1, h2, h3, h4, h5, h6⟩
  · exact .inl h
  · exact .inr ⟨g, h1, h2, Nat.lt_of_lt_of_le h3 hb.size, h4.below hb h3, fun k => (hf g k h3).trans (h5 k), fun i x hi hx => ⟨(hc g _ h3).trans (h6 i x hi hx).1, (hc g _ h3).trans (h6 i x hi hx).2⟩⟩

/-- A store into an earlier pair, or into this one. -/
theorem Mine.set {n₀ : Nat} {W : World} {g : Nat} {l : List (Int × Int)} {j o : Nat} (h : Mine n₀ W (some ⟨g, 0, none⟩) l j) (ho : o < (j + 1) * 2) (v : Value) : Mine n₀ (W.setCell ⟨g, o, none⟩ v) (some ⟨g, 0, none⟩) l (j + 1) := by
  rcases h with h | ⟨g', h1, h2, h3, h4, h5, h6⟩
  · exact .inl h
  · injection h1 with h1
    injection h1 with h1
    subst h1
    refine .inr ⟨g, rfl, h2, by rw [size_set]; exact h3, h4.setCell _ _, fun k => by rw [World.frozen?_setCell]; exact h5 k, fun i x hi hx => ?_⟩
    have far : ∀ q, o ≠ q → (W.setCell ⟨g, o, none⟩ v).cell? ⟨g, q, none⟩ = W.cell? ⟨g, q, none⟩ := fun q hq => World.cell?_setCell_other (h := by intro e; injection e with _ e; exact hq e) ..
    rw [far _ (by omega), far _ (by omega)]
    exact h6 i x (by omega) hx
end Go.Proofs.MT.II
