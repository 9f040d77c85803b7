/- A row of pairs in memory, two cells each, that is read. -/
import Derived.WalkKit
import Derived.Laws.AppendOwn
namespace Go.Proofs.MT
open Go.RowKit

def Row2 {K V : Type} (ek : K → Value) (ev : V → Value) (n₀ : Nat) (W : World) (A : Option Addr) (l : List (K × V)) : Prop :=
  l = [] ∨ ∃ b o, A = some ⟨b, o, none⟩ ∧ b < n₀ ∧ ∀ i x, l[i]? = some x → W.cell? ⟨b, o + i * 2, none⟩ = some (ek x.1) ∧ W.cell? ⟨b, o + i * 2 + 1, none⟩ = some (ev x.2)

theorem Row2.below {K V : Type} {ek : K → Value} {ev : V → Value} {n₀ : Nat} {W W' : World} {A : Option Addr} {l : List (K × V)} (h : Row2 ek ev n₀ W A l) (hb : Below n₀ W W') : Row2 ek ev n₀ W' A l := by
  rcases h with h | ⟨b, o, hA, hlt, hc⟩
  · exact .inl h
  · exact .inr ⟨b, o, hA, hlt, fun i x hx => ⟨(hb.cell (p := ⟨b, _, none⟩) hlt).trans (hc i x hx).1, (hb.cell (p := ⟨b, _, none⟩) hlt).trans (hc i x hx).2⟩⟩
theorem Row2.mono {K V : Type} {ek : K → Value} {ev : V → Value} {n₀ n₁ : Nat} {W : World} {A : Option Addr} {l : List (K × V)} (h : Row2 ek ev n₀ W A l) (hn : n₀ ≤ n₁) : Row2 ek ev n₁ W A l := by
  rcases h with h | ⟨b, o, hA, hlt, hc⟩
  · exact .inl h
  · exact .inr ⟨b, o, hA, Nat.lt_of_lt_of_le hlt hn, hc⟩
theorem Row2.later {K V : Type} {ek : K → Value} {ev : V → Value} {W W' : World} {A : Option Addr} {l : List (K × V)} (h : Row2 ek ev W.heap.size W A l) (hb : Below W.heap.size W W') : Row2 ek ev W'.heap.size W' A l :=
  (h.below hb).mono hb.size
theorem Row2.take {K V : Type} {ek : K → Value} {ev : V → Value} {n₀ : Nat} {W : World} {A : Option Addr} {l : List (K × V)} (h : Row2 ek ev n₀ W A l) (m : Nat) : Row2 ek ev n₀ W A (l.take m) := by
  rcases h with h | ⟨b, o, hA, hlt, hc⟩
  · exact .inl (by rw [h]; simp)
  · refine .inr ⟨b, o, hA, hlt, fun i x hx => hc i x ?_⟩
    rw [List.getElem?_take] at hx
    split at hx
    · exact hx
    · cases hx
theorem Row2.drop {K V : Type} {ek : K → Value} {ev : V → Value} {n₀ : Nat} {W : World} {b o : Nat} {l : List (K × V)} (hlt : b < n₀)
    (hc : ∀ i x, l[i]? = some x → W.cell? ⟨b, o + i * 2, none⟩ = some (ek x.1) ∧ W.cell? ⟨b, o + i * 2 + 1, none⟩ = some (ev x.2)) (m : Nat) : Row2 ek ev n₀ W (some ⟨b, o + m * 2, none⟩) (l.drop m) := by
  refine .inr ⟨b, o + m * 2, rfl, hlt, fun i x hx => ?_⟩
  rw [List.getElem?_drop] at hx
  have := hc (m + i) x hx
  rw [show o + m * 2 + i * 2 = o + (m + i) * 2 from by omega]
  exact this

end Go.Proofs.MT
