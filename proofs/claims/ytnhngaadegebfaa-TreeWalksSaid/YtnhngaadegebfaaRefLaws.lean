/- What the reference's functions on lists compute, said by filters and by membership. -/
import Derived.Test.YtnhngaadegebfaaQx2
import Derived.Test.YtnhngaadegebfaaQx3
import Derived.Test.YtnhngaadegebfaaRef
namespace Go.Proofs.MT.II
open Go.RowKit Go.Proofs.Ytnhngaadegebfaa.Q Go.Proofs.YtnhngaadegebfaaW.PrintWords
set_option linter.unusedSimpArgs false

theorem drop_cons {l : List (Int × Int)} {i : Nat} (h : i < l.length) : l.drop i = l[i] :: l.drop (i + 1) := List.drop_eq_getElem_cons h

theorem Delete_round (l : List (Int × Int)) (hl : l.length ≤ 1099511627776) (K : Int) (d : Nat) : ∀ (k i : Nat) (r : List (Int × Int)), i ≤ l.length → l.length - i = d → d < k → r.length ≤ i →
    merinoref02_Delete.l0 k (l.map toS) K (r.map toS) i = some ((r ++ (l.drop i).filter fun p => decide (p.1 ≠ K)).map toS) := by
  induction d with
  | zero =>
    intro k i r h1 h2 h3 h4
    obtain ⟨k, rfl⟩ : ∃ m, k = m + 1 := ⟨k - 1, by omega⟩
    obtain rfl : i = l.length := by omega
    simp only [merinoref02_Delete.l0]
    rw [if_neg (by simp)]
    simp
  | succ d ih =>
    intro k i r h1 h2 h3 h4
    obtain ⟨k, rfl⟩ : ∃ m, k = m + 1 := ⟨k - 1, by omega⟩
    have hi : i < l.length := by omega
    have hx : l[i]? = some l[i] := List.getElem?_eq_getElem hi
    have h5 : (r.map toS).length < 8796093022208 := by simp; omega
    have snoc : (r.map toS) ++ [(⟨(toS l[i]).f0, (toS l[i]).f1⟩ : S38)] = (r ++ [l[i]]).map toS := by simp [toS]
    have ih1 := ih k (i + 1) (r ++ [l[i]]) (by omega) (by omega) (by omega) (by simp; omega)
    have ih2 := ih k (i + 1) r (by omega) (by omega) (by omega) (by omega)
    simp only [merinoref02_Delete.l0]
    rw [if_pos (by simp; omega), if_pos (by omega), wrap_up (by omega) (by omega), rd_S hx, drop_cons hi]
    simp only [h5, if_true, snoc]
    rw [show ((i : Int) + 1) = ((i + 1 : Nat) : Int) from by push_cast; rfl, ih1, ih2]
    simp only [toS, List.filter_cons]
    by_cases h : l[i].1 = K
    · simp [h]
    · simp [h]

theorem Delete_f (l : List (Int × Int)) (hl : l.length ≤ 1099511627776) (K : Int) : merinoref02_Delete.f (l.length + 1) (l.map toS) K = some ((l.filter fun p => decide (p.1 ≠ K)).map toS) :=
  Delete_round l hl K l.length (l.length + 1) 0 [] (by omega) (by omega) (by omega) (by simp)

theorem Below_round (l : List (Int × Int)) (hl : l.length ≤ 1099511627776) (K : Int) (d : Nat) : ∀ (k i : Nat) (r : List (Int × Int)), i ≤ l.length → l.length - i = d → d < k → r.length ≤ i →
    merinoref02_Below.l0 k (l.map toS) K (r.map toS) i = some ((r ++ (l.drop i).filter fun p => decide (p.1 < K)).map toS) := by
  induction d with
  | zero =>
    intro k i r h1 h2 h3 h4
    obtain ⟨k, rfl⟩ : ∃ m, k = m + 1 := ⟨k - 1, by omega⟩
    obtain rfl : i = l.length := by omega
    simp only [merinoref02_Below.l0]
    rw [if_neg (by simp)]
    simp
  | succ d ih =>
    intro k i r h1 h2 h3 h4
    obtain ⟨k, rfl⟩ : ∃ m, k = m + 1 := ⟨k - 1, by omega⟩
    have hi : i < l.length := by omega
    have hx : l[i]? = some l[i] := List.getElem?_eq_getElem hi
    have h5 : (r.map toS).length < 8796093022208 := by simp; omega
    have snoc : (r.map toS) ++ [(⟨(toS l[i]).f0, (toS l[i]).f1⟩ : S38)] = (r ++ [l[i]]).map toS := by simp [toS]
    have ih1 := ih k (i + 1) (r ++ [l[i]]) (by omega) (by omega) (by omega) (by simp; omega)
    have ih2 := ih k (i + 1) r (by omega) (by omega) (by omega) (by omega)
    simp only [merinoref02_Below.l0]
    rw [if_pos (by simp; omega), if_pos (by omega), wrap_up (by omega) (by omega), rd_S hx, drop_cons hi]
    simp only [h5, if_true, snoc]
    rw [show ((i : Int) + 1) = ((i + 1 : Nat) : Int) from by push_cast; rfl, ih1, ih2]
    simp only [toS, List.filter_cons]
    by_cases h : l[i].1 < K
    · simp [h]
    · simp [h]

theorem Below_f (l : List (Int × Int)) (hl : l.length ≤ 1099511627776) (K : Int) : merinoref02_Below.f (l.length + 1) (l.map toS) K = some ((l.filter fun p => decide (p.1 < K)).map toS) :=
  Below_round l hl K l.length (l.length + 1) 0 [] (by omega) (by omega) (by omega) (by simp)

theorem Above_round (l : List (Int × Int)) (hl : l.length ≤ 1099511627776) (K : Int) (d : Nat) : ∀ (k i : Nat) (r : List (Int × Int)), i ≤ l.length → l.length - i = d → d < k → r.length ≤ i →
    merinoref02_Above.l0 k (l.map toS) K (r.map toS) i = some ((r ++ (l.drop i).filter fun p => decide (K < p.1)).map toS) := by
  induction d with
  | zero =>
    intro k i r h1 h2 h3 h4
    obtain ⟨k, rfl⟩ : ∃ m, k = m + 1 := ⟨k - 1, by omega⟩
    obtain rfl : i = l.length := by omega
    simp only [merinoref02_Above.l0]
    rw [if_neg (by simp)]
    simp
  | succ d ih =>
    intro k i r h1 h2 h3 h4
    obtain ⟨k, rfl⟩ : ∃ m, k = m + 1 := ⟨k - 1, by omega⟩
    have hi : i < l.length := by omega
    have hx : l[i]? = some l[i] := List.getElem?_eq_getElem hi
    have h5 : (r.map toS).length < 8796093022208 := by simp; omega
    have snoc : (r.map toS) ++ [(⟨(toS l[i]).f0, (toS l[i]).f1⟩ : S38)] = (r ++ [l[i]]).map toS := by simp [toS]
    have ih1 := ih k (i + 1) (r ++ [l[i]]) (by omega) (by omega) (by omega) (by simp; omega)
    have ih2 := ih k (i + 1) r (by omega) (by omega) (by omega) (by omega)
    simp only [merinoref02_Above.l0]
    rw [if_pos (by simp; omega), if_pos (by omega), wrap_up (by omega) (by omega), rd_S hx, drop_cons hi]
    simp only [h5, if_true, snoc]
    rw [show ((i : Int) + 1) = ((i + 1 : Nat) : Int) from by push_cast; rfl, ih1, ih2]
    simp only [toS, List.filter_cons]
    by_cases h : K < l[i].1
    · simp [h]
    · simp [h]

theorem Above_f (l : List (Int × Int)) (hl : l.length ≤ 1099511627776) (K : Int) : merinoref02_Above.f (l.length + 1) (l.map toS) K = some ((l.filter fun p => decide (K < p.1)).map toS) :=
  Above_round l hl K l.length (l.length + 1) 0 [] (by omega) (by omega) (by omega) (by simp)

theorem Range_round (l : List (Int × Int)) (hl : l.length ≤ 1099511627776) (K E : Int) (d : Nat) : ∀ (k i : Nat) (r : List (Int × Int)), i ≤ l.length → l.length - i = d → d < k → r.length ≤ i →
    merinoref02_Range.l0 k (l.map toS) K E (r.map toS) i = some ((r ++ (l.drop i).filter fun p => decide (K ≤ p.1) && decide (p.1 < E)).map toS) := by
  induction d with
  | zero =>
    intro k i r h1 h2 h3 h4
    obtain ⟨k, rfl⟩ : ∃ m, k = m + 1 := ⟨k - 1, by omega⟩
    obtain rfl : i = l.length := by omega
    simp only [merinoref02_Range.l0]
    rw [if_neg (by simp)]
    simp
  | succ d ih =>
    intro k i r h1 h2 h3 h4
    obtain ⟨k, rfl⟩ : ∃ m, k = m + 1 := ⟨k - 1, by omega⟩
    have hi : i < l.length := by omega
    have hx : l[i]? = some l[i] := List.getElem?_eq_getElem hi
    have h5 : (r.map toS).length < 8796093022208 := by simp; omega
    have snoc : (r.map toS) ++ [(⟨(toS l[i]).f0, (toS l[i]).f1⟩ : S38)] = (r ++ [l[i]]).map toS := by simp [toS]
    have ih1 := ih k (i + 1) (r ++ [l[i]]) (by omega) (by omega) (by omega) (by simp; omega)
    have ih2 := ih k (i + 1) r (by omega) (by omega) (by omega) (by omega)
    simp only [merinoref02_Range.l0]
    rw [if_pos (by simp; omega), if_pos (by omega), wrap_up (by omega) (by omega), rd_S hx, drop_cons hi]
    simp only [h5, if_true, snoc]
    rw [show ((i : Int) + 1) = ((i + 1 : Nat) : Int) from by push_cast; rfl, ih1, ih2]
    simp only [toS, List.filter_cons]
    by_cases h : K ≤ l[i].1
    · by_cases h2 : l[i].1 < E
      · simp [h, h2]
      · simp [h, h2]
    · simp [h]

theorem Range_f (l : List (Int × Int)) (hl : l.length ≤ 1099511627776) (K E : Int) : merinoref02_Range.f (l.length + 1) (l.map toS) K E = some ((l.filter fun p => decide (K ≤ p.1) && decide (p.1 < E)).map toS) :=
  Range_round l hl K E l.length (l.length + 1) 0 [] (by omega) (by omega) (by omega) (by simp)

theorem Find_round (l : List (Int × Int)) (hl : l.length ≤ 1099511627776) (K : Int) (d : Nat) : ∀ (k i : Nat), i ≤ l.length → l.length - i = d → d < k →
    ∃ r : Int, merinoref02_Find.l0 k (l.map toS) K i = some r ∧ -1 ≤ r ∧ (0 ≤ r → ∃ x, l[r.toNat]? = some x ∧ x.1 = K ∧ r < l.length) ∧ (r < 0 → ∀ p ∈ l.drop i, p.1 ≠ K) := by
  induction d with
  | zero =>
    intro k i h1 h2 h3
    obtain ⟨k, rfl⟩ : ∃ m, k = m + 1 := ⟨k - 1, by omega⟩
    obtain rfl : i = l.length := by omega
    refine ⟨-1, ?_, by omega, by omega, fun _ => by simp⟩
    simp only [merinoref02_Find.l0]
    rw [if_neg (by simp)]
  | succ d ih =>
    intro k i h1 h2 h3
    obtain ⟨k, rfl⟩ : ∃ m, k = m + 1 := ⟨k - 1, by omega⟩
    have hi : i < l.length := by omega
    have hx : l[i]? = some l[i] := List.getElem?_eq_getElem hi
    simp only [merinoref02_Find.l0]
    rw [if_pos (by simp; omega), if_pos (by omega), wrap_up (by omega) (by omega), rd_S hx]
    by_cases h : l[i].1 = K
    · refine ⟨i, by simp [toS, h], by omega, fun _ => ⟨l[i], by simp, h, by omega⟩, fun h' => by omega⟩
    · obtain ⟨r, g1, g2, g3, g4⟩ := ih k (i + 1) (by omega) (by omega) (by omega)
      refine ⟨r, ?_, g2, g3, fun hr p hp => ?_⟩
      · rw [show ((i : Int) + 1) = ((i + 1 : Nat) : Int) from by push_cast; rfl, g1]
        simp [toS, h]
      · rw [drop_cons hi] at hp
        rcases List.mem_cons.1 hp with rfl | hp
        · exact h
        · exact g4 hr p hp
theorem Find_f (l : List (Int × Int)) (hl : l.length ≤ 1099511627776) (K : Int) (k : Nat) (hk : l.length < k) :
    ∃ r : Int, merinoref02_Find.f k (l.map toS) K = some r ∧ -1 ≤ r ∧ (0 ≤ r → ∃ x, l[r.toNat]? = some x ∧ x.1 = K ∧ r < l.length) ∧ (r < 0 → ∀ p ∈ l, p.1 ≠ K) :=
  Find_round l hl K l.length k 0 (by omega) (by omega) hk

def has (l : List (Int × Int)) (K : Int) : Bool := l.any fun q => decide (q.1 = K)
theorem has_iff (l : List (Int × Int)) (K : Int) : has l K = true ↔ ∃ q ∈ l, q.1 = K := by simp [has]
theorem Find_has (l : List (Int × Int)) (hl : l.length ≤ 1099511627776) (K : Int) (k : Nat) (hk : l.length < k) : ∃ r : Int, merinoref02_Find.f k (l.map toS) K = some r ∧ (0 ≤ r ↔ has l K = true) := by
  obtain ⟨r, h1, h2, h3, h4⟩ := Find_f l hl K k hk
  refine ⟨r, h1, ?_⟩
  rw [has_iff]
  constructor
  · intro h
    obtain ⟨x, hx, hK, _⟩ := h3 h
    exact ⟨x, List.mem_of_getElem? hx, hK⟩
  · rintro ⟨q, hq, hK⟩
    rcases Int.lt_or_le r 0 with h | h
    · exact absurd hK (h4 h q hq)
    · exact h

theorem Intersect_round (l m : List (Int × Int)) (hl : l.length ≤ 1099511627776) (hm : m.length ≤ 1099511627776) (d : Nat) : ∀ (k i : Nat) (r : List (Int × Int)), i ≤ l.length → l.length - i = d → d + m.length + 1 < k → r.length ≤ i →
    merinoref02_Intersect.l0 k (m.map toS) (l.map toS) (r.map toS) i = some ((r ++ (l.drop i).filter fun p => has m p.1).map toS) := by
  induction d with
  | zero =>
    intro k i r h1 h2 h3 h4
    obtain ⟨k, rfl⟩ : ∃ m, k = m + 1 := ⟨k - 1, by omega⟩
    obtain rfl : i = l.length := by omega
    simp only [merinoref02_Intersect.l0]
    rw [if_neg (by simp)]
    simp
  | succ d ih =>
    intro k i r h1 h2 h3 h4
    obtain ⟨k, rfl⟩ : ∃ m, k = m + 1 := ⟨k - 1, by omega⟩
    have hi : i < l.length := by omega
    have hx : l[i]? = some l[i] := List.getElem?_eq_getElem hi
    have h5 : (r.map toS).length < 8796093022208 := by simp; omega
    have snoc : (r.map toS) ++ [(⟨(toS l[i]).f0, (toS l[i]).f1⟩ : S38)] = (r ++ [l[i]]).map toS := by simp [toS]
    have ih1 := ih k (i + 1) (r ++ [l[i]]) (by omega) (by omega) (by omega) (by simp; omega)
    have ih2 := ih k (i + 1) r (by omega) (by omega) (by omega) (by omega)
    obtain ⟨t, ht, hiff⟩ := Find_has m hm l[i].1 k (by omega)
    simp only [merinoref02_Intersect.l0]
    rw [if_pos (by simp; omega), if_pos (by omega), wrap_up (by omega) (by omega), rd_S hx, drop_cons hi]
    rw [show (toS l[i]).f0 = l[i].1 from rfl, ht, Option.bind_some]
    rw [show l[i].1 = (toS l[i]).f0 from rfl]
    simp only [h5, if_true, snoc]
    rw [show ((i : Int) + 1) = ((i + 1 : Nat) : Int) from by push_cast; rfl, ih1, ih2]
    simp only [toS, List.filter_cons]
    by_cases h : 0 ≤ t
    · rw [if_pos (by omega), hiff.1 h]
      simp
    · have hf : has m l[i].1 = false := by simpa using fun h' => h (hiff.2 h')
      rw [if_neg (by omega), hf]
      simp

theorem Subtract_round (l m : List (Int × Int)) (hl : l.length ≤ 1099511627776) (hm : m.length ≤ 1099511627776) (d : Nat) : ∀ (k i : Nat) (r : List (Int × Int)), i ≤ l.length → l.length - i = d → d + m.length + 1 < k → r.length ≤ i →
    merinoref02_Subtract.l0 k (l.map toS) (m.map toS) (r.map toS) i = some ((r ++ (l.drop i).filter fun p => !has m p.1).map toS) := by
  induction d with
  | zero =>
    intro k i r h1 h2 h3 h4
    obtain ⟨k, rfl⟩ : ∃ m, k = m + 1 := ⟨k - 1, by omega⟩
    obtain rfl : i = l.length := by omega
    simp only [merinoref02_Subtract.l0]
    rw [if_neg (by simp)]
    simp
  | succ d ih =>
    intro k i r h1 h2 h3 h4
    obtain ⟨k, rfl⟩ : ∃ m, k = m + 1 := ⟨k - 1, by omega⟩
    have hi : i < l.length := by omega
    have hx : l[i]? = some l[i] := List.getElem?_eq_getElem hi
    have h5 : (r.map toS).length < 8796093022208 := by simp; omega
    have snoc : (r.map toS) ++ [(⟨(toS l[i]).f0, (toS l[i]).f1⟩ : S38)] = (r ++ [l[i]]).map toS := by simp [toS]
    have ih1 := ih k (i + 1) (r ++ [l[i]]) (by omega) (by omega) (by omega) (by simp; omega)
    have ih2 := ih k (i + 1) r (by omega) (by omega) (by omega) (by omega)
    obtain ⟨t, ht, hiff⟩ := Find_has m hm l[i].1 k (by omega)
    simp only [merinoref02_Subtract.l0]
    rw [if_pos (by simp; omega), if_pos (by omega), wrap_up (by omega) (by omega), rd_S hx, drop_cons hi]
    rw [show (toS l[i]).f0 = l[i].1 from rfl, ht, Option.bind_some]
    rw [show l[i].1 = (toS l[i]).f0 from rfl]
    simp only [h5, if_true, snoc]
    rw [show ((i : Int) + 1) = ((i + 1 : Nat) : Int) from by push_cast; rfl, ih1, ih2]
    simp only [toS, List.filter_cons]
    by_cases h : 0 ≤ t
    · rw [if_neg (by omega), hiff.1 h]
      simp
    · have hf : has m l[i].1 = false := by simpa using fun h' => h (hiff.2 h')
      rw [if_pos (by omega), hf]
      simp

theorem Intersect_f (a b : List (Int × Int)) (ha : a.length ≤ 1099511627776) (hb : b.length ≤ 1099511627776) : merinoref02_Intersect.f (b.length + a.length + 2) (a.map toS) (b.map toS) = some ((b.filter fun p => has a p.1).map toS) :=
  Intersect_round b a hb ha b.length _ 0 [] (by omega) (by omega) (by omega) (by simp)
theorem Subtract_f (a b : List (Int × Int)) (ha : a.length ≤ 1099511627776) (hb : b.length ≤ 1099511627776) : merinoref02_Subtract.f (a.length + b.length + 2) (a.map toS) (b.map toS) = some ((a.filter fun p => !has b p.1).map toS) :=
  Subtract_round a b ha hb a.length _ 0 [] (by omega) (by omega) (by omega) (by simp)

/-- Put, as the reference does it: 'true': it is in. -/
def putL (K X : Int) : Bool → List (Int × Int) → List (Int × Int)
  | false, [] => [(K, X)]
  | true, [] => []
  | b, y :: ys => (if !b && decide (K ≤ y.1) then [(K, X)] else []) ++ ((if y.1 = K then [] else [y]) ++ putL K X (b || decide (K ≤ y.1)) ys)

theorem putL_true (K X : Int) (l : List (Int × Int)) : putL K X true l = l.filter fun p => decide (p.1 ≠ K) := by
  induction l with
  | nil => rfl
  | cons y ys ih =>
    rw [putL, Bool.true_or, ih, List.filter_cons]
    by_cases h : y.1 = K <;> simp [h]
theorem mem_putL (K X : Int) (l : List (Int × Int)) (p : Int × Int) : p ∈ putL K X false l ↔ p = (K, X) ∨ p ∈ l ∧ p.1 ≠ K := by
  induction l with
  | nil => simp [putL]
  | cons y ys ih =>
    rw [putL]
    by_cases h : K ≤ y.1
    · rw [show (false || decide (K ≤ y.1)) = true from by simp [h], putL_true]
      by_cases h2 : y.1 = K
      · simp [h, h2]
        constructor
        · rintro (h3 | h3)
          · exact .inl h3
          · exact .inr ⟨.inr h3.1, h3.2⟩
        · rintro (h3 | ⟨rfl | h3, h4⟩)
          · exact .inl h3
          · exact absurd h2 h4
          · exact .inr ⟨h3, h4⟩
      · simp [h, h2]
        constructor
        · rintro (h3 | rfl | h3)
          · exact .inl h3
          · exact .inr ⟨.inl rfl, h2⟩
          · exact .inr ⟨.inr h3.1, h3.2⟩
        · rintro (h3 | ⟨rfl | h3, h4⟩)
          · exact .inl h3
          · exact .inr (.inl rfl)
          · exact .inr (.inr ⟨h3, h4⟩)
    · rw [show (false || decide (K ≤ y.1)) = false from by simp [h]]
      have h2 : ¬ y.1 = K := by omega
      simp [h, h2, ih]
      constructor
      · rintro (rfl | h3 | h3)
        · exact .inr ⟨.inl rfl, h2⟩
        · exact .inl h3
        · exact .inr ⟨.inr h3.1, h3.2⟩
      · rintro (h3 | ⟨rfl | h3, h4⟩)
        · exact .inr (.inl h3)
        · exact .inl rfl
        · exact .inr (.inr ⟨h3, h4⟩)
theorem putL_sorted (K X : Int) (l : List (Int × Int)) (h : Sorted l) : Sorted (putL K X false l) := by
  induction l with
  | nil => simp [putL, Sorted]
  | cons y ys ih =>
    have hy := (List.pairwise_cons.1 h).1
    have hys := (List.pairwise_cons.1 h).2
    rw [putL]
    by_cases hk : K ≤ y.1
    · rw [show (false || decide (K ≤ y.1)) = true from by simp [hk], putL_true]
      have hf : Sorted (ys.filter fun p => decide (p.1 ≠ K)) := List.Pairwise.filter _ hys
      by_cases h2 : y.1 = K
      · simp [hk, h2]
        refine List.Pairwise.cons (fun q hq => ?_) (by simpa [Sorted] using hf)
        have := hy q (List.mem_filter.1 hq).1
        simp at this ⊢
        omega
      · simp [hk, h2]
        refine List.Pairwise.cons (fun q hq => ?_) (List.Pairwise.cons (fun q hq => hy q (List.mem_filter.1 hq).1) (by simpa [Sorted] using hf))
        rcases List.mem_cons.1 hq with rfl | hq
        · simp; omega
        · have := hy q (List.mem_filter.1 hq).1
          simp at this ⊢
          omega
    · rw [show (false || decide (K ≤ y.1)) = false from by simp [hk]]
      have h2 : ¬ y.1 = K := by omega
      simp [hk, h2]
      refine List.Pairwise.cons (fun q hq => ?_) (ih hys)
      rcases (mem_putL K X ys q).1 hq with rfl | ⟨hq, _⟩
      · simp; omega
      · exact hy q hq
theorem putL_length (K X : Int) (l : List (Int × Int)) : ∀ b, (putL K X b l).length ≤ l.length + 1 := by
  induction l with
  | nil => intro b; cases b <;> simp [putL]
  | cons y ys ih =>
    intro b
    cases b with
    | true => rw [putL_true]; have := List.length_filter_le (fun p : Int × Int => decide (p.1 ≠ K)) (y :: ys); omega
    | false =>
      rw [putL]
      by_cases h : K ≤ y.1
      · rw [show (false || decide (K ≤ y.1)) = true from by simp [h], putL_true]
        have := List.length_filter_le (fun p : Int × Int => decide (p.1 ≠ K)) ys
        by_cases h2 : y.1 = K <;> simp [h, h2] <;> simp at this <;> omega
      · rw [show (false || decide (K ≤ y.1)) = false from by simp [h]]
        have := ih false
        have h2 : ¬ y.1 = K := by omega
        simp [h, h2]
        omega

theorem Put_round (l : List (Int × Int)) (hl : l.length ≤ 1099511627776) (K X : Int) (d : Nat) : ∀ (k i : Nat) (b : Bool) (r : List (Int × Int)), i ≤ l.length → l.length - i = d → 2 * d < k → r.length ≤ 2 * i →
    merinoref02_Put.l0 k (l.map toS) K X (r.map toS) b i = some ((r ++ putL K X b (l.drop i)).map toS) := by
  induction d with
  | zero =>
    intro k i b r h1 h2 h3 h4
    obtain ⟨k, rfl⟩ : ∃ m, k = m + 1 := ⟨k - 1, by omega⟩
    obtain rfl : i = l.length := by omega
    have h5 : (r.map toS).length < 8796093022208 := by simp; omega
    simp only [merinoref02_Put.l0]
    rw [if_neg (by simp)]
    cases b with
    | true => simp [putL]
    | false => simp only [h5, if_true]; simp [putL, toS]
  | succ d ih =>
    intro k i b r h1 h2 h3 h4
    obtain ⟨k, rfl⟩ : ∃ m, k = m + 2 := ⟨k - 2, by omega⟩
    have hi : i < l.length := by omega
    have hx : l[i]? = some l[i] := List.getElem?_eq_getElem hi
    have h5 : (r.map toS).length < 8796093022208 := by simp; omega
    have h6 : ((r ++ [(K, X)]).map toS).length < 8796093022208 := by simp; omega
    have s1 : (r.map toS) ++ [(⟨K, X⟩ : S38)] = (r ++ [(K, X)]).map toS := by simp [toS]
    have s2 : (r.map toS) ++ [(⟨(toS l[i]).f0, (toS l[i]).f1⟩ : S38)] = (r ++ [l[i]]).map toS := by simp [toS]
    have s3 : ((r ++ [(K, X)]).map toS) ++ [(⟨(toS l[i]).f0, (toS l[i]).f1⟩ : S38)] = (r ++ [(K, X), l[i]]).map toS := by simp [toS]
    have e : ((i : Int) + 1) = ((i + 1 : Nat) : Int) := by push_cast; rfl
    have ew : wrap64 ((i + 1 : Nat) : Int) = ((i + 1 : Nat) : Int) := by unfold wrap64; omega
    have i1 : ((i : Int) < ((l.map toS).length : Int)) := by simp; omega
    have i2 : (0 : Int) ≤ (i : Int) := by omega
    have first : merinoref02_Put.l0 (k + 2) (l.map toS) K X (r.map toS) b i = merinoref02_Put.j1 (k + 1) (l.map toS) K X (r.map toS) b i (!b && decide (K ≤ l[i].1)) := by
      simp only [merinoref02_Put.l0]
      rw [if_pos i1, rd_S hx]
      cases b with
      | true => simp
      | false => rw [if_neg (by simp), if_pos i2]; simp [toS]
    rw [first, drop_cons hi, putL]
    have j1 := fun b r h => ih k (i + 1) b r (by omega) (by omega) (by omega) h
    simp only [merinoref02_Put.j1, i1, i2, h5, if_true, s1, s2, rd_S hx, e, ew, Option.bind_some, h6, s3]
    by_cases hb : (!b && decide (K ≤ l[i].1)) = true
    · rw [hb]
      have hK : K ≤ l[i].1 := by simp at hb; exact hb.2
      have hbb : b = false := by simp at hb; exact hb.1
      subst hbb
      by_cases h2 : l[i].1 = K
      · rw [if_pos rfl, if_pos (by simpa [toS] using h2), j1 true (r ++ [(K, X)]) (by simp; omega)]
        simp [h2]
      · rw [if_pos rfl, if_neg (by simpa [toS] using h2), j1 true (r ++ [(K, X), l[i]]) (by simp; omega)]
        simp [h2, hK]
    · have hb' : (!b && decide (K ≤ l[i].1)) = false := by simpa using hb
      rw [hb']
      have hbb : (b || decide (K ≤ l[i].1)) = b := by
        cases b with
        | true => rfl
        | false => simpa using hb'
      rw [hbb]
      by_cases h2 : l[i].1 = K
      · rw [if_neg (by simp), if_pos (by simpa [toS] using h2), j1 b r (by omega)]
        simp [h2]
      · rw [if_neg (by simp), if_neg (by simpa [toS] using h2), j1 b (r ++ [l[i]]) (by simp; omega)]
        simp [h2]
theorem Put_f (l : List (Int × Int)) (hl : l.length ≤ 1099511627776) (K X : Int) (k : Nat) (hk : 2 * l.length < k) : merinoref02_Put.f k (l.map toS) K X = some ((putL K X false l).map toS) :=
  Put_round l hl K X l.length k 0 false [] (by omega) (by omega) hk (by simp)

/-- The reference's union: each row put in turn. -/
def unionL (a : List (Int × Int)) : List (Int × Int) → List (Int × Int)
  | [] => a
  | y :: ys => unionL (putL y.1 y.2 false a) ys
theorem unionL_length (b : List (Int × Int)) : ∀ a, (unionL a b).length ≤ a.length + b.length := by
  induction b with
  | nil => intro a; simp [unionL]
  | cons y ys ih => intro a; rw [unionL]; have := ih (putL y.1 y.2 false a); have := putL_length y.1 y.2 a false; simp; omega
theorem unionL_spec (b : List (Int × Int)) : ∀ a, Sorted a → Sorted b → Sorted (unionL a b) ∧ ∀ p, p ∈ unionL a b ↔ p ∈ b ∨ p ∈ a ∧ ∀ q ∈ b, q.1 ≠ p.1 := by
  induction b with
  | nil => intro a ha _; exact ⟨ha, fun p => by simp [unionL]⟩
  | cons y ys ih =>
    intro a ha hb
    have hy := (List.pairwise_cons.1 hb).1
    obtain ⟨h1, h2⟩ := ih _ (putL_sorted y.1 y.2 a ha) (List.pairwise_cons.1 hb).2
    refine ⟨h1, fun p => ?_⟩
    rw [unionL, h2, mem_putL]
    constructor
    · rintro (h | ⟨rfl | ⟨h3, h4⟩, h5⟩)
      · exact .inl (List.mem_cons_of_mem _ h)
      · exact .inl (List.mem_cons_self ..)
      · refine .inr ⟨h3, fun q hq => ?_⟩
        rcases List.mem_cons.1 hq with rfl | hq
        · exact fun e => h4 e.symm
        · exact h5 q hq
    · rintro (h | ⟨h3, h4⟩)
      · rcases List.mem_cons.1 h with rfl | h
        · refine .inr ⟨.inl rfl, fun q hq e => ?_⟩
          have := hy q hq
          simp [e] at this
        · exact .inl h
      · exact .inr ⟨.inr ⟨h3, fun e => h4 y (List.mem_cons_self ..) e.symm⟩, fun q hq => h4 q (List.mem_cons_of_mem _ hq)⟩
theorem Union_round (m : List (Int × Int)) (d : Nat) : ∀ (k i : Nat) (a : List (Int × Int)), i ≤ m.length → m.length - i = d → d + 2 * (a.length + d) + 1 < k → a.length + d ≤ 1099511627776 → m.length ≤ 1099511627776 →
    merinoref02_Union.l0 k (m.map toS) (a.map toS) i = some ((unionL a (m.drop i)).map toS) := by
  induction d with
  | zero =>
    intro k i a h1 h2 h3 h4 h5
    obtain ⟨k, rfl⟩ : ∃ m, k = m + 1 := ⟨k - 1, by omega⟩
    obtain rfl : i = m.length := by omega
    simp only [merinoref02_Union.l0]
    rw [if_neg (by simp)]
    simp [unionL]
  | succ d ih =>
    intro k i a h1 h2 h3 h4 h5
    obtain ⟨k, rfl⟩ : ∃ m, k = m + 1 := ⟨k - 1, by omega⟩
    have hi : i < m.length := by omega
    have hx : m[i]? = some m[i] := List.getElem?_eq_getElem hi
    have hp := putL_length m[i].1 m[i].2 a false
    simp only [merinoref02_Union.l0]
    rw [if_pos (by simp; omega), if_pos (by omega), wrap_up (by omega) (by omega), rd_S hx, drop_cons hi, unionL,
      show merinoref02_Put.f k (a.map toS) (toS m[i]).f0 (toS m[i]).f1 = _ from Put_f a (by omega) m[i].1 m[i].2 k (by omega), Option.bind_some,
      show ((i : Int) + 1) = ((i + 1 : Nat) : Int) from by push_cast; rfl]
    exact ih k (i + 1) _ (by omega) (by omega) (by omega) (by omega) h5
theorem Union_f (a b : List (Int × Int)) (h : a.length + b.length ≤ 1099511627776) : merinoref02_Union.f (3 * b.length + 2 * a.length + 2) (a.map toS) (b.map toS) = some ((unionL a b).map toS) :=
  Union_round b b.length _ 0 a (by omega) (by omega) (by omega) (by omega) (by omega)
end Go.Proofs.MT.II
