/- Each map operation beside the reference's: the tree's list is the reference's list. -/
import Derived.Test.YtnhngaadegebfaaRefLaws
import Derived.Test.YtnhngaadegebfaaDepthLaws
namespace Go.Proofs.MT.II
open Go.RowKit Go.Proofs.Ytnhngaadegebfaa.Q Go.Proofs.YtnhngaadegebfaaW.PrintWords

theorem sorted_filter {l : List (Int × Int)} (f : Int × Int → Bool) (h : Sorted l) : Sorted (l.filter f) := List.Pairwise.filter _ h

theorem put_list (K X : Int) (t : T Int Int) (h : Sorted t.toList) : (t.put K X).toList = putL K X false t.toList :=
  sorted_ext (T.put_spec K X t h).1 (putL_sorted K X _ h) fun p => by rw [(T.put_spec K X t h).2, mem_putL]
theorem remove_list (K : Int) (t : T Int Int) (h : Sorted t.toList) : (t.remove K).toList = t.toList.filter fun p => decide (p.1 ≠ K) :=
  sorted_ext (T.remove_spec K t h).1 (sorted_filter _ h) fun p => by rw [(T.remove_spec K t h).2, List.mem_filter]; simp
theorem below_list (K : Int) (t : T Int Int) (h : Sorted t.toList) : (T.cut K t).1.toList = t.toList.filter fun p => decide (p.1 < K) :=
  sorted_ext (T.cut_spec K t h).1 (sorted_filter _ h) fun p => by rw [(T.cut_spec K t h).2.1, List.mem_filter]; simp
theorem above_list (K : Int) (t : T Int Int) (h : Sorted t.toList) : (T.cut K t).2.2.toList = t.toList.filter fun p => decide (K < p.1) :=
  sorted_ext (T.cut_spec K t h).2.2.1 (sorted_filter _ h) fun p => by rw [(T.cut_spec K t h).2.2.2.1, List.mem_filter]; simp
theorem range_list (K E : Int) (t : T Int Int) (h : Sorted t.toList) : (T.range K E t).toList = t.toList.filter fun p => decide (K ≤ p.1) && decide (p.1 < E) :=
  sorted_ext (T.mem_range K E t h).1 (sorted_filter _ h) fun p => by rw [(T.mem_range K E t h).2, List.mem_filter]; simp
theorem union_list (a b : T Int Int) (ha : Sorted a.toList) (hb : Sorted b.toList) : (T.union a b).toList = unionL a.toList b.toList :=
  sorted_ext (T.union_spec b a ha hb).1 (unionL_spec _ _ ha hb).1 fun p => by rw [(T.union_spec b a ha hb).2, (unionL_spec _ _ ha hb).2]
theorem intersect_list (a b : T Int Int) (ha : Sorted a.toList) (hb : Sorted b.toList) : (T.intersect a b).toList = b.toList.filter fun p => has a.toList p.1 :=
  sorted_ext (T.intersect_spec b a ha hb).1 (sorted_filter _ hb) fun p => by rw [(T.intersect_spec b a ha hb).2, List.mem_filter, has_iff]
theorem subtract_list (a b : T Int Int) (ha : Sorted a.toList) (hb : Sorted b.toList) : (T.subtract a b).toList = a.toList.filter fun p => !has b.toList p.1 :=
  sorted_ext (T.subtract_spec b a ha hb).1 (sorted_filter _ ha) fun p => by
    rw [(T.subtract_spec b a ha hb).2, List.mem_filter]
    have := has_iff b.toList p.1
    constructor
    · rintro ⟨h1, h2⟩
      refine ⟨h1, ?_⟩
      cases hh : has b.toList p.1 with
      | false => rfl
      | true => obtain ⟨q, hq, e⟩ := this.1 hh; exact absurd e (h2 q hq)
    · rintro ⟨h1, h2⟩
      refine ⟨h1, fun q hq e => ?_⟩
      rw [this.2 ⟨q, hq, e⟩] at h2
      cases h2

theorem find_has (K : Int) (t : T Int Int) (h : Sorted t.toList) : T.find K t = .nil ↔ has t.toList K = false := by
  rcases T.find_spec K t h with ⟨h1, h2⟩ | ⟨l, v, r, h1, h2⟩
  · rw [h1]
    refine ⟨fun _ => ?_, fun _ => rfl⟩
    cases hh : has t.toList K with
    | false => rfl
    | true => obtain ⟨q, hq, e⟩ := (has_iff _ _).1 hh; exact absurd e (h2 q hq)
  · rw [h1, (has_iff _ _).2 ⟨_, h2, rfl⟩]
    exact ⟨(fun h => by cases h), (fun h => by cases h)⟩

theorem last_of {A : T Int Int} : (T.at_ ((A.size : Int) - 1) A).root = A.toList.getLast? := by
  rw [T.at_spec]
  rcases Nat.eq_zero_or_pos A.size with h | h
  · rw [if_neg (by omega)]
    have : A.toList = [] := List.eq_nil_of_length_eq_zero (by rw [T.length_toList]; exact h)
    rw [this]
    rfl
  · rw [if_pos (by omega), List.getLast?_eq_getElem?, T.length_toList]
    congr 1
    omega
theorem first_of {A : T Int Int} : (T.at_ 0 A).root = A.toList.head? := by
  rw [T.at_spec, if_pos (by omega), List.head?_eq_getElem?]
  rfl

/-- Do two lists of rows join: is one of them empty, or does the first's last key lie before the second's first? -/
def joinsL (a b : List (Int × Int)) : Bool := match a.getLast?, b.head? with
  | some x, some y => decide (x.1 < y.1)
  | _, _ => true
theorem joins_clash (A B : T Int Int) : T.clash A B = !joinsL A.toList B.toList := by
  unfold T.clash joinsL
  rw [← last_of, ← first_of]
  cases T.at_ ((A.size : Int) - 1) A with
  | nil => rfl
  | node l x v r =>
    cases T.at_ 0 B with
    | nil => rfl
    | node l' y v' r' => rfl
theorem Joins_f (a b : List (Int × Int)) (ha : a.length ≤ 1099511627776) : merinoref02_Joins.f (a.map toS) (b.map toS) = some (joinsL a b) := by
  unfold merinoref02_Joins.f joinsL
  rcases List.eq_nil_or_concat a with rfl | ⟨a', x, e⟩
  · simp
  · rw [List.concat_eq_append] at e
    subst e
    cases b with
    | nil => simp
    | cons y ys =>
      have hx : (a' ++ [x])[a'.length]? = some x := by simp
      have hl : wrap64 ((((a' ++ [x]).map toS).length : Int) - 1) = ((a'.length : Nat) : Int) := by
        simp at ha
        simp only [List.length_map, List.length_append, List.length_singleton]
        unfold wrap64
        omega
      have hy : (y :: ys)[0]? = some y := rfl
      have r1 := rd_S hx
      have r2 := rd_S hy
      rw [if_neg (by simp; omega), if_neg (by simp; omega), hl, if_pos (by omega), if_pos (by simp <;> omega), if_pos (by simp <;> omega), r1]
      rw [show rd_T38 ((y :: ys).map toS) 0 = toS y from r2]
      simp [toS]
      exact decide_eq_decide.2 Iff.rfl

theorem join_sides {a b : List (Int × Int)} (ha : Sorted a) (hb : Sorted b) (h : joinsL a b = true) : ∀ x ∈ a, ∀ y ∈ b, x.1 < y.1 := by
  unfold joinsL at h
  intro x hx y hy
  rcases List.eq_nil_or_concat a with rfl | ⟨a', z, e⟩
  · cases hx
  · rw [List.concat_eq_append] at e
    subst e
    cases b with
    | nil => cases hy
    | cons u us =>
      simp at h
      have h1 : x.1 ≤ z.1 := by
        rcases List.mem_append.1 hx with hx | hx
        · have := (List.pairwise_append.1 ha).2.2 x hx z (by simp)
          simp at this
          omega
        · rw [List.mem_singleton.1 hx]; exact Int.le_refl _
      have h2 : u.1 ≤ y.1 := by
        rcases List.mem_cons.1 hy with rfl | hy
        · exact Int.le_refl _
        · have := (List.pairwise_cons.1 hb).1 y hy
          simp at this
          omega
      omega
theorem merge_list (A B : T Int Int) (ha : Sorted A.toList) (hb : Sorted B.toList) (h : joinsL A.toList B.toList = true) : Sorted (T.merge A B).toList ∧ (T.merge A B).toList = unionL A.toList B.toList := by
  have hs := join_sides ha hb h
  have h1 : Sorted (T.merge A B).toList := T.join_sorted ha hb fun x hx y hy => by simpa using hs x hx y hy
  refine ⟨h1, sorted_ext h1 (unionL_spec _ _ ha hb).1 fun p => ?_⟩
  rw [(unionL_spec _ _ ha hb).2, T.merge_toList, List.mem_append]
  constructor
  · rintro (h | h)
    · exact .inr ⟨h, fun q hq e => by have := hs p h q hq; omega⟩
    · exact .inl h
  · rintro (h | ⟨h, _⟩)
    · exact .inr h
    · exact .inl h
end Go.Proofs.MT.II
