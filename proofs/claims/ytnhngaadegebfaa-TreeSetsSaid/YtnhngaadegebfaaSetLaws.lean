/- The laws of set algebra on sorted trees, their sizes, and a map as the join of its sides. -/
import Derived.Test.YtnhngaadegebfaaDoState
namespace Go.Proofs.MT.II
open Go.RowKit
set_option linter.unusedVariables false
set_option linter.unusedSimpArgs false

variable {a b : T Int Int}
theorem union_alone (ha : Sorted a.toList) (hb : Sorted b.toList) : (T.union (T.subtract a b) b).toList = (T.union a b).toList := by
  obtain ⟨s1, m1⟩ := T.subtract_spec b a ha hb
  obtain ⟨s2, m2⟩ := T.union_spec b (T.subtract a b) s1 hb
  obtain ⟨s3, m3⟩ := T.union_spec b a ha hb
  refine sorted_ext s2 s3 fun p => ?_
  rw [m2, m3, m1]
  constructor
  · rintro (h | ⟨⟨h, h1⟩, h2⟩)
    · exact .inl h
    · exact .inr ⟨h, h1⟩
  · rintro (h | ⟨h, h1⟩)
    · exact .inl h
    · exact .inr ⟨⟨h, h1⟩, h1⟩
theorem union_self (ha : Sorted a.toList) : (T.union a a).toList = a.toList := by
  obtain ⟨s1, m1⟩ := T.union_spec a a ha ha
  refine sorted_ext s1 ha fun p => ?_
  rw [m1]
  exact ⟨fun h => h.elim id (fun h => h.1), .inl⟩
theorem subtract_self (ha : Sorted a.toList) : (T.subtract a a).size = 0 := by
  obtain ⟨_, m1⟩ := T.subtract_spec a a ha ha
  rw [← T.length_toList, List.length_eq_zero_iff]
  refine List.eq_nil_iff_forall_not_mem.2 fun p hp => ?_
  have := (m1 p).1 hp
  exact this.2 p this.1 rfl

theorem halves {α : Type} (f : α → Bool) : ∀ l : List α, (l.filter f).length + (l.filter fun x => !f x).length = l.length
  | [] => rfl
  | x :: xs => by
    have := halves f xs
    rw [List.filter_cons, List.filter_cons]
    cases h : f x <;> simp <;> omega
/-- Sorted lists with the same keys are of one length. -/
theorem keys_len {x y : List (Int × Int)} (hx : Sorted x) (hy : Sorted y) (h : ∀ k, (∃ p ∈ x, p.1 = k) ↔ ∃ p ∈ y, p.1 = k) : x.length = y.length := by
  have sx : Sorted (x.map fun p => (p.1, (0 : Int))) := by unfold Sorted; rw [List.pairwise_map]; exact hx
  have sy : Sorted (y.map fun p => (p.1, (0 : Int))) := by unfold Sorted; rw [List.pairwise_map]; exact hy
  have e := sorted_ext sx sy fun p => by
    rw [List.mem_map, List.mem_map]
    constructor
    · rintro ⟨q, hq, rfl⟩
      obtain ⟨r, hr, e⟩ := (h q.1).1 ⟨q, hq, rfl⟩
      exact ⟨r, hr, by rw [e]⟩
    · rintro ⟨q, hq, rfl⟩
      obtain ⟨r, hr, e⟩ := (h q.1).2 ⟨q, hq, rfl⟩
      exact ⟨r, hr, by rw [e]⟩
  have := congrArg List.length e
  simpa using this
theorem common_size (ha : Sorted a.toList) (hb : Sorted b.toList) : (T.subtract a b).size + (T.intersect a b).size = a.size := by
  rw [← T.length_toList, ← T.length_toList, ← T.length_toList, subtract_list a b ha hb, intersect_list a b ha hb, ← halves (fun p : Int × Int => has b.toList p.1) a.toList]
  have e : (b.toList.filter fun p => has a.toList p.1).length = (a.toList.filter fun p => has b.toList p.1).length := by
    refine keys_len (sorted_filter _ hb) (sorted_filter _ ha) fun k => ?_
    constructor
    · rintro ⟨p, hp, rfl⟩
      obtain ⟨h1, h2⟩ := List.mem_filter.1 hp
      obtain ⟨q, hq, e⟩ := (has_iff _ _).1 h2
      exact ⟨q, List.mem_filter.2 ⟨hq, by rw [e]; exact (has_iff _ _).2 ⟨p, h1, rfl⟩⟩, e⟩
    · rintro ⟨p, hp, rfl⟩
      obtain ⟨h1, h2⟩ := List.mem_filter.1 hp
      obtain ⟨q, hq, e⟩ := (has_iff _ _).1 h2
      exact ⟨q, List.mem_filter.2 ⟨hq, by rw [e]; exact (has_iff _ _).2 ⟨p, h1, rfl⟩⟩, e⟩
  omega
theorem both_size (ha : Sorted a.toList) (hb : Sorted b.toList) : (T.union a b).size + (T.intersect a b).size = a.size + b.size := by
  have h1 := common_size ha hb
  obtain ⟨s, m⟩ := T.union_spec b a ha hb
  obtain ⟨s2, m2⟩ := T.subtract_spec b a ha hb
  have h2 : (T.union a b).size = b.size + (T.subtract a b).size := by
    rw [← T.length_toList, ← T.length_toList, ← T.length_toList, ← halves (fun p : Int × Int => has b.toList p.1) (T.union a b).toList]
    have e1 : ((T.union a b).toList.filter fun p => has b.toList p.1).length = b.toList.length := by
      refine keys_len (sorted_filter _ s) hb fun k => ?_
      constructor
      · rintro ⟨p, hp, rfl⟩
        obtain ⟨_, h2⟩ := List.mem_filter.1 hp
        exact (has_iff _ _).1 h2
      · rintro ⟨p, hp, rfl⟩
        exact ⟨p, List.mem_filter.2 ⟨(m p).2 (.inl hp), (has_iff _ _).2 ⟨p, hp, rfl⟩⟩, rfl⟩
    have e2 : ((T.union a b).toList.filter fun p => !has b.toList p.1) = (T.subtract a b).toList := by
      refine sorted_ext (sorted_filter _ s) s2 fun p => ?_
      rw [List.mem_filter, m, m2]
      constructor
      · rintro ⟨h | h, h3⟩
        · have : has b.toList p.1 = true := (has_iff _ _).2 ⟨p, h, rfl⟩
          rw [this] at h3
          cases h3
        · exact h
      · intro h
        refine ⟨.inr h, ?_⟩
        cases e : has b.toList p.1 with
        | false => rfl
        | true => obtain ⟨q, hq, e⟩ := (has_iff _ _).1 e; exact absurd e (h.2 q hq)
    show _ + ((T.union a b).toList.filter fun p => !has b.toList p.1).length = _
    rw [e1, e2]
  omega

/-- The two sides of a key, and the key, joined. -/
theorem sides_out (ha : Sorted a.toList) (k : Int) (hno : ∀ p ∈ a.toList, p.1 ≠ k) : T.clash (T.cut k a).1 (T.cut k a).2.2 = false ∧ (T.merge (T.cut k a).1 (T.cut k a).2.2).toList = a.toList := by
  obtain ⟨s1, m1, s2, m2, _⟩ := T.cut_spec k a ha
  have hd := T.cut_sides k a ha
  refine ⟨T.clash_false hd, sorted_ext (T.join_sorted s1 s2 hd) ha fun p => ?_⟩
  rw [T.merge_toList, List.mem_append, m1, m2]
  constructor
  · rintro (h | h) <;> exact h.1
  · intro h
    have := hno p h
    simp only [KOrd.lt, decide_eq_true_eq]
    rcases Int.lt_trichotomy p.1 k with h1 | h1 | h1
    · exact .inl ⟨h, h1⟩
    · exact absurd h1 this
    · exact .inr ⟨h, h1⟩
theorem sides_in (ha : Sorted a.toList) (k v : Int) (hin : (k, v) ∈ a.toList) : T.clash ((T.cut k a).1.put k v) (T.cut k a).2.2 = false ∧ (T.merge ((T.cut k a).1.put k v) (T.cut k a).2.2).toList = a.toList := by
  obtain ⟨s1, m1, s2, m2, _⟩ := T.cut_spec k a ha
  obtain ⟨s3, m3⟩ := T.put_spec k v (T.cut k a).1 s1
  have hd : ∀ x ∈ ((T.cut k a).1.put k v).toList, ∀ y ∈ (T.cut k a).2.2.toList, KOrd.lt x.1 y.1 = true := fun x hx y hy => by
    have h2 := (m2 y).1 hy
    rcases (m3 x).1 hx with rfl | ⟨h, _⟩
    · exact h2.2
    · exact T.cut_sides k a ha x h y hy
  refine ⟨T.clash_false hd, sorted_ext (T.join_sorted s3 s2 hd) ha fun p => ?_⟩
  rw [T.merge_toList, List.mem_append, m3, m1, m2]
  simp only [KOrd.lt, decide_eq_true_eq]
  constructor
  · rintro ((rfl | h) | h)
    · exact hin
    · exact h.1.1
    · exact h.1
  · intro h
    rcases Int.lt_trichotomy p.1 k with h1 | h1 | h1
    · exact .inl (.inr ⟨⟨h, h1⟩, by omega⟩)
    · exact .inl (.inl (ha.unique h hin h1))
    · exact .inr ⟨h, h1⟩
end Go.Proofs.MT.II
