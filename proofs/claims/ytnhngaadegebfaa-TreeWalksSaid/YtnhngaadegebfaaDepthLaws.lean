/- What the law TreeDepth needs of plain trees: ranges, joins of two sides, the three maps that it builds, and deletions. -/
import Derived.Test.YtnhngaadegebfaaBase
namespace Go.Proofs.MT
open KOrd (lt)
namespace T
section
variable {K V : Type}

theorem rangeR_bal {a r : T K V} (hr : r.Bal) : (rangeR a r).Bal := by
  cases a with
  | nil => exact hr
  | node l k v r' => exact link_bal _ _ _ _ trivial hr

theorem mem_root {t : T K V} {l : T K V} {x : K} {v : V} {r : T K V} {i : Int} (h : at_ i t = node l x v r) : (x, v) ∈ t.toList := by
  have := at_spec t i
  rw [h] at this
  change some (x, v) = _ at this
  split at this
  · exact List.mem_of_getElem? this.symm
  · cases this

variable [KOrd K]

theorem range_bal (a b : K) (t : T K V) (h : t.Bal) : (range a b t).Bal := by
  unfold range
  split
  · exact (cut_bal b _ (rangeR_bal (cut_bal a t h).2.2)).1
  · trivial

theorem mem_range (a b : K) (t : T K V) (h : Sorted t.toList) : Sorted (range a b t).toList ∧ ∀ p, p ∈ (range a b t).toList ↔ p ∈ t.toList ∧ lt p.1 a = false ∧ lt p.1 b = true := by
  unfold range
  split
  · rename_i hab
    obtain ⟨h1, h2, h3, h4, h5⟩ := cut_spec a t h
    have hR : Sorted (rangeR (cut a t).2.1 (cut a t).2.2).toList ∧ ∀ p, p ∈ (rangeR (cut a t).2.1 (cut a t).2.2).toList ↔ p ∈ t.toList ∧ lt p.1 a = false := by
      have key : ∀ p ∈ t.toList, lt p.1 a = false ↔ lt a p.1 = true ∨ p.1 = a := by
        intro p _
        rcases three p.1 a with h | h | h
        · simp [h, lt_asymm h, ne_of_lt h]
        · subst h; simp [KOrd.irrefl]
        · simp [h, lt_asymm h]
      rcases h5 with ⟨h5, h6⟩ | ⟨l, v, r, h5, h6⟩
      · rw [h5]
        refine ⟨h3, fun p => ?_⟩
        rw [show rangeR nil (cut a t).2.2 = (cut a t).2.2 from rfl, h4]
        constructor
        · rintro ⟨hp, hl⟩
          exact ⟨hp, (key p hp).2 (.inl hl)⟩
        · rintro ⟨hp, hl⟩
          rcases (key p hp).1 hl with h | h
          · exact ⟨hp, h⟩
          · exact absurd h (h6 p hp)
      · rw [h5]
        rw [show rangeR (node l a v r) (cut a t).2.2 = link nil a v (cut a t).2.2 from rfl, link_toList]
        refine ⟨?_, fun p => ?_⟩
        · show Sorted ([] ++ _)
          rw [sorted_node]
          exact ⟨List.Pairwise.nil, h3, fun _ h => (by cases h), fun q hq => ((h4 q).1 hq).2⟩
        · show p ∈ [] ++ _ ↔ _
          simp only [List.nil_append, List.mem_cons]
          constructor
          · rintro (rfl | hp)
            · exact ⟨h6, KOrd.irrefl _⟩
            · exact ⟨((h4 p).1 hp).1, (key p ((h4 p).1 hp).1).2 (.inl ((h4 p).1 hp).2)⟩
          · rintro ⟨hp, hl⟩
            rcases (key p hp).1 hl with h' | h'
            · exact .inr ((h4 p).2 ⟨hp, h'⟩)
            · exact .inl (h.unique hp h6 h')
    obtain ⟨g1, g2, -⟩ := cut_spec b _ hR.1
    refine ⟨g1, fun p => ?_⟩
    rw [g2, hR.2]
    exact ⟨fun ⟨⟨x, y⟩, z⟩ => ⟨x, y, z⟩, fun ⟨x, y, z⟩ => ⟨⟨x, y⟩, z⟩⟩
  · rename_i hab
    refine ⟨List.Pairwise.nil, fun p => ?_⟩
    constructor
    · intro h; cases h
    · rintro ⟨_, h1, h2⟩
      exfalso
      apply hab
      rcases three p.1 a with h | h | h
      · rw [h] at h1; cases h1
      · rw [← h]; exact h2
      · exact KOrd.trans h h2

theorem clash_false {A B : T K V} (h : ∀ x ∈ A.toList, ∀ y ∈ B.toList, lt x.1 y.1 = true) : clash A B = false := by
  unfold clash
  split
  · rename_i h1 h2
    rw [h _ (mem_root h1) _ (mem_root h2)]
    rfl
  · rfl

theorem cut_sides (k : K) (t : T K V) (h : Sorted t.toList) : ∀ x ∈ (cut k t).1.toList, ∀ y ∈ (cut k t).2.2.toList, lt x.1 y.1 = true := by
  obtain ⟨_, h2, _, h4, _⟩ := cut_spec k t h
  intro x hx y hy
  exact KOrd.trans ((h2 x).1 hx).2 ((h4 y).1 hy).2

theorem join_sorted {A B : T K V} (hA : Sorted A.toList) (hB : Sorted B.toList) (h : ∀ x ∈ A.toList, ∀ y ∈ B.toList, lt x.1 y.1 = true) : Sorted (merge A B).toList := by
  rw [merge_toList]
  exact sorted_append hA hB h
end
end T

def ups : Nat → T Int Int
  | 0 => .nil
  | i + 1 => (ups i).put i i
def downs (s : Int) : Nat → T Int Int
  | 0 => .nil
  | i + 1 => (downs s i).put (s - i) i
def wilds (s st : Int) : Nat → T Int Int
  | 0 => .nil
  | i + 1 => (wilds s st i).put ((i * st).tmod s) i

theorem ups_good (i : Nat) : (ups i).Bal ∧ Sorted (ups i).toList ∧ (∀ p, p ∈ (ups i).toList ↔ ∃ j : Nat, j < i ∧ p = ((j : Int), (j : Int))) := by
  induction i with
  | zero => exact ⟨trivial, List.Pairwise.nil, fun p => ⟨fun h => (by cases h), fun ⟨j, h, _⟩ => (by omega)⟩⟩
  | succ i ih =>
    obtain ⟨h1, h2, h3⟩ := ih
    obtain ⟨g1, g2⟩ := T.put_spec (i : Int) (i : Int) (ups i) h2
    refine ⟨T.put_bal _ _ _ h1, g1, fun p => ?_⟩
    rw [show ups (i + 1) = T.put (i : Int) (i : Int) (ups i) from rfl, g2, h3]
    constructor
    · rintro (rfl | ⟨⟨j, hj, rfl⟩, _⟩)
      · exact ⟨i, by omega, rfl⟩
      · exact ⟨j, by omega, rfl⟩
    · rintro ⟨j, hj, rfl⟩
      by_cases e : j = i
      · exact .inl (by rw [e])
      · exact .inr ⟨⟨j, by omega, rfl⟩, by simp; omega⟩
theorem downs_good (s : Int) (i : Nat) : (downs s i).Bal ∧ Sorted (downs s i).toList ∧ (downs s i).size ≤ i := by
  induction i with
  | zero => exact ⟨trivial, List.Pairwise.nil, by simp [downs, T.size]⟩
  | succ i ih => exact ⟨T.put_bal _ _ _ ih.1, (T.put_spec _ _ _ ih.2.1).1, by rcases T.put_size (s - i : Int) (i : Int) (downs s i) with h | h <;> simp only [downs] <;> omega⟩
theorem wilds_good (s st : Int) (i : Nat) : (wilds s st i).Bal ∧ Sorted (wilds s st i).toList ∧ (wilds s st i).size ≤ i := by
  induction i with
  | zero => exact ⟨trivial, List.Pairwise.nil, by simp [wilds, T.size]⟩
  | succ i ih => exact ⟨T.put_bal _ _ _ ih.1, (T.put_spec _ _ _ ih.2.1).1, by rcases T.put_size ((i * st : Int).tmod s) (i : Int) (wilds s st i) with h | h <;> simp only [wilds] <;> omega⟩

/-- The list of the keys that meet a test, each with itself. -/
def diag (f : Nat → Bool) (n : Nat) : List (Int × Int) := ((List.range n).filter f).map fun j : Nat => ((j : Int), (j : Int))

theorem diag_sorted (f : Nat → Bool) (n : Nat) : Sorted (diag f n) := by
  unfold diag Sorted
  rw [List.pairwise_map]
  refine List.Pairwise.filter _ (List.pairwise_lt_range.imp ?_)
  intro a b h
  show lt (a : Int) (b : Int) = true
  simp
  omega
theorem mem_diag (f : Nat → Bool) (n : Nat) (p : Int × Int) : p ∈ diag f n ↔ ∃ j : Nat, j < n ∧ f j = true ∧ p = ((j : Int), (j : Int)) := by
  unfold diag
  simp only [List.mem_map, List.mem_filter, List.mem_range]
  constructor
  · rintro ⟨j, ⟨h1, h2⟩, rfl⟩; exact ⟨j, h1, h2, rfl⟩
  · rintro ⟨j, h1, h2, rfl⟩; exact ⟨j, ⟨h1, h2⟩, rfl⟩

theorem ups_list (n : Nat) : (ups n).toList = diag (fun j => j % 2 == 1 || decide (2 * 0 ≤ j)) n :=
  sorted_ext (ups_good n).2.1 (diag_sorted _ _) fun p => by
    rw [(ups_good n).2.2, mem_diag]
    simp
theorem ups_size (n : Nat) : (ups n).size = n := by
  rw [← T.length_toList, ups_list, diag, List.length_map, List.filter_eq_self.2 (fun x _ => by simp), List.length_range]

/-- One more even key deleted. -/
theorem del_list {t t' : T Int Int} {j n : Nat} (ht : t.toList = diag (fun x => x % 2 == 1 || decide (2 * j ≤ x)) n) (hs : Sorted t'.toList) (h : ∀ p, p ∈ t'.toList ↔ p ∈ t.toList ∧ p.1 ≠ ((2 * j : Nat) : Int)) :
    t'.toList = diag (fun x => x % 2 == 1 || decide (2 * (j + 1) ≤ x)) n :=
  sorted_ext hs (diag_sorted _ _) fun p => by
    rw [h, ht, mem_diag, mem_diag]
    constructor
    · rintro ⟨⟨i, h1, h2, rfl⟩, h3⟩
      refine ⟨i, h1, ?_, rfl⟩
      simp at h2 h3 ⊢
      omega
    · rintro ⟨i, h1, h2, rfl⟩
      simp at h2
      refine ⟨⟨i, h1, ?_, rfl⟩, ?_⟩
      · simp; omega
      · simp; omega

theorem odds (n : Nat) : ((List.range n).filter fun x => x % 2 == 1).length = n / 2 := by
  induction n with
  | zero => rfl
  | succ n ih =>
    rw [List.range_succ, List.filter_append, List.length_append, ih]
    rcases Nat.mod_two_eq_zero_or_one n with h | h
    · simp [h]; omega
    · simp [h]; omega

theorem last_size {t : T Int Int} {j n : Nat} (ht : t.toList = diag (fun x => x % 2 == 1 || decide (2 * j ≤ x)) n) (hj : n ≤ 2 * j) : t.size = n / 2 := by
  rw [← T.length_toList, ht, diag, List.length_map, ← odds n]
  congr 1
  refine List.filter_congr fun x hx => ?_
  have := List.mem_range.1 hx
  have e : decide (2 * j ≤ x) = false := by simp; omega
  rw [e, Bool.or_false]
end Go.Proofs.MT
