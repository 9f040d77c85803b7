/- The tree's look-ups as plain functions, and what they find in a sorted tree. -/
import Derived.Test.YtnhngaadegebfaaTreeLaws
namespace Go.Proofs.MT
open KOrd (lt)
namespace T
variable {K V : Type}

def floor [KOrd K] (k : K) (best : T K V) : T K V → T K V
  | nil => best
  | node l q v r => if lt k q then floor k best l else floor k (node l q v r) r

def ceil [KOrd K] (k : K) (best : T K V) : T K V → T K V
  | nil => best
  | node l q v r => if lt q k then ceil k best r else ceil k (node l q v r) l

def at_ (i : Int) : T K V → T K V
  | nil => nil
  | node l q v r => if i < (l.size : Int) then at_ i l else if (l.size : Int) < i then at_ (i - l.size - 1) r else node l q v r

def root : T K V → Option (K × V)
  | nil => none
  | node _ k v _ => some (k, v)

theorem rank_spec [KOrd K] (k : K) (t : T K V) (h : Sorted t.toList) : rank k t = (t.toList.filter fun p => lt p.1 k).length := by
  induction t with
  | nil => rfl
  | node l q v r ihl ihr =>
    rw [toList] at h ⊢
    obtain ⟨h1, h2, h3, h4⟩ := sorted_node.1 h
    rw [rank, List.filter_append, List.length_append, List.filter_cons]
    split
    · rename_i hq
      have e : (l.toList.filter fun p => lt p.1 k) = l.toList := List.filter_eq_self.2 fun p hp => KOrd.trans (h3 p hp) hq
      rw [e, length_toList, ihr h2, List.length_cons]
      omega
    · rename_i hq
      have e : (r.toList.filter fun p => lt p.1 k) = [] := by
        rw [List.filter_eq_nil_iff]
        intro p hp hl
        exact hq (KOrd.trans (h4 p hp) hl)
      rw [e, ihl h1]
      simp

theorem at_spec (t : T K V) : ∀ i : Int, (at_ i t).root = if 0 ≤ i then t.toList[i.toNat]? else none := by
  induction t with
  | nil => intro i; simp [at_, root, toList]
  | node l q v r ihl ihr =>
    intro i
    rw [at_, toList]
    have hl := length_toList l
    split
    · rename_i h
      rw [ihl]
      split
      · rw [List.getElem?_append_left (by omega)]
      · rfl
    · rename_i h
      rw [if_pos (by omega : (0 : Int) ≤ i), List.getElem?_append_right (by omega)]
      split
      · rename_i h2
        rw [ihr, if_pos (by omega)]
        obtain ⟨m, hm⟩ : ∃ m, i.toNat - l.toList.length = m + 1 := ⟨i.toNat - l.toList.length - 1, by omega⟩
        rw [hm, List.getElem?_cons_succ]
        congr 1
        omega
      · rename_i h2
        have : i.toNat - l.toList.length = 0 := by omega
        rw [this]
        rfl

/-- The last of the pairs whose keys are at most k; the first that comes with best. -/
theorem floor_spec [KOrd K] (k : K) (t : T K V) (h : Sorted t.toList) : ∀ best : T K V, (floor k best t).root = ((t.toList.filter fun p => !lt k p.1).getLast?).or best.root := by
  induction t with
  | nil => intro best; simp [floor, toList]
  | node l q v r ihl ihr =>
    intro best
    rw [toList] at h ⊢
    obtain ⟨h1, h2, h3, h4⟩ := sorted_node.1 h
    rw [floor, List.filter_append, List.filter_cons]
    split
    · rename_i hk
      have e : (r.toList.filter fun p => !lt k p.1) = [] := by
        rw [List.filter_eq_nil_iff]
        intro p hp
        simp [KOrd.trans hk (h4 p hp)]
      rw [ihl h1, e]
      simp [hk]
    · rename_i hk
      rw [ihr h2]
      have hk' : lt k q = false := by simpa using hk
      simp only [hk', Bool.not_false, if_true, root]
      rw [List.getLast?_append, List.getLast?_cons]
      cases hh : (r.toList.filter fun p => !lt k p.1).getLast? <;> simp

theorem ceil_spec [KOrd K] (k : K) (t : T K V) (h : Sorted t.toList) : ∀ best : T K V, (ceil k best t).root = ((t.toList.filter fun p => !lt p.1 k).head?).or best.root := by
  induction t with
  | nil => intro best; simp [ceil, toList]
  | node l q v r ihl ihr =>
    intro best
    rw [toList] at h ⊢
    obtain ⟨h1, h2, h3, h4⟩ := sorted_node.1 h
    rw [ceil, List.filter_append, List.filter_cons]
    split
    · rename_i hk
      have e : (l.toList.filter fun p => !lt p.1 k) = [] := by
        rw [List.filter_eq_nil_iff]
        intro p hp
        simp [KOrd.trans (h3 p hp) hk]
      rw [ihr h2, e]
      simp [hk]
    · rename_i hk
      rw [ihl h1]
      have hk' : lt q k = false := by simpa using hk
      simp only [hk', Bool.not_false, if_true, root]
      rw [List.head?_append]
      cases hh : (l.toList.filter fun p => !lt p.1 k).head? <;> simp

end T
end Go.Proofs.MT
