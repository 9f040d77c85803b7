/- The plain tree and its functions, the plain laws, trees and rows of pairs in memory. -/
import Derived.WalkKit
import Derived.Deep.Draws
import Derived.Lib.Hide
import Derived.Laws.AppendOwn

/- The plain mathematics of the weight-balanced tree: contents, balance and depth of what the tree's functions compute, for any ordered kind of keys. -/
namespace Go.Proofs.MT

/-- An order of keys, as the program asks for it. -/
class KOrd (K : Type) where
  lt : K → K → Bool
  irrefl : ∀ a, lt a a = false
  trans : ∀ {a b c}, lt a b = true → lt b c = true → lt a c = true
  tri : ∀ {a b}, lt a b = false → lt b a = false → a = b

open KOrd (lt)

theorem lt_asymm {K : Type} [KOrd K] {a b : K} (h : lt a b = true) : lt b a = false := by
  cases hb : lt b a with
  | false => rfl
  | true => have := KOrd.trans h hb; rw [KOrd.irrefl] at this; cases this

inductive T (K V : Type) where
  | nil
  | node (l : T K V) (k : K) (v : V) (r : T K V)

namespace T
variable {K V : Type}

def size : T K V → Nat
  | nil => 0
  | node l _ _ r => l.size + r.size + 1

def toList : T K V → List (K × V)
  | nil => []
  | node l k v r => l.toList ++ (k, v) :: r.toList

def depth : T K V → Nat
  | nil => 0
  | node l _ _ r => 1 + max l.depth r.depth

def left : T K V → T K V
  | nil => nil
  | node l _ _ _ => l
def right : T K V → T K V
  | nil => nil
  | node _ _ _ r => r

theorem length_toList : ∀ t : T K V, t.toList.length = t.size
  | nil => rfl
  | node l k v r => by simp only [toList, List.length_append, List.length_cons, length_toList l, length_toList r, size]; omega

/-- The first tree is not too light beside the second one. -/
def light (a b : T K V) : Bool := decide (b.size + 1 ≤ 3 * (a.size + 1))
def turned (a b : T K V) : Bool := decide (a.size + 1 < 2 * (b.size + 1))

def balL (l : T K V) (k : K) (v : V) (r : T K V) : T K V :=   -- the left tree is too heavy
  match l with
  | nil => node l k v r
  | node ll lk lv lr =>
    if turned lr ll then node ll lk lv (node lr k v r)
    else match lr with
      | nil => node l k v r
      | node a mk mv b => node (node ll lk lv a) mk mv (node b k v r)

def balR (l : T K V) (k : K) (v : V) (r : T K V) : T K V :=   -- the right tree is too heavy
  match r with
  | nil => node l k v r
  | node rl rk rv rr =>
    if turned rl rr then node (node l k v rl) rk rv rr
    else match rl with
      | nil => node l k v r
      | node a mk mv b => node (node l k v a) mk mv (node b rk rv rr)

def balanced (l : T K V) (k : K) (v : V) (r : T K V) : T K V :=
  if light l r then (if light r l then node l k v r else balL l k v r) else balR l k v r

def Bal : T K V → Prop
  | nil => True
  | node l _ _ r => r.size + 1 ≤ 3 * (l.size + 1) ∧ l.size + 1 ≤ 3 * (r.size + 1) ∧ l.Bal ∧ r.Bal

theorem balL_toList (l : T K V) (k : K) (v : V) (r : T K V) : (balL l k v r).toList = l.toList ++ (k, v) :: r.toList := by
  unfold balL
  split
  · rfl
  · split
    · simp [toList]
    · split <;> simp [toList]

theorem balR_toList (l : T K V) (k : K) (v : V) (r : T K V) : (balR l k v r).toList = l.toList ++ (k, v) :: r.toList := by
  unfold balR
  split
  · rfl
  · split
    · simp [toList]
    · split <;> simp [toList]

theorem balanced_toList (l : T K V) (k : K) (v : V) (r : T K V) : (balanced l k v r).toList = l.toList ++ (k, v) :: r.toList := by
  unfold balanced
  split
  · split
    · rfl
    · exact balL_toList l k v r
  · exact balR_toList l k v r

theorem size_of_toList {a : T K V} {n : Nat} (h : a.toList.length = n) : a.size = n := by rw [← length_toList]; exact h

theorem balanced_size (l : T K V) (k : K) (v : V) (r : T K V) : (balanced l k v r).size = l.size + r.size + 1 := by
  apply size_of_toList
  rw [balanced_toList]
  simp only [List.length_append, List.length_cons, length_toList]
  omega

theorem balL_bal {l : T K V} {k : K} {v : V} {r : T K V} (hl : l.Bal) (hr : r.Bal) (h : 3 * (r.size + 1) < l.size + 1)
    (h2 : 2 * (l.size + 1) ≤ 9 * (r.size + 1) ∨ l.size + 1 ≤ 3 * (r.size + 1) + 3) : (balL l k v r).Bal := by
  unfold balL
  split
  · simp only [size] at h; omega
  · rename_i ll lk lv lr
    simp only [Bal, size] at hl h h2
    obtain ⟨h3, h4, h5, h6⟩ := hl
    split
    · rename_i ht
      simp only [turned, decide_eq_true_eq] at ht
      simp only [Bal, size]
      refine ⟨by omega, by omega, h5, by omega, by omega, h6, hr⟩
    · rename_i ht
      simp only [turned, decide_eq_true_eq] at ht
      split
      · simp only [size] at *; omega
      · rename_i a mk mv b
        simp only [Bal, size] at *
        obtain ⟨h7, h8, h9, h10⟩ := h6
        refine ⟨by omega, by omega, ⟨by omega, by omega, h5, h9⟩, by omega, by omega, h10, hr⟩

theorem balR_bal {l : T K V} {k : K} {v : V} {r : T K V} (hl : l.Bal) (hr : r.Bal) (h : 3 * (l.size + 1) < r.size + 1)
    (h2 : 2 * (r.size + 1) ≤ 9 * (l.size + 1) ∨ r.size + 1 ≤ 3 * (l.size + 1) + 3) : (balR l k v r).Bal := by
  unfold balR
  split
  · simp only [size] at h; omega
  · rename_i rl rk rv rr
    simp only [Bal, size] at hr h h2
    obtain ⟨h3, h4, h5, h6⟩ := hr
    split
    · rename_i ht
      simp only [turned, decide_eq_true_eq] at ht
      simp only [Bal, size]
      refine ⟨by omega, by omega, ⟨by omega, by omega, hl, h5⟩, h6⟩
    · rename_i ht
      simp only [turned, decide_eq_true_eq] at ht
      split
      · simp only [size] at *; omega
      · rename_i a mk mv b
        simp only [Bal, size] at *
        obtain ⟨h7, h8, h9, h10⟩ := h5
        refine ⟨by omega, by omega, ⟨by omega, by omega, hl, h9⟩, by omega, by omega, h10, h6⟩

/-- One tree may be a little too heavy. -/
theorem balanced_bal {l : T K V} {k : K} {v : V} {r : T K V} (hl : l.Bal) (hr : r.Bal)
    (h1 : 2 * (l.size + 1) ≤ 9 * (r.size + 1) ∨ l.size + 1 ≤ 3 * (r.size + 1) + 3)
    (h2 : 2 * (r.size + 1) ≤ 9 * (l.size + 1) ∨ r.size + 1 ≤ 3 * (l.size + 1) + 3) : (balanced l k v r).Bal := by
  unfold balanced
  split
  · rename_i ha
    simp only [light, decide_eq_true_eq] at ha
    split
    · rename_i hb
      simp only [light, decide_eq_true_eq] at hb
      exact ⟨ha, hb, hl, hr⟩
    · rename_i hb
      simp only [light, decide_eq_true_eq] at hb
      exact balL_bal hl hr (by omega) h1
  · rename_i ha
    simp only [light, decide_eq_true_eq] at ha
    exact balR_bal hl hr (by omega) h2

def link (l : T K V) (k : K) (v : V) (r : T K V) : T K V :=
  if light l r then
    if light r l then node l k v r
    else match l with
      | nil => node l k v r
      | node ll lk lv lr => balanced ll lk lv (link lr k v r)
  else match r with
    | nil => node l k v r
    | node rl rk rv rr => balanced (link l k v rl) rk rv rr
termination_by l.size + r.size
decreasing_by all_goals (subst_vars; simp only [size] at *; omega)

theorem link_toList (l : T K V) (k : K) (v : V) (r : T K V) : (link l k v r).toList = l.toList ++ (k, v) :: r.toList := by
  unfold link
  split
  · split
    · rfl
    · split
      · rfl
      · rename_i ll lk lv lr
        rw [balanced_toList, link_toList]; simp [toList]
  · split
    · rfl
    · rename_i rl rk rv rr
      rw [balanced_toList, link_toList]; simp [toList]
termination_by l.size + r.size
decreasing_by all_goals (subst_vars; simp only [size] at *; omega)

theorem link_size (l : T K V) (k : K) (v : V) (r : T K V) : (link l k v r).size = l.size + r.size + 1 := by
  apply size_of_toList
  rw [link_toList]
  simp only [List.length_append, List.length_cons, length_toList]
  omega

theorem link_bal (l : T K V) (k : K) (v : V) (r : T K V) (hl : l.Bal) (hr : r.Bal) : (link l k v r).Bal := by
  unfold link
  split
  · rename_i ha
    simp only [light, decide_eq_true_eq] at ha
    split
    · rename_i hb
      simp only [light, decide_eq_true_eq] at hb
      exact ⟨ha, hb, hl, hr⟩
    · rename_i hb
      simp only [light, decide_eq_true_eq] at hb
      split
      · simp only [size] at *; omega
      · rename_i ll lk lv lr
        obtain ⟨h1, h2, h3, h4⟩ := hl
        simp only [size] at *
        refine balanced_bal h3 (link_bal lr k v r h4 hr) ?_ ?_ <;> rw [link_size] <;> omega
  · rename_i ha
    simp only [light, decide_eq_true_eq] at ha
    split
    · simp only [size] at *; omega
    · rename_i rl rk rv rr
      obtain ⟨h1, h2, h3, h4⟩ := hr
      simp only [size] at *
      refine balanced_bal (link_bal l k v rl hl h3) h4 ?_ ?_ <;> rw [link_size] <;> omega
termination_by l.size + r.size
decreasing_by all_goals (subst_vars; simp only [size] at *; omega)

def behead : T K V → T K V
  | nil => nil
  | node l k v r => match l with
    | nil => r
    | node .. => balanced (behead l) k v r

def first : T K V → Option (K × V)
  | nil => none
  | node l k v _ => match l with
    | nil => some (k, v)
    | node .. => first l

theorem first_behead (t : T K V) : ∀ p, t.first = some p → t.toList = p :: t.behead.toList := by
  induction t with
  | nil => intro p h; cases h
  | node l k v r ihl _ =>
    intro p h
    cases l with
    | nil => simp only [first, Option.some.injEq] at h; subst h; rfl
    | node a b c d =>
      simp only [first] at h
      have := ihl p h
      rw [behead, balanced_toList, toList, this]
      rfl

theorem first_node (l : T K V) (k : K) (v : V) (r : T K V) : ∃ p, (node l k v r).first = some p := by
  induction l generalizing k v r with
  | nil => exact ⟨_, rfl⟩
  | node a b c d iha _ => exact iha b c d

theorem behead_size {t : T K V} (h : t ≠ nil) : t.behead.size + 1 = t.size := by
  cases t with
  | nil => exact absurd rfl h
  | node l k v r =>
    obtain ⟨p, hp⟩ := first_node l k v r
    have := congrArg List.length (first_behead _ p hp)
    simp only [List.length_cons, length_toList] at this
    omega

theorem behead_bal (t : T K V) (h : t.Bal) : t.behead.Bal := by
  induction t with
  | nil => exact h
  | node l k v r ihl _ =>
    obtain ⟨h1, h2, h3, h4⟩ := h
    cases l with
    | nil => exact h4
    | node a b c d =>
      have hs := behead_size (t := node a b c d) (by intro h; cases h)
      rw [behead]
      exact balanced_bal (ihl h3) h4 (by omega) (by omega)

def merge (l r : T K V) : T K V :=
  match r.first with
  | none => l
  | some (k, v) => link l k v r.behead

theorem first_none {t : T K V} (h : t.first = none) : t = nil := by
  cases t with
  | nil => rfl
  | node l k v r => obtain ⟨p, hp⟩ := first_node l k v r; rw [hp] at h; cases h

theorem merge_toList (l r : T K V) : (merge l r).toList = l.toList ++ r.toList := by
  unfold merge
  split
  · rename_i h; rw [first_none h]; simp [toList]
  · rename_i k v h; rw [link_toList, first_behead r _ h]

theorem merge_bal (l r : T K V) (hl : l.Bal) (hr : r.Bal) : (merge l r).Bal := by
  unfold merge
  split
  · exact hl
  · exact link_bal _ _ _ _ hl (behead_bal _ hr)

theorem merge_size (l r : T K V) : (merge l r).size = l.size + r.size := by
  apply size_of_toList
  rw [merge_toList]
  simp only [List.length_append, length_toList]

section
variable [KOrd K]

def cut (k : K) : T K V → T K V × T K V × T K V
  | nil => (nil, nil, nil)
  | node l q v r =>
    if lt k q then ((cut k l).1, (cut k l).2.1, link (cut k l).2.2 q v r)
    else if lt q k then (link l q v (cut k r).1, (cut k r).2.1, (cut k r).2.2)
    else (l, node l q v r, r)

def put (k : K) (x : V) : T K V → T K V
  | nil => node nil k x nil
  | node l q v r =>
    if lt k q then balanced (put k x l) q v r
    else if lt q k then balanced l q v (put k x r)
    else node l k x r

def remove (k : K) : T K V → T K V
  | nil => nil
  | node l q v r =>
    if lt k q then balanced (remove k l) q v r
    else if lt q k then balanced l q v (remove k r)
    else merge l r

def find (k : K) : T K V → T K V
  | nil => nil
  | node l q v r =>
    if lt k q then find k l else if lt q k then find k r else node l q v r

def union (a : T K V) : T K V → T K V
  | nil => a
  | node l k v r => match a with
    | nil => node l k v r
    | node .. => link (union (cut k a).1 l) k v (union (cut k a).2.2 r)

def intersect (a : T K V) : T K V → T K V
  | nil => nil
  | node l k v r => match a with
    | nil => nil
    | node .. => match (cut k a).2.1 with
      | nil => merge (intersect (cut k a).1 l) (intersect (cut k a).2.2 r)
      | node .. => link (intersect (cut k a).1 l) k v (intersect (cut k a).2.2 r)

def subtract (a : T K V) : T K V → T K V
  | nil => a
  | node l k _ r => match a with
    | nil => nil
    | node .. => merge (subtract (cut k a).1 l) (subtract (cut k a).2.2 r)

def rank (k : K) : T K V → Nat
  | nil => 0
  | node l q _ r => if lt q k then l.size + 1 + rank k r else rank k l

end
end T
end Go.Proofs.MT

/- What the tree's functions hold, said by membership: for every sorted tree. -/
namespace Go.Proofs.MT
open KOrd (lt)
variable {K V : Type} [KOrd K]

def Sorted (l : List (K × V)) : Prop := l.Pairwise fun a b => lt a.1 b.1 = true

theorem sorted_ext : ∀ {a b : List (K × V)}, Sorted a → Sorted b → (∀ p, p ∈ a ↔ p ∈ b) → a = b
  | [], [], _, _, _ => rfl
  | [], y :: ys, _, _, h => by have := (h y).2 (by simp); cases this
  | x :: xs, [], _, _, h => by have := (h x).1 (by simp); cases this
  | x :: xs, y :: ys, ha, hb, h => by
    have ha' := List.pairwise_cons.1 ha
    have hb' := List.pairwise_cons.1 hb
    have hxy : x = y := by
      have h1 := (h x).1 (by simp)
      have h2 := (h y).2 (by simp)
      rcases List.mem_cons.1 h1 with e | h1
      · exact e
      · rcases List.mem_cons.1 h2 with e | h2
        · exact e.symm
        · have := KOrd.trans (ha'.1 _ h2) (hb'.1 _ h1)
          rw [KOrd.irrefl] at this; cases this
    subst hxy
    have : xs = ys := sorted_ext ha'.2 hb'.2 fun p => by
      constructor
      · intro hp
        rcases List.mem_cons.1 ((h p).1 (by simp [hp])) with e | h1
        · subst e; have := ha'.1 _ hp; rw [KOrd.irrefl] at this; cases this
        · exact h1
      · intro hp
        rcases List.mem_cons.1 ((h p).2 (by simp [hp])) with e | h1
        · subst e; have := hb'.1 _ hp; rw [KOrd.irrefl] at this; cases this
        · exact h1
    rw [this]

theorem Sorted.unique {l : List (K × V)} (h : Sorted l) {p q : K × V} (hp : p ∈ l) (hq : q ∈ l) (e : p.1 = q.1) : p = q := by
  induction l with
  | nil => cases hp
  | cons x xs ih =>
    have h' := List.pairwise_cons.1 h
    rcases List.mem_cons.1 hp with rfl | hp'
    · rcases List.mem_cons.1 hq with rfl | hq'
      · rfl
      · have := h'.1 _ hq'; rw [e, KOrd.irrefl] at this; cases this
    · rcases List.mem_cons.1 hq with rfl | hq'
      · have := h'.1 _ hp'; rw [e, KOrd.irrefl] at this; cases this
      · exact ih h'.2 hp' hq'

/-- What a sorted tree's node says of its parts. -/
theorem sorted_node {l : List (K × V)} {p : K × V} {r : List (K × V)} : Sorted (l ++ p :: r) ↔ Sorted l ∧ Sorted r ∧ (∀ q ∈ l, lt q.1 p.1 = true) ∧ (∀ q ∈ r, lt p.1 q.1 = true) := by
  unfold Sorted
  rw [List.pairwise_append, List.pairwise_cons]
  constructor
  · rintro ⟨h1, ⟨h2, h3⟩, h4⟩
    exact ⟨h1, h3, fun q hq => h4 q hq p (by simp), h2⟩
  · rintro ⟨h1, h2, h3, h4⟩
    refine ⟨h1, ⟨h4, h2⟩, fun a ha b hb => ?_⟩
    rcases List.mem_cons.1 hb with rfl | hb
    · exact h3 a ha
    · exact KOrd.trans (h3 a ha) (h4 b hb)

theorem sorted_append {l r : List (K × V)} (h1 : Sorted l) (h2 : Sorted r) (h : ∀ a ∈ l, ∀ b ∈ r, lt a.1 b.1 = true) : Sorted (l ++ r) :=
  List.pairwise_append.2 ⟨h1, h2, h⟩

theorem eq_of_not {a b : K} (h1 : ¬ lt a b = true) (h2 : ¬ lt b a = true) : a = b := KOrd.tri (by simpa using h1) (by simpa using h2)

namespace T

theorem cut_spec (k : K) (t : T K V) (h : Sorted t.toList) :
    Sorted (cut k t).1.toList ∧ (∀ p, p ∈ (cut k t).1.toList ↔ p ∈ t.toList ∧ lt p.1 k = true) ∧
    Sorted (cut k t).2.2.toList ∧ (∀ p, p ∈ (cut k t).2.2.toList ↔ p ∈ t.toList ∧ lt k p.1 = true) ∧
    ((cut k t).2.1 = nil ∧ (∀ p ∈ t.toList, p.1 ≠ k) ∨ ∃ l v r, (cut k t).2.1 = node l k v r ∧ (k, v) ∈ t.toList) := by
  induction t with
  | nil => simp [cut, toList, Sorted]
  | node l q v r ihl ihr =>
    rw [toList] at h
    obtain ⟨h1, h2, h3, h4⟩ := sorted_node.1 h
    rw [cut]
    split
    · rename_i hk
      obtain ⟨a1, a2, a3, a4, a5⟩ := ihl h1
      refine ⟨a1, ?_, ?_, ?_, ?_⟩
      · intro p
        rw [a2, toList]
        constructor
        · rintro ⟨hp, hl⟩; exact ⟨by simp [hp], hl⟩
        · rintro ⟨hp, hl⟩
          refine ⟨?_, hl⟩
          rcases List.mem_append.1 hp with hp | hp
          · exact hp
          · rcases List.mem_cons.1 hp with rfl | hp
            · rw [lt_asymm hk] at hl; cases hl
            · rw [lt_asymm (KOrd.trans hk (h4 p hp))] at hl; cases hl
      · rw [link_toList]
        exact sorted_node.2 ⟨a3, h2, fun x hx => h3 x ((a4 x).1 hx).1, h4⟩
      · intro p
        rw [link_toList, toList]
        simp only [List.mem_append, List.mem_cons, a4]
        constructor
        · rintro (⟨hp, hl⟩ | rfl | hp)
          · exact ⟨.inl hp, hl⟩
          · exact ⟨.inr (.inl rfl), hk⟩
          · exact ⟨.inr (.inr hp), KOrd.trans hk (h4 p hp)⟩
        · rintro ⟨hp | rfl | hp, hl⟩
          · exact .inl ⟨hp, hl⟩
          · exact .inr (.inl rfl)
          · exact .inr (.inr hp)
      · rcases a5 with ⟨e, hn⟩ | ⟨l', v', r', e, hm⟩
        · refine .inl ⟨e, fun p hp => ?_⟩
          rw [toList] at hp
          rcases List.mem_append.1 hp with hp | hp
          · exact hn p hp
          · rcases List.mem_cons.1 hp with rfl | hp
            · intro e; rw [← e, KOrd.irrefl] at hk; cases hk
            · intro e; have := KOrd.trans hk (h4 p hp); rw [e, KOrd.irrefl] at this; cases this
        · exact .inr ⟨l', v', r', e, by rw [toList]; simp [hm]⟩
    · rename_i hk
      split
      · rename_i hq
        obtain ⟨a1, a2, a3, a4, a5⟩ := ihr h2
        refine ⟨?_, ?_, a3, ?_, ?_⟩
        · rw [link_toList]
          exact sorted_node.2 ⟨h1, a1, h3, fun x hx => h4 x ((a2 x).1 hx).1⟩
        · intro p
          rw [link_toList, toList]
          simp only [List.mem_append, List.mem_cons, a2]
          constructor
          · rintro (hp | rfl | ⟨hp, hl⟩)
            · exact ⟨.inl hp, KOrd.trans (h3 p hp) hq⟩
            · exact ⟨.inr (.inl rfl), hq⟩
            · exact ⟨.inr (.inr hp), hl⟩
          · rintro ⟨hp | rfl | hp, hl⟩
            · exact .inl hp
            · exact .inr (.inl rfl)
            · exact .inr (.inr ⟨hp, hl⟩)
        · intro p
          rw [a4, toList]
          constructor
          · rintro ⟨hp, hl⟩; exact ⟨by simp [hp], hl⟩
          · rintro ⟨hp, hl⟩
            refine ⟨?_, hl⟩
            rcases List.mem_append.1 hp with hp | hp
            · rw [lt_asymm (KOrd.trans (h3 p hp) hq)] at hl; cases hl
            · rcases List.mem_cons.1 hp with rfl | hp
              · rw [lt_asymm hq] at hl; cases hl
              · exact hp
        · rcases a5 with ⟨e, hn⟩ | ⟨l', v', r', e, hm⟩
          · refine .inl ⟨e, fun p hp => ?_⟩
            rw [toList] at hp
            rcases List.mem_append.1 hp with hp | hp
            · intro e; have := KOrd.trans (h3 p hp) hq; rw [e, KOrd.irrefl] at this; cases this
            · rcases List.mem_cons.1 hp with rfl | hp
              · intro e; rw [← e, KOrd.irrefl] at hq; cases hq
              · exact hn p hp
          · exact .inr ⟨l', v', r', e, by rw [toList]; simp [hm]⟩
      · rename_i hq
        obtain rfl : k = q := eq_of_not hk hq
        refine ⟨h1, ?_, h2, ?_, .inr ⟨l, v, r, rfl, by rw [toList]; simp⟩⟩
        · intro p
          rw [toList]
          simp only [List.mem_append, List.mem_cons]
          constructor
          · intro hp; exact ⟨.inl hp, h3 p hp⟩
          · rintro ⟨hp | rfl | hp, hl⟩
            · exact hp
            · simp [KOrd.irrefl] at hl
            · rw [lt_asymm (h4 p hp)] at hl; cases hl
        · intro p
          rw [toList]
          simp only [List.mem_append, List.mem_cons]
          constructor
          · intro hp; exact ⟨.inr (.inr hp), h4 p hp⟩
          · rintro ⟨hp | rfl | hp, hl⟩
            · rw [lt_asymm (h3 p hp)] at hl; cases hl
            · simp [KOrd.irrefl] at hl
            · exact hp

theorem put_spec (k : K) (x : V) (t : T K V) (h : Sorted t.toList) :
    Sorted (put k x t).toList ∧ ∀ p, p ∈ (put k x t).toList ↔ p = (k, x) ∨ p ∈ t.toList ∧ p.1 ≠ k := by
  induction t with
  | nil => simp [put, toList, Sorted]
  | node l q v r ihl ihr =>
    rw [toList] at h
    obtain ⟨h1, h2, h3, h4⟩ := sorted_node.1 h
    rw [put]
    split
    · rename_i hk
      obtain ⟨a1, a2⟩ := ihl h1
      rw [balanced_toList, toList]
      refine ⟨sorted_node.2 ⟨a1, h2, ?_, h4⟩, fun p => ?_⟩
      · intro y hy
        rcases (a2 y).1 hy with rfl | ⟨hy, _⟩
        · exact hk
        · exact h3 y hy
      · simp only [List.mem_append, List.mem_cons, a2]
        constructor
        · rintro ((rfl | ⟨hp, hn⟩) | rfl | hp)
          · exact .inl rfl
          · exact .inr ⟨.inl hp, hn⟩
          · refine .inr ⟨.inr (.inl rfl), ?_⟩
            rintro rfl; simp [KOrd.irrefl] at hk
          · refine .inr ⟨.inr (.inr hp), ?_⟩
            rintro rfl; have := KOrd.trans hk (h4 p hp); simp [KOrd.irrefl] at this
        · rintro (rfl | ⟨hp | rfl | hp, hn⟩)
          · exact .inl (.inl rfl)
          · exact .inl (.inr ⟨hp, hn⟩)
          · exact .inr (.inl rfl)
          · exact .inr (.inr hp)
    · rename_i hk
      split
      · rename_i hq
        obtain ⟨a1, a2⟩ := ihr h2
        rw [balanced_toList, toList]
        refine ⟨sorted_node.2 ⟨h1, a1, h3, ?_⟩, fun p => ?_⟩
        · intro y hy
          rcases (a2 y).1 hy with rfl | ⟨hy, _⟩
          · exact hq
          · exact h4 y hy
        · simp only [List.mem_append, List.mem_cons, a2]
          constructor
          · rintro (hp | rfl | rfl | ⟨hp, hn⟩)
            · refine .inr ⟨.inl hp, ?_⟩
              rintro rfl; have := KOrd.trans (h3 p hp) hq; simp [KOrd.irrefl] at this
            · refine .inr ⟨.inr (.inl rfl), ?_⟩
              rintro rfl; simp [KOrd.irrefl] at hq
            · exact .inl rfl
            · exact .inr ⟨.inr (.inr hp), hn⟩
          · rintro (rfl | ⟨hp | rfl | hp, hn⟩)
            · exact .inr (.inr (.inl rfl))
            · exact .inl hp
            · exact .inr (.inl rfl)
            · exact .inr (.inr (.inr ⟨hp, hn⟩))
      · rename_i hq
        obtain rfl : k = q := eq_of_not hk hq
        refine ⟨sorted_node.2 ⟨h1, h2, h3, h4⟩, fun p => ?_⟩
        rw [toList, toList]
        simp only [List.mem_append, List.mem_cons]
        constructor
        · rintro (hp | rfl | hp)
          · refine .inr ⟨.inl hp, ?_⟩
            rintro rfl; have := h3 p hp; simp [KOrd.irrefl] at this
          · exact .inl rfl
          · refine .inr ⟨.inr (.inr hp), ?_⟩
            rintro rfl; have := h4 p hp; simp [KOrd.irrefl] at this
        · rintro (rfl | ⟨hp | rfl | hp, hn⟩)
          · exact .inr (.inl rfl)
          · exact .inl hp
          · exact absurd rfl hn
          · exact .inr (.inr hp)

theorem remove_spec (k : K) (t : T K V) (h : Sorted t.toList) :
    Sorted (remove k t).toList ∧ ∀ p, p ∈ (remove k t).toList ↔ p ∈ t.toList ∧ p.1 ≠ k := by
  induction t with
  | nil => simp [remove, toList, Sorted]
  | node l q v r ihl ihr =>
    rw [toList] at h
    obtain ⟨h1, h2, h3, h4⟩ := sorted_node.1 h
    rw [remove]
    split
    · rename_i hk
      obtain ⟨a1, a2⟩ := ihl h1
      rw [balanced_toList, toList]
      refine ⟨sorted_node.2 ⟨a1, h2, fun y hy => h3 y ((a2 y).1 hy).1, h4⟩, fun p => ?_⟩
      simp only [List.mem_append, List.mem_cons, a2]
      constructor
      · rintro (⟨hp, hn⟩ | rfl | hp)
        · exact ⟨.inl hp, hn⟩
        · refine ⟨.inr (.inl rfl), ?_⟩
          rintro rfl; simp [KOrd.irrefl] at hk
        · refine ⟨.inr (.inr hp), ?_⟩
          rintro rfl; have := KOrd.trans hk (h4 p hp); simp [KOrd.irrefl] at this
      · rintro ⟨hp | rfl | hp, hn⟩
        · exact .inl ⟨hp, hn⟩
        · exact .inr (.inl rfl)
        · exact .inr (.inr hp)
    · rename_i hk
      split
      · rename_i hq
        obtain ⟨a1, a2⟩ := ihr h2
        rw [balanced_toList, toList]
        refine ⟨sorted_node.2 ⟨h1, a1, h3, fun y hy => h4 y ((a2 y).1 hy).1⟩, fun p => ?_⟩
        simp only [List.mem_append, List.mem_cons, a2]
        constructor
        · rintro (hp | rfl | ⟨hp, hn⟩)
          · refine ⟨.inl hp, ?_⟩
            rintro rfl; have := KOrd.trans (h3 p hp) hq; simp [KOrd.irrefl] at this
          · refine ⟨.inr (.inl rfl), ?_⟩
            rintro rfl; simp [KOrd.irrefl] at hq
          · exact ⟨.inr (.inr hp), hn⟩
        · rintro ⟨hp | rfl | hp, hn⟩
          · exact .inl hp
          · exact .inr (.inl rfl)
          · exact .inr (.inr ⟨hp, hn⟩)
      · rename_i hq
        obtain rfl : k = q := eq_of_not hk hq
        rw [merge_toList, toList]
        refine ⟨sorted_append h1 h2 fun a ha b hb => KOrd.trans (h3 a ha) (h4 b hb), fun p => ?_⟩
        simp only [List.mem_append, List.mem_cons]
        constructor
        · rintro (hp | hp)
          · refine ⟨.inl hp, ?_⟩
            rintro rfl; have := h3 p hp; simp [KOrd.irrefl] at this
          · refine ⟨.inr (.inr hp), ?_⟩
            rintro rfl; have := h4 p hp; simp [KOrd.irrefl] at this
        · rintro ⟨hp | rfl | hp, hn⟩
          · exact .inl hp
          · exact absurd rfl hn
          · exact .inr hp

theorem find_spec (k : K) (t : T K V) (h : Sorted t.toList) :
    find k t = nil ∧ (∀ p ∈ t.toList, p.1 ≠ k) ∨ ∃ l v r, find k t = node l k v r ∧ (k, v) ∈ t.toList := by
  induction t with
  | nil => left; simp [find, toList]
  | node l q v r ihl ihr =>
    rw [toList] at h
    obtain ⟨h1, h2, h3, h4⟩ := sorted_node.1 h
    rw [find]
    split
    · rename_i hk
      rcases ihl h1 with ⟨e, hn⟩ | ⟨l', v', r', e, hm⟩
      · refine .inl ⟨e, fun p hp => ?_⟩
        rw [toList] at hp
        rcases List.mem_append.1 hp with hp | hp
        · exact hn p hp
        · rcases List.mem_cons.1 hp with rfl | hp
          · rintro rfl; simp [KOrd.irrefl] at hk
          · rintro rfl; have := KOrd.trans hk (h4 p hp); simp [KOrd.irrefl] at this
      · exact .inr ⟨l', v', r', e, by rw [toList]; simp [hm]⟩
    · rename_i hk
      split
      · rename_i hq
        rcases ihr h2 with ⟨e, hn⟩ | ⟨l', v', r', e, hm⟩
        · refine .inl ⟨e, fun p hp => ?_⟩
          rw [toList] at hp
          rcases List.mem_append.1 hp with hp | hp
          · rintro rfl; have := KOrd.trans (h3 p hp) hq; simp [KOrd.irrefl] at this
          · rcases List.mem_cons.1 hp with rfl | hp
            · rintro rfl; simp [KOrd.irrefl] at hq
            · exact hn p hp
        · exact .inr ⟨l', v', r', e, by rw [toList]; simp [hm]⟩
      · rename_i hq
        obtain rfl : k = q := eq_of_not hk hq
        exact .inr ⟨l, v, r, rfl, by rw [toList]; simp⟩

theorem ne_of_lt {a b : K} (h : lt a b = true) : a ≠ b := by rintro rfl; rw [KOrd.irrefl] at h; cases h
theorem ne_of_gt {a b : K} (h : lt a b = true) : b ≠ a := by rintro rfl; rw [KOrd.irrefl] at h; cases h

theorem three (a b : K) : lt a b = true ∨ a = b ∨ lt b a = true := by
  cases h1 : lt a b with
  | true => exact .inl rfl
  | false => cases h2 : lt b a with
    | true => exact .inr (.inr rfl)
    | false => exact .inr (.inl (KOrd.tri h1 h2))

theorem union_spec (b : T K V) : ∀ (a : T K V), Sorted a.toList → Sorted b.toList →
    Sorted (union a b).toList ∧ ∀ p, p ∈ (union a b).toList ↔ p ∈ b.toList ∨ p ∈ a.toList ∧ ∀ q ∈ b.toList, q.1 ≠ p.1 := by
  induction b with
  | nil => intro a ha _; refine ⟨by simpa [union] using ha, fun p => by simp [union, toList]⟩
  | node l k v r ihl ihr =>
    intro a ha hb
    cases a with
    | nil => refine ⟨by simpa [union] using hb, fun p => by simp [union, toList]⟩
    | node a1 a2 a3 a4 =>
      generalize hA : node a1 a2 a3 a4 = A at *
      have hu : union A (node l k v r) = link (union (cut k A).1 l) k v (union (cut k A).2.2 r) := by rw [← hA]; rfl
      rw [hu]
      rw [toList] at hb ⊢
      obtain ⟨h1, h2, h3, h4⟩ := sorted_node.1 hb
      obtain ⟨c1, c2, c3, c4, _⟩ := cut_spec k A ha
      obtain ⟨l1, l2⟩ := ihl _ c1 h1
      obtain ⟨r1, r2⟩ := ihr _ c3 h2
      rw [link_toList]
      refine ⟨sorted_node.2 ⟨l1, r1, ?_, ?_⟩, fun p => ?_⟩
      · intro q hq
        rcases (l2 q).1 hq with hq | ⟨hq, _⟩
        · exact h3 q hq
        · exact ((c2 q).1 hq).2
      · intro q hq
        rcases (r2 q).1 hq with hq | ⟨hq, _⟩
        · exact h4 q hq
        · exact ((c4 q).1 hq).2
      · simp only [List.mem_append, List.mem_cons, l2, r2, c2, c4]
        constructor
        · rintro ((hp | ⟨⟨hp, hl⟩, hn⟩) | rfl | (hp | ⟨⟨hp, hl⟩, hn⟩))
          · exact .inl (.inl hp)
          · refine .inr ⟨hp, ?_⟩
            rintro q (hq | rfl | hq)
            · exact hn q hq
            · exact ne_of_gt hl
            · exact ne_of_gt (KOrd.trans hl (h4 q hq))
          · exact .inl (.inr (.inl rfl))
          · exact .inl (.inr (.inr hp))
          · refine .inr ⟨hp, ?_⟩
            rintro q (hq | rfl | hq)
            · exact ne_of_lt (KOrd.trans (h3 q hq) hl)
            · exact ne_of_lt hl
            · exact hn q hq
        · rintro ((hp | rfl | hp) | ⟨hp, hn⟩)
          · exact .inl (.inl hp)
          · exact .inr (.inl rfl)
          · exact .inr (.inr (.inl hp))
          · rcases three p.1 k with hl | e | hl
            · exact .inl (.inr ⟨⟨hp, hl⟩, fun q hq => hn q (.inl hq)⟩)
            · exact absurd e.symm (hn (k, v) (.inr (.inl rfl)))
            · exact .inr (.inr (.inr ⟨⟨hp, hl⟩, fun q hq => hn q (.inr (.inr hq))⟩))

theorem subtract_spec (b : T K V) : ∀ (a : T K V), Sorted a.toList → Sorted b.toList →
    Sorted (subtract a b).toList ∧ ∀ p, p ∈ (subtract a b).toList ↔ p ∈ a.toList ∧ ∀ q ∈ b.toList, q.1 ≠ p.1 := by
  induction b with
  | nil => intro a ha _; refine ⟨by simpa [subtract] using ha, fun p => by simp [subtract, toList]⟩
  | node l k v r ihl ihr =>
    intro a ha hb
    cases a with
    | nil => refine ⟨by simp [subtract, toList, Sorted], fun p => by simp [subtract, toList]⟩
    | node a1 a2 a3 a4 =>
      generalize hA : node a1 a2 a3 a4 = A at *
      have hu : subtract A (node l k v r) = merge (subtract (cut k A).1 l) (subtract (cut k A).2.2 r) := by rw [← hA]; rfl
      rw [hu]
      rw [toList] at hb ⊢
      obtain ⟨h1, h2, h3, h4⟩ := sorted_node.1 hb
      obtain ⟨c1, c2, c3, c4, _⟩ := cut_spec k A ha
      obtain ⟨l1, l2⟩ := ihl _ c1 h1
      obtain ⟨r1, r2⟩ := ihr _ c3 h2
      rw [merge_toList]
      refine ⟨sorted_append l1 r1 ?_, fun p => ?_⟩
      · intro x hx y hy
        exact KOrd.trans ((c2 x).1 ((l2 x).1 hx).1).2 ((c4 y).1 ((r2 y).1 hy).1).2
      · simp only [List.mem_append, List.mem_cons, l2, r2, c2, c4]
        constructor
        · rintro (⟨⟨hp, hl⟩, hn⟩ | ⟨⟨hp, hl⟩, hn⟩)
          · refine ⟨hp, ?_⟩
            rintro q (hq | rfl | hq)
            · exact hn q hq
            · exact ne_of_gt hl
            · exact ne_of_gt (KOrd.trans hl (h4 q hq))
          · refine ⟨hp, ?_⟩
            rintro q (hq | rfl | hq)
            · exact ne_of_lt (KOrd.trans (h3 q hq) hl)
            · exact ne_of_lt hl
            · exact hn q hq
        · rintro ⟨hp, hn⟩
          rcases three p.1 k with hl | e | hl
          · exact .inl ⟨⟨hp, hl⟩, fun q hq => hn q (.inl hq)⟩
          · exact absurd e.symm (hn (k, v) (.inr (.inl rfl)))
          · exact .inr ⟨⟨hp, hl⟩, fun q hq => hn q (.inr (.inr hq))⟩

theorem intersect_spec (b : T K V) : ∀ (a : T K V), Sorted a.toList → Sorted b.toList →
    Sorted (intersect a b).toList ∧ ∀ p, p ∈ (intersect a b).toList ↔ p ∈ b.toList ∧ ∃ q ∈ a.toList, q.1 = p.1 := by
  induction b with
  | nil => intro a _ _; refine ⟨by simp [intersect, toList, Sorted], fun p => by simp [intersect, toList]⟩
  | node l k v r ihl ihr =>
    intro a ha hb
    cases a with
    | nil => refine ⟨by simp [intersect, toList, Sorted], fun p => by simp [intersect, toList]⟩
    | node a1 a2 a3 a4 =>
      generalize hA : node a1 a2 a3 a4 = A at *
      have hu : intersect A (node l k v r) = match (cut k A).2.1 with
        | nil => merge (intersect (cut k A).1 l) (intersect (cut k A).2.2 r)
        | node .. => link (intersect (cut k A).1 l) k v (intersect (cut k A).2.2 r) := by rw [← hA]; rfl
      rw [hu]
      rw [toList] at hb ⊢
      obtain ⟨h1, h2, h3, h4⟩ := sorted_node.1 hb
      obtain ⟨c1, c2, c3, c4, c5⟩ := cut_spec k A ha
      obtain ⟨l1, l2⟩ := ihl _ c1 h1
      obtain ⟨r1, r2⟩ := ihr _ c3 h2
      have hL : ∀ p ∈ l.toList, (∃ q ∈ A.toList, q.1 = p.1) → ∃ q, (q ∈ A.toList ∧ lt q.1 k = true) ∧ q.1 = p.1 := by
        rintro p hp ⟨q, hq, e⟩; exact ⟨q, ⟨hq, by rw [e]; exact h3 p hp⟩, e⟩
      have hR : ∀ p ∈ r.toList, (∃ q ∈ A.toList, q.1 = p.1) → ∃ q, (q ∈ A.toList ∧ lt k q.1 = true) ∧ q.1 = p.1 := by
        rintro p hp ⟨q, hq, e⟩; exact ⟨q, ⟨hq, by rw [e]; exact h4 p hp⟩, e⟩
      rcases c5 with ⟨e, hn⟩ | ⟨l', v', r', e, hm⟩
      · rw [e]
        simp only
        rw [merge_toList]
        refine ⟨sorted_append l1 r1 ?_, fun p => ?_⟩
        · intro x hx y hy
          exact KOrd.trans (h3 x ((l2 x).1 hx).1) (h4 y ((r2 y).1 hy).1)
        · simp only [List.mem_append, List.mem_cons, l2, r2, c2, c4]
          constructor
          · rintro (⟨hp, q, ⟨hq, _⟩, e⟩ | ⟨hp, q, ⟨hq, _⟩, e⟩)
            · exact ⟨.inl hp, q, hq, e⟩
            · exact ⟨.inr (.inr hp), q, hq, e⟩
          · rintro ⟨hp | rfl | hp, hq⟩
            · exact .inl ⟨hp, hL p hp hq⟩
            · obtain ⟨q, hq, e⟩ := hq
              exact absurd e (hn q hq)
            · exact .inr ⟨hp, hR p hp hq⟩
      · rw [e]
        simp only
        rw [link_toList]
        refine ⟨sorted_node.2 ⟨l1, r1, fun x hx => h3 x ((l2 x).1 hx).1, fun y hy => h4 y ((r2 y).1 hy).1⟩, fun p => ?_⟩
        simp only [List.mem_append, List.mem_cons, l2, r2, c2, c4]
        constructor
        · rintro (⟨hp, q, ⟨hq, _⟩, e⟩ | rfl | ⟨hp, q, ⟨hq, _⟩, e⟩)
          · exact ⟨.inl hp, q, hq, e⟩
          · exact ⟨.inr (.inl rfl), (k, v'), hm, rfl⟩
          · exact ⟨.inr (.inr hp), q, hq, e⟩
        · rintro ⟨hp | rfl | hp, hq⟩
          · exact .inl ⟨hp, hL p hp hq⟩
          · exact .inr (.inl rfl)
          · exact .inr (.inr ⟨hp, hR p hp hq⟩)

end T

/-! ### Balance -/
namespace T

theorem cut_bal (k : K) (t : T K V) (h : t.Bal) : (cut k t).1.Bal ∧ (cut k t).2.1.Bal ∧ (cut k t).2.2.Bal := by
  induction t with
  | nil => simp [cut, Bal]
  | node l q v r ihl ihr =>
    have hh := h
    obtain ⟨h1, h2, h3, h4⟩ := h
    rw [cut]
    split
    · obtain ⟨a, b, c⟩ := ihl h3
      exact ⟨a, b, link_bal _ _ _ _ c h4⟩
    · split
      · obtain ⟨a, b, c⟩ := ihr h4
        exact ⟨link_bal _ _ _ _ h3 a, b, c⟩
      · exact ⟨h3, hh, h4⟩

theorem put_size (k : K) (x : V) (t : T K V) : (put k x t).size = t.size ∨ (put k x t).size = t.size + 1 := by
  induction t with
  | nil => right; rfl
  | node l q v r ihl ihr =>
    rw [put]
    split
    · rw [balanced_size, size]; omega
    · split
      · rw [balanced_size, size]; omega
      · left; rfl

theorem put_bal (k : K) (x : V) (t : T K V) (h : t.Bal) : (put k x t).Bal := by
  induction t with
  | nil => simp [put, Bal, size]
  | node l q v r ihl ihr =>
    obtain ⟨h1, h2, h3, h4⟩ := h
    rw [put]
    split
    · have := put_size k x l
      exact balanced_bal (ihl h3) h4 (by omega) (by omega)
    · split
      · have := put_size k x r
        exact balanced_bal h3 (ihr h4) (by omega) (by omega)
      · exact ⟨h1, h2, h3, h4⟩

theorem remove_size (k : K) (t : T K V) : (remove k t).size = t.size ∨ (remove k t).size + 1 = t.size := by
  induction t with
  | nil => left; rfl
  | node l q v r ihl ihr =>
    rw [remove]
    split
    · rw [balanced_size, size]; omega
    · split
      · rw [balanced_size, size]; omega
      · right; rw [merge_size, size]

theorem remove_bal (k : K) (t : T K V) (h : t.Bal) : (remove k t).Bal := by
  induction t with
  | nil => exact h
  | node l q v r ihl ihr =>
    obtain ⟨h1, h2, h3, h4⟩ := h
    rw [remove]
    split
    · have := remove_size k l
      exact balanced_bal (ihl h3) h4 (by omega) (by omega)
    · split
      · have := remove_size k r
        exact balanced_bal h3 (ihr h4) (by omega) (by omega)
      · exact merge_bal _ _ h3 h4

theorem union_bal (b : T K V) : ∀ a : T K V, a.Bal → b.Bal → (union a b).Bal := by
  induction b with
  | nil => intro a ha _; exact ha
  | node l k v r ihl ihr =>
    intro a ha hb
    cases a with
    | nil => exact hb
    | node a1 a2 a3 a4 =>
      obtain ⟨c1, _, c3⟩ := cut_bal k _ ha
      obtain ⟨h1, h2, h3, h4⟩ := hb
      exact link_bal _ _ _ _ (ihl _ c1 h3) (ihr _ c3 h4)

theorem subtract_bal (b : T K V) : ∀ a : T K V, a.Bal → b.Bal → (subtract a b).Bal := by
  induction b with
  | nil => intro a ha _; exact ha
  | node l k v r ihl ihr =>
    intro a ha hb
    cases a with
    | nil => exact ha
    | node a1 a2 a3 a4 =>
      obtain ⟨c1, _, c3⟩ := cut_bal k _ ha
      obtain ⟨h1, h2, h3, h4⟩ := hb
      exact merge_bal _ _ (ihl _ c1 h3) (ihr _ c3 h4)

theorem intersect_bal (b : T K V) : ∀ a : T K V, a.Bal → b.Bal → (intersect a b).Bal := by
  induction b with
  | nil => intro a ha _; exact trivial
  | node l k v r ihl ihr =>
    intro a ha hb
    cases a with
    | nil => exact ha
    | node a1 a2 a3 a4 =>
      obtain ⟨c1, _, c3⟩ := cut_bal k _ ha
      obtain ⟨h1, h2, h3, h4⟩ := hb
      simp only [intersect]
      split
      · exact merge_bal _ _ (ihl _ c1 h3) (ihr _ c3 h4)
      · exact link_bal _ _ _ _ (ihl _ c1 h3) (ihr _ c3 h4)

end T

/-! ### Depth -/
namespace T
variable {K V : Type}

theorem bal_child {l r : T K V} {k : K} {v : V} (h : (node l k v r).Bal) : 4 * (l.size + 1) ≤ 3 * ((node l k v r).size + 1) ∧ 4 * (r.size + 1) ≤ 3 * ((node l k v r).size + 1) := by
  obtain ⟨h1, h2, _, _⟩ := h
  simp only [size]
  omega

theorem depth_le (b : Nat) : ∀ t : T K V, t.Bal → t.size + 1 ≤ 2 ^ b → t.depth ≤ 3 * b := by
  induction b with
  | zero =>
    intro t _ h
    cases t with
    | nil => simp [depth]
    | node l k v r => simp only [size] at h; omega
  | succ b ih =>
    intro t hb h
    rw [Nat.pow_succ] at h
    have key : ∀ u : T K V, u.Bal → 64 * (u.size + 1) ≤ 27 * (2 ^ b * 2) → u.depth ≤ 3 * b := fun u hu hs => ih u hu (by omega)
    have two : ∀ u : T K V, u.Bal → 16 * (u.size + 1) ≤ 9 * (2 ^ b * 2) → u.depth ≤ 3 * b + 1 := by
      intro u hu hs
      cases u with
      | nil => simp [depth]
      | node l k v r =>
        have h1 := bal_child hu
        obtain ⟨_, _, h3, h4⟩ := hu
        have a := key l h3 (by omega)
        have c := key r h4 (by omega)
        simp only [depth]
        omega
    have one : ∀ u : T K V, u.Bal → 4 * (u.size + 1) ≤ 3 * (2 ^ b * 2) → u.depth ≤ 3 * b + 2 := by
      intro u hu hs
      cases u with
      | nil => simp [depth]
      | node l k v r =>
        have h1 := bal_child hu
        obtain ⟨_, _, h3, h4⟩ := hu
        have a := two l h3 (by omega)
        have c := two r h4 (by omega)
        simp only [depth]
        omega
    cases t with
    | nil => simp [depth]
    | node l k v r =>
      have h1 := bal_child hb
      obtain ⟨_, _, h3, h4⟩ := hb
      have a := one l h3 (by omega)
      have c := one r h4 (by omega)
      simp only [depth]
      omega

theorem size_lt_depth (t : T K V) : t.size + 1 ≤ 2 ^ t.depth := by
  induction t with
  | nil => simp [size, depth]
  | node l k v r ihl ihr =>
    simp only [size, depth]
    have h1 : 2 ^ l.depth ≤ 2 ^ (max l.depth r.depth) := Nat.pow_le_pow_right (by omega) (by omega)
    have h2 : 2 ^ r.depth ≤ 2 ^ (max l.depth r.depth) := Nat.pow_le_pow_right (by omega) (by omega)
    rw [Nat.pow_add]
    omega

end T
end Go.Proofs.MT

/- Lists whose keys ascend, said step by step. -/
namespace Go.Proofs.MT
variable {K V : Type} [KOrd K]

def AscTo (l : List (K × V)) (n : Nat) : Prop := ∀ i x y, i + 1 < n → l[i]? = some x → l[i + 1]? = some y → KOrd.lt x.1 y.1 = true

theorem AscTo.zero (l : List (K × V)) : AscTo l 0 := fun i x y h => by omega
theorem AscTo.one (l : List (K × V)) : AscTo l (0 + 1) := fun i x y h => by omega
theorem AscTo.succ {l : List (K × V)} {i : Nat} {y x : K × V} (h : AscTo l (i + 1)) (hy : l[i]? = some y) (hx : l[i + 1]? = some x) (hk : KOrd.lt y.1 x.1 = true) : AscTo l (i + 1 + 1) := by
  intro j a b hj ha hb
  by_cases e : j = i
  · subst e
    rw [hy] at ha
    rw [hx] at hb
    injection ha with ha
    injection hb with hb
    rw [← ha, ← hb]
    exact hk
  · exact h j a b (by omega) ha hb
theorem AscTo.not {l : List (K × V)} {i : Nat} {y x : K × V} (hy : l[i]? = some y) (hx : l[i + 1]? = some x) (hk : KOrd.lt y.1 x.1 = false) : ¬ AscTo l l.length := by
  intro h
  have hlt : i + 1 < l.length := by
    rcases Nat.lt_or_ge (i + 1) l.length with h | h
    · exact h
    · rw [List.getElem?_eq_none h] at hx
      cases hx
  rw [h i y x hlt hy hx] at hk
  cases hk

theorem AscTo.sorted : ∀ {l : List (K × V)}, AscTo l l.length → Sorted l
  | [], _ => List.Pairwise.nil
  | [_], _ => by simp [Sorted]
  | a :: b :: l, h => by
    have h' : AscTo (b :: l) (b :: l).length := fun i x y hi hx hy => h (i + 1) x y (by simp at hi ⊢; omega) hx hy
    have hs := AscTo.sorted h'
    refine List.Pairwise.cons ?_ hs
    have hab : KOrd.lt a.1 b.1 = true := h 0 a b (by simp) rfl rfl
    intro q hq
    rcases List.mem_cons.1 hq with rfl | hq
    · exact hab
    · exact KOrd.trans hab ((List.pairwise_cons.1 hs).1 q hq)
theorem Sorted.ascTo {l : List (K × V)} (h : Sorted l) (n : Nat) : AscTo l n := by
  intro i x y _ hx hy
  obtain ⟨h1, e1⟩ := List.getElem?_eq_some_iff.1 hx
  obtain ⟨h2, e2⟩ := List.getElem?_eq_some_iff.1 hy
  have := List.pairwise_iff_getElem.1 h i (i + 1) h1 h2 (by omega)
  rw [e1, e2] at this
  exact this
end Go.Proofs.MT

/- The tree's look-ups as plain functions, and what they find in a sorted tree. -/
namespace Go.Proofs.MT
open KOrd (lt)
namespace T
variable {K V : Type}

def floor [KOrd K] (k : K) (best : T K V) : T K V → T K V
  | nil => best
  | node l q v r => if lt k q then floor k best l else floor k (node l q v r) r

def ceil [KOrd K] (k : K) (best : T K V) : T K V → T K V
  | nil => best
  | node l q v r => if lt q k then ceil k best r else ceil k (node l q v r) l

def at_ (i : Int) : T K V → T K V
  | nil => nil
  | node l q v r => if i < (l.size : Int) then at_ i l else if (l.size : Int) < i then at_ (i - l.size - 1) r else node l q v r

def root : T K V → Option (K × V)
  | nil => none
  | node _ k v _ => some (k, v)

theorem rank_spec [KOrd K] (k : K) (t : T K V) (h : Sorted t.toList) : rank k t = (t.toList.filter fun p => lt p.1 k).length := by
  induction t with
  | nil => rfl
  | node l q v r ihl ihr =>
    rw [toList] at h ⊢
    obtain ⟨h1, h2, h3, h4⟩ := sorted_node.1 h
    rw [rank, List.filter_append, List.length_append, List.filter_cons]
    split
    · rename_i hq
      have e : (l.toList.filter fun p => lt p.1 k) = l.toList := List.filter_eq_self.2 fun p hp => KOrd.trans (h3 p hp) hq
      rw [e, length_toList, ihr h2, List.length_cons]
      omega
    · rename_i hq
      have e : (r.toList.filter fun p => lt p.1 k) = [] := by
        rw [List.filter_eq_nil_iff]
        intro p hp hl
        exact hq (KOrd.trans (h4 p hp) hl)
      rw [e, ihl h1]
      simp

theorem at_spec (t : T K V) : ∀ i : Int, (at_ i t).root = if 0 ≤ i then t.toList[i.toNat]? else none := by
  induction t with
  | nil => intro i; simp [at_, root, toList]
  | node l q v r ihl ihr =>
    intro i
    rw [at_, toList]
    have hl := length_toList l
    split
    · rename_i h
      rw [ihl]
      split
      · rw [List.getElem?_append_left (by omega)]
      · rfl
    · rename_i h
      rw [if_pos (by omega : (0 : Int) ≤ i), List.getElem?_append_right (by omega)]
      split
      · rename_i h2
        rw [ihr, if_pos (by omega)]
        obtain ⟨m, hm⟩ : ∃ m, i.toNat - l.toList.length = m + 1 := ⟨i.toNat - l.toList.length - 1, by omega⟩
        rw [hm, List.getElem?_cons_succ]
        congr 1
        omega
      · rename_i h2
        have : i.toNat - l.toList.length = 0 := by omega
        rw [this]
        rfl

/-- The last of the pairs whose keys are at most k; the first that comes with best. -/
theorem floor_spec [KOrd K] (k : K) (t : T K V) (h : Sorted t.toList) : ∀ best : T K V, (floor k best t).root = ((t.toList.filter fun p => !lt k p.1).getLast?).or best.root := by
  induction t with
  | nil => intro best; simp [floor, toList]
  | node l q v r ihl ihr =>
    intro best
    rw [toList] at h ⊢
    obtain ⟨h1, h2, h3, h4⟩ := sorted_node.1 h
    rw [floor, List.filter_append, List.filter_cons]
    split
    · rename_i hk
      have e : (r.toList.filter fun p => !lt k p.1) = [] := by
        rw [List.filter_eq_nil_iff]
        intro p hp
        simp [KOrd.trans hk (h4 p hp)]
      rw [ihl h1, e]
      simp [hk]
    · rename_i hk
      rw [ihr h2]
      have hk' : lt k q = false := by simpa using hk
      simp only [hk', Bool.not_false, if_true, root]
      rw [List.getLast?_append, List.getLast?_cons]
      cases hh : (r.toList.filter fun p => !lt k p.1).getLast? <;> simp

theorem ceil_spec [KOrd K] (k : K) (t : T K V) (h : Sorted t.toList) : ∀ best : T K V, (ceil k best t).root = ((t.toList.filter fun p => !lt p.1 k).head?).or best.root := by
  induction t with
  | nil => intro best; simp [ceil, toList]
  | node l q v r ihl ihr =>
    intro best
    rw [toList] at h ⊢
    obtain ⟨h1, h2, h3, h4⟩ := sorted_node.1 h
    rw [ceil, List.filter_append, List.filter_cons]
    split
    · rename_i hk
      have e : (l.toList.filter fun p => !lt p.1 k) = [] := by
        rw [List.filter_eq_nil_iff]
        intro p hp
        simp [KOrd.trans (h3 p hp) hk]
      rw [ihr h2, e]
      simp [hk]
    · rename_i hk
      rw [ihl h1]
      have hk' : lt q k = false := by simpa using hk
      simp only [hk', Bool.not_false, if_true, root]
      rw [List.head?_append]
      cases hh : (l.toList.filter fun p => !lt p.1 k).head? <;> simp

end T
end Go.Proofs.MT

/- How a tree lies in memory: nodes of five cells, below a block number; what lies below stays as it is while memory is only added. -/
namespace Go.Proofs.MT
open Go.RowKit

/-- The block is of cells of this type. -/
def tagAt (W : World) (b : Nat) (t : TypeId) : Prop := ∃ cs f, W.heap[b]? = some (.cells cs t f)

/-- The tree T at the pointer p, in blocks below n₀, each of the nodes' type. -/
def IsTree {K V : Type} (ek : K → Value) (ev : V → Value) (st : TypeId) (n₀ : Nat) (W : World) : Option Addr → T K V → Prop
  | p, .nil => p = none
  | p, .node l k v r => ∃ (b : Nat) (pl pr : Option Addr), p = some ⟨b, 0, none⟩ ∧ b < n₀ ∧ W.cell? ⟨b, 0, none⟩ = some (ek k) ∧ W.cell? ⟨b, 1, none⟩ = some (ev v) ∧
      W.cell? ⟨b, 2, none⟩ = some (.pointer pl) ∧ W.cell? ⟨b, 3, none⟩ = some (.pointer pr) ∧ (W.cell? ⟨b, 4, none⟩ = some (.int .i64 (l.size + r.size + 1 : Nat)) ∧ tagAt W b st) ∧
      IsTree ek ev st n₀ W pl l ∧ IsTree ek ev st n₀ W pr r

/-- The tree lies as it lay in a world that has each of its blocks. -/
theorem IsTree.carry {K V : Type} {ek : K → Value} {ev : V → Value} {st : TypeId} {n₀ : Nat} {A B : World} (h : ∀ b, b < n₀ → tagAt A b st → B.heap[b]? = A.heap[b]?) :
    ∀ {p : Option Addr} {t : T K V}, IsTree ek ev st n₀ A p t → IsTree ek ev st n₀ B p t
  | _, .nil, ht => ht
  | _, .node _ _ _ _, ⟨b, pl, pr, hp, hb, h0, h1, h2, h3, h4, hl, hr⟩ =>
    have e := h b hb h4.2
    have c : ∀ o, B.cell? ⟨b, o, none⟩ = A.cell? ⟨b, o, none⟩ := fun _ => World.cell?_of_block (w := A) e
    ⟨b, pl, pr, hp, hb, (c 0).trans h0, (c 1).trans h1, (c 2).trans h2, (c 3).trans h3, ⟨(c 4).trans h4.1, by obtain ⟨cs, f, hh⟩ := h4.2; exact ⟨cs, f, e.trans hh⟩⟩, IsTree.carry h hl, IsTree.carry h hr⟩

theorem IsTree.below {K V : Type} {ek : K → Value} {ev : V → Value} {st : TypeId} {n₀ : Nat} {A B : World} (h : Below n₀ A B) {p : Option Addr} {t : T K V} (ht : IsTree ek ev st n₀ A p t) : IsTree ek ev st n₀ B p t :=
  ht.carry fun b hb _ => h.block b hb

/-- A store into a block of another type. -/
theorem IsTree.setCell {K V : Type} {ek : K → Value} {ev : V → Value} {st : TypeId} {n₀ : Nat} {A : World} {a : Addr} {t' : TypeId} (ha : tagAt A a.block t') (hne : t' ≠ st) (v : Value) {p : Option Addr} {t : T K V} (ht : IsTree ek ev st n₀ A p t) :
    IsTree ek ev st n₀ (A.setCell a v) p t :=
  ht.carry fun b _ htag => Below.heap_setCell A a v b (by
    rintro rfl
    obtain ⟨cs, f, h1⟩ := ha
    obtain ⟨cs', f', h2⟩ := htag
    rw [h1] at h2
    cases h2
    exact hne rfl)

theorem IsTree.mono {K V : Type} {ek : K → Value} {ev : V → Value} {st : TypeId} {n₀ n₁ : Nat} {A : World} (h : n₀ ≤ n₁) : ∀ {p : Option Addr} {t : T K V}, IsTree ek ev st n₀ A p t → IsTree ek ev st n₁ A p t
  | _, .nil, ht => ht
  | _, .node _ _ _ _, ⟨b, pl, pr, hp, hb, h0, h1, h2, h3, h4, hl, hr⟩ => ⟨b, pl, pr, hp, Nat.lt_of_lt_of_le hb h, h0, h1, h2, h3, h4, IsTree.mono h hl, IsTree.mono h hr⟩

/-- A tree in a world, and after a call that adds memory alone. -/
theorem IsTree.later {K V : Type} {ek : K → Value} {ev : V → Value} {st : TypeId} {A B : World} {p : Option Addr} {t : T K V} (h : IsTree ek ev st A.heap.size A p t) (hb : Below A.heap.size A B) : IsTree ek ev st B.heap.size B p t :=
  (h.below hb).mono hb.size

theorem heap_new (w : World) (o : Obj) : (w.alloc o).heap[w.heap.size]? = some o := by
  show (w.heap.push o)[w.heap.size]? = _
  simp

theorem cell_new (w : World) (cs : Array Value) (t : TypeId) (f : Nat × Nat) (i : Nat) (v : Value) (h : cs[i]? = some v) : (w.alloc (.cells cs t f)).cell? ⟨w.heap.size, i, none⟩ = some v := by
  simp only [World.cell?]
  rw [heap_new]
  exact h

theorem tag_new (w : World) (cs : Array Value) (t : TypeId) (f : Nat × Nat) : tagAt (w.alloc (.cells cs t f)) w.heap.size t := ⟨cs, f, heap_new _ _⟩

theorem tagAt.below {n : Nat} {A B : World} {b : Nat} {t : TypeId} (h : tagAt A b t) (hb : Below n A B) (hn : b < n) : tagAt B b t := by
  obtain ⟨cs, f, h⟩ := h
  exact ⟨cs, f, (hb.block b hn).trans h⟩

theorem tagAt.alloc {A : World} {b : Nat} {t : TypeId} (h : tagAt A b t) (o : Obj) : tagAt (A.alloc o) b t := by
  have hh := h
  obtain ⟨cs, f, h⟩ := h
  have hlt : b < A.heap.size := (Array.getElem?_eq_some_iff.1 h).1
  exact hh.below ((Below.refl A.heap.size A).alloc (Nat.le_refl _) o) hlt

theorem tagAt.setCell {A : World} {b : Nat} {t : TypeId} (h : tagAt A b t) (a : Addr) (v : Value) : tagAt (A.setCell a v) b t := by
  obtain ⟨cs, f, h⟩ := h
  by_cases e : b = a.block
  · subst e
    refine ⟨if a.spot.isSome then cs else cs.setIfInBounds a.off v, f, ?_⟩
    simp only [World.setCell, Array.getElem?_modify, h]
    simp
  · exact ⟨cs, f, (Below.heap_setCell A a v b e).trans h⟩

end Go.Proofs.MT

/- The orders of the two kinds of keys: whole numbers by size, strings by their bytes. -/
namespace Go.Proofs.MT

instance : KOrd Int where
  lt a b := decide (a < b)
  irrefl a := by simp
  trans h1 h2 := by simp at *; omega
  tri h1 h2 := by simp at *; omega

@[simp] theorem ltInt_true (a b : Int) : (KOrd.lt a b = true) ↔ a < b := by simp [KOrd.lt]
@[simp] theorem ltInt_false (a b : Int) : (KOrd.lt a b = false) ↔ b ≤ a := by simp [KOrd.lt]

open Go.RowKit in
theorem below_draws {B : Nat} {a w : World} (h : Below B a w) : ∀ n, Below B a (w.drewN n) := fun _ => h.trans ⟨rfl, rfl, rfl, Nat.le_refl _, fun _ _ => rfl⟩

theorem ret_int {k : IntKind} {a b : Int} (h : a = b) : Ending.returned (.int k a) = .returned (.int k b) := by rw [h]

end Go.Proofs.MT

/- A tree and a store into a block of another type; what a call that adds memory alone leaves of the blocks that a caller has laid. -/
namespace Go.Proofs.MT
open Go.RowKit

theorem size_set (A : World) (a : Addr) (v : Value) : (A.setCell a v).heap.size = A.heap.size := by simp [World.setCell]

theorem IsTree.stored {K V : Type} {ek : K → Value} {ev : V → Value} {st : TypeId} {A : World} {a : Addr} {t' : TypeId} (ha : tagAt A a.block t') (hne : t' ≠ st) (v : Value) {p : Option Addr} {t : T K V}
    (ht : IsTree ek ev st A.heap.size A p t) : IsTree ek ev st (A.setCell a v).heap.size (A.setCell a v) p t := by
  rw [size_set]
  exact ht.setCell ha hne v

theorem bcell {W w1 : World} (hb : Below W.heap.size W w1) : (∀ b o, b < W.heap.size → w1.cell? ⟨b, o, none⟩ = W.cell? ⟨b, o, none⟩) ∧ (∀ b o, b < W.heap.size → w1.frozen? ⟨b, o, none⟩ = W.frozen? ⟨b, o, none⟩) :=
  ⟨fun b o h => hb.cell (p := ⟨b, o, none⟩) h, fun b o h => hb.frozen (p := ⟨b, o, none⟩) h⟩

theorem tag_at (w : World) (cs : Array Value) (t : TypeId) (f : Nat × Nat) (n : Nat) (h : w.heap.size = n) : tagAt (w.alloc (.cells cs t f)) n t := h ▸ tag_new w cs t f

theorem below_two (w : World) (o o' : Obj) : Below w.heap.size w ((w.alloc o).alloc o') := ((Below.refl w.heap.size w).alloc (Nat.le_refl _) o).alloc (by simp) o'
theorem below_three (w : World) (o o' o'' : Obj) : Below w.heap.size w (((w.alloc o).alloc o').alloc o'') := (below_two w o o').alloc (by simp; omega) o''

end Go.Proofs.MT

/- A row of pairs in memory, two cells each, that is read. -/
namespace Go.Proofs.MT
open Go.RowKit

def Row2 {K V : Type} (ek : K → Value) (ev : V → Value) (n₀ : Nat) (W : World) (A : Option Addr) (l : List (K × V)) : Prop :=
  l = [] ∨ ∃ b o, A = some ⟨b, o, none⟩ ∧ b < n₀ ∧ ∀ i x, l[i]? = some x → W.cell? ⟨b, o + i * 2, none⟩ = some (ek x.1) ∧ W.cell? ⟨b, o + i * 2 + 1, none⟩ = some (ev x.2)

theorem Row2.below {K V : Type} {ek : K → Value} {ev : V → Value} {n₀ : Nat} {W W' : World} {A : Option Addr} {l : List (K × V)} (h : Row2 ek ev n₀ W A l) (hb : Below n₀ W W') : Row2 ek ev n₀ W' A l := by
  rcases h with h | ⟨b, o, hA, hlt, hc⟩
  · exact .inl h
  · exact .inr ⟨b, o, hA, hlt, fun i x hx => ⟨(hb.cell (p := ⟨b, _, none⟩) hlt).trans (hc i x hx).1, (hb.cell (p := ⟨b, _, none⟩) hlt).trans (hc i x hx).2⟩⟩
theorem Row2.mono {K V : Type} {ek : K → Value} {ev : V → Value} {n₀ n₁ : Nat} {W : World} {A : Option Addr} {l : List (K × V)} (h : Row2 ek ev n₀ W A l) (hn : n₀ ≤ n₁) : Row2 ek ev n₁ W A l := by
  rcases h with h | ⟨b, o, hA, hlt, hc⟩
  · exact .inl h
  · exact .inr ⟨b, o, hA, Nat.lt_of_lt_of_le hlt hn, hc⟩
theorem Row2.later {K V : Type} {ek : K → Value} {ev : V → Value} {W W' : World} {A : Option Addr} {l : List (K × V)} (h : Row2 ek ev W.heap.size W A l) (hb : Below W.heap.size W W') : Row2 ek ev W'.heap.size W' A l :=
  (h.below hb).mono hb.size
theorem Row2.take {K V : Type} {ek : K → Value} {ev : V → Value} {n₀ : Nat} {W : World} {A : Option Addr} {l : List (K × V)} (h : Row2 ek ev n₀ W A l) (m : Nat) : Row2 ek ev n₀ W A (l.take m) := by
  rcases h with h | ⟨b, o, hA, hlt, hc⟩
  · exact .inl (by rw [h]; simp)
  · refine .inr ⟨b, o, hA, hlt, fun i x hx => hc i x ?_⟩
    rw [List.getElem?_take] at hx
    split at hx
    · exact hx
    · cases hx
theorem Row2.drop {K V : Type} {ek : K → Value} {ev : V → Value} {n₀ : Nat} {W : World} {b o : Nat} {l : List (K × V)} (hlt : b < n₀)
    (hc : ∀ i x, l[i]? = some x → W.cell? ⟨b, o + i * 2, none⟩ = some (ek x.1) ∧ W.cell? ⟨b, o + i * 2 + 1, none⟩ = some (ev x.2)) (m : Nat) : Row2 ek ev n₀ W (some ⟨b, o + m * 2, none⟩) (l.drop m) := by
  refine .inr ⟨b, o + m * 2, rfl, hlt, fun i x hx => ?_⟩
  rw [List.getElem?_drop] at hx
  have := hc (m + i) x hx
  rw [show o + m * 2 + i * 2 = o + (m + i) * 2 from by omega]
  exact this

end Go.Proofs.MT

/- Range and Join on plain trees, and what they hold. -/
namespace Go.Proofs.MT
namespace T
variable {K V : Type} [KOrd K]

def rangeR : T K V → T K V → T K V
  | nil, r => r
  | node _ k v _, r => link nil k v r
def range (a b : K) (t : T K V) : T K V := if KOrd.lt a b then (cut b (rangeR (cut a t).2.1 (cut a t).2.2)).1 else nil

/-- Do two maps clash: does the first's last key not lie before the second's first one? -/
def clash (A B : T K V) : Bool :=
  match at_ ((A.size : Int) - 1) A, at_ 0 B with
  | node _ x _ _, node _ y _ _ => !KOrd.lt x y
  | _, _ => false
end T

theorem cell_new' (w : World) (cs : Array Value) (t : TypeId) (f : Nat × Nat) (n i : Nat) (v : Value) (hn : w.heap.size = n) (h : cs[i]? = some v) : (w.alloc (.cells cs t f)).cell? ⟨n, i, none⟩ = some v := hn ▸ cell_new w cs t f i v h
theorem frozen_new' (w : World) (cs : Array Value) (t : TypeId) (n i : Nat) (hn : w.heap.size = n) : (w.alloc (.cells cs t)).frozen? ⟨n, i, none⟩ = false := by
  subst hn
  simp [go_sem]
end Go.Proofs.MT
