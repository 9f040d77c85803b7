/- The plain mathematics of the weight-balanced tree: contents, balance and depth of what the tree's functions compute, for any ordered kind of keys. -/
namespace Go.Proofs.MT

/-- An order of keys, as the program asks for it. -/
class KOrd (K : Type) where
  lt : K → K → Bool
  irrefl : ∀ a, lt a a = false
  trans : ∀ {a b c}, lt a b = true → lt b c = true → lt a c = true
  tri : ∀ {a b}, lt a b = false → lt b a = false → a = b

open KOrd (lt)

theorem lt_asymm {K : Type} [KOrd K] {a b : K} (h : lt a b = true) : lt b a = false := by
  cases hb : lt b a with
  | false => rfl
  | true => have := KOrd.trans h hb; rw [KOrd.irrefl] at this; cases this

inductive T (K V : Type) where
  | nil
  | node (l : T K V) (k : K) (v : V) (r : T K V)

namespace T
variable {K V : Type}

def size : T K V → Nat
  | nil => 0
  | node l _ _ r => l.size + r.size + 1

def toList : T K V → List (K × V)
  | nil => []
  | node l k v r => l.toList ++ (k, v) :: r.toList

def depth : T K V → Nat
  | nil => 0
  | node l _ _ r => 1 + max l.depth r.depth

def left : T K V → T K V
  | nil => nil
  | node l _ _ _ => l
def right : T K V → T K V
  | nil => nil
  | node _ _ _ r => r

theorem length_toList : ∀ t : T K V, t.toList.length = t.size
  | nil => rfl
  | node l k v r => by simp only [toList, List.length_append, List.length_cons, length_toList l, length_toList r, size]; omega

/-- The first tree is not too light beside the second one. -/
def light (a b : T K V) : Bool := decide (b.size + 1 ≤ 3 * (a.size + 1))
def turned (a b : T K V) : Bool := decide (a.size + 1 < 2 * (b.size + 1))

def balL (l : T K V) (k : K) (v : V) (r : T K V) : T K V :=   -- the left tree is too heavy
  match l with
  | nil => node l k v r
  | node ll lk lv lr =>
    if turned lr ll then node ll lk lv (node lr k v r)
    else match lr with
      | nil => node l k v r
      | node a mk mv b => node (node ll lk lv a) mk mv (node b k v r)

def balR (l : T K V) (k : K) (v : V) (r : T K V) : T K V :=   -- the right tree is too heavy
  match r with
  | nil => node l k v r
  | node rl rk rv rr =>
    if turned rl rr then node (node l k v rl) rk rv rr
    else match rl with
      | nil => node l k v r
      | node a mk mv b => node (node l k v a) mk mv (node b rk rv rr)

def balanced (l : T K V) (k : K) (v : V) (r : T K V) : T K V :=
  if light l r then (if light r l then node l k v r else balL l k v r) else balR l k v r

def Bal : T K V → Prop
  | nil => True
  | node l _ _ r => r.size + 1 ≤ 3 * (l.size + 1) ∧ l.size + 1 ≤ 3 * (r.size + 1) ∧ l.Bal ∧ r.Bal

theorem balL_toList (l : T K V) (k : K) (v : V) (r : T K V) : (balL l k v r).toList = l.toList ++ (k, v) :: r.toList := by
  unfold balL
  split
  · rfl
  · split
    · simp [toList]
    · split <;> simp [toList]

theorem balR_toList (l : T K V) (k : K) (v : V) (r : T K V) : (balR l k v r).toList = l.toList ++ (k, v) :: r.toList := by
  unfold balR
  split
  · rfl
  · split
    · simp [toList]
    · split <;> simp [toList]

theorem balanced_toList (l : T K V) (k : K) (v : V) (r : T K V) : (balanced l k v r).toList = l.toList ++ (k, v) :: r.toList := by
  unfold balanced
  split
  · split
    · rfl
    · exact balL_toList l k v r
  · exact balR_toList l k v r

theorem size_of_toList {a : T K V} {n : Nat} (h : a.toList.length = n) : a.size = n := by rw [← length_toList]; exact h

theorem balanced_size (l : T K V) (k : K) (v : V) (r : T K V) : (balanced l k v r).size = l.size + r.size + 1 := by
  apply size_of_toList
  rw [balanced_toList]
  simp only [List.length_append, List.length_cons, length_toList]
  omega

theorem balL_bal {l : T K V} {k : K} {v : V} {r : T K V} (hl : l.Bal) (hr : r.Bal) (h : 3 * (r.size + 1) < l.size + 1)
    (h2 : 2 * (l.size + 1) ≤ 9 * (r.size + 1) ∨ l.size + 1 ≤ 3 * (r.size + 1) + 3) : (balL l k v r).Bal := by
  unfold balL
  split
  · simp only [size] at h; omega
  · rename_i ll lk lv lr
    simp only [Bal, size] at hl h h2
    obtain ⟨h3, h4, h5, h6⟩ := hl
    split
    · rename_i ht
      simp only [turned, decide_eq_true_eq] at ht
      simp only [Bal, size]
      refine ⟨by omega, by omega, h5, by omega, by omega, h6, hr⟩
    · rename_i ht
      simp only [turned, decide_eq_true_eq] at ht
      split
      · simp only [size] at *; omega
      · rename_i a mk mv b
        simp only [Bal, size] at *
        obtain ⟨h7, h8, h9, h10⟩ := h6
        refine ⟨by omega, by omega, ⟨by omega, by omega, h5, h9⟩, by omega, by omega, h10, hr⟩

theorem balR_bal {l : T K V} {k : K} {v : V} {r : T K V} (hl : l.Bal) (hr : r.Bal) (h : 3 * (l.size + 1) < r.size + 1)
    (h2 : 2 * (r.size + 1) ≤ 9 * (l.size + 1) ∨ r.size + 1 ≤ 3 * (l.size + 1) + 3) : (balR l k v r).Bal := by
  unfold balR
  split
  · simp only [size] at h; omega
  · rename_i rl rk rv rr
    simp only [Bal, size] at hr h h2
    obtain ⟨h3, h4, h5, h6⟩ := hr
    split
    · rename_i ht
      simp only [turned, decide_eq_true_eq] at ht
      simp only [Bal, size]
      refine ⟨by omega, by omega, ⟨by omega, by omega, hl, h5⟩, h6⟩
    · rename_i ht
      simp only [turned, decide_eq_true_eq] at ht
      split
      · simp only [size] at *; omega
      · rename_i a mk mv b
        simp only [Bal, size] at *
        obtain ⟨h7, h8, h9, h10⟩ := h5
        refine ⟨by omega, by omega, ⟨by omega, by omega, hl, h9⟩, by omega, by omega, h10, h6⟩

/-- One tree may be a little too heavy. -/
theorem balanced_bal {l : T K V} {k : K} {v : V} {r : T K V} (hl : l.Bal) (hr : r.Bal)
    (h1 : 2 * (l.size + 1) ≤ 9 * (r.size + 1) ∨ l.size + 1 ≤ 3 * (r.size + 1) + 3)
    (h2 : 2 * (r.size + 1) ≤ 9 * (l.size + 1) ∨ r.size + 1 ≤ 3 * (l.size + 1) + 3) : (balanced l k v r).Bal := by
  unfold balanced
  split
  · rename_i ha
    simp only [light, decide_eq_true_eq] at ha
    split
    · rename_i hb
      simp only [light, decide_eq_true_eq] at hb
      exact ⟨ha, hb, hl, hr⟩
    · rename_i hb
      simp only [light, decide_eq_true_eq] at hb
      exact balL_bal hl hr (by omega) h1
  · rename_i ha
    simp only [light, decide_eq_true_eq] at ha
    exact balR_bal hl hr (by omega) h2

def link (l : T K V) (k : K) (v : V) (r : T K V) : T K V :=
  if light l r then
    if light r l then node l k v r
    else match l with
      | nil => node l k v r
      | node ll lk lv lr => balanced ll lk lv (link lr k v r)
  else match r with
    | nil => node l k v r
    | node rl rk rv rr => balanced (link l k v rl) rk rv rr
termination_by l.size + r.size
decreasing_by all_goals (subst_vars; simp only [size] at *; omega)

theorem link_toList (l : T K V) (k : K) (v : V) (r : T K V) : (link l k v r).toList = l.toList ++ (k, v) :: r.toList := by
  unfold link
  split
  · split
    · rfl
    · split
      · rfl
      · rename_i ll lk lv lr
        rw [balanced_toList, link_toList]; simp [toList]
  · split
    · rfl
    · rename_i rl rk rv rr
      rw [balanced_toList, link_toList]; simp [toList]
termination_by l.size + r.size
decreasing_by all_goals (subst_vars; simp only [size] at *; omega)

theorem link_size (l : T K V) (k : K) (v : V) (r : T K V) : (link l k v r).size = l.size + r.size + 1 := by
  apply size_of_toList
  rw [link_toList]
  simp only [List.length_append, List.length_cons, length_toList]
  omega

theorem link_bal (l : T K V) (k : K) (v : V) (r : T K V) (hl : l.Bal) (hr : r.Bal) : (link l k v r).Bal := by
  unfold link
  split
  · rename_i ha
    simp only [light, decide_eq_true_eq] at ha
    split
    · rename_i hb
      simp only [light, decide_eq_true_eq] at hb
      exact ⟨ha, hb, hl, hr⟩
    · rename_i hb
      simp only [light, decide_eq_true_eq] at hb
      split
      · simp only [size] at *; omega
      · rename_i ll lk lv lr
        obtain ⟨h1, h2, h3, h4⟩ := hl
        simp only [size] at *
        refine balanced_bal h3 (link_bal lr k v r h4 hr) ?_ ?_ <;> rw [link_size] <;> omega
  · rename_i ha
    simp only [light, decide_eq_true_eq] at ha
    split
    · simp only [size] at *; omega
    · rename_i rl rk rv rr
      obtain ⟨h1, h2, h3, h4⟩ := hr
      simp only [size] at *
      refine balanced_bal (link_bal l k v rl hl h3) h4 ?_ ?_ <;> rw [link_size] <;> omega
termination_by l.size + r.size
decreasing_by all_goals (subst_vars; simp only [size] at *; omega)

def behead : T K V → T K V
  | nil => nil
  | node l k v r => match l with
    | nil => r
    | node .. => balanced (behead l) k v r

def first : T K V → Option (K × V)
  | nil => none
  | node l k v _ => match l with
    | nil => some (k, v)
    | node .. => first l

theorem first_behead (t : T K V) : ∀ p, t.first = some p → t.toList = p :: t.behead.toList := by
  induction t with
  | nil => intro p h; cases h
  | node l k v r ihl _ =>
    intro p h
    cases l with
    | nil => simp only [first, Option.some.injEq] at h; subst h; rfl
    | node a b c d =>
      simp only [first] at h
      have := ihl p h
      rw [behead, balanced_toList, toList, this]
      rfl

theorem first_node (l : T K V) (k : K) (v : V) (r : T K V) : ∃ p, (node l k v r).first = some p := by
  induction l generalizing k v r with
  | nil => exact ⟨_, rfl⟩
  | node a b c d iha _ => exact iha b c d

theorem behead_size {t : T K V} (h : t ≠ nil) : t.behead.size + 1 = t.size := by
  cases t with
  | nil => exact absurd rfl h
  | node l k v r =>
    obtain ⟨p, hp⟩ := first_node l k v r
    have := congrArg List.length (first_behead _ p hp)
    simp only [List.length_cons, length_toList] at this
    omega

theorem behead_bal (t : T K V) (h : t.Bal) : t.behead.Bal := by
  induction t with
  | nil => exact h
  | node l k v r ihl _ =>
    obtain ⟨h1, h2, h3, h4⟩ := h
    cases l with
    | nil => exact h4
    | node a b c d =>
      have hs := behead_size (t := node a b c d) (by intro h; cases h)
      rw [behead]
      exact balanced_bal (ihl h3) h4 (by omega) (by omega)

def merge (l r : T K V) : T K V :=
  match r.first with
  | none => l
  | some (k, v) => link l k v r.behead

theorem first_none {t : T K V} (h : t.first = none) : t = nil := by
  cases t with
  | nil => rfl
  | node l k v r => obtain ⟨p, hp⟩ := first_node l k v r; rw [hp] at h; cases h

theorem merge_toList (l r : T K V) : (merge l r).toList = l.toList ++ r.toList := by
  unfold merge
  split
  · rename_i h; rw [first_none h]; simp [toList]
  · rename_i k v h; rw [link_toList, first_behead r _ h]

theorem merge_bal (l r : T K V) (hl : l.Bal) (hr : r.Bal) : (merge l r).Bal := by
  unfold merge
  split
  · exact hl
  · exact link_bal _ _ _ _ hl (behead_bal _ hr)

theorem merge_size (l r : T K V) : (merge l r).size = l.size + r.size := by
  apply size_of_toList
  rw [merge_toList]
  simp only [List.length_append, length_toList]

section
variable [KOrd K]

def cut (k : K) : T K V → T K V × T K V × T K V
  | nil => (nil, nil, nil)
  | node l q v r =>
    if lt k q then ((cut k l).1, (cut k l).2.1, link (cut k l).2.2 q v r)
    else if lt q k then (link l q v (cut k r).1, (cut k r).2.1, (cut k r).2.2)
    else (l, node l q v r, r)

def put (k : K) (x : V) : T K V → T K V
  | nil => node nil k x nil
  | node l q v r =>
    if lt k q then balanced (put k x l) q v r
    else if lt q k then balanced l q v (put k x r)
    else node l k x r

def remove (k : K) : T K V → T K V
  | nil => nil
  | node l q v r =>
    if lt k q then balanced (remove k l) q v r
    else if lt q k then balanced l q v (remove k r)
    else merge l r

def find (k : K) : T K V → T K V
  | nil => nil
  | node l q v r =>
    if lt k q then find k l else if lt q k then find k r else node l q v r

def union (a : T K V) : T K V → T K V
  | nil => a
  | node l k v r => match a with
    | nil => node l k v r
    | node .. => link (union (cut k a).1 l) k v (union (cut k a).2.2 r)

def intersect (a : T K V) : T K V → T K V
  | nil => nil
  | node l k v r => match a with
    | nil => nil
    | node .. => match (cut k a).2.1 with
      | nil => merge (intersect (cut k a).1 l) (intersect (cut k a).2.2 r)
      | node .. => link (intersect (cut k a).1 l) k v (intersect (cut k a).2.2 r)

def subtract (a : T K V) : T K V → T K V
  | nil => a
  | node l k _ r => match a with
    | nil => nil
    | node .. => merge (subtract (cut k a).1 l) (subtract (cut k a).2.2 r)

def rank (k : K) : T K V → Nat
  | nil => 0
  | node l q _ r => if lt q k then l.size + 1 + rank k r else rank k l

end
end T
end Go.Proofs.MT
