/- What the tree's functions hold, said by membership: for every sorted tree. -/
import Derived.Test.YtnhngaadegebfaaTree
namespace Go.Proofs.MT
open KOrd (lt)
variable {K V : Type} [KOrd K]

def Sorted (l : List (K × V)) : Prop := l.Pairwise fun a b => lt a.1 b.1 = true

theorem sorted_ext : ∀ {a b : List (K × V)}, Sorted a → Sorted b → (∀ p, p ∈ a ↔ p ∈ b) → a = b
  | [], [], _, _, _ => rfl
  | [], y :: ys, _, _, h => by have := (h y).2 (by simp); cases this
  | x :: xs, [], _, _, h => by have := (h x).1 (by simp); cases this
  | x :: xs, y :: ys, ha, hb, h => by
    have ha' := List.pairwise_cons.1 ha
    have hb' := List.pairwise_cons.1 hb
    have hxy : x = y := by
      have h1 := (h x).1 (by simp)
      have h2 := (h y).2 (by simp)
      rcases List.mem_cons.1 h1 with e | h1
      · exact e
      · rcases List.mem_cons.1 h2 with e | h2
        · exact e.symm
        · have := KOrd.trans (ha'.1 _ h2) (hb'.1 _ h1)
          rw [KOrd.irrefl] at this; cases this
    subst hxy
    have : xs = ys := sorted_ext ha'.2 hb'.2 fun p => by
      constructor
      · intro hp
        rcases List.mem_cons.1 ((h p).1 (by simp [hp])) with e | h1
        · subst e; have := ha'.1 _ hp; rw [KOrd.irrefl] at this; cases this
        · exact h1
      · intro hp
        rcases List.mem_cons.1 ((h p).2 (by simp [hp])) with e | h1
        · subst e; have := hb'.1 _ hp; rw [KOrd.irrefl] at this; cases this
        · exact h1
    rw [this]

theorem Sorted.unique {l : List (K × V)} (h : Sorted l) {p q : K × V} (hp : p ∈ l) (hq : q ∈ l) (e : p.1 = q.1) : p = q := by
  induction l with
  | nil => cases hp
  | cons x xs ih =>
    have h' := List.pairwise_cons.1 h
    rcases List.mem_cons.1 hp with rfl | hp'
    · rcases List.mem_cons.1 hq with rfl | hq'
      · rfl
      · have := h'.1 _ hq'; rw [e, KOrd.irrefl] at this; cases this
    · rcases List.mem_cons.1 hq with rfl | hq'
      · have := h'.1 _ hp'; rw [e, KOrd.irrefl] at this; cases this
      · exact ih h'.2 hp' hq'

/-- What a sorted tree's node says of its parts. -/
theorem sorted_node {l : List (K × V)} {p : K × V} {r : List (K × V)} : Sorted (l ++ p :: r) ↔ Sorted l ∧ Sorted r ∧ (∀ q ∈ l, lt q.1 p.1 = true) ∧ (∀ q ∈ r, lt p.1 q.1 = true) := by
  unfold Sorted
  rw [List.pairwise_append, List.pairwise_cons]
  constructor
  · rintro ⟨h1, ⟨h2, h3⟩, h4⟩
    exact ⟨h1, h3, fun q hq => h4 q hq p (by simp), h2⟩
  · rintro ⟨h1, h2, h3, h4⟩
    refine ⟨h1, ⟨h4, h2⟩, fun a ha b hb => ?_⟩
    rcases List.mem_cons.1 hb with rfl | hb
    · exact h3 a ha
    · exact KOrd.trans (h3 a ha) (h4 b hb)

theorem sorted_append {l r : List (K × V)} (h1 : Sorted l) (h2 : Sorted r) (h : ∀ a ∈ l, ∀ b ∈ r, lt a.1 b.1 = true) : Sorted (l ++ r) :=
  List.pairwise_append.2 ⟨h1, h2, h⟩

theorem eq_of_not {a b : K} (h1 : ¬ lt a b = true) (h2 : ¬ lt b a = true) : a = b := KOrd.tri (by simpa using h1) (by simpa using h2)

namespace T

theorem cut_spec (k : K) (t : T K V) (h : Sorted t.toList) :
    Sorted (cut k t).1.toList ∧ (∀ p, p ∈ (cut k t).1.toList ↔ p ∈ t.toList ∧ lt p.1 k = true) ∧
    Sorted (cut k t).2.2.toList ∧ (∀ p, p ∈ (cut k t).2.2.toList ↔ p ∈ t.toList ∧ lt k p.1 = true) ∧
    ((cut k t).2.1 = nil ∧ (∀ p ∈ t.toList, p.1 ≠ k) ∨ ∃ l v r, (cut k t).2.1 = node l k v r ∧ (k, v) ∈ t.toList) := by
  induction t with
  | nil => simp [cut, toList, Sorted]
  | node l q v r ihl ihr =>
    rw [toList] at h
    obtain ⟨h1, h2, h3, h4⟩ := sorted_node.1 h
    rw [cut]
    split
    · rename_i hk
      obtain ⟨a1, a2, a3, a4, a5⟩ := ihl h1
      refine ⟨a1, ?_, ?_, ?_, ?_⟩
      · intro p
        rw [a2, toList]
        constructor
        · rintro ⟨hp, hl⟩; exact ⟨by simp [hp], hl⟩
        · rintro ⟨hp, hl⟩
          refine ⟨?_, hl⟩
          rcases List.mem_append.1 hp with hp | hp
          · exact hp
          · rcases List.mem_cons.1 hp with rfl | hp
            · rw [lt_asymm hk] at hl; cases hl
            · rw [lt_asymm (KOrd.trans hk (h4 p hp))] at hl; cases hl
      · rw [link_toList]
        exact sorted_node.2 ⟨a3, h2, fun x hx => h3 x ((a4 x).1 hx).1, h4⟩
      · intro p
        rw [link_toList, toList]
        simp only [List.mem_append, List.mem_cons, a4]
        constructor
        · rintro (⟨hp, hl⟩ | rfl | hp)
          · exact ⟨.inl hp, hl⟩
          · exact ⟨.inr (.inl rfl), hk⟩
          · exact ⟨.inr (.inr hp), KOrd.trans hk (h4 p hp)⟩
        · rintro ⟨hp | rfl | hp, hl⟩
          · exact .inl ⟨hp, hl⟩
          · exact .inr (.inl rfl)
          · exact .inr (.inr hp)
      · rcases a5 with ⟨e, hn⟩ | ⟨l', v', r', e, hm⟩
        · refine .inl ⟨e, fun p hp => ?_⟩
          rw [toList] at hp
          rcases List.mem_append.1 hp with hp | hp
          · exact hn p hp
          · rcases List.mem_cons.1 hp with rfl | hp
            · intro e; rw [← e, KOrd.irrefl] at hk; cases hk
            · intro e; have := KOrd.trans hk (h4 p hp); rw [e, KOrd.irrefl] at this; cases this
        · exact .inr ⟨l', v', r', e, by rw [toList]; simp [hm]⟩
    · rename_i hk
      split
      · rename_i hq
        obtain ⟨a1, a2, a3, a4, a5⟩ := ihr h2
        refine ⟨?_, ?_, a3, ?_, ?_⟩
        · rw [link_toList]
          exact sorted_node.2 ⟨h1, a1, h3, fun x hx => h4 x ((a2 x).1 hx).1⟩
        · intro p
          rw [link_toList, toList]
          simp only [List.mem_append, List.mem_cons, a2]
          constructor
          · rintro (hp | rfl | ⟨hp, hl⟩)
            · exact ⟨.inl hp, KOrd.trans (h3 p hp) hq⟩
            · exact ⟨.inr (.inl rfl), hq⟩
            · exact ⟨.inr (.inr hp), hl⟩
          · rintro ⟨hp | rfl | hp, hl⟩
            · exact .inl hp
            · exact .inr (.inl rfl)
            · exact .inr (.inr ⟨hp, hl⟩)
        · intro p
          rw [a4, toList]
          constructor
          · rintro ⟨hp, hl⟩; exact ⟨by simp [hp], hl⟩
          · rintro ⟨hp, hl⟩
            refine ⟨?_, hl⟩
            rcases List.mem_append.1 hp with hp | hp
            · rw [lt_asymm (KOrd.trans (h3 p hp) hq)] at hl; cases hl
            · rcases List.mem_cons.1 hp with rfl | hp
              · rw [lt_asymm hq] at hl; cases hl
              · exact hp
        · rcases a5 with ⟨e, hn⟩ | ⟨l', v', r', e, hm⟩
          · refine .inl ⟨e, fun p hp => ?_⟩
            rw [toList] at hp
            rcases List.mem_append.1 hp with hp | hp
            · intro e; have := KOrd.trans (h3 p hp) hq; rw [e, KOrd.irrefl] at this; cases this
            · rcases List.mem_cons.1 hp with rfl | hp
              · intro e; rw [← e, KOrd.irrefl] at hq; cases hq
              · exact hn p hp
          · exact .inr ⟨l', v', r', e, by rw [toList]; simp [hm]⟩
      · rename_i hq
        obtain rfl : k = q := eq_of_not hk hq
        refine ⟨h1, ?_, h2, ?_, .inr ⟨l, v, r, rfl, by rw [toList]; simp⟩⟩
        · intro p
          rw [toList]
          simp only [List.mem_append, List.mem_cons]
          constructor
          · intro hp; exact ⟨.inl hp, h3 p hp⟩
          · rintro ⟨hp | rfl | hp, hl⟩
            · exact hp
            · simp [KOrd.irrefl] at hl
            · rw [lt_asymm (h4 p hp)] at hl; cases hl
        · intro p
          rw [toList]
          simp only [List.mem_append, List.mem_cons]
          constructor
          · intro hp; exact ⟨.inr (.inr hp), h4 p hp⟩
          · rintro ⟨hp | rfl | hp, hl⟩
            · rw [lt_asymm (h3 p hp)] at hl; cases hl
            · simp [KOrd.irrefl] at hl
            · exact hp

theorem put_spec (k : K) (x : V) (t : T K V) (h : Sorted t.toList) :
    Sorted (put k x t).toList ∧ ∀ p, p ∈ (put k x t).toList ↔ p = (k, x) ∨ p ∈ t.toList ∧ p.1 ≠ k := by
  induction t with
  | nil => simp [put, toList, Sorted]
  | node l q v r ihl ihr =>
    rw [toList] at h
    obtain ⟨h1, h2, h3, h4⟩ := sorted_node.1 h
    rw [put]
    split
    · rename_i hk
      obtain ⟨a1, a2⟩ := ihl h1
      rw [balanced_toList, toList]
      refine ⟨sorted_node.2 ⟨a1, h2, ?_, h4⟩, fun p => ?_⟩
      · intro y hy
        rcases (a2 y).1 hy with rfl | ⟨hy, _⟩
        · exact hk
        · exact h3 y hy
      · simp only [List.mem_append, List.mem_cons, a2]
        constructor
        · rintro ((rfl | ⟨hp, hn⟩) | rfl | hp)
          · exact .inl rfl
          · exact .inr ⟨.inl hp, hn⟩
          · refine .inr ⟨.inr (.inl rfl), ?_⟩
            rintro rfl; simp [KOrd.irrefl] at hk
          · refine .inr ⟨.inr (.inr hp), ?_⟩
            rintro rfl; have := KOrd.trans hk (h4 p hp); simp [KOrd.irrefl] at this
        · rintro (rfl | ⟨hp | rfl | hp, hn⟩)
          · exact .inl (.inl rfl)
          · exact .inl (.inr ⟨hp, hn⟩)
          · exact .inr (.inl rfl)
          · exact .inr (.inr hp)
    · rename_i hk
      split
      · rename_i hq
        obtain ⟨a1, a2⟩ := ihr h2
        rw [balanced_toList, toList]
        refine ⟨sorted_node.2 ⟨h1, a1, h3, ?_⟩, fun p => ?_⟩
        · intro y hy
          rcases (a2 y).1 hy with rfl | ⟨hy, _⟩
          · exact hq
          · exact h4 y hy
        · simp only [List.mem_append, List.mem_cons, a2]
          constructor
          · rintro (hp | rfl | rfl | ⟨hp, hn⟩)
            · refine .inr ⟨.inl hp, ?_⟩
              rintro rfl; have := KOrd.trans (h3 p hp) hq; simp [KOrd.irrefl] at this
            · refine .inr ⟨.inr (.inl rfl), ?_⟩
              rintro rfl; simp [KOrd.irrefl] at hq
            · exact .inl rfl
            · exact .inr ⟨.inr (.inr hp), hn⟩
          · rintro (rfl | ⟨hp | rfl | hp, hn⟩)
            · exact .inr (.inr (.inl rfl))
            · exact .inl hp
            · exact .inr (.inl rfl)
            · exact .inr (.inr (.inr ⟨hp, hn⟩))
      · rename_i hq
        obtain rfl : k = q := eq_of_not hk hq
        refine ⟨sorted_node.2 ⟨h1, h2, h3, h4⟩, fun p => ?_⟩
        rw [toList, toList]
        simp only [List.mem_append, List.mem_cons]
        constructor
        · rintro (hp | rfl | hp)
          · refine .inr ⟨.inl hp, ?_⟩
            rintro rfl; have := h3 p hp; simp [KOrd.irrefl] at this
          · exact .inl rfl
          · refine .inr ⟨.inr (.inr hp), ?_⟩
            rintro rfl; have := h4 p hp; simp [KOrd.irrefl] at this
        · rintro (rfl | ⟨hp | rfl | hp, hn⟩)
          · exact .inr (.inl rfl)
          · exact .inl hp
          · exact absurd rfl hn
          · exact .inr (.inr hp)

theorem remove_spec (k : K) (t : T K V) (h : Sorted t.toList) :
    Sorted (remove k t).toList ∧ ∀ p, p ∈ (remove k t).toList ↔ p ∈ t.toList ∧ p.1 ≠ k := by
  induction t with
  | nil => simp [remove, toList, Sorted]
  | node l q v r ihl ihr =>
    rw [toList] at h
    obtain ⟨h1, h2, h3, h4⟩ := sorted_node.1 h
    rw [remove]
    split
    · rename_i hk
      obtain ⟨a1, a2⟩ := ihl h1
      rw [balanced_toList, toList]
      refine ⟨sorted_node.2 ⟨a1, h2, fun y hy => h3 y ((a2 y).1 hy).1, h4⟩, fun p => ?_⟩
      simp only [List.mem_append, List.mem_cons, a2]
      constructor
      · rintro (⟨hp, hn⟩ | rfl | hp)
        · exact ⟨.inl hp, hn⟩
        · refine ⟨.inr (.inl rfl), ?_⟩
          rintro rfl; simp [KOrd.irrefl] at hk
        · refine ⟨.inr (.inr hp), ?_⟩
          rintro rfl; have := KOrd.trans hk (h4 p hp); simp [KOrd.irrefl] at this
      · rintro ⟨hp | rfl | hp, hn⟩
        · exact .inl ⟨hp, hn⟩
        · exact .inr (.inl rfl)
        · exact .inr (.inr hp)
    · rename_i hk
      split
      · rename_i hq
        obtain ⟨a1, a2⟩ := ihr h2
        rw [balanced_toList, toList]
        refine ⟨sorted_node.2 ⟨h1, a1, h3, fun y hy => h4 y ((a2 y).1 hy).1⟩, fun p => ?_⟩
        simp only [List.mem_append, List.mem_cons, a2]
        constructor
        · rintro (hp | rfl | ⟨hp, hn⟩)
          · refine ⟨.inl hp, ?_⟩
            rintro rfl; have := KOrd.trans (h3 p hp) hq; simp [KOrd.irrefl] at this
          · refine ⟨.inr (.inl rfl), ?_⟩
            rintro rfl; simp [KOrd.irrefl] at hq
          · exact ⟨.inr (.inr hp), hn⟩
        · rintro ⟨hp | rfl | hp, hn⟩
          · exact .inl hp
          · exact .inr (.inl rfl)
          · exact .inr (.inr ⟨hp, hn⟩)
      · rename_i hq
        obtain rfl : k = q := eq_of_not hk hq
        rw [merge_toList, toList]
        refine ⟨sorted_append h1 h2 fun a ha b hb => KOrd.trans (h3 a ha) (h4 b hb), fun p => ?_⟩
        simp only [List.mem_append, List.mem_cons]
        constructor
        · rintro (hp | hp)
          · refine ⟨.inl hp, ?_⟩
            rintro rfl; have := h3 p hp; simp [KOrd.irrefl] at this
          · refine ⟨.inr (.inr hp), ?_⟩
            rintro rfl; have := h4 p hp; simp [KOrd.irrefl] at this
        · rintro ⟨hp | rfl | hp, hn⟩
          · exact .inl hp
          · exact absurd rfl hn
          · exact .inr hp

theorem find_spec (k : K) (t : T K V) (h : Sorted t.toList) :
    find k t = nil ∧ (∀ p ∈ t.toList, p.1 ≠ k) ∨ ∃ l v r, find k t = node l k v r ∧ (k, v) ∈ t.toList := by
  induction t with
  | nil => left; simp [find, toList]
  | node l q v r ihl ihr =>
    rw [toList] at h
    obtain ⟨h1, h2, h3, h4⟩ := sorted_node.1 h
    rw [find]
    split
    · rename_i hk
      rcases ihl h1 with ⟨e, hn⟩ | ⟨l', v', r', e, hm⟩
      · refine .inl ⟨e, fun p hp => ?_⟩
        rw [toList] at hp
        rcases List.mem_append.1 hp with hp | hp
        · exact hn p hp
        · rcases List.mem_cons.1 hp with rfl | hp
          · rintro rfl; simp [KOrd.irrefl] at hk
          · rintro rfl; have := KOrd.trans hk (h4 p hp); simp [KOrd.irrefl] at this
      · exact .inr ⟨l', v', r', e, by rw [toList]; simp [hm]⟩
    · rename_i hk
      split
      · rename_i hq
        rcases ihr h2 with ⟨e, hn⟩ | ⟨l', v', r', e, hm⟩
        · refine .inl ⟨e, fun p hp => ?_⟩
          rw [toList] at hp
          rcases List.mem_append.1 hp with hp | hp
          · rintro rfl; have := KOrd.trans (h3 p hp) hq; simp [KOrd.irrefl] at this
          · rcases List.mem_cons.1 hp with rfl | hp
            · rintro rfl; simp [KOrd.irrefl] at hq
            · exact hn p hp
        · exact .inr ⟨l', v', r', e, by rw [toList]; simp [hm]⟩
      · rename_i hq
        obtain rfl : k = q := eq_of_not hk hq
        exact .inr ⟨l, v, r, rfl, by rw [toList]; simp⟩

theorem ne_of_lt {a b : K} (h : lt a b = true) : a ≠ b := by rintro rfl; rw [KOrd.irrefl] at h; cases h
theorem ne_of_gt {a b : K} (h : lt a b = true) : b ≠ a := by rintro rfl; rw [KOrd.irrefl] at h; cases h

theorem three (a b : K) : lt a b = true ∨ a = b ∨ lt b a = true := by
  cases h1 : lt a b with
  | true => exact .inl rfl
  | false => cases h2 : lt b a with
    | true => exact .inr (.inr rfl)
    | false => exact .inr (.inl (KOrd.tri h1 h2))

theorem union_spec (b : T K V) : ∀ (a : T K V), Sorted a.toList → Sorted b.toList →
    Sorted (union a b).toList ∧ ∀ p, p ∈ (union a b).toList ↔ p ∈ b.toList ∨ p ∈ a.toList ∧ ∀ q ∈ b.toList, q.1 ≠ p.1 := by
  induction b with
  | nil => intro a ha _; refine ⟨by simpa [union] using ha, fun p => by simp [union, toList]⟩
  | node l k v r ihl ihr =>
    intro a ha hb
    cases a with
    | nil => refine ⟨by simpa [union] using hb, fun p => by simp [union, toList]⟩
    | node a1 a2 a3 a4 =>
      generalize hA : node a1 a2 a3 a4 = A at *
      have hu : union A (node l k v r) = link (union (cut k A).1 l) k v (union (cut k A).2.2 r) := by rw [← hA]; rfl
      rw [hu]
      rw [toList] at hb ⊢
      obtain ⟨h1, h2, h3, h4⟩ := sorted_node.1 hb
      obtain ⟨c1, c2, c3, c4, _⟩ := cut_spec k A ha
      obtain ⟨l1, l2⟩ := ihl _ c1 h1
      obtain ⟨r1, r2⟩ := ihr _ c3 h2
      rw [link_toList]
      refine ⟨sorted_node.2 ⟨l1, r1, ?_, ?_⟩, fun p => ?_⟩
      · intro q hq
        rcases (l2 q).1 hq with hq | ⟨hq, _⟩
        · exact h3 q hq
        · exact ((c2 q).1 hq).2
      · intro q hq
        rcases (r2 q).1 hq with hq | ⟨hq, _⟩
        · exact h4 q hq
        · exact ((c4 q).1 hq).2
      · simp only [List.mem_append, List.mem_cons, l2, r2, c2, c4]
        constructor
        · rintro ((hp | ⟨⟨hp, hl⟩, hn⟩) | rfl | (hp | ⟨⟨hp, hl⟩, hn⟩))
          · exact .inl (.inl hp)
          · refine .inr ⟨hp, ?_⟩
            rintro q (hq | rfl | hq)
            · exact hn q hq
            · exact ne_of_gt hl
            · exact ne_of_gt (KOrd.trans hl (h4 q hq))
          · exact .inl (.inr (.inl rfl))
          · exact .inl (.inr (.inr hp))
          · refine .inr ⟨hp, ?_⟩
            rintro q (hq | rfl | hq)
            · exact ne_of_lt (KOrd.trans (h3 q hq) hl)
            · exact ne_of_lt hl
            · exact hn q hq
        · rintro ((hp | rfl | hp) | ⟨hp, hn⟩)
          · exact .inl (.inl hp)
          · exact .inr (.inl rfl)
          · exact .inr (.inr (.inl hp))
          · rcases three p.1 k with hl | e | hl
            · exact .inl (.inr ⟨⟨hp, hl⟩, fun q hq => hn q (.inl hq)⟩)
            · exact absurd e.symm (hn (k, v) (.inr (.inl rfl)))
            · exact .inr (.inr (.inr ⟨⟨hp, hl⟩, fun q hq => hn q (.inr (.inr hq))⟩))

theorem subtract_spec (b : T K V) : ∀ (a : T K V), Sorted a.toList → Sorted b.toList →
    Sorted (subtract a b).toList ∧ ∀ p, p ∈ (subtract a b).toList ↔ p ∈ a.toList ∧ ∀ q ∈ b.toList, q.1 ≠ p.1 := by
  induction b with
  | nil => intro a ha _; refine ⟨by simpa [subtract] using ha, fun p => by simp [subtract, toList]⟩
  | node l k v r ihl ihr =>
    intro a ha hb
    cases a with
    | nil => refine ⟨by simp [subtract, toList, Sorted], fun p => by simp [subtract, toList]⟩
    | node a1 a2 a3 a4 =>
      generalize hA : node a1 a2 a3 a4 = A at *
      have hu : subtract A (node l k v r) = merge (subtract (cut k A).1 l) (subtract (cut k A).2.2 r) := by rw [← hA]; rfl
      rw [hu]
      rw [toList] at hb ⊢
      obtain ⟨h1, h2, h3, h4⟩ := sorted_node.1 hb
      obtain ⟨c1, c2, c3, c4, _⟩ := cut_spec k A ha
      obtain ⟨l1, l2⟩ := ihl _ c1 h1
      obtain ⟨r1, r2⟩ := ihr _ c3 h2
      rw [merge_toList]
      refine ⟨sorted_append l1 r1 ?_, fun p => ?_⟩
      · intro x hx y hy
        exact KOrd.trans ((c2 x).1 ((l2 x).1 hx).1).2 ((c4 y).1 ((r2 y).1 hy).1).2
      · simp only [List.mem_append, List.mem_cons, l2, r2, c2, c4]
        constructor
        · rintro (⟨⟨hp, hl⟩, hn⟩ | ⟨⟨hp, hl⟩, hn⟩)
          · refine ⟨hp, ?_⟩
            rintro q (hq | rfl | hq)
            · exact hn q hq
            · exact ne_of_gt hl
            · exact ne_of_gt (KOrd.trans hl (h4 q hq))
          · refine ⟨hp, ?_⟩
            rintro q (hq | rfl | hq)
            · exact ne_of_lt (KOrd.trans (h3 q hq) hl)
            · exact ne_of_lt hl
            · exact hn q hq
        · rintro ⟨hp, hn⟩
          rcases three p.1 k with hl | e | hl
          · exact .inl ⟨⟨hp, hl⟩, fun q hq => hn q (.inl hq)⟩
          · exact absurd e.symm (hn (k, v) (.inr (.inl rfl)))
          · exact .inr ⟨⟨hp, hl⟩, fun q hq => hn q (.inr (.inr hq))⟩

theorem intersect_spec (b : T K V) : ∀ (a : T K V), Sorted a.toList → Sorted b.toList →
    Sorted (intersect a b).toList ∧ ∀ p, p ∈ (intersect a b).toList ↔ p ∈ b.toList ∧ ∃ q ∈ a.toList, q.1 = p.1 := by
  induction b with
  | nil => intro a _ _; refine ⟨by simp [intersect, toList, Sorted], fun p => by simp [intersect, toList]⟩
  | node l k v r ihl ihr =>
    intro a ha hb
    cases a with
    | nil => refine ⟨by simp [intersect, toList, Sorted], fun p => by simp [intersect, toList]⟩
    | node a1 a2 a3 a4 =>
      generalize hA : node a1 a2 a3 a4 = A at *
      have hu : intersect A (node l k v r) = match (cut k A).2.1 with
        | nil => merge (intersect (cut k A).1 l) (intersect (cut k A).2.2 r)
        | node .. => link (intersect (cut k A).1 l) k v (intersect (cut k A).2.2 r) := by rw [← hA]; rfl
      rw [hu]
      rw [toList] at hb ⊢
      obtain ⟨h1, h2, h3, h4⟩ := sorted_node.1 hb
      obtain ⟨c1, c2, c3, c4, c5⟩ := cut_spec k A ha
      obtain ⟨l1, l2⟩ := ihl _ c1 h1
      obtain ⟨r1, r2⟩ := ihr _ c3 h2
      have hL : ∀ p ∈ l.toList, (∃ q ∈ A.toList, q.1 = p.1) → ∃ q, (q ∈ A.toList ∧ lt q.1 k = true) ∧ q.1 = p.1 := by
        rintro p hp ⟨q, hq, e⟩; exact ⟨q, ⟨hq, by rw [e]; exact h3 p hp⟩, e⟩
      have hR : ∀ p ∈ r.toList, (∃ q ∈ A.toList, q.1 = p.1) → ∃ q, (q ∈ A.toList ∧ lt k q.1 = true) ∧ q.1 = p.1 := by
        rintro p hp ⟨q, hq, e⟩; exact ⟨q, ⟨hq, by rw [e]; exact h4 p hp⟩, e⟩
      rcases c5 with ⟨e, hn⟩ | ⟨l', v', r', e, hm⟩
      · rw [e]
        simp only
        rw [merge_toList]
        refine ⟨sorted_append l1 r1 ?_, fun p => ?_⟩
        · intro x hx y hy
          exact KOrd.trans (h3 x ((l2 x).1 hx).1) (h4 y ((r2 y).1 hy).1)
        · simp only [List.mem_append, List.mem_cons, l2, r2, c2, c4]
          constructor
          · rintro (⟨hp, q, ⟨hq, _⟩, e⟩ | ⟨hp, q, ⟨hq, _⟩, e⟩)
            · exact ⟨.inl hp, q, hq, e⟩
            · exact ⟨.inr (.inr hp), q, hq, e⟩
          · rintro ⟨hp | rfl | hp, hq⟩
            · exact .inl ⟨hp, hL p hp hq⟩
            · obtain ⟨q, hq, e⟩ := hq
              exact absurd e (hn q hq)
            · exact .inr ⟨hp, hR p hp hq⟩
      · rw [e]
        simp only
        rw [link_toList]
        refine ⟨sorted_node.2 ⟨l1, r1, fun x hx => h3 x ((l2 x).1 hx).1, fun y hy => h4 y ((r2 y).1 hy).1⟩, fun p => ?_⟩
        simp only [List.mem_append, List.mem_cons, l2, r2, c2, c4]
        constructor
        · rintro (⟨hp, q, ⟨hq, _⟩, e⟩ | rfl | ⟨hp, q, ⟨hq, _⟩, e⟩)
          · exact ⟨.inl hp, q, hq, e⟩
          · exact ⟨.inr (.inl rfl), (k, v'), hm, rfl⟩
          · exact ⟨.inr (.inr hp), q, hq, e⟩
        · rintro ⟨hp | rfl | hp, hq⟩
          · exact .inl ⟨hp, hL p hp hq⟩
          · exact .inr (.inl rfl)
          · exact .inr (.inr ⟨hp, hR p hp hq⟩)

end T

/-! ### Balance -/
namespace T

theorem cut_bal (k : K) (t : T K V) (h : t.Bal) : (cut k t).1.Bal ∧ (cut k t).2.1.Bal ∧ (cut k t).2.2.Bal := by
  induction t with
  | nil => simp [cut, Bal]
  | node l q v r ihl ihr =>
    have hh := h
    obtain ⟨h1, h2, h3, h4⟩ := h
    rw [cut]
    split
    · obtain ⟨a, b, c⟩ := ihl h3
      exact ⟨a, b, link_bal _ _ _ _ c h4⟩
    · split
      · obtain ⟨a, b, c⟩ := ihr h4
        exact ⟨link_bal _ _ _ _ h3 a, b, c⟩
      · exact ⟨h3, hh, h4⟩

theorem put_size (k : K) (x : V) (t : T K V) : (put k x t).size = t.size ∨ (put k x t).size = t.size + 1 := by
  induction t with
  | nil => right; rfl
  | node l q v r ihl ihr =>
    rw [put]
    split
    · rw [balanced_size, size]; omega
    · split
      · rw [balanced_size, size]; omega
      · left; rfl

theorem put_bal (k : K) (x : V) (t : T K V) (h : t.Bal) : (put k x t).Bal := by
  induction t with
  | nil => simp [put, Bal, size]
  | node l q v r ihl ihr =>
    obtain ⟨h1, h2, h3, h4⟩ := h
    rw [put]
    split
    · have := put_size k x l
      exact balanced_bal (ihl h3) h4 (by omega) (by omega)
    · split
      · have := put_size k x r
        exact balanced_bal h3 (ihr h4) (by omega) (by omega)
      · exact ⟨h1, h2, h3, h4⟩

theorem remove_size (k : K) (t : T K V) : (remove k t).size = t.size ∨ (remove k t).size + 1 = t.size := by
  induction t with
  | nil => left; rfl
  | node l q v r ihl ihr =>
    rw [remove]
    split
    · rw [balanced_size, size]; omega
    · split
      · rw [balanced_size, size]; omega
      · right; rw [merge_size, size]

theorem remove_bal (k : K) (t : T K V) (h : t.Bal) : (remove k t).Bal := by
  induction t with
  | nil => exact h
  | node l q v r ihl ihr =>
    obtain ⟨h1, h2, h3, h4⟩ := h
    rw [remove]
    split
    · have := remove_size k l
      exact balanced_bal (ihl h3) h4 (by omega) (by omega)
    · split
      · have := remove_size k r
        exact balanced_bal h3 (ihr h4) (by omega) (by omega)
      · exact merge_bal _ _ h3 h4

theorem union_bal (b : T K V) : ∀ a : T K V, a.Bal → b.Bal → (union a b).Bal := by
  induction b with
  | nil => intro a ha _; exact ha
  | node l k v r ihl ihr =>
    intro a ha hb
    cases a with
    | nil => exact hb
    | node a1 a2 a3 a4 =>
      obtain ⟨c1, _, c3⟩ := cut_bal k _ ha
      obtain ⟨h1, h2, h3, h4⟩ := hb
      exact link_bal _ _ _ _ (ihl _ c1 h3) (ihr _ c3 h4)

theorem subtract_bal (b : T K V) : ∀ a : T K V, a.Bal → b.Bal → (subtract a b).Bal := by
  induction b with
  | nil => intro a ha _; exact ha
  | node l k v r ihl ihr =>
    intro a ha hb
    cases a with
    | nil => exact ha
    | node a1 a2 a3 a4 =>
      obtain ⟨c1, _, c3⟩ := cut_bal k _ ha
      obtain ⟨h1, h2, h3, h4⟩ := hb
      exact merge_bal _ _ (ihl _ c1 h3) (ihr _ c3 h4)

theorem intersect_bal (b : T K V) : ∀ a : T K V, a.Bal → b.Bal → (intersect a b).Bal := by
  induction b with
  | nil => intro a ha _; exact trivial
  | node l k v r ihl ihr =>
    intro a ha hb
    cases a with
    | nil => exact ha
    | node a1 a2 a3 a4 =>
      obtain ⟨c1, _, c3⟩ := cut_bal k _ ha
      obtain ⟨h1, h2, h3, h4⟩ := hb
      simp only [intersect]
      split
      · exact merge_bal _ _ (ihl _ c1 h3) (ihr _ c3 h4)
      · exact link_bal _ _ _ _ (ihl _ c1 h3) (ihr _ c3 h4)

end T

/-! ### Depth -/
namespace T
variable {K V : Type}

theorem bal_child {l r : T K V} {k : K} {v : V} (h : (node l k v r).Bal) : 4 * (l.size + 1) ≤ 3 * ((node l k v r).size + 1) ∧ 4 * (r.size + 1) ≤ 3 * ((node l k v r).size + 1) := by
  obtain ⟨h1, h2, _, _⟩ := h
  simp only [size]
  omega

theorem depth_le (b : Nat) : ∀ t : T K V, t.Bal → t.size + 1 ≤ 2 ^ b → t.depth ≤ 3 * b := by
  induction b with
  | zero =>
    intro t _ h
    cases t with
    | nil => simp [depth]
    | node l k v r => simp only [size] at h; omega
  | succ b ih =>
    intro t hb h
    rw [Nat.pow_succ] at h
    have key : ∀ u : T K V, u.Bal → 64 * (u.size + 1) ≤ 27 * (2 ^ b * 2) → u.depth ≤ 3 * b := fun u hu hs => ih u hu (by omega)
    have two : ∀ u : T K V, u.Bal → 16 * (u.size + 1) ≤ 9 * (2 ^ b * 2) → u.depth ≤ 3 * b + 1 := by
      intro u hu hs
      cases u with
      | nil => simp [depth]
      | node l k v r =>
        have h1 := bal_child hu
        obtain ⟨_, _, h3, h4⟩ := hu
        have a := key l h3 (by omega)
        have c := key r h4 (by omega)
        simp only [depth]
        omega
    have one : ∀ u : T K V, u.Bal → 4 * (u.size + 1) ≤ 3 * (2 ^ b * 2) → u.depth ≤ 3 * b + 2 := by
      intro u hu hs
      cases u with
      | nil => simp [depth]
      | node l k v r =>
        have h1 := bal_child hu
        obtain ⟨_, _, h3, h4⟩ := hu
        have a := two l h3 (by omega)
        have c := two r h4 (by omega)
        simp only [depth]
        omega
    cases t with
    | nil => simp [depth]
    | node l k v r =>
      have h1 := bal_child hb
      obtain ⟨_, _, h3, h4⟩ := hb
      have a := one l h3 (by omega)
      have c := one r h4 (by omega)
      simp only [depth]
      omega

theorem size_lt_depth (t : T K V) : t.size + 1 ≤ 2 ^ t.depth := by
  induction t with
  | nil => simp [size, depth]
  | node l k v r ihl ihr =>
    simp only [size, depth]
    have h1 : 2 ^ l.depth ≤ 2 ^ (max l.depth r.depth) := Nat.pow_le_pow_right (by omega) (by omega)
    have h2 : 2 ^ r.depth ≤ 2 ^ (max l.depth r.depth) := Nat.pow_le_pow_right (by omega) (by omega)
    rw [Nat.pow_add]
    omega

end T
end Go.Proofs.MT
