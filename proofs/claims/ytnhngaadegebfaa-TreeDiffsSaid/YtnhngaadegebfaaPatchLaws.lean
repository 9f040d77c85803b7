/- What the changes between two sorted lists tell, and what they make of the first. -/
import Derived.Test.YtnhngaadegebfaaDiff
namespace Go.Proofs.MT.II
open Go.RowKit
set_option linter.unusedVariables false
set_option linter.unusedSimpArgs false

theorem sorted_tail {x : Int × Int} {xs : List (Int × Int)} (h : Sorted (x :: xs)) : Sorted xs ∧ ∀ p ∈ xs, x.1 < p.1 := by
  unfold Sorted at h
  rw [List.pairwise_cons] at h
  exact ⟨h.2, fun p hp => by have := h.1 p hp; simpa [KOrd.lt] using this⟩

/-- What each change says, and which keys have one. -/
structure Told4 (a b : List (Int × Int)) (cs : List Ch) : Prop where
  keys : ∀ c ∈ cs, (∃ p ∈ a, p.1 = c.key) ∨ ∃ q ∈ b, q.1 = c.key
  put : ∀ c ∈ cs, c.has = true → (c.key, c.new) ∈ b
  gone : ∀ c ∈ cs, c.has = false → ∀ q ∈ b, q.1 ≠ c.key
  left : ∀ p ∈ a, p ∉ b → ∃ c ∈ cs, c.key = p.1
  right : ∀ q ∈ b, q ∉ a → ∃ c ∈ cs, c.key = q.1
  len : cs.length ≤ a.length + b.length

theorem told4 (k : Nat) : ∀ a b : List (Int × Int), a.length + b.length ≤ k → Sorted a → Sorted b → Told4 a b (diffL a b) := by
  induction k with
  | zero =>
    intro a b h _ _
    have ha : a = [] := List.eq_nil_of_length_eq_zero (by omega)
    have hb : b = [] := List.eq_nil_of_length_eq_zero (by omega)
    subst ha hb
    rw [diffL]
    exact ⟨fun c h => (by cases h), fun c h => (by cases h), fun c h => (by cases h), fun c h => (by cases h), fun c h => (by cases h), by simp⟩
  | succ k ih =>
    intro a b h ha hb
    cases a with
    | nil =>
      cases b with
      | nil =>
        rw [diffL]
        exact ⟨fun c h => (by cases h), fun c h => (by cases h), fun c h => (by cases h), fun c h => (by cases h), fun c h => (by cases h), by simp⟩
      | cons y ys =>
        rw [diffL]
        obtain ⟨hb1, hb2⟩ := sorted_tail hb
        have I := ih [] ys (by simp at h ⊢; omega) ha hb1
        refine ⟨?_, ?_, ?_, fun p hp => (by cases hp), ?_, by have := I.len; simp at this ⊢; omega⟩
        · intro c hc
          rcases List.mem_cons.1 hc with rfl | hc
          · exact .inr ⟨y, List.mem_cons_self .., rfl⟩
          · rcases I.keys c hc with ⟨p, hp, _⟩ | ⟨q, hq, e⟩
            · cases hp
            · exact .inr ⟨q, List.mem_cons_of_mem _ hq, e⟩
        · intro c hc hh
          rcases List.mem_cons.1 hc with rfl | hc
          · exact List.mem_cons_self ..
          · exact List.mem_cons_of_mem _ (I.put c hc hh)
        · intro c hc hh
          rcases List.mem_cons.1 hc with rfl | hcc
          · cases hh
          · intro q hq
            rcases List.mem_cons.1 hq with rfl | hq
            · rcases I.keys c hcc with ⟨p, hp, _⟩ | ⟨q', hq', e⟩
              · cases hp
              · have := hb2 q' hq'; omega
            · exact I.gone c hcc hh q hq
        · intro q hq _
          rcases List.mem_cons.1 hq with rfl | hq
          · exact ⟨_, List.mem_cons_self .., rfl⟩
          · obtain ⟨c, hc, e⟩ := I.right q hq (fun h => by cases h)
            exact ⟨c, List.mem_cons_of_mem _ hc, e⟩
    | cons x xs =>
      obtain ⟨ha1, ha2⟩ := sorted_tail ha
      cases b with
      | nil =>
        rw [diffL]
        have I := ih xs [] (by simp at h ⊢; omega) ha1 hb
        refine ⟨?_, ?_, fun c hc hh q hq => (by cases hq), ?_, fun q hq => (by cases hq), by have := I.len; simp at this ⊢; omega⟩
        · intro c hc
          rcases List.mem_cons.1 hc with rfl | hc
          · exact .inl ⟨x, List.mem_cons_self .., rfl⟩
          · rcases I.keys c hc with ⟨p, hp, e⟩ | ⟨q, hq, _⟩
            · exact .inl ⟨p, List.mem_cons_of_mem _ hp, e⟩
            · cases hq
        · intro c hc hh
          rcases List.mem_cons.1 hc with rfl | hc
          · cases hh
          · exact I.put c hc hh
        · intro p hp _
          rcases List.mem_cons.1 hp with rfl | hp
          · exact ⟨_, List.mem_cons_self .., rfl⟩
          · obtain ⟨c, hc, e⟩ := I.left p hp (fun h => by cases h)
            exact ⟨c, List.mem_cons_of_mem _ hc, e⟩
      | cons y ys =>
        obtain ⟨hb1, hb2⟩ := sorted_tail hb
        rw [diffL]
        by_cases h1 : x.1 < y.1
        · rw [if_pos h1]
          have I := ih xs (y :: ys) (by simp at h ⊢; omega) ha1 hb
          refine ⟨?_, ?_, ?_, ?_, ?_, by have := I.len; simp at this ⊢; omega⟩
          · intro c hc
            rcases List.mem_cons.1 hc with rfl | hc
            · exact .inl ⟨x, List.mem_cons_self .., rfl⟩
            · rcases I.keys c hc with ⟨p, hp, e⟩ | h'
              · exact .inl ⟨p, List.mem_cons_of_mem _ hp, e⟩
              · exact .inr h'
          · intro c hc hh
            rcases List.mem_cons.1 hc with rfl | hc
            · cases hh
            · exact I.put c hc hh
          · intro c hc hh
            rcases List.mem_cons.1 hc with rfl | hc
            · intro q hq
              show q.1 ≠ x.1
              rcases List.mem_cons.1 hq with rfl | hq
              · omega
              · have := hb2 q hq; omega
            · exact I.gone c hc hh
          · intro p hp hn
            rcases List.mem_cons.1 hp with rfl | hp
            · exact ⟨_, List.mem_cons_self .., rfl⟩
            · obtain ⟨c, hc, e⟩ := I.left p hp hn
              exact ⟨c, List.mem_cons_of_mem _ hc, e⟩
          · intro q hq hn
            obtain ⟨c, hc, e⟩ := I.right q hq (fun h => hn (List.mem_cons_of_mem _ h))
            exact ⟨c, List.mem_cons_of_mem _ hc, e⟩
        · rw [if_neg h1]
          by_cases h2 : y.1 < x.1
          · rw [if_pos h2]
            have I := ih (x :: xs) ys (by simp at h ⊢; omega) ha hb1
            have up : ∀ p ∈ x :: xs, y.1 < p.1 := fun p hp => by
              rcases List.mem_cons.1 hp with rfl | hp
              · exact h2
              · have := ha2 p hp; omega
            refine ⟨?_, ?_, ?_, ?_, ?_, by have := I.len; simp at this ⊢; omega⟩
            · intro c hc
              rcases List.mem_cons.1 hc with rfl | hc
              · exact .inr ⟨y, List.mem_cons_self .., rfl⟩
              · rcases I.keys c hc with h' | ⟨q, hq, e⟩
                · exact .inl h'
                · exact .inr ⟨q, List.mem_cons_of_mem _ hq, e⟩
            · intro c hc hh
              rcases List.mem_cons.1 hc with rfl | hc
              · exact List.mem_cons_self ..
              · exact List.mem_cons_of_mem _ (I.put c hc hh)
            · intro c hc hh
              rcases List.mem_cons.1 hc with rfl | hcc
              · cases hh
              · intro q hq
                rcases List.mem_cons.1 hq with rfl | hq
                · rcases I.keys c hcc with ⟨p, hp, e⟩ | ⟨q', hq', e⟩
                  · have := up p hp; omega
                  · have := hb2 q' hq'; omega
                · exact I.gone c hcc hh q hq
            · intro p hp hn
              obtain ⟨c, hc, e⟩ := I.left p hp (fun h => hn (List.mem_cons_of_mem _ h))
              exact ⟨c, List.mem_cons_of_mem _ hc, e⟩
            · intro q hq hn
              rcases List.mem_cons.1 hq with rfl | hq
              · exact ⟨_, List.mem_cons_self .., rfl⟩
              · obtain ⟨c, hc, e⟩ := I.right q hq hn
                exact ⟨c, List.mem_cons_of_mem _ hc, e⟩
          · rw [if_neg h2]
            have hk : x.1 = y.1 := by omega
            have I := ih xs ys (by simp at h ⊢; omega) ha1 hb1
            have mem : ∀ c, c ∈ (if x.2 = y.2 then [] else [(⟨y.1, x.2, y.2, true, true⟩ : Ch)]) ++ diffL xs ys ↔ (¬ x.2 = y.2 ∧ c = ⟨y.1, x.2, y.2, true, true⟩) ∨ c ∈ diffL xs ys := fun c => by
              by_cases e : x.2 = y.2
              · rw [if_pos e]; simp [e]
              · rw [if_neg e]; simp [e]
            refine ⟨?_, ?_, ?_, ?_, ?_, by have := I.len; split <;> simp at this ⊢ <;> omega⟩
            · intro c hc
              rcases (mem c).1 hc with ⟨_, rfl⟩ | hc
              · exact .inr ⟨y, List.mem_cons_self .., rfl⟩
              · rcases I.keys c hc with ⟨p, hp, e⟩ | ⟨q, hq, e⟩
                · exact .inl ⟨p, List.mem_cons_of_mem _ hp, e⟩
                · exact .inr ⟨q, List.mem_cons_of_mem _ hq, e⟩
            · intro c hc hh
              rcases (mem c).1 hc with ⟨_, rfl⟩ | hc
              · exact List.mem_cons_self ..
              · exact List.mem_cons_of_mem _ (I.put c hc hh)
            · intro c hc hh
              rcases (mem c).1 hc with ⟨_, rfl⟩ | hcc
              · cases hh
              · intro q hq
                rcases List.mem_cons.1 hq with rfl | hq
                · rcases I.keys c hcc with ⟨p, hp, e⟩ | ⟨q', hq', e⟩
                  · have := ha2 p hp; omega
                  · have := hb2 q' hq'; omega
                · exact I.gone c hcc hh q hq
            · intro p hp hn
              rcases List.mem_cons.1 hp with rfl | hp
              · by_cases e : p.2 = y.2
                · exact absurd (show p ∈ y :: ys from by rw [show p = y from Prod.ext hk e]; exact List.mem_cons_self ..) hn
                · exact ⟨_, (mem _).2 (.inl ⟨e, rfl⟩), hk.symm⟩
              · obtain ⟨c, hc, e⟩ := I.left p hp (fun h => hn (List.mem_cons_of_mem _ h))
                exact ⟨c, (mem c).2 (.inr hc), e⟩
            · intro q hq hn
              rcases List.mem_cons.1 hq with rfl | hq
              · by_cases e : x.2 = q.2
                · exact absurd (show q ∈ x :: xs from by rw [show q = x from Prod.ext hk.symm e.symm]; exact List.mem_cons_self ..) hn
                · exact ⟨_, (mem _).2 (.inl ⟨e, rfl⟩), rfl⟩
              · obtain ⟨c, hc, e⟩ := I.right q hq (fun h => hn (List.mem_cons_of_mem _ h))
                exact ⟨c, (mem c).2 (.inr hc), e⟩
theorem diff_self : ∀ l : List (Int × Int), diffL l l = []
  | [] => by rw [diffL]
  | x :: xs => by rw [diffL, if_neg (by omega), if_neg (by omega), if_pos rfl, diff_self xs]; rfl

/-- The map after the first j changes: at their keys it is b, elsewhere a. -/
structure Patched (a b : List (Int × Int)) (cs : List Ch) (j : Nat) (m : T Int Int) : Prop where
  sorted : Sorted m.toList
  size : m.size ≤ a.length + j
  here : ∀ p : Int × Int, (∃ c ∈ cs.take j, c.key = p.1) → (p ∈ m.toList ↔ p ∈ b)
  there : ∀ p : Int × Int, (¬ ∃ c ∈ cs.take j, c.key = p.1) → (p ∈ m.toList ↔ p ∈ a)
theorem Patched.start {a : T Int Int} {b : List (Int × Int)} {cs : List Ch} (ha : Sorted a.toList) : Patched a.toList b cs 0 a :=
  ⟨ha, by rw [T.length_toList]; omega, fun p ⟨c, hc, _⟩ => by simp at hc, fun p _ => Iff.rfl⟩
theorem take_mem {cs : List Ch} {j : Nat} {c : Ch} (h : cs[j]? = some c) (k : Int) : (∃ d ∈ cs.take (j + 1), d.key = k) ↔ (∃ d ∈ cs.take j, d.key = k) ∨ c.key = k := by
  rw [List.take_add_one, h]
  simp only [Option.toList_some, List.mem_append, List.mem_singleton]
  constructor
  · rintro ⟨d, hd | rfl, e⟩
    · exact .inl ⟨d, hd, e⟩
    · exact .inr e
  · rintro (⟨d, hd, e⟩ | e)
    · exact ⟨d, .inl hd, e⟩
    · exact ⟨c, .inr rfl, e⟩
theorem Patched.put {a b : List (Int × Int)} {cs : List Ch} {j : Nat} {m : T Int Int} (h : Patched a b cs j m) (hb : Sorted b) {c : Ch} (hc : cs[j]? = some c) (hin : (c.key, c.new) ∈ b) : Patched a b cs (j + 1) (m.put c.key c.new) := by
  obtain ⟨s, g⟩ := T.put_spec c.key c.new m h.sorted
  refine ⟨s, by have := h.size; rcases T.put_size c.key c.new m with e | e <;> omega, fun p hp => ?_, fun p hp => ?_⟩
  · rw [g]
    by_cases e : p.1 = c.key
    · constructor
      · rintro (rfl | ⟨_, hne⟩)
        · exact hin
        · exact absurd e hne
      · intro hpb
        exact .inl (hb.unique hpb hin e)
    · have hp' := (h.here p (((take_mem hc p.1).1 hp).resolve_right fun e' => e e'.symm))
      rw [← hp']
      exact ⟨fun h => h.elim (fun e' => absurd (by rw [e']) e) fun h => h.1, fun h => .inr ⟨h, e⟩⟩
  · have hne : ¬ p.1 = c.key := fun e => hp ((take_mem hc p.1).2 (.inr e.symm))
    have hp' := h.there p fun h => hp ((take_mem hc p.1).2 (.inl h))
    rw [g, ← hp']
    exact ⟨fun h => h.elim (fun e' => absurd (by rw [e']) hne) fun h => h.1, fun h => .inr ⟨h, hne⟩⟩
theorem Patched.remove {a b : List (Int × Int)} {cs : List Ch} {j : Nat} {m m' : T Int Int} (h : Patched a b cs j m) {c : Ch} (hc : cs[j]? = some c) (hno : ∀ q ∈ b, q.1 ≠ c.key) (hm : m'.toList = (m.remove c.key).toList) (hz : m'.size ≤ m.size) : Patched a b cs (j + 1) m' := by
  obtain ⟨s, g⟩ := T.remove_spec c.key m h.sorted
  refine ⟨by rw [hm]; exact s, by have := h.size; omega, fun p hp => ?_, fun p hp => ?_⟩
  · rw [hm, g]
    by_cases e : p.1 = c.key
    · exact ⟨fun h => absurd e h.2, fun h => absurd e (hno p h)⟩
    · have hp' := (h.here p (((take_mem hc p.1).1 hp).resolve_right fun e' => e e'.symm))
      rw [← hp']
      exact ⟨fun h => h.1, fun h => ⟨h, e⟩⟩
  · have hne : ¬ p.1 = c.key := fun e => hp ((take_mem hc p.1).2 (.inr e.symm))
    have hp' := h.there p fun h => hp ((take_mem hc p.1).2 (.inl h))
    rw [hm, g, ← hp']
    exact ⟨fun h => h.1, fun h => ⟨h, hne⟩⟩
theorem Patched.all {a b : List (Int × Int)} {cs : List Ch} {m : T Int Int} (h : Patched a b cs cs.length m) (hb : Sorted b) (ht : Told4 a b cs) : m.toList = b := by
  refine sorted_ext h.sorted hb fun p => ?_
  have h1 := h.here p
  have h2 := h.there p
  rw [List.take_length] at h1 h2
  by_cases e : ∃ c ∈ cs, c.key = p.1
  · exact h1 e
  · rw [h2 e]
    constructor
    · intro hp
      exact Classical.byContradiction fun hn => e (ht.left p hp hn)
    · intro hp
      exact Classical.byContradiction fun hn => e (ht.right p hp hn)
end Go.Proofs.MT.II
