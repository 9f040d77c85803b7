/- Which changes diffL tells: just those of the keys at which the two lists differ, in order. -/
import Derived.Test.YtnhngaadegebfaaPatchLaws
namespace Go.Proofs.MT.II
open Go.RowKit
set_option linter.unusedVariables false
set_option linter.unusedSimpArgs false

def Ch.swap (c : Ch) : Ch := ⟨c.key, c.new, c.old, c.has, c.had⟩
theorem diffL_swap (k : Nat) : ∀ a b : List (Int × Int), a.length + b.length ≤ k → diffL b a = (diffL a b).map Ch.swap := by
  induction k with
  | zero =>
    intro a b h
    have ha : a = [] := List.eq_nil_of_length_eq_zero (by omega)
    have hb : b = [] := List.eq_nil_of_length_eq_zero (by omega)
    subst ha hb
    rw [diffL]; rfl
  | succ k ih =>
    intro a b h
    cases a with
    | nil =>
      cases b with
      | nil => rw [diffL]; rfl
      | cons y ys =>
        rw [diffL, diffL, ih [] ys (by simp at h ⊢; omega)]
        rfl
    | cons x xs =>
      cases b with
      | nil =>
        rw [diffL, diffL, ih xs [] (by simp at h ⊢; omega)]
        rfl
      | cons y ys =>
        rw [diffL, diffL]
        rcases Int.lt_trichotomy x.1 y.1 with h1 | h1 | h1
        · rw [if_neg (show ¬ y.1 < x.1 by omega), if_pos h1, if_pos h1, ih xs (y :: ys) (by simp at h ⊢; omega)]
          rfl
        · rw [if_neg (show ¬ y.1 < x.1 by omega), if_neg (show ¬ x.1 < y.1 by omega), if_neg (show ¬ x.1 < y.1 by omega), if_neg (show ¬ y.1 < x.1 by omega), ih xs ys (by simp at h ⊢; omega), List.map_append]
          congr 1
          by_cases e : x.2 = y.2
          · rw [if_pos e, if_pos e.symm]; rfl
          · rw [if_neg e, if_neg (fun e' => e e'.symm)]
            simp [Ch.swap, h1]
        · rw [if_pos h1, if_neg (show ¬ x.1 < y.1 by omega), if_pos h1, ih (x :: xs) ys (by simp at h ⊢; omega)]
          rfl

/-- A change is of one of three forms. -/
def Formed (c : Ch) : Prop := (c.had = true ∧ c.has = false ∧ c.new = 0) ∨ (c.had = false ∧ c.has = true ∧ c.old = 0) ∨ (c.had = true ∧ c.has = true ∧ c.old ≠ c.new)
theorem formed (k : Nat) : ∀ a b : List (Int × Int), a.length + b.length ≤ k → ∀ c ∈ diffL a b, Formed c := by
  induction k with
  | zero =>
    intro a b h
    have ha : a = [] := List.eq_nil_of_length_eq_zero (by omega)
    have hb : b = [] := List.eq_nil_of_length_eq_zero (by omega)
    subst ha hb
    rw [diffL]
    intro c hc; cases hc
  | succ k ih =>
    intro a b h c hc
    cases a with
    | nil =>
      cases b with
      | nil => rw [diffL] at hc; cases hc
      | cons y ys =>
        rw [diffL] at hc
        rcases List.mem_cons.1 hc with rfl | hc
        · exact .inr (.inl ⟨rfl, rfl, rfl⟩)
        · exact ih [] ys (by simp at h ⊢; omega) c hc
    | cons x xs =>
      cases b with
      | nil =>
        rw [diffL] at hc
        rcases List.mem_cons.1 hc with rfl | hc
        · exact .inl ⟨rfl, rfl, rfl⟩
        · exact ih xs [] (by simp at h ⊢; omega) c hc
      | cons y ys =>
        rw [diffL] at hc
        by_cases h1 : x.1 < y.1
        · rw [if_pos h1] at hc
          rcases List.mem_cons.1 hc with rfl | hc
          · exact .inl ⟨rfl, rfl, rfl⟩
          · exact ih xs (y :: ys) (by simp at h ⊢; omega) c hc
        · rw [if_neg h1] at hc
          by_cases h2 : y.1 < x.1
          · rw [if_pos h2] at hc
            rcases List.mem_cons.1 hc with rfl | hc
            · exact .inr (.inl ⟨rfl, rfl, rfl⟩)
            · exact ih (x :: xs) ys (by simp at h ⊢; omega) c hc
          · rw [if_neg h2] at hc
            rcases List.mem_append.1 hc with hc | hc
            · by_cases e : x.2 = y.2
              · rw [if_pos e] at hc; cases hc
              · rw [if_neg e] at hc
                rw [List.mem_singleton.1 hc]
                exact .inr (.inr ⟨rfl, rfl, e⟩)
            · exact ih xs ys (by simp at h ⊢; omega) c hc

/-- What is told of both sides. -/
structure IsCh (a b : List (Int × Int)) (c : Ch) : Prop where
  form : Formed c
  had : c.had = true → (c.key, c.old) ∈ a
  nohad : c.had = false → ∀ p ∈ a, p.1 ≠ c.key
  has : c.has = true → (c.key, c.new) ∈ b
  nohas : c.has = false → ∀ q ∈ b, q.1 ≠ c.key
theorem isCh {a b : List (Int × Int)} (ha : Sorted a) (hb : Sorted b) {c : Ch} (hc : c ∈ diffL a b) : IsCh a b c := by
  have T1 := told4 _ a b (Nat.le_refl _) ha hb
  have T2 := told4 _ b a (Nat.le_refl _) hb ha
  rw [diffL_swap _ a b (Nat.le_refl _)] at T2
  have hs : c.swap ∈ (diffL a b).map Ch.swap := List.mem_map.2 ⟨c, hc, rfl⟩
  exact ⟨formed _ a b (Nat.le_refl _) c hc, T2.put c.swap hs, T2.gone c.swap hs, T1.put c hc, T1.gone c hc⟩
theorem isCh_unique {a b : List (Int × Int)} (ha : Sorted a) (hb : Sorted b) {c d : Ch} (hc : IsCh a b c) (hd : IsCh a b d) (e : c.key = d.key) : c = d := by
  have h1 : c.had = d.had := by
    cases h : c.had <;> cases h' : d.had
    · rfl
    · exact absurd e.symm (hc.nohad h _ (hd.had h'))
    · exact absurd e (hd.nohad h' _ (hc.had h))
    · rfl
  have h2 : c.has = d.has := by
    cases h : c.has <;> cases h' : d.has
    · rfl
    · exact absurd e.symm (hc.nohas h _ (hd.has h'))
    · exact absurd e (hd.nohas h' _ (hc.has h))
    · rfl
  have h3 : c.old = d.old := by
    cases h : c.had with
    | true =>
      have := ha.unique (hc.had h) (hd.had (h1 ▸ h)) e
      exact congrArg Prod.snd this
    | false =>
      have h' : d.had = false := h1 ▸ h
      rcases hc.form with ⟨q, _⟩ | ⟨_, _, q⟩ | ⟨q, _⟩
      · rw [h] at q; cases q
      · rcases hd.form with ⟨q', _⟩ | ⟨_, _, q'⟩ | ⟨q', _⟩
        · rw [h'] at q'; cases q'
        · rw [q, q']
        · rw [h'] at q'; cases q'
      · rw [h] at q; cases q
  have h4 : c.new = d.new := by
    cases h : c.has with
    | true =>
      have := hb.unique (hc.has h) (hd.has (h2 ▸ h)) e
      exact congrArg Prod.snd this
    | false =>
      have h' : d.has = false := h2 ▸ h
      rcases hc.form with ⟨_, _, q⟩ | ⟨_, q, _⟩ | ⟨_, q, _⟩
      · rcases hd.form with ⟨_, _, q'⟩ | ⟨_, q', _⟩ | ⟨_, q', _⟩
        · rw [q, q']
        · rw [h'] at q'; cases q'
        · rw [h'] at q'; cases q'
      · rw [h] at q; cases q
      · rw [h] at q; cases q
  cases c; cases d
  simp at *
  exact ⟨e, h3, h4, h1, h2⟩
theorem mem_diffL {a b : List (Int × Int)} (ha : Sorted a) (hb : Sorted b) (c : Ch) : c ∈ diffL a b ↔ IsCh a b c := by
  refine ⟨isCh ha hb, fun h => ?_⟩
  have T1 := told4 _ a b (Nat.le_refl _) ha hb
  have hd : ∃ d ∈ diffL a b, d.key = c.key := by
    cases h1 : c.had with
    | true =>
      by_cases hin : (c.key, c.old) ∈ b
      · exfalso
        cases h2 : c.has with
        | true =>
          have := hb.unique hin (h.has h2) rfl
          rcases h.form with ⟨_, q, _⟩ | ⟨q, _⟩ | ⟨_, _, q⟩
          · rw [h2] at q; cases q
          · rw [h1] at q; cases q
          · exact q (congrArg Prod.snd this)
        | false => exact h.nohas h2 _ hin rfl
      · exact T1.left _ (h.had h1) hin
    | false =>
      have h2 : c.has = true := by
        rcases h.form with ⟨q, _⟩ | ⟨_, q, _⟩ | ⟨q, _⟩
        · rw [h1] at q; cases q
        · exact q
        · rw [h1] at q; cases q
      exact T1.right _ (h.has h2) fun hin => h.nohad h1 _ hin rfl
  obtain ⟨d, hd, e⟩ := hd
  rw [isCh_unique ha hb h (isCh ha hb hd) e.symm]
  exact hd

theorem diffL_sorted (k : Nat) : ∀ a b : List (Int × Int), a.length + b.length ≤ k → Sorted a → Sorted b → (diffL a b).Pairwise fun c d => c.key < d.key := by
  induction k with
  | zero =>
    intro a b h _ _
    have ha : a = [] := List.eq_nil_of_length_eq_zero (by omega)
    have hb : b = [] := List.eq_nil_of_length_eq_zero (by omega)
    subst ha hb
    rw [diffL]
    exact List.Pairwise.nil
  | succ k ih =>
    intro a b h ha hb
    have up : ∀ (x y : List (Int × Int)) (n : Int), Sorted x → Sorted y → (∀ p ∈ x, n < p.1) → (∀ q ∈ y, n < q.1) → ∀ c ∈ diffL x y, n < c.key := fun x y n hx hy h1 h2 c hc => by
      rcases (told4 _ x y (Nat.le_refl _) hx hy).keys c hc with ⟨p, hp, e⟩ | ⟨q, hq, e⟩
      · have := h1 p hp; omega
      · have := h2 q hq; omega
    cases a with
    | nil =>
      cases b with
      | nil => rw [diffL]; exact List.Pairwise.nil
      | cons y ys =>
        obtain ⟨hb1, hb2⟩ := sorted_tail hb
        rw [diffL]
        exact List.Pairwise.cons (up [] ys y.1 ha hb1 (fun p hp => (by cases hp)) hb2) (ih [] ys (by simp at h ⊢; omega) ha hb1)
    | cons x xs =>
      obtain ⟨ha1, ha2⟩ := sorted_tail ha
      cases b with
      | nil =>
        rw [diffL]
        exact List.Pairwise.cons (up xs [] x.1 ha1 hb ha2 (fun p hp => (by cases hp))) (ih xs [] (by simp at h ⊢; omega) ha1 hb)
      | cons y ys =>
        obtain ⟨hb1, hb2⟩ := sorted_tail hb
        rw [diffL]
        by_cases h1 : x.1 < y.1
        · rw [if_pos h1]
          refine List.Pairwise.cons (up xs (y :: ys) x.1 ha1 hb ha2 fun q hq => ?_) (ih xs (y :: ys) (by simp at h ⊢; omega) ha1 hb)
          rcases List.mem_cons.1 hq with rfl | hq
          · exact h1
          · have := hb2 q hq; omega
        · rw [if_neg h1]
          by_cases h2 : y.1 < x.1
          · rw [if_pos h2]
            refine List.Pairwise.cons (up (x :: xs) ys y.1 ha hb1 (fun p hp => ?_) hb2) (ih (x :: xs) ys (by simp at h ⊢; omega) ha hb1)
            rcases List.mem_cons.1 hp with rfl | hp
            · exact h2
            · have := ha2 p hp; omega
          · rw [if_neg h2]
            have I := ih xs ys (by simp at h ⊢; omega) ha1 hb1
            by_cases e : x.2 = y.2
            · rw [if_pos e]; exact I
            · rw [if_neg e]
              exact List.Pairwise.cons (up xs ys y.1 ha1 hb1 (fun p hp => by have := ha2 p hp; omega) hb2) I

/-- The reference's way: each key of both, with what each side has. -/
def valL (l : List (Int × Int)) (k : Int) : Int := match l.find? (fun p => decide (p.1 = k)) with | some p => p.2 | none => 0
theorem valL_mem {l : List (Int × Int)} (h : Sorted l) {k v : Int} (hm : (k, v) ∈ l) : valL l k = v := by
  unfold valL
  cases e : l.find? (fun p => decide (p.1 = k)) with
  | none =>
    have := List.find?_eq_none.1 e _ hm
    simp at this
  | some p =>
    have h1 := List.mem_of_find?_eq_some e
    have h2 := List.find?_some e
    simp at h2
    exact congrArg Prod.snd (h.unique h1 hm h2)
theorem valL_no {l : List (Int × Int)} {k : Int} (h : ∀ p ∈ l, p.1 ≠ k) : valL l k = 0 := by
  unfold valL
  have : l.find? (fun p => decide (p.1 = k)) = none := List.find?_eq_none.2 fun p hp => by simpa using h p hp
  rw [this]
def refC (a b : List (Int × Int)) (k : Int) : Ch := ⟨k, valL a k, valL b k, has a k, has b k⟩
def differs (c : Ch) : Bool := !c.had || !c.has || decide (c.old ≠ c.new)
def refL (a b u : List (Int × Int)) : List Ch := (u.map fun p => refC a b p.1).filter differs
theorem has_no {l : List (Int × Int)} {k : Int} : has l k = false ↔ ∀ p ∈ l, p.1 ≠ k := by
  constructor
  · intro h p hp e
    rw [(has_iff l k).2 ⟨p, hp, e⟩] at h; cases h
  · intro h
    cases e : has l k with
    | false => rfl
    | true => obtain ⟨q, hq, e⟩ := (has_iff l k).1 e; exact absurd e (h q hq)
theorem refL_eq {a b : List (Int × Int)} (ha : Sorted a) (hb : Sorted b) : refL a b (unionL a b) = diffL a b := by
  obtain ⟨su, mu⟩ := unionL_spec b a ha hb
  have s1 : (refL a b (unionL a b)).Pairwise fun c d => c.key < d.key := by
    unfold refL
    refine List.Pairwise.filter _ ?_
    rw [List.pairwise_map]
    refine List.Pairwise.imp (fun {x y} h => ?_) su
    have h : KOrd.lt x.1 y.1 = true := h
    show x.1 < y.1
    simpa [KOrd.lt] using h
  have s2 := diffL_sorted _ a b (Nat.le_refl _) ha hb
  have key : ∀ k, (∃ p ∈ unionL a b, p.1 = k) ↔ (has a k = true ∨ has b k = true) := fun k => by
    rw [has_iff, has_iff]
    constructor
    · rintro ⟨p, hp, e⟩
      rcases (mu p).1 hp with h | ⟨h, _⟩
      · exact .inr ⟨p, h, e⟩
      · exact .inl ⟨p, h, e⟩
    · rintro (⟨p, hp, e⟩ | ⟨p, hp, e⟩)
      · by_cases h : ∃ q ∈ b, q.1 = p.1
        · obtain ⟨q, hq, e'⟩ := h
          exact ⟨q, (mu q).2 (.inl hq), e'.trans e⟩
        · exact ⟨p, (mu p).2 (.inr ⟨hp, fun q hq e' => h ⟨q, hq, e'⟩⟩), e⟩
      · exact ⟨p, (mu p).2 (.inl hp), e⟩
  have mem : ∀ c, c ∈ refL a b (unionL a b) ↔ c ∈ diffL a b := fun c => by
    rw [mem_diffL ha hb]
    unfold refL
    rw [List.mem_filter, List.mem_map]
    constructor
    · rintro ⟨⟨p, hp, rfl⟩, hd⟩
      have hk := (key p.1).1 ⟨p, hp, rfl⟩
      refine ⟨?_, ?_, has_no.1, ?_, has_no.1⟩
      · unfold Formed
        show (has a p.1 = true ∧ has b p.1 = false ∧ valL b p.1 = 0) ∨ (has a p.1 = false ∧ has b p.1 = true ∧ valL a p.1 = 0) ∨ (has a p.1 = true ∧ has b p.1 = true ∧ valL a p.1 ≠ valL b p.1)
        have hd : (!has a p.1 || !has b p.1 || decide (valL a p.1 ≠ valL b p.1)) = true := hd
        cases h1 : has a p.1 <;> cases h2 : has b p.1
        · rw [h1, h2] at hk; simp at hk
        · exact .inr (.inl ⟨rfl, rfl, valL_no (has_no.1 h1)⟩)
        · exact .inl ⟨rfl, rfl, valL_no (has_no.1 h2)⟩
        · rw [h1, h2] at hd
          exact .inr (.inr ⟨rfl, rfl, by simpa using hd⟩)
      · intro h
        obtain ⟨q, hq, e⟩ := (has_iff a p.1).1 h
        have hq' : (p.1, q.2) ∈ a := by rw [← e]; exact hq
        show (p.1, valL a p.1) ∈ a
        rw [valL_mem ha hq']
        exact hq'
      · intro h
        obtain ⟨q, hq, e⟩ := (has_iff b p.1).1 h
        have hq' : (p.1, q.2) ∈ b := by rw [← e]; exact hq
        show (p.1, valL b p.1) ∈ b
        rw [valL_mem hb hq']
        exact hq'
    · intro h
      have e1 : has a c.key = c.had := by
        cases h1 : c.had with
        | true => exact (has_iff _ _).2 ⟨_, h.had h1, rfl⟩
        | false => exact has_no.2 (h.nohad h1)
      have e2 : has b c.key = c.has := by
        cases h1 : c.has with
        | true => exact (has_iff _ _).2 ⟨_, h.has h1, rfl⟩
        | false => exact has_no.2 (h.nohas h1)
      have e3 : valL a c.key = c.old := by
        rcases h.form with ⟨q, _⟩ | ⟨q, _, q'⟩ | ⟨q, _⟩
        · exact valL_mem ha (h.had q)
        · rw [q']; exact valL_no (h.nohad q)
        · exact valL_mem ha (h.had q)
      have e4 : valL b c.key = c.new := by
        rcases h.form with ⟨_, q, q'⟩ | ⟨_, q, _⟩ | ⟨_, q, _⟩
        · rw [q']; exact valL_no (h.nohas q)
        · exact valL_mem hb (h.has q)
        · exact valL_mem hb (h.has q)
      have ec : refC a b c.key = c := by unfold refC; rw [e1, e2, e3, e4]
      have hk : has a c.key = true ∨ has b c.key = true := by
        rw [e1, e2]
        rcases h.form with ⟨q, _⟩ | ⟨_, q, _⟩ | ⟨q, _⟩
        · exact .inl q
        · exact .inr q
        · exact .inl q
      obtain ⟨p, hp, e⟩ := (key c.key).2 hk
      refine ⟨⟨p, hp, by rw [e]; exact ec⟩, ?_⟩
      unfold differs
      rcases h.form with ⟨q, q', _⟩ | ⟨q, q', _⟩ | ⟨q, q', q''⟩
      · rw [q, q']; rfl
      · rw [q, q']; rfl
      · rw [q, q']; simpa using q''
  have l1 : Sorted ((refL a b (unionL a b)).map fun c => (c.key, c)) := by
    unfold Sorted
    rw [List.pairwise_map]
    exact List.Pairwise.imp (fun h => by simpa [KOrd.lt] using h) s1
  have l2 : Sorted ((diffL a b).map fun c => (c.key, c)) := by
    unfold Sorted
    rw [List.pairwise_map]
    exact List.Pairwise.imp (fun h => by simpa [KOrd.lt] using h) s2
  have e := sorted_ext l1 l2 fun p => by
    rw [List.mem_map, List.mem_map]
    constructor
    · rintro ⟨c, hc, rfl⟩; exact ⟨c, (mem c).1 hc, rfl⟩
    · rintro ⟨c, hc, rfl⟩; exact ⟨c, (mem c).2 hc, rfl⟩
  have := congrArg (List.map Prod.snd) e
  simpa [List.map_map, Function.comp_def] using this
end Go.Proofs.MT.II
