/- Part 6 of the proof of NumScaled. -/
import Derived.Test.YtdjnneflpkllmaaDoorMNumScaled5
import Derived.Sort.LotA
import Derived.Sort.Lot0
import Derived.Shelf.SlSortCmp.KitK
import Derived.Sort.WalkB2
import Derived.Sort.WalkB12
import Derived.Shelf.SlSortCmp.QuietGrown

namespace Go.Proofs.Num.St
open Go.Sort
set_option linter.unusedVariables false
set_option linter.unusedSimpArgs false
variable {α : Type} [Inhabited α]
/-- d[a+i], d[b+i] exchanged, from i up to n. -/
def swpUp (a b n i : Nat) (d : Array α) : Array α := if i < n then swpUp a b n (i + 1) (swp d (a + i) (b + i)) else d
  termination_by n - i
theorem swpUp_go {a b n i : Nat} {d : Array α} (h : i < n) : swpUp a b n i d = swpUp a b n (i + 1) (swp d (a + i) (b + i)) := by rw [swpUp, if_pos h]
theorem swpUp_end {a b n i : Nat} {d : Array α} (h : ¬ i < n) : swpUp a b n i d = d := by rw [swpUp, if_neg h]
theorem swpUp_size (a b n : Nat) : ∀ (k i : Nat) (d : Array α), n - i ≤ k → (swpUp a b n i d).size = d.size := by
  intro k
  induction k with
  | zero => intro i d h; rw [swpUp_end (by omega)]
  | succ k ih =>
    intro i d h
    by_cases c : i < n
    · rw [swpUp_go c, ih _ _ (by omega), size_swp]
    · rw [swpUp_end c]
theorem swpUp_get {a b n : Nat} (hab : a + n ≤ b) : ∀ (k i : Nat) (d : Array α), n - i ≤ k → b + n ≤ d.size → ∀ t, (swpUp a b n i d)[t]! = if a + i ≤ t ∧ t < a + n then d[t - a + b]! else if b + i ≤ t ∧ t < b + n then d[t - b + a]! else d[t]! := by
  intro k
  induction k with
  | zero =>
    intro i d h hb t
    rw [swpUp_end (by omega), if_neg (by omega), if_neg (by omega)]
  | succ k ih =>
    intro i d h hb t
    by_cases c : i < n
    · rw [swpUp_go c, ih _ _ (by omega) (by rw [size_swp]; exact hb)]
      have hl := swp_left d (a + i) (b + i) (by omega) (by omega)
      have hr := swp_right d (a + i) (b + i) (by omega)
      have ho := swp_other d (a + i) (b + i)
      by_cases c1 : a + i ≤ t ∧ t < a + n
      · rw [if_pos c1]
        by_cases c2 : t = a + i
        · subst c2
          rw [if_neg (by omega), if_neg (by omega), hl]
          congr 1; omega
        · rw [if_pos (by omega), ho _ (by omega) (by omega)]
      · rw [if_neg c1, if_neg (by omega)]
        by_cases c2 : b + i ≤ t ∧ t < b + n
        · rw [if_pos c2]
          by_cases c3 : t = b + i
          · subst c3
            rw [if_neg (by omega), hr]
            congr 1; omega
          · rw [if_pos (by omega), ho _ (by omega) (by omega)]
        · rw [if_neg c2, if_neg (by omega), ho _ (by omega) (by omega)]
    · rw [swpUp_end c, if_neg (by omega), if_neg (by omega)]
theorem swpUp_perm {A B a b n : Nat} (hA : A ≤ a) (hab : a ≤ b) (hB : b + n ≤ B) : ∀ (k i : Nat) (d : Array α), n - i ≤ k → B ≤ d.size → PermIn A B d (swpUp a b n i d) := by
  intro k
  induction k with
  | zero => intro i d h hs; rw [swpUp_end (by omega)]; exact permIn_refl _ _ _
  | succ k ih =>
    intro i d h hs
    by_cases c : i < n
    · rw [swpUp_go c]
      exact permIn_trans _ _ _ _ _ (swp_permIn d A B (a + i) (b + i) (by omega) (by omega) (by omega) (by omega) hs) (ih _ _ (by omega) (by rw [size_swp]; exact hs))
    · rw [swpUp_end c]; exact permIn_refl _ _ _
/-- Blocks [m-i, m) and [m, m+j) exchanged by ranges of one length; at most f rounds. -/
def rot (m : Nat) : Nat → Nat → Nat → Array α → Array α
  | 0, _, _, d => d
  | f + 1, i, j, d => if i = j then swpUp (m - i) m i 0 d else if j < i then rot m f (i - j) j (swpUp (m - i) m j 0 d) else rot m f i (j - i) (swpUp (m - i) (m + j - i) i 0 d)
theorem rot_spec (m A B : Nat) : ∀ (f i j : Nat) (d : Array α), 0 < i → 0 < j → i ≤ m → A ≤ m - i → m + j ≤ B → B ≤ d.size → i + j ≤ f →
    PermIn A B d (rot m f i j d) ∧ ∀ t, (rot m f i j d)[t]! = if t < m - i ∨ m + j ≤ t then d[t]! else if t < m - i + j then d[t + i]! else d[t - j]! := by
  intro f
  induction f with
  | zero => intro i j d h1 h2 h3 h4 h5 h6 h7; omega
  | succ f ih =>
    intro i j d h1 h2 h3 h4 h5 h6 h7
    rw [rot]
    by_cases c : i = j
    · rw [if_pos c]
      refine ⟨swpUp_perm h4 (by omega) (by omega) i 0 d (by omega) h6, fun t => ?_⟩
      rw [swpUp_get (by omega) i 0 d (by omega) (by omega)]
      by_cases c1 : m - i + 0 ≤ t ∧ t < m - i + i
      · rw [if_pos c1, if_neg (by omega), if_pos (by omega)]
        congr 1; omega
      · rw [if_neg c1]
        by_cases c2 : m + 0 ≤ t ∧ t < m + i
        · rw [if_pos c2, if_neg (by omega), if_neg (by omega)]
          congr 1; omega
        · rw [if_neg c2, if_pos (by omega)]
    · rw [if_neg c]
      by_cases c1 : j < i
      · rw [if_pos c1]
        have hs : (swpUp (m - i) m j 0 d).size = d.size := swpUp_size _ _ _ j 0 d (by omega)
        obtain ⟨hp, hg⟩ := ih (i - j) j (swpUp (m - i) m j 0 d) (by omega) h2 (by omega) (by omega) h5 (by omega) (by omega)
        refine ⟨permIn_trans _ _ _ _ _ (swpUp_perm h4 (by omega) (by omega) j 0 d (by omega) h6) hp, fun t => ?_⟩
        have G := swpUp_get (a := m - i) (b := m) (n := j) (by omega) j 0 d (by omega) (by omega)
        rw [hg t]
        by_cases e1 : t < m - i ∨ m + j ≤ t
        · rw [if_pos (by omega), if_pos e1, G, if_neg (by omega), if_neg (by omega)]
        · rw [if_neg e1]
          by_cases e2 : t < m - i + j
          · rw [if_pos (by omega), if_pos e2, G, if_pos (by omega)]
            congr 1; omega
          · rw [if_neg e2, if_neg (by omega)]
            by_cases e3 : t < m - (i - j) + j
            · rw [if_pos e3, G]
              by_cases e4 : m + 0 ≤ t + (i - j) ∧ t + (i - j) < m + j
              · rw [if_neg (by omega), if_pos e4]
                congr 1; omega
              · exfalso; omega
            · rw [if_neg e3, G, if_neg (by omega), if_neg (by omega)]
      · rw [if_neg c1]
        have hs : (swpUp (m - i) (m + j - i) i 0 d).size = d.size := swpUp_size _ _ _ i 0 d (by omega)
        obtain ⟨hp, hg⟩ := ih i (j - i) (swpUp (m - i) (m + j - i) i 0 d) h1 (by omega) h3 h4 (by omega) (by omega) (by omega)
        refine ⟨permIn_trans _ _ _ _ _ (swpUp_perm h4 (by omega) (by omega) i 0 d (by omega) h6) hp, fun t => ?_⟩
        have G := swpUp_get (a := m - i) (b := m + j - i) (n := i) (by omega) i 0 d (by omega) (by omega)
        rw [hg t]
        by_cases e1 : t < m - i ∨ m + j ≤ t
        · rw [if_pos (by omega), if_pos e1, G, if_neg (by omega), if_neg (by omega)]
        · rw [if_neg e1]
          by_cases e0 : m + (j - i) ≤ t
          · rw [if_pos (by omega), if_neg (by omega), G, if_neg (by omega), if_pos (by omega)]
            congr 1; omega
          · rw [if_neg (by omega)]
            by_cases e2 : t < m - i + (j - i)
            · rw [if_pos e2, if_pos (by omega), G, if_neg (by omega), if_neg (by omega)]
            · rw [if_neg e2, G]
              by_cases e3 : t < m - i + j
              · rw [if_pos e3, if_pos (by omega)]
                congr 1; omega
              · rw [if_neg e3]; exfalso; omega
/-- Binary search: the first place of [i, j) at which p falls. -/
def bs (p : Nat → Bool) (i j : Nat) : Nat := if i < j then (if p ((i + j) / 2) then bs p ((i + j) / 2 + 1) j else bs p i ((i + j) / 2)) else i
  termination_by j - i
theorem bs_up {p : Nat → Bool} {i j : Nat} (h : i < j) (hp : p ((i + j) / 2) = true) : bs p i j = bs p ((i + j) / 2 + 1) j := by rw [bs, if_pos h, if_pos hp]
theorem bs_down {p : Nat → Bool} {i j : Nat} (h : i < j) (hp : p ((i + j) / 2) = false) : bs p i j = bs p i ((i + j) / 2) := by rw [bs, if_pos h, if_neg (by rw [hp]; decide)]
theorem bs_end {p : Nat → Bool} {i j : Nat} (h : ¬ i < j) : bs p i j = i := by rw [bs, if_neg h]
theorem bs_range (p : Nat → Bool) : ∀ (k i j : Nat), j - i ≤ k → i ≤ j → i ≤ bs p i j ∧ bs p i j ≤ j := by
  intro k
  induction k with
  | zero => intro i j h hij; rw [bs_end (by omega)]; omega
  | succ k ih =>
    intro i j h hij
    by_cases c : i < j
    · cases hp : p ((i + j) / 2)
      · rw [bs_down c hp]
        have := ih i ((i + j) / 2) (by omega) (by omega)
        omega
      · rw [bs_up c hp]
        have := ih ((i + j) / 2 + 1) j (by omega) (by omega)
        omega
    · rw [bs_end c]; omega
theorem bs_spec {p : Nat → Bool} : ∀ (k i j : Nat), j - i ≤ k → (∀ x y, i ≤ x → x ≤ y → y < j → p y = true → p x = true) → (∀ x, i ≤ x → x < bs p i j → p x = true) ∧ (∀ x, bs p i j ≤ x → x < j → p x = false) := by
  intro k
  induction k with
  | zero => intro i j h hm; rw [bs_end (by omega)]; exact ⟨fun x h1 h2 => by omega, fun x h1 h2 => by omega⟩
  | succ k ih =>
    intro i j h hm
    by_cases c : i < j
    · cases hp : p ((i + j) / 2)
      · rw [bs_down c hp]
        obtain ⟨g1, g2⟩ := ih i ((i + j) / 2) (by omega) fun x y h1 h2 h3 => hm x y h1 h2 (by omega)
        refine ⟨g1, fun x h1 h2 => ?_⟩
        by_cases c2 : x < (i + j) / 2
        · exact g2 x h1 c2
        · cases hx : p x
          · rfl
          · rw [hm ((i + j) / 2) x (by omega) (by omega) h2 hx] at hp; cases hp
      · rw [bs_up c hp]
        obtain ⟨g1, g2⟩ := ih ((i + j) / 2 + 1) j (by omega) fun x y h1 h2 h3 => hm x y (by omega) h2 h3
        refine ⟨fun x h1 h2 => ?_, g2⟩
        by_cases c2 : x ≤ (i + j) / 2
        · exact hm x ((i + j) / 2) h1 c2 (by omega) hp
        · exact g1 x (by omega) h2
    · rw [bs_end c]; exact ⟨fun x h1 h2 => by omega, fun x h1 h2 => by omega⟩
/-- d[k] led up to place e. -/
def shUp (k e : Nat) (d : Array α) : Array α := if k < e then shUp (k + 1) e (swp d k (k + 1)) else d
  termination_by e - k
theorem shUp_go {k e : Nat} {d : Array α} (h : k < e) : shUp k e d = shUp (k + 1) e (swp d k (k + 1)) := by rw [shUp, if_pos h]
theorem shUp_end {k e : Nat} {d : Array α} (h : ¬ k < e) : shUp k e d = d := by rw [shUp, if_neg h]
theorem shUp_spec (A B e : Nat) : ∀ (n k : Nat) (d : Array α), e - k ≤ n → A ≤ k → k ≤ e → e < B → B ≤ d.size → PermIn A B d (shUp k e d) ∧ ∀ t, (shUp k e d)[t]! = if k ≤ t ∧ t < e then d[t + 1]! else if t = e then d[k]! else d[t]! := by
  intro n
  induction n with
  | zero =>
    intro k d h h1 h2 h3 h4
    rw [shUp_end (by omega)]
    refine ⟨permIn_refl _ _ _, fun t => ?_⟩
    rw [if_neg (by omega)]
    by_cases c : t = e
    · rw [if_pos c]; congr 1; omega
    · rw [if_neg c]
  | succ n ih =>
    intro k d h h1 h2 h3 h4
    by_cases c : k < e
    · rw [shUp_go c]
      obtain ⟨hp, hg⟩ := ih (k + 1) (swp d k (k + 1)) (by omega) (by omega) (by omega) h3 (by rw [size_swp]; exact h4)
      have hl := swp_left d k (k + 1) (by omega) (by omega)
      have hr := swp_right d k (k + 1) (by omega)
      have ho := swp_other d k (k + 1)
      refine ⟨permIn_trans _ _ _ _ _ (swp_permIn d A B k (k + 1) h1 (by omega) (by omega) (by omega) h4) hp, fun t => ?_⟩
      rw [hg t]
      by_cases c1 : t = k
      · subst c1
        rw [if_neg (by omega), if_neg (by omega), if_pos (by omega), hl]
      · by_cases c2 : k + 1 ≤ t ∧ t < e
        · rw [if_pos c2, if_pos (by omega), ho _ (by omega) (by omega)]
        · by_cases c3 : t = e
          · rw [if_neg c2, if_pos c3, if_neg (show ¬ (k ≤ t ∧ t < e) by omega), if_pos c3, hr]
          · rw [if_neg c2, if_neg c3, if_neg (show ¬ (k ≤ t ∧ t < e) by omega), if_neg c3, ho _ (by omega) (by omega)]
    · rw [shUp_end c]
      refine ⟨permIn_refl _ _ _, fun t => ?_⟩
      rw [if_neg (by omega)]
      by_cases c2 : t = e
      · rw [if_pos c2]; congr 1; omega
      · rw [if_neg c2]
/-- d[k] led down to place i. -/
def shDn (i : Nat) : Nat → Array α → Array α
  | 0, d => d
  | k + 1, d => if i < k + 1 then shDn i k (swp d (k + 1) k) else d
theorem shDn_go {i k : Nat} {d : Array α} (h : i < k + 1) : shDn i (k + 1) d = shDn i k (swp d (k + 1) k) := by rw [shDn, if_pos h]
theorem shDn_end {i k : Nat} {d : Array α} (h : ¬ i < k) : shDn i k d = d := by
  cases k with
  | zero => rfl
  | succ k => rw [shDn, if_neg h]
theorem shDn_spec (A B i : Nat) : ∀ (k : Nat) (d : Array α), A ≤ i → i ≤ k → k < B → B ≤ d.size → PermIn A B d (shDn i k d) ∧ ∀ t, (shDn i k d)[t]! = if t = i then d[k]! else if i < t ∧ t ≤ k then d[t - 1]! else d[t]! := by
  intro k
  induction k with
  | zero =>
    intro d h1 h2 h3 h4
    rw [shDn_end (by omega)]
    refine ⟨permIn_refl _ _ _, fun t => ?_⟩
    by_cases c : t = i
    · rw [if_pos c]; congr 1; omega
    · rw [if_neg c, if_neg (by omega)]
  | succ k ih =>
    intro d h1 h2 h3 h4
    by_cases c : i < k + 1
    · rw [shDn_go c]
      obtain ⟨hp, hg⟩ := ih (swp d (k + 1) k) h1 (by omega) (by omega) (by rw [size_swp]; exact h4)
      have hl := swp_left d (k + 1) k (by omega) (by omega)
      have hr := swp_right d (k + 1) k (by omega)
      have ho := swp_other d (k + 1) k
      refine ⟨permIn_trans _ _ _ _ _ (swp_permIn d A B (k + 1) k (by omega) (by omega) (by omega) (by omega) h4) hp, fun t => ?_⟩
      rw [hg t]
      by_cases c1 : t = i
      · rw [if_pos c1, if_pos c1, hr]
      · rw [if_neg c1, if_neg c1]
        by_cases c2 : i < t ∧ t ≤ k
        · rw [if_pos c2, if_pos (by omega), ho _ (by omega) (by omega)]
        · rw [if_neg c2]
          by_cases c3 : t = k + 1
          · subst c3
            rw [if_pos (by omega), hl]; congr 1
          · rw [if_neg (by omega), ho _ (by omega) (by omega)]
    · rw [shDn_end c]
      refine ⟨permIn_refl _ _ _, fun t => ?_⟩
      by_cases c2 : t = i
      · rw [if_pos c2]; congr 1; omega
      · rw [if_neg c2, if_neg (by omega)]
section
variable (cl : α → α → Bool)
/-- Merging [a, m) and [m, b) in place; at most f deep. -/
def symM : Nat → Nat → Nat → Nat → Array α → Array α
  | 0, _, _, _, d => d
  | f + 1, a, m, b, d =>
    if m - a = 1 then shUp a (bs (fun h => cl d[h]! d[a]!) m b - 1) d
    else if b - m = 1 then shDn (bs (fun h => !cl d[m]! d[h]!) a m) m d
    else
      let mid := (a + b) / 2
      let n := mid + m
      let s := bs (fun c => !cl d[n - 1 - c]! d[c]!) (if m > mid then n - b else a) (if m > mid then mid else m)
      let e := n - s
      let d1 := if s < m ∧ m < e then rot m (b - a) (m - s) (e - m) d else d
      let d2 := if a < s ∧ s < mid then symM f a s mid d1 else d1
      if mid < e ∧ e < b then symM f mid e b d2 else d2
end
variable {cl lt : α → α → Bool} {pr : α → α → Prop}
theorem sorted_part {a b a' b' : Nat} {d : Array α} (h : SortedIn lt a b d) (h1 : a ≤ a') (h2 : b' ≤ b) : SortedIn lt a' b' d := fun i j x y z => h i j (by omega) y (by omega)
theorem asymm_ {β : Type} {ls : β → β → Bool} (hS : SWO ls) {x y : β} (h : ls x y = true) : ls y x = false := by
  cases g : ls y x
  · rfl
  · have := hS.trans _ _ _ h g
    rw [hS.irrefl] at this
    exact absurd this (by decide)
/-- Sorted on two halves, of which the first is nowhere above the second. -/
theorem sorted_join {a m b : Nat} {d : Array α} (h1 : SortedIn lt a m d) (h2 : SortedIn lt m b d) (hx : ∀ i j, a ≤ i → i < m → m ≤ j → j < b → lt d[j]! d[i]! = false) : SortedIn lt a b d := fun i j x y z => by
  by_cases c1 : j < m
  · exact h1 i j x y c1
  · by_cases c2 : i < m
    · exact hx i j x c2 (by omega) z
    · exact h2 i j (by omega) y z
theorem symM_spec (hS : SWO lt) (hA : ∀ x y, pr y x → cl x y = lt x y) : ∀ (f a m b : Nat) (d : Array α), a < m → m < b → b ≤ d.size → b - a ≤ f → SortedIn lt a m d → SortedIn lt m b d →
    (∀ i j, a ≤ i → i < m → m ≤ j → j < b → pr d[i]! d[j]!) → PermIn a b d (symM cl f a m b d) ∧ SortedIn lt a b (symM cl f a m b d) := by
  intro f
  induction f with
  | zero => intro a m b d h1 h2 h3 h4; omega
  | succ f ih =>
    intro a m b d h1 h2 h3 h4 hs1 hs2 hp
    rw [symM]
    by_cases c1 : m - a = 1
    · rw [if_pos c1]
      have R := bs_range (fun h => cl d[h]! d[a]!) (b - m) m b (Nat.le_refl _) (by omega)
      obtain ⟨g1, g2⟩ := bs_spec (p := fun h => cl d[h]! d[a]!) (b - m) m b (Nat.le_refl _) fun x y hx hxy hy h => by
        have e1 := hA d[y]! d[a]! (hp a y (by omega) (by omega) (by omega) hy)
        have e2 := hA d[x]! d[a]! (hp a x (by omega) (by omega) (by omega) (by omega))
        rw [e1] at h
        rw [e2]
        by_cases exy : x = y
        · rw [exy]; exact h
        · cases g : lt d[x]! d[a]!
          · have := hS.ntrans _ _ _ (hs2 x y hx (by omega) hy) g
            rw [this] at h; cases h
          · rfl
      generalize bs (fun h => cl d[h]! d[a]!) m b = r at *
      obtain ⟨P, G⟩ := shUp_spec a b (r - 1) (r - 1 - a) a d (Nat.le_refl _) (Nat.le_refl _) (by omega) (by omega) h3
      refine ⟨P, fun i j hi hij hj => ?_⟩
      rw [G i, G j]
      have u1 : ∀ x, m ≤ x → x < r → lt d[x]! d[a]! = true := fun x hx hxr => by rw [← hA _ _ (hp a x (by omega) (by omega) hx (by omega))]; exact g1 x hx hxr
      have u2 : ∀ x, r ≤ x → x < b → lt d[x]! d[a]! = false := fun x hx hxr => by rw [← hA _ _ (hp a x (by omega) (by omega) (by omega) hxr)]; exact g2 x hx hxr
      by_cases d1 : j < r - 1
      · rw [if_pos (by omega), if_pos (by omega)]
        exact hs2 (i + 1) (j + 1) (by omega) (by omega) (by omega)
      · rw [if_neg (show ¬ (a ≤ j ∧ j < r - 1) by omega)]
        by_cases d2 : j = r - 1
        · rw [if_pos d2, if_pos (by omega)]
          exact asymm_ hS (u1 (i + 1) (by omega) (by omega))
        · rw [if_neg d2]
          by_cases d3 : i < r - 1
          · rw [if_pos (by omega)]
            exact hs2 (i + 1) j (by omega) (by omega) hj
          · rw [if_neg (by omega)]
            by_cases d4 : i = r - 1
            · rw [if_pos d4]; exact u2 j (by omega) hj
            · rw [if_neg d4]; exact hs2 i j (by omega) hij hj
    · rw [if_neg c1]
      by_cases c2 : b - m = 1
      · rw [if_pos c2]
        have R := bs_range (fun h => !cl d[m]! d[h]!) (m - a) a m (Nat.le_refl _) (by omega)
        obtain ⟨g1, g2⟩ := bs_spec (p := fun h => !cl d[m]! d[h]!) (m - a) a m (Nat.le_refl _) fun x y hx hxy hy h => by
          have e1 := hA d[m]! d[y]! (hp y m (by omega) (by omega) (by omega) (by omega))
          have e2 := hA d[m]! d[x]! (hp x m (by omega) (by omega) (by omega) (by omega))
          rw [e1] at h
          rw [e2]
          by_cases exy : x = y
          · rw [exy]; exact h
          · have h' : lt d[m]! d[y]! = false := by simpa using h
            have := hS.ntrans _ _ _ h' (hs1 x y hx (by omega) hy)
            rw [this]; rfl
        generalize bs (fun h => !cl d[m]! d[h]!) a m = r at *
        obtain ⟨P, G⟩ := shDn_spec a b r m d (by omega) (by omega) h2 h3
        refine ⟨P, fun i j hi hij hj => ?_⟩
        have u1 : ∀ x, a ≤ x → x < r → lt d[m]! d[x]! = false := fun x hx hxr => by
          have := g1 x hx hxr
          simp only [hA _ _ (hp x m hx (by omega) (by omega) (by omega))] at this
          simpa using this
        have u2 : ∀ x, r ≤ x → x < m → lt d[m]! d[x]! = true := fun x hx hxr => by
          have := g2 x hx hxr
          simp only [hA _ _ (hp x m (by omega) hxr (by omega) (by omega))] at this
          simpa using this
        rw [G i, G j]
        by_cases d1 : j < r
        · rw [if_neg (by omega), if_neg (by omega), if_neg (by omega), if_neg (by omega)]
          exact hs1 i j hi hij (by omega)
        · by_cases d2 : j = r
          · rw [if_pos d2, if_neg (by omega), if_neg (by omega)]
            exact u1 i hi (by omega)
          · rw [if_neg d2, if_pos (by omega)]
            by_cases d3 : i = r
            · rw [if_pos d3]; exact asymm_ hS (u2 (j - 1) (by omega) (by omega))
            · rw [if_neg d3]
              by_cases d4 : r < i ∧ i ≤ m
              · rw [if_pos d4]; exact hs1 (i - 1) (j - 1) (by omega) (by omega) (by omega)
              · rw [if_neg d4]
                by_cases d5 : i < j - 1
                · exact hs1 i (j - 1) hi d5 (by omega)
                · have : i = j - 1 := by omega
                  rw [this]; exact hS.irrefl _
      · rw [if_neg c2]
        simp only []
        obtain ⟨mid, hmid⟩ : ∃ mid, mid = (a + b) / 2 := ⟨_, rfl⟩
        obtain ⟨lo, hlo⟩ : ∃ lo, lo = (if m > mid then mid + m - b else a) := ⟨_, rfl⟩
        obtain ⟨hi, hhi⟩ : ∃ hi, hi = (if m > mid then mid else m) := ⟨_, rfl⟩
        rw [← hmid, ← hlo, ← hhi]
        have m1 : a < mid := by omega
        have m2 : mid < b := by omega
        have r1 : a ≤ lo ∧ lo ≤ hi ∧ hi ≤ m ∧ hi ≤ mid ∧ mid + m ≤ lo + b ∧ (lo = a ∨ lo = mid + m - b) ∧ (hi = m ∨ hi = mid) := by
          rw [hlo, hhi]
          by_cases c : m > mid
          · rw [if_pos c, if_pos c]; omega
          · rw [if_neg c, if_neg c]; omega
        clear hlo hhi
        obtain ⟨r1, r2, r3, r4, r5, r6, r7⟩ := r1
        have R := bs_range (fun c => !cl d[mid + m - 1 - c]! d[c]!) (hi - lo) lo hi (Nat.le_refl _) r2
        have ag : ∀ c, lo ≤ c → c < hi → (!cl d[mid + m - 1 - c]! d[c]!) = !lt d[mid + m - 1 - c]! d[c]! := fun c h5 h6 => by
          rw [hA _ _ (hp c (mid + m - 1 - c) (by omega) (by omega) (by omega) (by omega))]
        obtain ⟨g1, g2⟩ := bs_spec (p := fun c => !cl d[mid + m - 1 - c]! d[c]!) (hi - lo) lo hi (Nat.le_refl _) fun x y hx hxy hy h => by
          rw [ag y (by omega) hy] at h
          rw [ag x hx (by omega)]
          by_cases exy : x = y
          · rw [exy]; exact h
          · have h' : lt d[mid + m - 1 - y]! d[y]! = false := by simpa using h
            have k1 := hs1 x y (by omega) (by omega) (by omega)
            have k2 := hs2 (mid + m - 1 - y) (mid + m - 1 - x) (by omega) (by omega) (by omega)
            rw [hS.ntrans _ _ _ k2 (hS.ntrans _ _ _ h' k1)]; rfl
        have u1 : ∀ x, lo ≤ x → x < bs (fun c => !cl d[mid + m - 1 - c]! d[c]!) lo hi → lt d[mid + m - 1 - x]! d[x]! = false := fun x hx hxr => by
          have h := g1 x hx hxr
          simp only [ag x hx (by omega)] at h
          simpa using h
        have u2 : ∀ x, bs (fun c => !cl d[mid + m - 1 - c]! d[c]!) lo hi ≤ x → x < hi → lt d[mid + m - 1 - x]! d[x]! = true := fun x hx hxr => by
          have h := g2 x hx hxr
          simp only [ag x (by omega) hxr] at h
          simpa using h
        clear g1 g2 ag
        generalize bs (fun c => !cl d[mid + m - 1 - c]! d[c]!) lo hi = s at *
        obtain ⟨e, he⟩ : ∃ e, e = mid + m - s := ⟨_, rfl⟩
        rw [← he]
        -- the rotation
        obtain ⟨d1, hd1⟩ : ∃ d1, d1 = (if s < m ∧ m < e then rot m (b - a) (m - s) (e - m) d else d) := ⟨_, rfl⟩
        have D1 : PermIn a b d d1 ∧ ∀ t, d1[t]! = if t < s ∨ e ≤ t then d[t]! else if t < mid then d[t + (m - s)]! else d[t - (e - m)]! := by
          rw [hd1]
          by_cases c : s < m ∧ m < e
          · rw [if_pos c]
            obtain ⟨P, G⟩ := rot_spec m a b (b - a) (m - s) (e - m) d (by omega) (by omega) (by omega) (by omega) (by omega) h3 (by omega)
            refine ⟨P, fun t => ?_⟩
            rw [G t]
            by_cases e1 : t < s ∨ e ≤ t
            · rw [if_pos e1, if_pos (by omega)]
            · rw [if_neg e1, if_neg (by omega)]
              by_cases e2 : t < mid
              · rw [if_pos e2, if_pos (by omega)]
              · rw [if_neg e2, if_neg (by omega)]
          · rw [if_neg c]
            refine ⟨permIn_refl _ _ _, fun t => ?_⟩
            by_cases e1 : t < s ∨ e ≤ t
            · rw [if_pos e1]
            · rw [if_neg e1]
              by_cases e2 : t < mid
              · rw [if_pos e2]; congr 1; omega
              · rw [if_neg e2]; congr 1; omega
        rw [← hd1]
        clear hd1
        obtain ⟨P1, G1⟩ := D1
        have z1 : d1.size = d.size := P1.1
        have Gs : ∀ t, t < s → d1[t]! = d[t]! := fun t h => by rw [G1 t, if_pos (Or.inl h)]
        have Ge : ∀ t, e ≤ t → d1[t]! = d[t]! := fun t h => by rw [G1 t, if_pos (Or.inr h)]
        have Gm : ∀ t, s ≤ t → t < mid → d1[t]! = d[t + (m - s)]! := fun t h h' => by rw [G1 t, if_neg (by omega), if_pos h']
        have Gu : ∀ t, mid ≤ t → t < e → d1[t]! = d[t - (e - m)]! := fun t h h' => by rw [G1 t, if_neg (by omega), if_neg (by omega)]
        clear G1
        -- the lower half is nowhere above the upper
        have low : ∀ i j, a ≤ i → i < mid → mid ≤ j → j < b → lt d1[j]! d1[i]! = false := fun i j i1 i2 j1 j2 => by
          by_cases ci : i < s
          · by_cases cj : e ≤ j
            · rw [Gs i ci, Ge j cj]
              have sl : lo < s := by omega
              have k := u1 (s - 1) (by omega) (by omega)
              rw [show mid + m - 1 - (s - 1) = e by omega] at k
              have k1 : lt d[j]! d[e]! = false := by
                by_cases q : j = e
                · rw [q]; exact hS.irrefl _
                · exact hs2 e j (by omega) (by omega) j2
              have k2 : lt d[s - 1]! d[i]! = false := by
                by_cases q : i = s - 1
                · rw [q]; exact hS.irrefl _
                · exact hs1 i (s - 1) i1 (by omega) (by omega)
              exact hS.ntrans _ _ _ k1 (hS.ntrans _ _ _ k k2)
            · rw [Gs i ci, Gu j j1 (by omega)]
              exact hs1 i (j - (e - m)) i1 (by omega) (by omega)
          · by_cases cj : e ≤ j
            · rw [Gm i (by omega) i2, Ge j cj]
              exact hs2 (i + (m - s)) j (by omega) (by omega) j2
            · rw [Gm i (by omega) i2, Gu j j1 (by omega)]
              have k := asymm_ hS (u2 s (Nat.le_refl _) (by omega))
              rw [show mid + m - 1 - s = e - 1 by omega] at k
              have k1 : lt d[j - (e - m)]! d[s]! = false := by
                by_cases q : j - (e - m) = s
                · rw [q]; exact hS.irrefl _
                · exact hs1 s (j - (e - m)) (by omega) (by omega) (by omega)
              have k2 : lt d[e - 1]! d[i + (m - s)]! = false := by
                by_cases q : i + (m - s) = e - 1
                · rw [q]; exact hS.irrefl _
                · exact hs2 (i + (m - s)) (e - 1) (by omega) (by omega) (by omega)
              exact hS.ntrans _ _ _ k1 (hS.ntrans _ _ _ k k2)
        -- the parts are sorted
        have s1 : SortedIn lt a s d1 := fun i j i1 i2 i3 => by rw [Gs i (by omega), Gs j i3]; exact hs1 i j i1 i2 (by omega)
        have s2 : SortedIn lt s mid d1 := fun i j i1 i2 i3 => by rw [Gm i i1 (by omega), Gm j (by omega) i3]; exact hs2 _ _ (by omega) (by omega) (by omega)
        have s3 : SortedIn lt mid e d1 := fun i j i1 i2 i3 => by rw [Gu i i1 (by omega), Gu j (by omega) i3]; exact hs1 _ _ (by omega) (by omega) (by omega)
        have s4 : SortedIn lt e b d1 := fun i j i1 i2 i3 => by rw [Ge i i1, Ge j (by omega)]; exact hs2 i j (by omega) i2 i3
        have q1 : ∀ i j, a ≤ i → i < s → s ≤ j → j < mid → pr d1[i]! d1[j]! := fun i j i1 i2 j1 j2 => by
          rw [Gs i i2, Gm j j1 j2]
          exact hp _ _ i1 (by omega) (by omega) (by omega)
        have q2 : ∀ i j, mid ≤ i → i < e → e ≤ j → j < b → pr d1[i]! d1[j]! := fun i j i1 i2 j1 j2 => by
          rw [Gu i i1 i2, Ge j j1]
          exact hp _ _ (by omega) (by omega) (by omega) j2
        clear Gs Ge Gm Gu hs1 hs2 hp u1 u2
        -- the lower half merged
        obtain ⟨d2, hd2⟩ : ∃ d2, d2 = (if a < s ∧ s < mid then symM cl f a s mid d1 else d1) := ⟨_, rfl⟩
        have D2 : PermIn a mid d1 d2 ∧ SortedIn lt a mid d2 := by
          rw [hd2]
          by_cases c : a < s ∧ s < mid
          · rw [if_pos c]
            exact ih a s mid d1 c.1 c.2 (by omega) (by omega) s1 s2 q1
          · rw [if_neg c]
            refine ⟨permIn_refl _ _ _, ?_⟩
            by_cases c3 : a < s
            · exact sorted_part s1 (Nat.le_refl _) (by omega)
            · exact sorted_part s2 (by omega) (Nat.le_refl _)
        rw [← hd2]
        clear hd2
        obtain ⟨P2, S2⟩ := D2
        have z2 : d2.size = d1.size := P2.1
        have o2 : ∀ i, mid ≤ i → d2[i]! = d1[i]! := fun i hi => P2.2.1 i (Or.inr hi)
        have s3' : SortedIn lt mid e d2 := fun i j i1 i2 i3 => by rw [o2 i i1, o2 j (by omega)]; exact s3 i j i1 i2 i3
        have s4' : SortedIn lt e b d2 := fun i j i1 i2 i3 => by rw [o2 i (by omega), o2 j (by omega)]; exact s4 i j i1 i2 i3
        have q2' : ∀ i j, mid ≤ i → i < e → e ≤ j → j < b → pr d2[i]! d2[j]! := fun i j i1 i2 j1 j2 => by rw [o2 i i1, o2 j (by omega)]; exact q2 i j i1 i2 j1 j2
        obtain ⟨d3, hd3⟩ : ∃ d3, d3 = (if mid < e ∧ e < b then symM cl f mid e b d2 else d2) := ⟨_, rfl⟩
        have D3 : PermIn mid b d2 d3 ∧ SortedIn lt mid b d3 := by
          rw [hd3]
          by_cases c : mid < e ∧ e < b
          · rw [if_pos c]
            exact ih mid e b d2 c.1 c.2 (by omega) (by omega) s3' s4' q2'
          · rw [if_neg c]
            refine ⟨permIn_refl _ _ _, ?_⟩
            by_cases c3 : mid < e
            · exact sorted_part s3' (Nat.le_refl _) (by omega)
            · exact sorted_part s4' (by omega) (Nat.le_refl _)
        rw [← hd3]
        clear hd3
        obtain ⟨P3, S3⟩ := D3
        have o3 : ∀ i, i < mid → d3[i]! = d2[i]! := fun i hi => P3.2.1 i (Or.inl hi)
        refine ⟨permIn_trans _ _ _ _ _ P1 (permIn_trans _ _ _ _ _ (permIn_mono _ _ a mid a b (Nat.le_refl _) (by omega) (by omega) P2) (permIn_mono _ _ mid b a b (by omega) (Nat.le_refl _) (by omega) P3)), ?_⟩
        refine sorted_join (m := mid) (fun i j i1 i2 i3 => by rw [o3 i (by omega), o3 j i3]; exact S2 i j i1 i2 i3) S3 fun i j i1 i2 j1 j2 => ?_
        rw [o3 i i2]
        -- both halves hold what they held
        have L2 : ∀ i, a ≤ i → i < mid → ∀ j, mid ≤ j → j < b → lt d1[j]! d2[i]! = false := permIn_all d1 d2 a mid (fun x => ∀ j, mid ≤ j → j < b → lt d1[j]! x = false) (by omega) P2 (fun i i1 i2 j j1 j2 => low i j i1 i2 j1 j2)
        exact permIn_all d2 d3 mid b (fun y => lt y d2[i]! = false) (by omega) P3 (fun j j1 j2 => by rw [o2 j j1]; exact L2 i i1 i2 j j1 j2) j j1 j2
end Go.Proofs.Num.St

namespace Go.Proofs.Num.St
open Go.Shelf Go.RowKit Go.Lib Go.Sort Go.Proofs
set_option linter.unusedVariables false
set_option linter.unusedSimpArgs false
variable {α : Type} [Inhabited α]
set_option maxHeartbeats 4000000 in
set_option maxRecDepth 1000000 in
theorem swapRange_run (k : Nat) (aE : ∀ w, (isAgg 101).run Tryd.prog w = .ok true w) (zE : ∀ w, (Go.sizeOf 101).run Tryd.prog w = .ok k w) (enc : α → List Value) (g : Nat) (cb : Array Value) (blk off cap a b n : Nat) (d0 d : Array α) (w0 w : World)
    (R : RowK enc k w0 blk off d0) (hs : d0.size = d.size) (S : SWK enc k w0 blk off d w) (hab : a + n ≤ b) (hb : b + n ≤ d.size) (hsz : d.size < 4611686018427387904) :
    Calls Tryd.prog 146 #[.slice (some ⟨blk, off, none⟩) d.size cap, .int .i64 a, .int .i64 b, .int .i64 n, .func (.func g) #[] cb] w fun e w' => e = .returned (.tuple #[]) ∧ SWK enc k w0 blk off (swpUp a b n 0 d) w' := by
  have mixed : Tryd.prog.follows .mixedOrders = true := by kernel_rfl
  have S0 : Aside (SWK enc k w0 blk off d w) := S
  clear S
  go_enter Tryd.func146, Tryd.ntmps146
  go_wp2
  go_loopg [10] n (fun kx s10 wr => ∃ (i : Nat) (dk : Array α), s10 = .int .i64 i ∧ i ≤ n ∧ n - i ≤ kx ∧ dk.size = d.size ∧ Aside (SWK enc k w0 blk off dk wr) ∧ Hid (swpUp a b n i dk = swpUp a b n 0 d))
  case atStart => exact ⟨0, d, rfl, Nat.zero_le _, by omega, rfl, S0, rfl⟩
  case round =>
    clear S0
    obtain ⟨i, dk, rfl, hin, hkx, hds, S1, heq⟩ := hrel
    by_cases hlt : i < n
    · have hltz : (i : Int) < (n : Int) := by omega
      go_wp2_with fail
      have ea : ((a : Int) + (i : Int)).toNat = a + i := by omega
      have pa : (0 : Int) ≤ (a : Int) + (i : Int) := by omega
      have ba : (a : Int) + (i : Int) < (d.size : Int) := by omega
      have ra : IntKind.i64.wrap ((a : Int) + (i : Int)) = (a : Int) + (i : Int) := by rw [IntKind.wrap_i64]; omega
      have ec : ((b : Int) + (i : Int)).toNat = b + i := by omega
      have pc : (0 : Int) ≤ (b : Int) + (i : Int) := by omega
      have bc : (b : Int) + (i : Int) < (d.size : Int) := by omega
      have rc : IntKind.i64.wrap ((b : Int) + (i : Int)) = (b : Int) + (i : Int) := by rw [IntKind.wrap_i64]; omega
      have S2 : Aside (SWK enc k w0 blk off (swp dk (a + i) (b + i)) ((wr.drew.setCells blk (off + (a + i) * k) (enc dk[b + i]!)).setCells blk (off + (b + i) * k) (enc dk[a + i]!))) := S1.out.swapped R (a + i) (b + i) (by omega) (by omega)
      have la := S1.out.ld1 R (by omega) Tryd.prog (a + i) (by omega)
      have lb := S1.out.ld1 R (by omega) Tryd.prog (b + i) (by omega)
      have sa := S1.out.st1 R (by omega) Tryd.prog (a + i) (by omega) dk[b + i]!
      have sb := S1.out.st2 R (by omega) Tryd.prog (a + i) (b + i) (by omega) (by omega) dk[b + i]! dk[a + i]!
      have na : (enc dk[a + i]!).length = k := R.hk _
      have nb : (enc dk[b + i]!).length = k := R.hk _
      generalize enc dk[a + i]! = cI at S2 la sb na
      generalize enc dk[b + i]! = cJ at S2 lb sa sb nb
      clear S1
      go_wp2_with fail
      go_big_region_o
      clear la lb sa sb
      generalize (wr.drew.setCells blk (off + (a + i) * k) cJ).setCells blk (off + (b + i) * k) cI = w2 at S2 ⊢
      go_wp2
      go_roundg (n - (i + 1))
      case measure => omega
      case rel => exact ⟨i + 1, swp dk (a + i) (b + i), by simp, by omega, Nat.le_refl _, by rw [size_swp]; exact hds, S2, by show _ = _; rw [← heq.out, swpUp_go hlt]⟩
    · have hltz : ¬ (i : Int) < (n : Int) := by omega
      go_wp2
      go_end0
      refine ⟨rfl, ?_⟩
      rw [← heq.out, swpUp_end hlt]
      exact S1.out
set_option maxHeartbeats 4000000 in
set_option maxRecDepth 1000000 in
theorem rotate_run (k : Nat) (aE : ∀ w, (isAgg 101).run Tryd.prog w = .ok true w) (zE : ∀ w, (Go.sizeOf 101).run Tryd.prog w = .ok k w) (enc : α → List Value) (g : Nat) (cb : Array Value) (blk off cap a m b : Nat) (d0 d : Array α) (w0 w : World)
    (R : RowK enc k w0 blk off d0) (hs : d0.size = d.size) (S : SWK enc k w0 blk off d w) (ham : a < m) (hmb : m < b) (hb : b ≤ d.size) (hsz : d.size < 4611686018427387904) :
    Calls Tryd.prog 139 #[.slice (some ⟨blk, off, none⟩) d.size cap, .int .i64 a, .int .i64 m, .int .i64 b, .func (.func g) #[] cb] w fun e w' => e = .returned (.tuple #[]) ∧ SWK enc k w0 blk off (rot m (b - a) (m - a) (b - m) d) w' := by
  have S0 : Aside (SWK enc k w0 blk off d w) := S
  clear S
  have ra : IntKind.i64.wrap ((m : Int) - (a : Int)) = (m : Int) - (a : Int) := by rw [IntKind.wrap_i64]; omega
  have rb : IntKind.i64.wrap ((b : Int) - (m : Int)) = (b : Int) - (m : Int) := by rw [IntKind.wrap_i64]; omega
  have HC : Hid (∀ (x y n : Nat) (dk : Array α) (wr : World), dk.size = d.size → x + n ≤ y → y + n ≤ d.size → SWK enc k w0 blk off dk wr → Calls Tryd.prog 146 #[.slice (some ⟨blk, off, none⟩) d.size cap, .int .i64 x, .int .i64 y, .int .i64 n, .func (.func g) #[] cb] wr fun e w' => e = .returned (.tuple #[]) ∧ SWK enc k w0 blk off (swpUp x y n 0 dk) w') := by
    show ∀ _, _
    intro x y n dk wr h1 h2 h3 h4
    rw [← h1] at h3 ⊢
    exact swapRange_run k aE zE enc g cb blk off cap x y n d0 dk w0 wr R (by omega) h4 h2 h3 (by omega)
  go_enter Tryd.func139, Tryd.ntmps139
  go_wp2
  clear ra rb
  go_loopg [10, 11] (b - a) (fun kx s10 s11 wr => ∃ (i j f : Nat) (dk : Array α), s10 = .int .i64 i ∧ s11 = .int .i64 j ∧ 0 < i ∧ 0 < j ∧ i ≤ m - a ∧ j ≤ b - m ∧ i + j ≤ f ∧ f ≤ kx ∧ dk.size = d.size ∧ Aside (SWK enc k w0 blk off dk wr) ∧ Hid (rot m f i j dk = rot m (b - a) (m - a) (b - m) d))
  case atStart => exact ⟨m - a, b - m, b - a, d, by rw [show ((m - a : Nat) : Int) = (m : Int) - (a : Int) by omega], by rw [show ((b - m : Nat) : Int) = (b : Int) - (m : Int) by omega], by omega, by omega, Nat.le_refl _, Nat.le_refl _, by omega, Nat.le_refl _, rfl, S0, rfl⟩
  case round =>
    clear S0
    obtain ⟨i, j, f, dk, rfl, rfl, hi, hj, hia, hjb, hf, hkx, hds, S1, heq⟩ := hrel
    obtain ⟨f, rfl⟩ : ∃ f', f = f' + 1 := ⟨f - 1, by omega⟩
    have r1 : IntKind.i64.wrap ((m : Int) - (i : Int)) = (m : Int) - (i : Int) := by rw [IntKind.wrap_i64]; omega
    by_cases hij : i = j
    · subst hij
      have hc := HC.out (m - i) m i dk wr hds (by omega) (by omega) S1.out
      rw [show ((m - i : Nat) : Int) = (m : Int) - (i : Int) by omega] at hc
      have HCC := Lib.hid hc
      clear hc S1
      go_wp2_with (first | (go_at_call 146; refine HCC.out.mono ?_; rintro e w1 ⟨rfl, S3⟩))
      go_end0
      refine ⟨rfl, ?_⟩
      rw [← heq.out, rot, if_pos rfl]
      exact S3
    · by_cases hlt : j < i
      · have z1 : ¬ (i : Int) = (j : Int) := by omega
        have z2 : (j : Int) < (i : Int) := by omega
        have r2 : IntKind.i64.wrap ((i : Int) - (j : Int)) = (i : Int) - (j : Int) := by rw [IntKind.wrap_i64]; omega
        have hc := HC.out (m - i) m j dk wr hds (by omega) (by omega) S1.out
        rw [show ((m - i : Nat) : Int) = (m : Int) - (i : Int) by omega] at hc
        have HCC := Lib.hid hc
        clear hc S1
        go_wp2_with (first | (go_at_call 146; refine HCC.out.mono ?_; rintro e w1 ⟨rfl, S3⟩))
        have S4 : Aside (SWK enc k w0 blk off (swpUp (m - i) m j 0 dk) w1) := S3
        clear S3
        go_roundg f
        case measure => omega
        case rel => exact ⟨i - j, j, f, _, by rw [show ((i - j : Nat) : Int) = (i : Int) - (j : Int) by omega], rfl, by omega, hj, by omega, hjb, by omega, Nat.le_refl _, by rw [swpUp_size _ _ _ j 0 dk (by omega)]; exact hds, S4, by show _ = _; rw [← heq.out, rot, if_neg hij, if_pos hlt]⟩
      · have z1 : ¬ (i : Int) = (j : Int) := by omega
        have z2 : ¬ (j : Int) < (i : Int) := by omega
        have r2 : IntKind.i64.wrap ((j : Int) - (i : Int)) = (j : Int) - (i : Int) := by rw [IntKind.wrap_i64]; omega
        have r3 : IntKind.i64.wrap ((m : Int) + (j : Int)) = (m : Int) + (j : Int) := by rw [IntKind.wrap_i64]; omega
        have r4 : IntKind.i64.wrap ((m : Int) + (j : Int) - (i : Int)) = (m : Int) + (j : Int) - (i : Int) := by rw [IntKind.wrap_i64]; omega
        have hc := HC.out (m - i) (m + j - i) i dk wr hds (by omega) (by omega) S1.out
        rw [show ((m - i : Nat) : Int) = (m : Int) - (i : Int) by omega, show ((m + j - i : Nat) : Int) = (m : Int) + (j : Int) - (i : Int) by omega] at hc
        have HCC := Lib.hid hc
        clear hc S1
        go_wp2_with (first | (go_at_call 146; refine HCC.out.mono ?_; rintro e w1 ⟨rfl, S3⟩))
        have S4 : Aside (SWK enc k w0 blk off (swpUp (m - i) (m + j - i) i 0 dk) w1) := S3
        clear S3
        go_roundg f
        case measure => omega
        case rel => exact ⟨i, j - i, f, _, rfl, by rw [show ((j - i : Nat) : Int) = (j : Int) - (i : Int) by omega], hi, by omega, hia, by omega, by omega, Nat.le_refl _, by rw [swpUp_size _ _ _ i 0 dk (by omega)]; exact hds, S4, by show _ = _; rw [← heq.out, rot, if_neg hij, if_neg hlt]⟩
end Go.Proofs.Num.St

namespace Go.Proofs.Num.St
open Go.Shelf Go.RowKit Go.Lib Go.Sort Go.Proofs
set_option linter.unusedVariables false
set_option linter.unusedSimpArgs false
variable {α : Type} [Inhabited α]
theorem w64_ {x : Int} (h0 : -9223372036854775808 ≤ x) (h1 : x ≤ 9223372036854775807) : wrap64 x = x := by unfold wrap64; omega
theorem wi_ {x : Int} (h0 : -9223372036854775808 ≤ x) (h1 : x ≤ 9223372036854775807) : IntKind.i64.wrap x = x := by rw [IntKind.wrap_i64]; omega
theorem wu_ {x : Int} (h0 : 0 ≤ x) (h1 : x ≤ 18446744073709551615) : IntKind.u64.wrap x = x := by
  simp [IntKind.wrap, IntKind.bits, IntKind.signed]
  omega
theorem shUp_size (e : Nat) : ∀ (n k : Nat) (d : Array α), e - k ≤ n → (shUp k e d).size = d.size := by
  intro n
  induction n with
  | zero => intro k d h; rw [shUp_end (by omega)]
  | succ n ih =>
    intro k d h
    by_cases c : k < e
    · rw [shUp_go c, ih _ _ (by omega), size_swp]
    · rw [shUp_end c]
theorem shDn_size (i : Nat) : ∀ (k : Nat) (d : Array α), (shDn i k d).size = d.size := by
  intro k
  induction k with
  | zero => intro d; rfl
  | succ k ih =>
    intro d
    by_cases c : i < k + 1
    · rw [shDn_go c, ih, size_swp]
    · rw [shDn_end c]
theorem rot_size (m : Nat) : ∀ (f i j : Nat) (d : Array α), (rot m f i j d).size = d.size := by
  intro f
  induction f with
  | zero => intro i j d; rfl
  | succ f ih =>
    intro i j d
    rw [rot]
    split
    · exact swpUp_size _ _ _ i 0 d (by omega)
    · split
      · rw [ih, swpUp_size _ _ _ j 0 d (by omega)]
      · rw [ih, swpUp_size _ _ _ i 0 d (by omega)]
theorem symM_size (cl : α → α → Bool) : ∀ (f a m b : Nat) (d : Array α), (symM cl f a m b d).size = d.size := by
  intro f
  induction f with
  | zero => intro a m b d; rfl
  | succ f ih =>
    intro a m b d
    rw [symM]
    split
    · exact shUp_size _ _ _ _ (Nat.le_refl _)
    · split
      · exact shDn_size _ _ _
      · dsimp only
        have e1 : ∀ (c : Prop) [Decidable c] (x y : Array α) (n : Nat), x.size = n → y.size = n → (if c then x else y).size = n := fun c _ x y n h1 h2 => by split <;> assumption
        refine e1 _ _ _ _ ((ih _ _ _ _).trans ?_) ?_
        · exact e1 _ _ _ _ ((ih _ _ _ _).trans (e1 _ _ _ _ (rot_size _ _ _ _ _) rfl)) (e1 _ _ _ _ (rot_size _ _ _ _ _) rfl)
        · exact e1 _ _ _ _ ((ih _ _ _ _).trans (e1 _ _ _ _ (rot_size _ _ _ _ _) rfl)) (e1 _ _ _ _ (rot_size _ _ _ _ _) rfl)
set_option maxHeartbeats 16000000 in
set_option maxRecDepth 1000000 in
theorem symMerge_A (k : Nat) (aE : ∀ w, (isAgg 101).run Tryd.prog w = .ok true w) (zE : ∀ w, (Go.sizeOf 101).run Tryd.prog w = .ok k w) (enc : α → List Value) (cf : α → α → Int) (g : Nat) (cb : Array Value) (blk off cap : Nat) (d0 : Array α) (w0 : World)
    (eg : ∀ args w, (callFunc g args).run Tryd.prog w = .ok (.enter g args) w) (hcmp : CmpLays Tryd.prog g cb enc k cf blk off d0.size w0) (R : RowK enc k w0 blk off d0) (hsz : d0.size < 1152921504606846976)
    (f : Nat) (IH : Hid (∀ (a m b : Nat) (d : Array α) (w : World), a < m → m < b → b ≤ d.size → b - a ≤ f → d.size = d0.size → SWK enc k w0 blk off d w →
      Calls Tryd.prog 129 #[.slice (some ⟨blk, off, none⟩) d.size cap, .int .i64 a, .int .i64 m, .int .i64 b, .func (.func g) #[] cb] w fun e w' => e = .returned (.tuple #[]) ∧ SWK enc k w0 blk off (symM (ltOf cf) f a m b d) w'))
    (a m b : Nat) (d : Array α) (w : World) (h1 : a < m) (h2 : m < b) (h3 : b ≤ d.size) (h4 : b - a ≤ f + 1) (hs : d.size = d0.size) (S : SWK enc k w0 blk off d w) (c1 : m - a = 1) :
    Calls Tryd.prog 129 #[.slice (some ⟨blk, off, none⟩) d.size cap, .int .i64 a, .int .i64 m, .int .i64 b, .func (.func g) #[] cb] w fun e w' => e = .returned (.tuple #[]) ∧ SWK enc k w0 blk off (symM (ltOf cf) (f + 1) a m b d) w' := by
    have mixed : Tryd.prog.follows .mixedOrders = true := by kernel_rfl
    have HC : Aside _ := hcmp
    have S0 : Aside (SWK enc k w0 blk off d w) := S
    have HS := Lib.hid hs
    have hB : b < 1152921504606846976 := by omega
    have r1 : IntKind.i64.wrap ((m : Int) - (a : Int)) = (m : Int) - (a : Int) := wi_ (by omega) (by omega)
    clear S hcmp hs hsz

    have z1 : (m : Int) - (a : Int) = 1 := by omega
    go_enter Tryd.func129, Tryd.ntmps129
    go_wp2
    clear r1 z1
    go_loopg [10, 11] (b - m) (fun kx s1 s2 wr => ∃ (i j : Nat), s1 = .int .i64 i ∧ s2 = .int .i64 j ∧ m ≤ i ∧ i ≤ j ∧ j ≤ b ∧ j - i ≤ kx ∧ Aside (SWK enc k w0 blk off d wr) ∧ Hid (bs (fun h => ltOf cf d[h]! d[a]!) i j = bs (fun h => ltOf cf d[h]! d[a]!) m b))
    case atStart => exact ⟨m, b, rfl, rfl, Nat.le_refl _, by omega, Nat.le_refl _, Nat.le_refl _, S0, rfl⟩
    case round =>
      clear S0
      obtain ⟨i, j, rfl, rfl, hi, hij, hj, hk, S1, heq⟩ := hrel
      by_cases hlt : i < j
      · have z0 : (i : Int) < (j : Int) := by omega
        have r2 : IntKind.i64.wrap ((i : Int) + (j : Int)) = (i : Int) + (j : Int) := wi_ (by omega) (by omega)
        have r3 : IntKind.u64.wrap ((i : Int) + (j : Int)) = (i : Int) + (j : Int) := wu_ (by omega) (by omega)
        have R3 := Lib.hid r3
        clear r3
        obtain ⟨h, hh⟩ : ∃ h, h = (i + j) / 2 := ⟨_, rfl⟩
        have r4 : ((i : Int) + (j : Int)) / 2 = (h : Int) := by omega
        have hh1 : i ≤ h ∧ h < j := by omega
        have HH := Lib.hid hh
        clear hh
        have r5 : wrap64 (h : Int) = (h : Int) := w64_ (by omega) (by omega)
        have R5 := Lib.hid r5
        clear r5
        have r6 : IntKind.i64.wrap ((h : Int) + 1) = (h : Int) + 1 := wi_ (by omega) (by omega)
        cases hlv : ltOf cf d[h]! d[a]! with
        | false =>
          have ea : ((h : Int)).toNat = h := by omega
          have pa : (0 : Int) ≤ (h : Int) := by omega
          have ba : (h : Int) < (d.size : Int) := by omega
          have rA : IntKind.i64.wrap ((h : Int)) = (h : Int) := wi_ (by omega) (by omega)
          have ec : ((a : Int)).toNat = a := by omega
          have pc : (0 : Int) ≤ (a : Int) := by omega
          have bc : (a : Int) < (d.size : Int) := by omega
          have rC : IntKind.i64.wrap ((a : Int)) = (a : Int) := wi_ (by omega) (by omega)
          obtain ⟨X, hX⟩ : ∃ x, x = d[h]! := ⟨_, rfl⟩
          obtain ⟨Y, hY⟩ : ∃ x, x = d[a]! := ⟨_, rfl⟩
          have la := S1.out.ld R HS.out Tryd.prog (h) (by omega)
          have lb := S1.out.ld R HS.out Tryd.prog (a) (by omega)
          rw [← hX] at la
          rw [← hY] at lb
          have hc := S1.out.cmp HC.out HS.out X Y
          have hv : ¬ cf X Y < 0 := by rw [hX, hY]; exact of_decide_eq_false hlv
          have hd : decide (cf X Y < 0) = false := decide_eq_false hv
          clear hX hY
          have r3 := R3.out
          have r5 := R5.out
          go_wp2_with fail
          clear r3 r5
          go_quiet_grown (first | (go_at_fn g; refine Calls.grown_of (hc _ _)))
          have S2 : Aside (SWK enc k w0 blk off d (grow (wr.drewN nq) osq)) := S1.out.grown nq osq
          clear la lb hc S1
          generalize grow (wr.drewN nq) osq = wu at S2 ⊢
          clear nq osq
          go_wp2
          have hp : ((fun h => ltOf cf d[h]! d[a]!)) ((i + j) / 2) = false := by rw [← HH.out]; simp [hlv]
          go_roundg (h - i)
          case measure => omega
          case rel => exact ⟨i, h, rfl, by first | rfl | simp, hi, by omega, by omega, Nat.le_refl _, S2, by show _ = _; rw [← heq.out, bs_down hlt hp, ← HH.out]⟩
        | true =>
          have ea : ((h : Int)).toNat = h := by omega
          have pa : (0 : Int) ≤ (h : Int) := by omega
          have ba : (h : Int) < (d.size : Int) := by omega
          have rA : IntKind.i64.wrap ((h : Int)) = (h : Int) := wi_ (by omega) (by omega)
          have ec : ((a : Int)).toNat = a := by omega
          have pc : (0 : Int) ≤ (a : Int) := by omega
          have bc : (a : Int) < (d.size : Int) := by omega
          have rC : IntKind.i64.wrap ((a : Int)) = (a : Int) := wi_ (by omega) (by omega)
          obtain ⟨X, hX⟩ : ∃ x, x = d[h]! := ⟨_, rfl⟩
          obtain ⟨Y, hY⟩ : ∃ x, x = d[a]! := ⟨_, rfl⟩
          have la := S1.out.ld R HS.out Tryd.prog (h) (by omega)
          have lb := S1.out.ld R HS.out Tryd.prog (a) (by omega)
          rw [← hX] at la
          rw [← hY] at lb
          have hc := S1.out.cmp HC.out HS.out X Y
          have hv : cf X Y < 0 := by rw [hX, hY]; exact of_decide_eq_true hlv
          have hd : decide (cf X Y < 0) = true := decide_eq_true hv
          clear hX hY
          have r3 := R3.out
          have r5 := R5.out
          go_wp2_with fail
          clear r3 r5
          go_quiet_grown (first | (go_at_fn g; refine Calls.grown_of (hc _ _)))
          have S2 : Aside (SWK enc k w0 blk off d (grow (wr.drewN nq) osq)) := S1.out.grown nq osq
          clear la lb hc S1
          generalize grow (wr.drewN nq) osq = wu at S2 ⊢
          clear nq osq
          go_wp2
          have hp : ((fun h => ltOf cf d[h]! d[a]!)) ((i + j) / 2) = true := by rw [← HH.out]; simp [hlv]
          go_roundg (j - (h + 1))
          case measure => omega
          case rel => exact ⟨h + 1, j, by first | rfl | simp, rfl, by omega, by omega, hj, Nat.le_refl _, S2, by show _ = _; rw [← heq.out, bs_up hlt hp, ← HH.out]⟩
      · have z0 : ¬ (i : Int) < (j : Int) := by omega
        have hr : i = bs (fun h => ltOf cf d[h]! d[a]!) m b := by rw [← heq.out, bs_end hlt]
        have HR := Lib.hid hr
        have r7 : IntKind.i64.wrap ((i : Int) - 1) = (i : Int) - 1 := wi_ (by omega) (by omega)
        clear hr heq
        go_wp2
        go_loopg [13] (b - a) (fun kx s13 wx => ∃ (x : Nat) (dk : Array α), s13 = .int .i64 x ∧ a ≤ x ∧ x ≤ i - 1 ∧ i - 1 - x ≤ kx ∧ dk.size = d.size ∧ Aside (SWK enc k w0 blk off dk wx) ∧ Hid (shUp x (i - 1) dk = shUp a (i - 1) d))
        case atStart => exact ⟨a, d, rfl, Nat.le_refl _, by omega, by omega, rfl, S1, rfl⟩
        case round =>
          clear S1
          obtain ⟨x, dk, rfl, hx, hxi, hkx, hds, S1, heq⟩ := hrel
          by_cases hlt2 : x < i - 1
          · have z2 : (x : Int) < (i : Int) - 1 := by omega
            go_wp2_with fail
            have ea : ((x : Int)).toNat = x := by omega
            have pa : (0 : Int) ≤ (x : Int) := by omega
            have ba : (x : Int) < (d.size : Int) := by omega
            have rA : IntKind.i64.wrap ((x : Int)) = (x : Int) := wi_ (by omega) (by omega)
            have ec : ((x : Int) + 1).toNat = x + 1 := by omega
            have pc : (0 : Int) ≤ (x : Int) + 1 := by omega
            have bc : (x : Int) + 1 < (d.size : Int) := by omega
            have rC : IntKind.i64.wrap ((x : Int) + 1) = (x : Int) + 1 := wi_ (by omega) (by omega)
            have S2 : Aside (SWK enc k w0 blk off (swp dk (x) (x + 1)) ((wr.drew.setCells blk (off + (x) * k) (enc dk[x + 1]!)).setCells blk (off + (x + 1) * k) (enc dk[x]!))) := S1.out.swapped R (x) (x + 1) (by omega) (by omega)
            have la := S1.out.ld1 R (hds.trans HS.out) Tryd.prog (x) (by omega)
            have lb := S1.out.ld1 R (hds.trans HS.out) Tryd.prog (x + 1) (by omega)
            have sa := S1.out.st1 R (hds.trans HS.out) Tryd.prog (x) (by omega) dk[x + 1]!
            have sb := S1.out.st2 R (hds.trans HS.out) Tryd.prog (x) (x + 1) (by omega) (by omega) dk[x + 1]! dk[x]!
            have na : (enc dk[x]!).length = k := R.hk _
            have nb : (enc dk[x + 1]!).length = k := R.hk _
            generalize enc dk[x]! = cI at S2 la sb na
            generalize enc dk[x + 1]! = cJ at S2 lb sa sb nb
            clear S1
            go_wp2_with fail
            go_big_region_o
            clear la lb sa sb
            generalize (wr.drew.setCells blk (off + (x) * k) cJ).setCells blk (off + (x + 1) * k) cI = w2 at S2 ⊢
            go_wp2
            go_roundg (i - 1 - (x + 1))
            case measure => omega
            case rel => exact ⟨x + 1, swp dk x (x + 1), by first | rfl | simp, by omega, by omega, Nat.le_refl _, by rw [size_swp]; exact hds, S2, by show _ = _; rw [← heq.out, shUp_go hlt2]⟩
          · have z2 : ¬ (x : Int) < (i : Int) - 1 := by omega
            go_wp2
            (try simp only [Exit.inBlock, Exit.then]); refine bodyPost_ret (results_none rfl _ _ _) rfl ?_
            refine ⟨rfl, ?_⟩
            have e1 := heq.out
            rw [shUp_end hlt2] at e1
            rw [symM, if_pos c1, ← HR.out, ← e1]
            exact S1.out
set_option maxHeartbeats 16000000 in
set_option maxRecDepth 1000000 in
theorem symMerge_B (k : Nat) (aE : ∀ w, (isAgg 101).run Tryd.prog w = .ok true w) (zE : ∀ w, (Go.sizeOf 101).run Tryd.prog w = .ok k w) (enc : α → List Value) (cf : α → α → Int) (g : Nat) (cb : Array Value) (blk off cap : Nat) (d0 : Array α) (w0 : World)
    (eg : ∀ args w, (callFunc g args).run Tryd.prog w = .ok (.enter g args) w) (hcmp : CmpLays Tryd.prog g cb enc k cf blk off d0.size w0) (R : RowK enc k w0 blk off d0) (hsz : d0.size < 1152921504606846976)
    (f : Nat) (IH : Hid (∀ (a m b : Nat) (d : Array α) (w : World), a < m → m < b → b ≤ d.size → b - a ≤ f → d.size = d0.size → SWK enc k w0 blk off d w →
      Calls Tryd.prog 129 #[.slice (some ⟨blk, off, none⟩) d.size cap, .int .i64 a, .int .i64 m, .int .i64 b, .func (.func g) #[] cb] w fun e w' => e = .returned (.tuple #[]) ∧ SWK enc k w0 blk off (symM (ltOf cf) f a m b d) w'))
    (a m b : Nat) (d : Array α) (w : World) (h1 : a < m) (h2 : m < b) (h3 : b ≤ d.size) (h4 : b - a ≤ f + 1) (hs : d.size = d0.size) (S : SWK enc k w0 blk off d w) (c1 : ¬ m - a = 1) (c2 : b - m = 1) :
    Calls Tryd.prog 129 #[.slice (some ⟨blk, off, none⟩) d.size cap, .int .i64 a, .int .i64 m, .int .i64 b, .func (.func g) #[] cb] w fun e w' => e = .returned (.tuple #[]) ∧ SWK enc k w0 blk off (symM (ltOf cf) (f + 1) a m b d) w' := by
    have mixed : Tryd.prog.follows .mixedOrders = true := by kernel_rfl
    have HC : Aside _ := hcmp
    have S0 : Aside (SWK enc k w0 blk off d w) := S
    have HS := Lib.hid hs
    have hB : b < 1152921504606846976 := by omega
    have r1 : IntKind.i64.wrap ((m : Int) - (a : Int)) = (m : Int) - (a : Int) := wi_ (by omega) (by omega)
    clear S hcmp hs hsz

    have z1 : ¬ (m : Int) - (a : Int) = 1 := by omega
    have zb1 : ((m : Int) - (a : Int) == 1) = false := by simp only [beq_eq_false_iff_ne, ne_eq]; omega
    have z2 : (b : Int) - (m : Int) = 1 := by omega
    have r1' : IntKind.i64.wrap ((b : Int) - (m : Int)) = (b : Int) - (m : Int) := wi_ (by omega) (by omega)
    go_enter Tryd.func129, Tryd.ntmps129
    go_wp2
    clear r1 r1' z1 z2
    go_loopg [14, 15] (m - a) (fun kx s1 s2 wr => ∃ (i j : Nat), s1 = .int .i64 i ∧ s2 = .int .i64 j ∧ a ≤ i ∧ i ≤ j ∧ j ≤ m ∧ j - i ≤ kx ∧ Aside (SWK enc k w0 blk off d wr) ∧ Hid (bs (fun h => !ltOf cf d[m]! d[h]!) i j = bs (fun h => !ltOf cf d[m]! d[h]!) a m))
    case atStart => exact ⟨a, m, rfl, rfl, Nat.le_refl _, by omega, Nat.le_refl _, Nat.le_refl _, S0, rfl⟩
    case round =>
      clear S0
      obtain ⟨i, j, rfl, rfl, hi, hij, hj, hk, S1, heq⟩ := hrel
      by_cases hlt : i < j
      · have z0 : (i : Int) < (j : Int) := by omega
        have r2 : IntKind.i64.wrap ((i : Int) + (j : Int)) = (i : Int) + (j : Int) := wi_ (by omega) (by omega)
        have r3 : IntKind.u64.wrap ((i : Int) + (j : Int)) = (i : Int) + (j : Int) := wu_ (by omega) (by omega)
        have R3 := Lib.hid r3
        clear r3
        obtain ⟨h, hh⟩ : ∃ h, h = (i + j) / 2 := ⟨_, rfl⟩
        have r4 : ((i : Int) + (j : Int)) / 2 = (h : Int) := by omega
        have hh1 : i ≤ h ∧ h < j := by omega
        have HH := Lib.hid hh
        clear hh
        have r5 : wrap64 (h : Int) = (h : Int) := w64_ (by omega) (by omega)
        have R5 := Lib.hid r5
        clear r5
        have r6 : IntKind.i64.wrap ((h : Int) + 1) = (h : Int) + 1 := wi_ (by omega) (by omega)
        cases hlv : ltOf cf d[m]! d[h]! with
        | false =>
          have ea : ((m : Int)).toNat = m := by omega
          have pa : (0 : Int) ≤ (m : Int) := by omega
          have ba : (m : Int) < (d.size : Int) := by omega
          have rA : IntKind.i64.wrap ((m : Int)) = (m : Int) := wi_ (by omega) (by omega)
          have ec : ((h : Int)).toNat = h := by omega
          have pc : (0 : Int) ≤ (h : Int) := by omega
          have bc : (h : Int) < (d.size : Int) := by omega
          have rC : IntKind.i64.wrap ((h : Int)) = (h : Int) := wi_ (by omega) (by omega)
          obtain ⟨X, hX⟩ : ∃ x, x = d[m]! := ⟨_, rfl⟩
          obtain ⟨Y, hY⟩ : ∃ x, x = d[h]! := ⟨_, rfl⟩
          have la := S1.out.ld R HS.out Tryd.prog (m) (by omega)
          have lb := S1.out.ld R HS.out Tryd.prog (h) (by omega)
          rw [← hX] at la
          rw [← hY] at lb
          have hc := S1.out.cmp HC.out HS.out X Y
          have hv : ¬ cf X Y < 0 := by rw [hX, hY]; exact of_decide_eq_false hlv
          have hd : decide (cf X Y < 0) = false := decide_eq_false hv
          clear hX hY
          have r3 := R3.out
          have r5 := R5.out
          go_wp2_with fail
          clear r3 r5
          go_quiet_grown (first | (go_at_fn g; refine Calls.grown_of (hc _ _)))
          have S2 : Aside (SWK enc k w0 blk off d (grow (wr.drewN nq) osq)) := S1.out.grown nq osq
          clear la lb hc S1
          generalize grow (wr.drewN nq) osq = wu at S2 ⊢
          clear nq osq
          go_wp2
          have hp : ((fun h => !ltOf cf d[m]! d[h]!)) ((i + j) / 2) = true := by rw [← HH.out]; simp [hlv]
          go_roundg (j - (h + 1))
          case measure => omega
          case rel => exact ⟨h + 1, j, by first | rfl | simp, rfl, by omega, by omega, hj, Nat.le_refl _, S2, by show _ = _; rw [← heq.out, bs_up hlt hp, ← HH.out]⟩
        | true =>
          have ea : ((m : Int)).toNat = m := by omega
          have pa : (0 : Int) ≤ (m : Int) := by omega
          have ba : (m : Int) < (d.size : Int) := by omega
          have rA : IntKind.i64.wrap ((m : Int)) = (m : Int) := wi_ (by omega) (by omega)
          have ec : ((h : Int)).toNat = h := by omega
          have pc : (0 : Int) ≤ (h : Int) := by omega
          have bc : (h : Int) < (d.size : Int) := by omega
          have rC : IntKind.i64.wrap ((h : Int)) = (h : Int) := wi_ (by omega) (by omega)
          obtain ⟨X, hX⟩ : ∃ x, x = d[m]! := ⟨_, rfl⟩
          obtain ⟨Y, hY⟩ : ∃ x, x = d[h]! := ⟨_, rfl⟩
          have la := S1.out.ld R HS.out Tryd.prog (m) (by omega)
          have lb := S1.out.ld R HS.out Tryd.prog (h) (by omega)
          rw [← hX] at la
          rw [← hY] at lb
          have hc := S1.out.cmp HC.out HS.out X Y
          have hv : cf X Y < 0 := by rw [hX, hY]; exact of_decide_eq_true hlv
          have hd : decide (cf X Y < 0) = true := decide_eq_true hv
          clear hX hY
          have r3 := R3.out
          have r5 := R5.out
          go_wp2_with fail
          clear r3 r5
          go_quiet_grown (first | (go_at_fn g; refine Calls.grown_of (hc _ _)))
          have S2 : Aside (SWK enc k w0 blk off d (grow (wr.drewN nq) osq)) := S1.out.grown nq osq
          clear la lb hc S1
          generalize grow (wr.drewN nq) osq = wu at S2 ⊢
          clear nq osq
          go_wp2
          have hp : ((fun h => !ltOf cf d[m]! d[h]!)) ((i + j) / 2) = false := by rw [← HH.out]; simp [hlv]
          go_roundg (h - i)
          case measure => omega
          case rel => exact ⟨i, h, rfl, by first | rfl | simp, hi, by omega, by omega, Nat.le_refl _, S2, by show _ = _; rw [← heq.out, bs_down hlt hp, ← HH.out]⟩
      · have z0 : ¬ (i : Int) < (j : Int) := by omega
        have hr : i = bs (fun h => !ltOf cf d[m]! d[h]!) a m := by rw [← heq.out, bs_end hlt]
        have HR := Lib.hid hr
        clear hr heq
        go_wp2
        go_loopg [17] (m - a) (fun kx s17 wx => ∃ (x : Nat) (dk : Array α), s17 = .int .i64 x ∧ i ≤ x ∧ x ≤ m ∧ x - i ≤ kx ∧ dk.size = d.size ∧ Aside (SWK enc k w0 blk off dk wx) ∧ Hid (shDn i x dk = shDn i m d))
        case atStart => exact ⟨m, d, rfl, by omega, Nat.le_refl _, by omega, rfl, S1, rfl⟩
        case round =>
          clear S1
          obtain ⟨x, dk, rfl, hx, hxi, hkx, hds, S1, heq⟩ := hrel
          by_cases hlt2 : i < x
          · have z2 : (i : Int) < (x : Int) := by omega
            go_wp2_with fail
            have ea : ((x : Int)).toNat = x := by omega
            have pa : (0 : Int) ≤ (x : Int) := by omega
            have ba : (x : Int) < (d.size : Int) := by omega
            have rA : IntKind.i64.wrap ((x : Int)) = (x : Int) := wi_ (by omega) (by omega)
            have ec : ((x : Int) - 1).toNat = x - 1 := by omega
            have pc : (0 : Int) ≤ (x : Int) - 1 := by omega
            have bc : (x : Int) - 1 < (d.size : Int) := by omega
            have rC : IntKind.i64.wrap ((x : Int) - 1) = (x : Int) - 1 := wi_ (by omega) (by omega)
            have S2 : Aside (SWK enc k w0 blk off (swp dk (x) (x - 1)) ((wr.drew.setCells blk (off + (x) * k) (enc dk[x - 1]!)).setCells blk (off + (x - 1) * k) (enc dk[x]!))) := S1.out.swapped R (x) (x - 1) (by omega) (by omega)
            have la := S1.out.ld1 R (hds.trans HS.out) Tryd.prog (x) (by omega)
            have lb := S1.out.ld1 R (hds.trans HS.out) Tryd.prog (x - 1) (by omega)
            have sa := S1.out.st1 R (hds.trans HS.out) Tryd.prog (x) (by omega) dk[x - 1]!
            have sb := S1.out.st2 R (hds.trans HS.out) Tryd.prog (x) (x - 1) (by omega) (by omega) dk[x - 1]! dk[x]!
            have na : (enc dk[x]!).length = k := R.hk _
            have nb : (enc dk[x - 1]!).length = k := R.hk _
            generalize enc dk[x]! = cI at S2 la sb na
            generalize enc dk[x - 1]! = cJ at S2 lb sa sb nb
            clear S1
            go_wp2_with fail
            go_big_region_o
            clear la lb sa sb
            generalize (wr.drew.setCells blk (off + (x) * k) cJ).setCells blk (off + (x - 1) * k) cI = w2 at S2 ⊢
            go_wp2
            go_roundg (x - 1 - i)
            case measure => omega
            case rel => exact ⟨x - 1, swp dk x (x - 1), by first | rfl | (rw [show ((x - 1 : Nat) : Int) = (x : Int) - 1 by omega]), by omega, by omega, Nat.le_refl _, by rw [size_swp]; exact hds, S2, by show _ = _; rw [← heq.out]; obtain ⟨y, rfl⟩ : ∃ y, x = y + 1 := ⟨x - 1, by omega⟩; rw [shDn_go hlt2]; rfl⟩
          · have z2 : ¬ (i : Int) < (x : Int) := by omega
            go_wp2
            (try simp only [Exit.inBlock, Exit.then]); refine bodyPost_ret (results_none rfl _ _ _) rfl ?_
            refine ⟨rfl, ?_⟩
            have e1 := heq.out
            rw [shDn_end hlt2] at e1
            rw [symM, if_neg c1, if_pos c2, ← HR.out, ← e1]
            exact S1.out
end Go.Proofs.Num.St

namespace Go.Proofs.Num.St
open Go.Sort
set_option linter.unusedVariables false
set_option linter.unusedSimpArgs false
variable {α : Type} [Inhabited α]
section
variable (cl : α → α → Bool)
def blocks (n : Nat) : Nat → Nat → Array α → Array α
  | 0, _, d => d
  | f + 1, a, d => if a + 20 ≤ n then blocks n f (a + 20) (insertionSort cl d a (a + 20)) else insertionSort cl d a n
def passM (n bs : Nat) : Nat → Nat → Array α → Array α
  | 0, _, d => d
  | f + 1, a, d => if a + 2 * bs ≤ n then passM n bs f (a + 2 * bs) (symM cl (2 * bs) a (a + bs) (a + 2 * bs) d) else if a + bs < n then symM cl (n - a) a (a + bs) n d else d
def merges (n : Nat) : Nat → Nat → Array α → Array α
  | 0, _, d => d
  | f + 1, bs, d => if bs < n then merges n f (2 * bs) (passM cl n bs (n + 1) 0 d) else d
def stable (n : Nat) (d : Array α) : Array α := merges cl n (n + 1) 20 (blocks cl n (n + 1) 0 d)
end
variable {cl lt : α → α → Bool} {pr : α → α → Prop}
theorem insInner_perm (a B : Nat) : ∀ (j : Nat) (d : Array α), j < B → B ≤ d.size → PermIn a B d (insInner lt a j d) := by
  intro j
  induction j with
  | zero => intro d h1 h2; rw [insInner]; exact permIn_refl _ _ _
  | succ j ih =>
    intro d h1 h2
    rw [insInner]
    by_cases c : (decide (j + 1 > a) && lt d[j + 1]! d[j]!) = true
    · rw [if_pos c]
      have h : j + 1 > a := by
        have := (Bool.and_eq_true _ _ ▸ c).1
        exact of_decide_eq_true this
      exact permIn_trans _ _ _ _ _ (swp_permIn d a B (j + 1) j (by omega) h1 (by omega) (by omega) h2) (ih _ (by omega) (by rw [size_swp]; exact h2))
    · rw [if_neg c]; exact permIn_refl _ _ _
theorem insInner_congr (a : Nat) : ∀ (j : Nat) (d : Array α), j < d.size → (∀ t, a ≤ t → t < j → cl d[j]! d[t]! = lt d[j]! d[t]!) → insInner cl a j d = insInner lt a j d := by
  intro j
  induction j with
  | zero => intro d _ _; rw [insInner, insInner]
  | succ j ih =>
    intro d hj h
    rw [insInner, insInner]
    by_cases c : j + 1 > a
    · rw [h j (by omega) (by omega)]
      have e := ih (swp d (j + 1) j) (by rw [size_swp]; omega) fun t h1 h2 => by
        rw [swp_right d (j + 1) j (by omega), swp_other d (j + 1) j t (by omega) (by omega)]
        exact h t h1 (by omega)
      rw [e]
    · simp [c]
theorem io_go (lt : α → α → Bool) (a b i : Nat) (d : Array α) (h : i < b) : insOuter lt a b i d = insOuter lt a b (i + 1) (insInner lt a i d) := by rw [insOuter, if_pos h]
theorem io_stop (lt : α → α → Bool) (a b i : Nat) (d : Array α) (h : ¬ i < b) : insOuter lt a b i d = d := by rw [insOuter, if_neg h]
theorem insOuter_congr (hA : ∀ x y, pr y x → cl x y = lt x y) (a b : Nat) : ∀ (k i : Nat) (d : Array α), b - i ≤ k → a < i → b ≤ d.size → (∀ t u, a ≤ t → t < u → i ≤ u → u < b → pr d[t]! d[u]!) → insOuter cl a b i d = insOuter lt a b i d := by
  intro k
  induction k with
  | zero => intro i d h1 h2 h3 h4; rw [io_stop _ _ _ _ _ (by omega), io_stop _ _ _ _ _ (by omega)]
  | succ k ih =>
    intro i d h1 h2 h3 h4
    by_cases c : i < b
    · rw [io_go _ _ _ _ _ c, io_go _ _ _ _ _ c]
      have e := insInner_congr (cl := cl) (lt := lt) a i d (by omega) fun t g1 g2 => hA _ _ (h4 t i g1 g2 (Nat.le_refl _) c)
      rw [e]
      have P := insInner_perm (lt := lt) a (i + 1) i d (by omega) (by omega)
      refine ih (i + 1) _ (by omega) (by omega) (by rw [P.1]; exact h3) fun t u g1 g2 g3 g4 => ?_
      rw [P.2.1 u (Or.inr g3)]
      by_cases g5 : t < i + 1
      · exact permIn_all d _ a (i + 1) (fun x => pr x d[u]!) (by omega) P (fun t' k1 k2 => h4 t' u k1 (by omega) (by omega) g4) t g1 g5
      · rw [P.2.1 t (Or.inr (by omega))]
        exact h4 t u g1 g2 (by omega) g4
    · rw [io_stop _ _ _ _ _ c, io_stop _ _ _ _ _ c]
theorem insertion_congr (hA : ∀ x y, pr y x → cl x y = lt x y) (a b : Nat) (d : Array α) (hb : b ≤ d.size) (h : ∀ t u, a ≤ t → t < u → u < b → pr d[t]! d[u]!) : insertionSort cl d a b = insertionSort lt d a b := by
  unfold insertionSort
  exact insOuter_congr hA a b _ _ d (Nat.le_refl _) (by omega) hb fun t u h1 h2 h3 h4 => h t u h1 h2 h4
/-- What holds between the places of two that are not both within a permuted part. -/
theorem pr_permIn {A B : Nat} {d d' : Array α} (hB : B ≤ d.size) (P : PermIn A B d d') (i j : Nat) (hij : i < j) (hout : ¬ (A ≤ i ∧ j < B)) (h : ∀ x y, (x = i ∨ A ≤ i ∧ i < B ∧ A ≤ x ∧ x < B) → (y = j ∨ A ≤ j ∧ j < B ∧ A ≤ y ∧ y < B) → pr d[x]! d[y]!) : pr d'[i]! d'[j]! := by
  by_cases ci : A ≤ i ∧ i < B
  · rw [P.2.1 j (by omega)]
    exact permIn_all d _ A B (fun x => pr x d[j]!) hB P (fun x k1 k2 => h x j (Or.inr ⟨ci.1, ci.2, k1, k2⟩) (Or.inl rfl)) i ci.1 ci.2
  · rw [P.2.1 i (by omega)]
    by_cases cj : A ≤ j ∧ j < B
    · exact permIn_all d _ A B (fun x => pr d[i]! x) hB P (fun x k1 k2 => h i x (Or.inl rfl) (Or.inr ⟨cj.1, cj.2, k1, k2⟩)) j cj.1 cj.2
    · rw [P.2.1 j (by omega)]
      exact h i j (Or.inl rfl) (Or.inl rfl)
def OrdB (pr : α → α → Prop) (bs n : Nat) (d : Array α) : Prop := ∀ i j, i < j → j < n → i / bs < j / bs → pr d[i]! d[j]!
def SortB (lt : α → α → Bool) (bs n : Nat) (d : Array α) : Prop := ∀ i j, i < j → j < n → i / bs = j / bs → lt d[j]! d[i]! = false
theorem blocks_spec (hS : SWO lt) (hA : ∀ x y, pr y x → cl x y = lt x y) (n : Nat) : ∀ (f c : Nat) (d : Array α), n = d.size → 20 * c ≤ n → n - 20 * c < f →
    (∀ i j, i < j → j < n → (i / 20 < j / 20 ∨ c ≤ i / 20) → pr d[i]! d[j]!) → (∀ i j, i < j → j < 20 * c → i / 20 = j / 20 → lt d[j]! d[i]! = false) →
    PermIn 0 n d (blocks cl n f (20 * c) d) ∧ OrdB pr 20 n (blocks cl n f (20 * c) d) ∧ SortB lt 20 n (blocks cl n f (20 * c) d) := by
  intro f
  induction f with
  | zero => intro c d h1 h2 h3; omega
  | succ f ih =>
    intro c d h1 h2 h3 h4 h5
    rw [blocks]
    by_cases k : 20 * c + 20 ≤ n
    · rw [if_pos k, insertion_congr hA _ _ d (by omega) fun t u g1 g2 g3 => h4 t u g2 (by omega) (Or.inr (by omega))]
      obtain ⟨P, S⟩ := insertionSort_holds (lt := lt) hS d (20 * c) (20 * c + 20) (by omega) (by omega)
      generalize insertionSort lt d (20 * c) (20 * c + 20) = d' at P S ⊢
      have hz := P.1
      obtain ⟨Q, O⟩ := ih (c + 1) d' (by omega) (by omega) (by omega)
        (fun i j g1 g2 g3 => pr_permIn (by omega) P i j g1 (by omega) fun x y gx gy => h4 x y (by omega) (by omega) (by omega))
        (fun i j g1 g2 g3 => by
          by_cases k1 : 20 * c ≤ i
          · exact S i j k1 g1 (by omega)
          · rw [P.2.1 i (by omega), P.2.1 j (by omega)]
            exact h5 i j g1 (by omega) g3)
      rw [show 20 * c + 20 = 20 * (c + 1) by omega]
      exact ⟨permIn_trans _ _ _ _ _ (permIn_mono _ _ _ _ 0 n (Nat.zero_le _) k (by omega) P) Q, O⟩
    · rw [if_neg k, insertion_congr hA _ _ d (by omega) fun t u g1 g2 g3 => h4 t u g2 (by omega) (Or.inr (by omega))]
      obtain ⟨P, S⟩ := insertionSort_holds (lt := lt) hS d (20 * c) n (by omega) (by omega)
      generalize insertionSort lt d (20 * c) n = d' at P S ⊢
      have hz := P.1
      refine ⟨permIn_mono _ _ _ _ 0 n (Nat.zero_le _) (Nat.le_refl _) (by omega) P, fun i j g1 g2 g3 => pr_permIn (by omega) P i j g1 (by omega) fun x y gx gy => h4 x y (by omega) (by omega) (by omega), fun i j g1 g2 g3 => ?_⟩
      by_cases k1 : 20 * c ≤ i
      · exact S i j k1 g1 (by omega)
      · rw [P.2.1 i (by omega), P.2.1 j (by omega)]
        exact h5 i j g1 (by omega) g3
theorem dv {bs : Nat} (hb : 0 < bs) (i c : Nat) : i < c * bs ↔ i / bs < c := (Nat.div_lt_iff_lt_mul hb).symm
theorem pass_spec (hS : SWO lt) (hA : ∀ x y, pr y x → cl x y = lt x y) (n bs : Nat) (hb : 0 < bs) : ∀ (f c a : Nat) (d : Array α), n = d.size → a = 2 * c * bs → a ≤ n → n - a < f →
    (∀ i j, i < j → j < n → (i / bs / 2 < j / bs / 2 ∨ 2 * c ≤ i / bs ∧ i / bs < j / bs) → pr d[i]! d[j]!) → (∀ i j, i < j → j < n → (i / bs / 2 = j / bs / 2 ∧ j / bs < 2 * c ∨ i / bs = j / bs) → lt d[j]! d[i]! = false) →
    PermIn 0 n d (passM cl n bs f a d) ∧ OrdB pr (bs * 2) n (passM cl n bs f a d) ∧ SortB lt (bs * 2) n (passM cl n bs f a d) := by
  intro f
  induction f with
  | zero => intro c a d h1 h2 h3 h4; omega
  | succ f ih =>
    intro c a d h1 ha h3 h4 h5 h6
    rw [passM]
    have e1 : (2 * c + 1) * bs = a + bs := by rw [ha, Nat.add_mul, Nat.one_mul]
    have e2 : (2 * c + 2) * bs = a + 2 * bs := by rw [ha, Nat.add_mul]
    have w0 : ∀ i, i < a ↔ i / bs < 2 * c := fun i => by rw [ha]; exact dv hb i _
    have w1 : ∀ i, i < a + bs ↔ i / bs < 2 * c + 1 := fun i => by rw [← e1]; exact dv hb i _
    have w2 : ∀ i, i < a + 2 * bs ↔ i / bs < 2 * c + 2 := fun i => by rw [← e2]; exact dv hb i _
    have mo : ∀ i j, i < j → i / bs ≤ j / bs := fun i j h => Nat.div_le_div_right (by omega)
    have hw : ∀ i, i / (bs * 2) = i / bs / 2 := fun i => (Nat.div_div_eq_div_mul i bs 2).symm
    -- a merge of [a, a + bs) and [a + bs, e)
    have merge : ∀ e, a + bs < e → e ≤ a + 2 * bs → e ≤ n → PermIn a e d (symM cl (e - a) a (a + bs) e d) ∧ SortedIn lt a e (symM cl (e - a) a (a + bs) e d) := fun e g1 g2 g3 => by
      refine symM_spec hS hA (e - a) a (a + bs) e d (by omega) g1 (by omega) (Nat.le_refl _) (fun i j k1 k2 k3 => ?_) (fun i j k1 k2 k3 => ?_) fun i j k1 k2 k3 k4 => ?_
      · have z1 := w0 i; have z2 := w1 j; have z3 := mo i j k2
        exact h6 i j k2 (by omega) (by omega)
      · have z1 := w1 i; have z2 := w2 j; have z3 := mo i j k2
        exact h6 i j k2 (by omega) (by omega)
      · have z1 := w0 i; have z2 := w1 i; have z3 := w1 j; have z4 := w2 j
        exact h5 i j (by omega) (by omega) (by omega)
    -- behind a merge
    have after : ∀ e (d' : Array α), a + bs < e → e ≤ a + 2 * bs → e ≤ n → (∀ i, i < n → (i < e ↔ i / bs < 2 * c + 2)) → PermIn a e d d' → SortedIn lt a e d' →
        (∀ i j, i < j → j < n → (i / bs / 2 < j / bs / 2 ∨ 2 * c + 2 ≤ i / bs ∧ i / bs < j / bs) → pr d'[i]! d'[j]!) ∧ (∀ i j, i < j → j < n → (i / bs / 2 = j / bs / 2 ∧ j / bs < 2 * c + 2 ∨ i / bs = j / bs) → lt d'[j]! d'[i]! = false) := fun e d' g1 g2 g3 we P S => by
      constructor
      · intro i j k1 k2 k3
        have z1 := w0 i; have z2 := we i (by omega); have z3 := w0 j; have z4 := we j k2
        refine pr_permIn (by omega) P i j k1 (by omega) fun x y gx gy => ?_
        by_cases cx : x = i
        · by_cases cy : y = j
          · rw [cx, cy]; exact h5 i j k1 k2 (by omega)
          · have y1 := w0 y; have y2 := we y (by omega)
            rw [cx]; exact h5 i y (by omega) (by omega) (by omega)
        · have x1 := w0 x; have x2 := we x (by omega)
          by_cases cy : y = j
          · rw [cy]; exact h5 x j (by omega) (by omega) (by omega)
          · omega
      · intro i j k1 k2 k3
        have z1 := w0 i; have z2 := we i (by omega); have z3 := w0 j; have z4 := we j k2
        by_cases ci : a ≤ i ∧ j < e
        · exact S i j ci.1 k1 ci.2
        · rw [P.2.1 i (by omega), P.2.1 j (by omega)]
          exact h6 i j k1 k2 (by omega)
    by_cases k : a + 2 * bs ≤ n
    · rw [if_pos k]
      have M := merge (a + 2 * bs) (by omega) (Nat.le_refl _) k
      rw [show a + 2 * bs - a = 2 * bs by omega] at M
      obtain ⟨P, S⟩ := M
      generalize symM cl (2 * bs) a (a + bs) (a + 2 * bs) d = d' at P S ⊢
      have hz := P.1
      obtain ⟨A1, A2⟩ := after _ d' (by omega) (Nat.le_refl _) k (fun i _ => w2 i) P S
      obtain ⟨Q, O⟩ := ih (c + 1) (a + 2 * bs) d' (by omega) (by rw [← e2]; rfl) (by omega) (by omega) A1 A2
      exact ⟨permIn_trans _ _ _ _ _ (permIn_mono _ _ _ _ 0 n (Nat.zero_le _) k (by omega) P) Q, O⟩
    · rw [if_neg k]
      by_cases k2 : a + bs < n
      · rw [if_pos k2]
        obtain ⟨P, S⟩ := merge n k2 (by omega) (Nat.le_refl _)
        generalize symM cl (n - a) a (a + bs) n d = d' at P S ⊢
        have hz := P.1
        obtain ⟨A1, A2⟩ := after n d' k2 (by omega) (Nat.le_refl _) (fun i hi => ⟨fun _ => (w2 i).1 (by omega), fun _ => hi⟩) P S
        refine ⟨permIn_mono _ _ _ _ 0 n (Nat.zero_le _) (Nat.le_refl _) (by omega) P, fun i j g1 g2 g3 => ?_, fun i j g1 g2 g3 => ?_⟩
        · rw [hw, hw] at g3
          exact A1 i j g1 g2 (Or.inl g3)
        · rw [hw, hw] at g3
          exact A2 i j g1 g2 (Or.inl ⟨g3, (w2 j).1 (by omega)⟩)
      · rw [if_neg k2]
        refine ⟨permIn_refl _ _ _, fun i j g1 g2 g3 => ?_, fun i j g1 g2 g3 => ?_⟩
        · rw [hw, hw] at g3
          exact h5 i j g1 g2 (Or.inl g3)
        · rw [hw, hw] at g3
          have z1 := w1 j; have z2 := w0 j; have z3 := w0 i; have z4 := mo i j g1
          exact h6 i j g1 g2 (by omega)
theorem merges_spec (hS : SWO lt) (hA : ∀ x y, pr y x → cl x y = lt x y) (n : Nat) : ∀ (f bs : Nat) (d : Array α), n = d.size → 0 < bs → n - bs < f → OrdB pr bs n d → SortB lt bs n d → PermIn 0 n d (merges cl n f bs d) ∧ SortedIn lt 0 n (merges cl n f bs d) := by
  intro f
  induction f with
  | zero => intro bs d h1 h2 h3; omega
  | succ f ih =>
    intro bs d h1 hb h3 hO hT
    rw [merges]
    by_cases k : bs < n
    · rw [if_pos k]
      have mo : ∀ i j, i < j → i / bs ≤ j / bs := fun i j h => Nat.div_le_div_right (by omega)
      obtain ⟨P, O, T⟩ := pass_spec hS hA n bs hb (n + 1) 0 0 d h1 (by rw [Nat.mul_zero, Nat.zero_mul]) (by omega) (by omega) (fun i j g1 g2 g3 => hO i j g1 g2 (by have := mo i j g1; omega)) (fun i j g1 g2 g3 => hT i j g1 g2 (by have z := Nat.zero_le (j / bs); omega))
      rw [Nat.mul_comm bs 2] at O T
      have hz := P.1
      obtain ⟨Q, U⟩ := ih (2 * bs) _ (by omega) (by omega) (by omega) O T
      exact ⟨permIn_trans _ _ _ _ _ P Q, U⟩
    · rw [if_neg k]
      refine ⟨permIn_refl _ _ _, fun i j _ g1 g2 => hT i j g1 g2 ?_⟩
      rw [Nat.div_eq_of_lt (by omega), Nat.div_eq_of_lt (by omega)]
theorem stable_spec (hS : SWO lt) (hA : ∀ x y, pr y x → cl x y = lt x y) (n : Nat) (d : Array α) (hn : n = d.size) (h : ∀ i j, i < j → j < n → pr d[i]! d[j]!) : PermIn 0 n d (stable cl n d) ∧ SortedIn lt 0 n (stable cl n d) := by
  unfold stable
  obtain ⟨P, O, T⟩ := blocks_spec hS hA n (n + 1) 0 d hn (by omega) (by omega) (fun i j g1 g2 _ => h i j g1 g2) (fun i j g1 g2 => by omega)
  have hz := P.1
  obtain ⟨Q, U⟩ := merges_spec hS hA n (n + 1) 20 _ (by omega) (by omega) (by omega) O T
  exact ⟨permIn_trans _ _ _ _ _ P Q, U⟩
end Go.Proofs.Num.St

namespace Go.Proofs.Num.St
open Go.Shelf Go.RowKit Go.Lib Go.Sort Go.Proofs
set_option linter.unusedVariables false
set_option linter.unusedSimpArgs false
variable {α : Type} [Inhabited α]
theorem ii_go (lt : α → α → Bool) (a j : Nat) (d : Array α) (hj : a < j + 1) (hl : lt d[j + 1]! d[j]! = true) : insInner lt a (j + 1) d = insInner lt a j (swp d (j + 1) j) := by
  rw [insInner, hl]; simp; intro h; omega
theorem ii_stop (lt : α → α → Bool) (a j : Nat) (d : Array α) (hl : lt d[j + 1]! d[j]! = false) : insInner lt a (j + 1) d = d := by
  rw [insInner, hl]; simp
theorem ii_end (lt : α → α → Bool) (a j : Nat) (d : Array α) (hj : ¬ a < j) : insInner lt a j d = d := by
  cases j with
  | zero => rw [insInner]
  | succ j => rw [insInner]; simp; intro h; omega
set_option maxHeartbeats 16000000 in
set_option maxRecDepth 1000000 in
theorem insertion_run (k : Nat) (aE : ∀ w, (isAgg 101).run Tryd.prog w = .ok true w) (zE : ∀ w, (Go.sizeOf 101).run Tryd.prog w = .ok k w) (enc : α → List Value) (cf : α → α → Int) (g : Nat) (cb : Array Value) (blk off cap : Nat) (d0 : Array α) (w0 : World)
    (eg : ∀ args w, (callFunc g args).run Tryd.prog w = .ok (.enter g args) w) (hcmp : CmpLays Tryd.prog g cb enc k cf blk off d0.size w0) (R : RowK enc k w0 blk off d0) (hsz : d0.size < 1152921504606846976)
    (a b : Nat) (d : Array α) (w : World) (hab : a ≤ b) (hb : b ≤ d.size) (hs : d.size = d0.size) (S : SWK enc k w0 blk off d w) :
    Calls Tryd.prog 128 #[.slice (some ⟨blk, off, none⟩) d.size cap, .int .i64 a, .int .i64 b, .func (.func g) #[] cb] w fun e w' => e = .returned (.tuple #[]) ∧ SWK enc k w0 blk off (insertionSort (ltOf cf) d a b) w' := by
  have mixed : Tryd.prog.follows .mixedOrders = true := by kernel_rfl
  have HC : Aside _ := hcmp
  have S0 : Aside (SWK enc k w0 blk off d w) := S
  have HS := Lib.hid hs
  have hB : b < 1152921504606846976 := by omega
  clear S hcmp hs hsz
  go_enter Tryd.func128, Tryd.ntmps128
  go_wp2
  go_loopg [8] (b - a) (fun kx s8 wr => ∃ (i : Nat) (dk : Array α), s8 = .int .i64 i ∧ a < i ∧ i ≤ b + 1 ∧ b + 1 - i ≤ kx + 1 ∧ dk.size = d.size ∧ Aside (SWK enc k w0 blk off dk wr) ∧ Hid (insOuter (ltOf cf) a b i dk = insOuter (ltOf cf) a b (a + 1) d))
  case atStart => exact ⟨a + 1, d, by go_num, by omega, by omega, by omega, rfl, S0, rfl⟩
  case round =>
    clear S0
    obtain ⟨i, dk, rfl, hai, hib, hkx, hds, S1, HO⟩ := hrel
    by_cases hlt : i < b
    · have hltz : (i : Int) < (b : Int) := by omega
      go_wp2
      go_loopg [9] i (fun kx s9 wx => ∃ (j : Nat) (dj : Array α), s9 = .int .i64 j ∧ a ≤ j ∧ j ≤ i ∧ j ≤ kx ∧ dj.size = d.size ∧ Aside (SWK enc k w0 blk off dj wx) ∧ Hid (insInner (ltOf cf) a j dj = insInner (ltOf cf) a i dk))
      case atStart => exact ⟨i, dk, rfl, by omega, Nat.le_refl _, Nat.le_refl _, hds, S1, rfl⟩
      case round =>
        clear S1 hds
        obtain ⟨j, dj, rfl, haj, hji, hg2, hsj, S1, HI⟩ := hrel
        have OUT : Hid (insInner (ltOf cf) a j dj = dj → insOuter (ltOf cf) a b (i + 1) dj = insOuter (ltOf cf) a b (a + 1) d) := by
          show _ → _
          intro h
          rw [← HO.out, io_go _ _ _ _ _ hlt, ← HI.out, h]
        by_cases hja : a < j
        · obtain ⟨jp, rfl⟩ : ∃ jp, j = jp + 1 := ⟨j - 1, by omega⟩
          have hwp : IntKind.i64.wrap (jp : Int) = (jp : Int) := wi_ (by omega) (by omega)
          have jz : (jp : Int) + 1 < (d.size : Int) := by omega
          have jz1 : (jp : Int) < (d.size : Int) := by omega
          have hjaz' : (a : Int) < (jp : Int) + 1 := by omega
          have p0 : (0 : Int) ≤ (jp : Int) + 1 := by omega
          have e0 : ((jp : Int) + 1).toNat = jp + 1 := by omega
          have la := S1.out.ld R (hsj.trans HS.out) Tryd.prog (jp + 1) (by omega)
          have lb := S1.out.ld R (hsj.trans HS.out) Tryd.prog jp (by omega)
          obtain ⟨X, hX⟩ : ∃ x, x = dj[jp + 1]! := ⟨_, rfl⟩
          obtain ⟨Y, hY⟩ : ∃ x, x = dj[jp]! := ⟨_, rfl⟩
          rw [← hX] at la
          rw [← hY] at lb
          have hc := S1.out.cmp HC.out (hsj.trans HS.out) X Y
          have HX := Lib.hid hX
          have HY := Lib.hid hY
          clear hX hY
          cases hlv : ltOf cf dj[jp + 1]! dj[jp]! with
          | true =>
            have hv : cf X Y < 0 := by rw [HX.out, HY.out]; exact of_decide_eq_true hlv
            have hd : decide (cf X Y < 0) = true := decide_eq_true hv
            go_wp2_with fail
            go_quiet_grown (first | (go_at_fn g; refine Calls.grown_of (hc _ _)))
            have S2 : Aside (SWK enc k w0 blk off dj (grow (wr.drewN nq) osq)) := S1.out.grown nq osq
            clear la lb hc S1
            generalize grow (wr.drewN nq) osq = wu at S2 ⊢
            clear nq osq
            go_wp2_with fail
            have S3 : Aside (SWK enc k w0 blk off (swp dj (jp + 1) jp) ((wu.drew.setCells blk (off + (jp + 1) * k) (enc dj[jp]!)).setCells blk (off + jp * k) (enc dj[jp + 1]!))) := S2.out.swapped R (jp + 1) jp (by omega) (by omega)
            have la := S2.out.ld1 R (hsj.trans HS.out) Tryd.prog (jp + 1) (by omega)
            have lb := S2.out.ld1 R (hsj.trans HS.out) Tryd.prog jp (by omega)
            have sa := S2.out.st1 R (hsj.trans HS.out) Tryd.prog (jp + 1) (by omega) dj[jp]!
            have sb := S2.out.st2 R (hsj.trans HS.out) Tryd.prog (jp + 1) jp (by omega) (by omega) dj[jp]! dj[jp + 1]!
            have na : (enc dj[jp + 1]!).length = k := R.hk _
            have nb : (enc dj[jp]!).length = k := R.hk _
            generalize enc dj[jp + 1]! = cI at S3 la sb na
            generalize enc dj[jp]! = cJ at S3 lb sa sb nb
            clear S2
            go_big_region_o
            clear la lb sa sb
            generalize (wu.drew.setCells blk (off + (jp + 1) * k) cJ).setCells blk (off + jp * k) cI = w2 at S3 ⊢
            go_wp2
            go_roundg jp
            case measure => omega
            case rel => exact ⟨jp, swp dj (jp + 1) jp, by first | rfl | go_num | (congr 1; omega), by omega, by omega, Nat.le_refl _, by rw [size_swp]; exact hsj, S3, by show _ = _; rw [← HI.out, ii_go _ _ _ _ hja hlv]⟩
          | false =>
            have hv : ¬ cf X Y < 0 := by rw [HX.out, HY.out]; exact of_decide_eq_false hlv
            have hd : decide (cf X Y < 0) = false := decide_eq_false hv
            go_wp2_with fail
            go_quiet_grown (first | (go_at_fn g; refine Calls.grown_of (hc _ _)))
            have S2 : Aside (SWK enc k w0 blk off dj (grow (wr.drewN nq) osq)) := S1.out.grown nq osq
            clear la lb hc S1
            generalize grow (wr.drewN nq) osq = wu at S2 ⊢
            clear nq osq
            go_wp2
            go_roundg (b - (i + 1))
            case measure => omega
            case rel => exact ⟨i + 1, dj, by go_num, by omega, by omega, by omega, hsj, S2, OUT.out (ii_stop _ _ _ _ hlv)⟩
        · have hjaz : decide ((j : Int) > (a : Int)) = false := decide_eq_false (by omega)
          have hjaz' : ¬ (a : Int) < (j : Int) := by omega
          have S2 : Aside (SWK enc k w0 blk off dj wr.drew) := S1.out.drew
          go_wp2_with fail
          go_big_region_o
          all_goals go_wp2
          go_roundg (b - (i + 1))
          case measure => omega
          case rel => exact ⟨i + 1, dj, by go_num, by omega, by omega, by omega, hsj, S2, OUT.out (ii_end _ _ _ _ hja)⟩
    · have hltz : ¬ (i : Int) < (b : Int) := by omega
      go_wp2
      go_end0
      exact ⟨rfl, by unfold insertionSort; rw [← HO.out, io_stop _ _ _ _ _ hlt]; exact S1.out⟩
end Go.Proofs.Num.St

namespace Go.Proofs.Num.St
open Go.Shelf Go.RowKit Go.Lib Go.Sort Go.Proofs
set_option linter.unusedVariables false
set_option linter.unusedSimpArgs false
variable {α : Type} [Inhabited α]
theorem rot_fuel (m : Nat) : ∀ (f f' i j : Nat) (d : Array α), 0 < i → 0 < j → i + j ≤ f → i + j ≤ f' → rot m f i j d = rot m f' i j d := by
  intro f
  induction f with
  | zero => intro f' i j d h1 h2 h3; omega
  | succ f ih =>
    intro f' i j d h1 h2 h3 h4
    obtain ⟨g, rfl⟩ : ∃ g, f' = g + 1 := ⟨f' - 1, by omega⟩
    rw [rot, rot]
    by_cases c1 : i = j
    · rw [if_pos c1, if_pos c1]
    · rw [if_neg c1, if_neg c1]
      by_cases c2 : j < i
      · rw [if_pos c2, if_pos c2]; exact ih _ _ _ _ (by omega) h2 (by omega) (by omega)
      · rw [if_neg c2, if_neg c2]; exact ih _ _ _ _ h1 (by omega) (by omega) (by omega)
set_option maxHeartbeats 16000000 in
set_option maxRecDepth 1000000 in
theorem symMerge_C (k : Nat) (aE : ∀ w, (isAgg 101).run Tryd.prog w = .ok true w) (zE : ∀ w, (Go.sizeOf 101).run Tryd.prog w = .ok k w) (enc : α → List Value) (cf : α → α → Int) (g : Nat) (cb : Array Value) (blk off cap : Nat) (d0 : Array α) (w0 : World)
    (eg : ∀ args w, (callFunc g args).run Tryd.prog w = .ok (.enter g args) w) (hcmp : CmpLays Tryd.prog g cb enc k cf blk off d0.size w0) (R : RowK enc k w0 blk off d0) (hsz : d0.size < 1152921504606846976)
    (f : Nat) (IH : Hid (∀ (a m b : Nat) (d : Array α) (w : World), a < m → m < b → b ≤ d.size → b - a ≤ f → d.size = d0.size → SWK enc k w0 blk off d w →
      Calls Tryd.prog 129 #[.slice (some ⟨blk, off, none⟩) d.size cap, .int .i64 a, .int .i64 m, .int .i64 b, .func (.func g) #[] cb] w fun e w' => e = .returned (.tuple #[]) ∧ SWK enc k w0 blk off (symM (ltOf cf) f a m b d) w'))
    (a m b : Nat) (d : Array α) (w : World) (h1 : a < m) (h2 : m < b) (h3 : b ≤ d.size) (h4 : b - a ≤ f + 1) (hs : d.size = d0.size) (S : SWK enc k w0 blk off d w) (c1 : ¬ m - a = 1) (c2 : ¬ b - m = 1) :
    Calls Tryd.prog 129 #[.slice (some ⟨blk, off, none⟩) d.size cap, .int .i64 a, .int .i64 m, .int .i64 b, .func (.func g) #[] cb] w fun e w' => e = .returned (.tuple #[]) ∧ SWK enc k w0 blk off (symM (ltOf cf) (f + 1) a m b d) w' := by
    have mixed : Tryd.prog.follows .mixedOrders = true := by kernel_rfl
    have HC : Aside _ := hcmp
    have S0 : Aside (SWK enc k w0 blk off d w) := S
    have HS := Lib.hid hs
    have hB : b < 1152921504606846976 := by omega
    have r1 : IntKind.i64.wrap ((m : Int) - (a : Int)) = (m : Int) - (a : Int) := wi_ (by omega) (by omega)
    have HSZ := Lib.hid hsz
    clear S hcmp hs hsz
    have z1 : ¬ (m : Int) - (a : Int) = 1 := by omega
    have zb1 : ((m : Int) - (a : Int) == 1) = false := by simp only [beq_eq_false_iff_ne, ne_eq]; omega
    have z2 : ¬ (b : Int) - (m : Int) = 1 := by omega
    have zb2 : ((b : Int) - (m : Int) == 1) = false := by simp only [beq_eq_false_iff_ne, ne_eq]; omega
    have r1' : IntKind.i64.wrap ((b : Int) - (m : Int)) = (b : Int) - (m : Int) := wi_ (by omega) (by omega)
    obtain ⟨mid, hmid⟩ : ∃ mid, mid = (a + b) / 2 := ⟨_, rfl⟩
    have hm1 : a < mid ∧ mid < b := by omega
    have q4 : ((a : Int) + (b : Int)) / 2 = (mid : Int) := by omega
    have HM := Lib.hid hmid
    clear hmid
    obtain ⟨dn, hlo⟩ : ∃ dn, dn = (if m > mid then mid + m - b else a) := ⟨_, rfl⟩
    obtain ⟨up, hhi⟩ : ∃ up, up = (if m > mid then mid else m) := ⟨_, rfl⟩
    have HLO : Hid (bs (fun c => !ltOf cf d[mid + m - 1 - c]! d[c]!) (if m > mid then mid + m - b else a) (if m > mid then mid else m) = bs (fun c => !ltOf cf d[mid + m - 1 - c]! d[c]!) dn up) := by show _ = _; rw [hlo, hhi]
    have hb0 : a ≤ dn ∧ dn ≤ up ∧ up ≤ m ∧ up ≤ mid ∧ mid + m ≤ dn + b := by
      have := HM.out
      rw [hlo, hhi]
      by_cases c : m > mid
      · rw [if_pos c, if_pos c]; omega
      · rw [if_neg c, if_neg c]; omega
    have HDN := Lib.hid hlo
    have HUP := Lib.hid hhi
    clear hlo hhi
    go_enter Tryd.func129, Tryd.ntmps129
    go_upto_if 140 with (fail)
    clear q4 r1 r1' z1 z2 zb1 zb2
    go_cut [20, 21] (fun v20 v21 wc => v20 = .int .i64 dn ∧ v21 = .int .i64 up ∧ Aside (SWK enc k w0 blk off d wc))
    case first =>
      by_cases cm : mid < m
      · have zm : (mid : Int) < (m : Int) := by omega
        have e1 := HDN.out
        have e2 := HUP.out
        rw [if_pos cm] at e1 e2
        have HE1 := Lib.hid e1
        have HE2 := Lib.hid e2
        have HMM := HM.out
        have HMH := Lib.hid HMM
        clear e1 e2 HMM
        go_wp2_with fail
        go_meet
        exact ⟨by have := HE1.out; have := HMH.out; congr 1; omega, by have := HE2.out; congr 1; omega, S0⟩
      
      · have zm : ¬ (mid : Int) < (m : Int) := by omega
        have e1 := HDN.out
        have e2 := HUP.out
        rw [if_neg cm] at e1 e2
        have HE1 := Lib.hid e1
        have HE2 := Lib.hid e2
        have HMM := HM.out
        have HMH := Lib.hid HMM
        clear e1 e2 HMM
        go_wp2_with fail
        go_meet
        exact ⟨by have := HE1.out; have := HMH.out; congr 1; omega, by have := HE2.out; congr 1; omega, S0⟩
    case rest =>
      as_aux_lemma =>
      obtain ⟨rfl, rfl, S1⟩ := hcut
      clear S0
      go_wp2
      go_loopg [20, 21] (up - dn) (fun kx s1 s2 wr => ∃ (i j : Nat), s1 = .int .i64 i ∧ s2 = .int .i64 j ∧ dn ≤ i ∧ i ≤ j ∧ j ≤ up ∧ j - i ≤ kx ∧ Aside (SWK enc k w0 blk off d wr) ∧ Hid (bs (fun c => !ltOf cf d[mid + m - 1 - c]! d[c]!) i j = bs (fun c => !ltOf cf d[mid + m - 1 - c]! d[c]!) dn up))
      case atStart => exact ⟨dn, up, by first | rfl | (congr 1; omega), by first | rfl | (congr 1; omega), Nat.le_refl _, by omega, Nat.le_refl _, Nat.le_refl _, S1, rfl⟩
      case round =>
        clear S1
        obtain ⟨i, j, rfl, rfl, hi, hij, hj, hk, S1, heq⟩ := hrel
        by_cases hlt : i < j
        · have z0 : (i : Int) < (j : Int) := by omega
          have r2 : IntKind.i64.wrap ((i : Int) + (j : Int)) = (i : Int) + (j : Int) := wi_ (by omega) (by omega)
          have r3 : IntKind.u64.wrap ((i : Int) + (j : Int)) = (i : Int) + (j : Int) := wu_ (by omega) (by omega)
          have R3 := Lib.hid r3
          clear r3
          obtain ⟨h, hh⟩ : ∃ h, h = (i + j) / 2 := ⟨_, rfl⟩
          have r4 : ((i : Int) + (j : Int)) / 2 = (h : Int) := by omega
          have hh1 : i ≤ h ∧ h < j := by omega
          have HH := Lib.hid hh
          clear hh
          have r5 : wrap64 (h : Int) = (h : Int) := w64_ (by omega) (by omega)
          have R5 := Lib.hid r5
          clear r5
          have r6 : IntKind.i64.wrap ((h : Int) + 1) = (h : Int) + 1 := wi_ (by omega) (by omega)
          obtain ⟨p, hp0⟩ : ∃ p, p = mid + m - 1 - h := ⟨_, rfl⟩
          have ep : (mid : Int) + (m : Int) - 1 - (h : Int) = (p : Int) := by omega
          have hp1 : p < d.size := by omega
          have HP := Lib.hid hp0
          clear hp0
          cases hlv : ltOf cf d[p]! d[h]! with
          | false =>
            have ea : ((p : Int)).toNat = p := by omega
            have pa : (0 : Int) ≤ (p : Int) := by omega
            have ba : (p : Int) < (d.size : Int) := by omega
            have rA : IntKind.i64.wrap ((p : Int)) = (p : Int) := wi_ (by omega) (by omega)
            have ec : ((h : Int)).toNat = h := by omega
            have pc : (0 : Int) ≤ (h : Int) := by omega
            have bc : (h : Int) < (d.size : Int) := by omega
            have rC : IntKind.i64.wrap ((h : Int)) = (h : Int) := wi_ (by omega) (by omega)
            obtain ⟨X, hX⟩ : ∃ x, x = d[p]! := ⟨_, rfl⟩
            obtain ⟨Y, hY⟩ : ∃ x, x = d[h]! := ⟨_, rfl⟩
            have la := S1.out.ld R HS.out Tryd.prog (p) (by omega)
            have lb := S1.out.ld R HS.out Tryd.prog (h) (by omega)
            rw [← hX] at la
            rw [← hY] at lb
            have hc := S1.out.cmp HC.out HS.out X Y
            have hv : ¬ cf X Y < 0 := by rw [hX, hY]; exact of_decide_eq_false hlv
            have hd : decide (cf X Y < 0) = false := decide_eq_false hv
            clear hX hY
            have r3 := R3.out
            have r5 := R5.out
            go_wp2_with fail
            clear r3 r5
            go_quiet_grown (first | (go_at_fn g; refine Calls.grown_of (hc _ _)))
            have S2 : Aside (SWK enc k w0 blk off d (grow (wr.drewN nq) osq)) := S1.out.grown nq osq
            clear la lb hc S1
            generalize grow (wr.drewN nq) osq = wu at S2 ⊢
            clear nq osq
            go_wp2
            have hp : ((fun c => !ltOf cf d[mid + m - 1 - c]! d[c]!)) ((i + j) / 2) = true := by rw [← HH.out]; show (!ltOf cf d[mid + m - 1 - h]! d[h]!) = _; rw [← HP.out, hlv]; rfl
            go_roundg (j - (h + 1))
            case measure => omega
            case rel => exact ⟨h + 1, j, by first | rfl | simp, rfl, by omega, by omega, hj, Nat.le_refl _, S2, by show _ = _; rw [← heq.out, bs_up hlt hp, ← HH.out]⟩
          | true =>
            have ea : ((p : Int)).toNat = p := by omega
            have pa : (0 : Int) ≤ (p : Int) := by omega
            have ba : (p : Int) < (d.size : Int) := by omega
            have rA : IntKind.i64.wrap ((p : Int)) = (p : Int) := wi_ (by omega) (by omega)
            have ec : ((h : Int)).toNat = h := by omega
            have pc : (0 : Int) ≤ (h : Int) := by omega
            have bc : (h : Int) < (d.size : Int) := by omega
            have rC : IntKind.i64.wrap ((h : Int)) = (h : Int) := wi_ (by omega) (by omega)
            obtain ⟨X, hX⟩ : ∃ x, x = d[p]! := ⟨_, rfl⟩
            obtain ⟨Y, hY⟩ : ∃ x, x = d[h]! := ⟨_, rfl⟩
            have la := S1.out.ld R HS.out Tryd.prog (p) (by omega)
            have lb := S1.out.ld R HS.out Tryd.prog (h) (by omega)
            rw [← hX] at la
            rw [← hY] at lb
            have hc := S1.out.cmp HC.out HS.out X Y
            have hv : cf X Y < 0 := by rw [hX, hY]; exact of_decide_eq_true hlv
            have hd : decide (cf X Y < 0) = true := decide_eq_true hv
            clear hX hY
            have r3 := R3.out
            have r5 := R5.out
            go_wp2_with fail
            clear r3 r5
            go_quiet_grown (first | (go_at_fn g; refine Calls.grown_of (hc _ _)))
            have S2 : Aside (SWK enc k w0 blk off d (grow (wr.drewN nq) osq)) := S1.out.grown nq osq
            clear la lb hc S1
            generalize grow (wr.drewN nq) osq = wu at S2 ⊢
            clear nq osq
            go_wp2
            have hp : ((fun c => !ltOf cf d[mid + m - 1 - c]! d[c]!)) ((i + j) / 2) = false := by rw [← HH.out]; show (!ltOf cf d[mid + m - 1 - h]! d[h]!) = _; rw [← HP.out, hlv]; rfl
            go_roundg (h - i)
            case measure => omega
            case rel => exact ⟨i, h, rfl, by first | rfl | simp, hi, by omega, by omega, Nat.le_refl _, S2, by show _ = _; rw [← heq.out, bs_down hlt hp, ← HH.out]⟩
        · have z0 : ¬ (i : Int) < (j : Int) := by omega
          have hr : i = bs (fun c => !ltOf cf d[mid + m - 1 - c]! d[c]!) dn up := by rw [← heq.out, bs_end hlt]
          have HR := Lib.hid hr
          clear hr heq
          as_aux_lemma =>
            have hsr : dn ≤ i ∧ i ≤ up := by omega
            go_upto_region 39 with (fail)
            clear hlt z0 hj hij hk hi
            obtain ⟨e, he⟩ : ∃ e, e = mid + m - i := ⟨_, rfl⟩
            have ze : (mid : Int) + (m : Int) - (i : Int) = (e : Int) := by omega
            obtain ⟨d1, hd1⟩ : ∃ d1, d1 = (if i < m ∧ m < e then rot m (b - a) (m - i) (e - m) d else d) := ⟨_, rfl⟩
            obtain ⟨d2, hd2⟩ : ∃ d2, d2 = (if a < i ∧ i < mid then symM (ltOf cf) f a i mid d1 else d1) := ⟨_, rfl⟩
            obtain ⟨d3, hd3⟩ : ∃ d3, d3 = (if mid < e ∧ e < b then symM (ltOf cf) f mid e b d2 else d2) := ⟨_, rfl⟩
            have HD : Hid (symM (ltOf cf) (f + 1) a m b d = d3) := by
              show _ = _
              rw [symM, if_neg c1, if_neg c2]
              simp only []
              rw [← HM.out, HLO.out, ← HR.out, ← he, hd3, hd2, hd1]
            have s1 : d1.size = d.size := by rw [hd1]; split; exact rot_size _ _ _ _ _; rfl
            have s2 : d2.size = d.size := by rw [hd2]; split; exact (symM_size _ _ _ _ _ _).trans s1; exact s1
            have HE1 := Lib.hid hd1
            have HE2 := Lib.hid hd2
            have HE3 := Lib.hid hd3
            have HS1 := Lib.hid s1
            have HS2 := Lib.hid s2
            have HEE := Lib.hid he
            have F : a ≤ i ∧ i ≤ m ∧ i ≤ mid ∧ m ≤ e ∧ mid ≤ e ∧ e ≤ b := by omega
            have FF := Lib.hid F
            clear hd1 hd2 hd3 s1 s2 he hsr hb0 F
            obtain ⟨q, hq⟩ : ∃ q : Bool, q = decide (i < m ∧ m < e) := ⟨_, rfl⟩
            have HQ := Lib.hid hq
            clear hq
            go_cut [24, 185] (fun v24 v wc => v24 = .int .i64 e ∧ v = .bool q ∧ Aside (SWK enc k w0 blk off d wc))
            case first =>
              have F := FF.out
              by_cases g1 : i < m
              · have g1z : (i : Int) < (m : Int) := by omega
                by_cases g2 : m < e
                · have g2z : (m : Int) < (e : Int) := by omega
                  have hq : q = true := by rw [HQ.out]; exact decide_eq_true ⟨g1, g2⟩
                  clear F
                  subst hq
                  go_wp2_with fail
                  go_meet
                  exact ⟨by first | rfl | exact congrArg (Value.int IntKind.i64) ze, rfl, S1⟩
                · have g2z : ¬ (m : Int) < (e : Int) := by omega
                  have hq : q = false := by rw [HQ.out]; exact decide_eq_false (fun h => g2 h.2)
                  clear F
                  subst hq
                  go_wp2_with fail
                  go_meet
                  exact ⟨by first | rfl | exact congrArg (Value.int IntKind.i64) ze, rfl, S1⟩
              · have g1z : ¬ (i : Int) < (m : Int) := by omega
                have hq : q = false := by rw [HQ.out]; exact decide_eq_false (fun h => g1 h.1)
                clear F
                subst hq
                go_wp2_with fail
                go_meet
                exact ⟨by first | rfl | exact congrArg (Value.int IntKind.i64) ze, rfl, S1⟩
            case rest =>
              as_aux_lemma =>
              obtain ⟨rfl, rfl, S2⟩ := hcut
              clear S1
              go_upto_if 185 with (fail)
              go_cut [] (fun wc => Aside (SWK enc k w0 blk off d1 wc))
              case first =>
                cases q with
                | true =>
                  have K : i < m ∧ m < e := of_decide_eq_true HQ.out.symm
                  have F := FF.out
                  have hc := rotate_run k aE zE enc g cb blk off cap i m e d0 d w0 _ R (HS.out.symm) S2.out K.1 K.2 (by omega) (by have := HS.out; have := HSZ.out; omega)
                  rw [rot_fuel m (e - i) (b - a) (m - i) (e - m) d (by omega) (by omega) (by omega) (by omega)] at hc
                  have e1 := HE1.out
                  rw [if_pos K] at e1
                  rw [← e1] at hc
                  have HCC := Lib.hid hc
                  clear hc e1 F K S2
                  go_wp2_with (first | (go_at_call 139; refine HCC.out.mono ?_; rintro e w1 ⟨rfl, S3⟩))
                  have S4 : Aside (SWK enc k w0 blk off d1 w1) := S3
                  clear S3
                  go_meet
                  exact S4
                | false =>
                  have K : ¬ (i < m ∧ m < e) := of_decide_eq_false HQ.out.symm
                  have e1 := HE1.out
                  rw [if_neg K] at e1
                  rw [← e1] at S2
                  have S4 : Aside (SWK enc k w0 blk off d1 _) := S2
                  clear e1 S2 K
                  go_wp2_with fail
                  go_meet
                  exact S4
              case rest =>
                have S5 : Aside _ := hcut
                clear hcut S2 HQ q
                go_upto_region 41 with (fail)
                obtain ⟨q, hq⟩ : ∃ q : Bool, q = decide (a < i ∧ i < mid) := ⟨_, rfl⟩
                have HQ := Lib.hid hq
                clear hq
                go_cut [199] (fun v wc => v = .bool q ∧ Aside (SWK enc k w0 blk off d1 wc))
                case first =>
                  have F := FF.out
                  by_cases g1 : a < i
                  · have g1z : (a : Int) < (i : Int) := by omega
                    by_cases g2 : i < mid
                    · have g2z : (i : Int) < (mid : Int) := by omega
                      have hq : q = true := by rw [HQ.out]; exact decide_eq_true ⟨g1, g2⟩
                      clear F
                      subst hq
                      go_wp2_with fail
                      go_meet
                      exact ⟨rfl, S5⟩
                    · have g2z : ¬ (i : Int) < (mid : Int) := by omega
                      have hq : q = false := by rw [HQ.out]; exact decide_eq_false (fun h => g2 h.2)
                      clear F
                      subst hq
                      go_wp2_with fail
                      go_meet
                      exact ⟨rfl, S5⟩
                  · have g1z : ¬ (a : Int) < (i : Int) := by omega
                    have hq : q = false := by rw [HQ.out]; exact decide_eq_false (fun h => g1 h.1)
                    clear F
                    subst hq
                    go_wp2_with fail
                    go_meet
                    exact ⟨rfl, S5⟩
                case rest =>
                  as_aux_lemma =>
                  obtain ⟨rfl, S2⟩ := hcut
                  clear S5
                  go_upto_if 199 with (fail)
                  go_cut [] (fun wc => Aside (SWK enc k w0 blk off d2 wc))
                  case first =>
                    cases q with
                    | true =>
                      have K : a < i ∧ i < mid := of_decide_eq_true HQ.out.symm
                      have F := FF.out
                      have z1 := HS1.out
                      have hc := IH.out a i mid d1 _ K.1 K.2 (by omega) (by omega) (by rw [z1]; exact HS.out) S2.out
                      rw [z1] at hc
                      have e1 := HE2.out
                      rw [if_pos K] at e1
                      rw [← e1] at hc
                      have HCC := Lib.hid hc
                      clear hc e1 F K S2 z1
                      go_wp2_with (first | (go_at_call 129; refine HCC.out.mono ?_; rintro e w1 ⟨rfl, S3⟩))
                      have S4 : Aside (SWK enc k w0 blk off d2 w1) := S3
                      clear S3
                      go_meet
                      exact S4
                    | false =>
                      have K : ¬ (a < i ∧ i < mid) := of_decide_eq_false HQ.out.symm
                      have e1 := HE2.out
                      rw [if_neg K] at e1
                      rw [← e1] at S2
                      have S4 : Aside (SWK enc k w0 blk off d2 _) := S2
                      clear e1 S2 K
                      go_wp2_with fail
                      go_meet
                      exact S4
                  case rest =>
                    have S6 : Aside _ := hcut
                    clear hcut S2 HQ q
                    go_upto_region 43 with (fail)
                    obtain ⟨q, hq⟩ : ∃ q : Bool, q = decide (mid < e ∧ e < b) := ⟨_, rfl⟩
                    have HQ := Lib.hid hq
                    clear hq
                    go_cut [213] (fun v wc => v = .bool q ∧ Aside (SWK enc k w0 blk off d2 wc))
                    case first =>
                      have F := FF.out
                      by_cases g1 : mid < e
                      · have g1z : (mid : Int) < (e : Int) := by omega
                        by_cases g2 : e < b
                        · have g2z : (e : Int) < (b : Int) := by omega
                          have hq : q = true := by rw [HQ.out]; exact decide_eq_true ⟨g1, g2⟩
                          clear F
                          subst hq
                          go_wp2_with fail
                          go_meet
                          exact ⟨rfl, S6⟩
                        · have g2z : ¬ (e : Int) < (b : Int) := by omega
                          have hq : q = false := by rw [HQ.out]; exact decide_eq_false (fun h => g2 h.2)
                          clear F
                          subst hq
                          go_wp2_with fail
                          go_meet
                          exact ⟨rfl, S6⟩
                      · have g1z : ¬ (mid : Int) < (e : Int) := by omega
                        have hq : q = false := by rw [HQ.out]; exact decide_eq_false (fun h => g1 h.1)
                        clear F
                        subst hq
                        go_wp2_with fail
                        go_meet
                        exact ⟨rfl, S6⟩
                    case rest =>
                      as_aux_lemma =>
                      obtain ⟨rfl, S2⟩ := hcut
                      clear S6
                      cases q with
                      | true =>
                        have K : mid < e ∧ e < b := of_decide_eq_true HQ.out.symm
                        have F := FF.out
                        have z1 := HS2.out
                        have hc := IH.out mid e b d2 _ K.1 K.2 (by omega) (by omega) (by rw [z1]; exact HS.out) S2.out
                        rw [z1] at hc
                        have e1 := HE3.out
                        rw [if_pos K] at e1
                        rw [← e1] at hc
                        have HCC := Lib.hid hc
                        clear hc e1 F K S2 z1
                        go_wp2_with (first | (go_at_call 129; refine HCC.out.mono ?_; rintro e w1 ⟨rfl, S3⟩))
                        have S4 : Aside (SWK enc k w0 blk off d3 w1) := S3
                        clear S3
                        go_end0
                        refine ⟨rfl, ?_⟩
                        rw [HD.out]
                        exact S4.out
                      | false =>
                        have K : ¬ (mid < e ∧ e < b) := of_decide_eq_false HQ.out.symm
                        have e1 := HE3.out
                        rw [if_neg K] at e1
                        rw [← e1] at S2
                        have S4 : Aside (SWK enc k w0 blk off d3 _) := S2
                        clear e1 S2 K
                        go_wp2_with fail
                        go_end0
                        refine ⟨rfl, ?_⟩
                        rw [HD.out]
                        exact S4.out
end Go.Proofs.Num.St

namespace Go.Proofs.Num.St
open Go.Shelf Go.RowKit Go.Lib Go.Sort Go.Proofs
set_option linter.unusedVariables false
set_option linter.unusedSimpArgs false
variable {α : Type} [Inhabited α]
theorem symMerge_run (k : Nat) (aE : ∀ w, (isAgg 101).run Tryd.prog w = .ok true w) (zE : ∀ w, (Go.sizeOf 101).run Tryd.prog w = .ok k w) (enc : α → List Value) (cf : α → α → Int) (g : Nat) (cb : Array Value) (blk off cap : Nat) (d0 : Array α) (w0 : World)
    (eg : ∀ args w, (callFunc g args).run Tryd.prog w = .ok (.enter g args) w) (hcmp : CmpLays Tryd.prog g cb enc k cf blk off d0.size w0) (R : RowK enc k w0 blk off d0) (hsz : d0.size < 1152921504606846976) :
    ∀ (f a m b : Nat) (d : Array α) (w : World), a < m → m < b → b ≤ d.size → b - a ≤ f → d.size = d0.size → SWK enc k w0 blk off d w →
    Calls Tryd.prog 129 #[.slice (some ⟨blk, off, none⟩) d.size cap, .int .i64 a, .int .i64 m, .int .i64 b, .func (.func g) #[] cb] w fun e w' => e = .returned (.tuple #[]) ∧ SWK enc k w0 blk off (symM (ltOf cf) f a m b d) w' := by
  intro f
  induction f with
  | zero => intro a m b d w h1 h2 h3 h4; omega
  | succ f ih =>
    intro a m b d w h1 h2 h3 h4 hs S
    by_cases c1 : m - a = 1
    · exact symMerge_A k aE zE enc cf g cb blk off cap d0 w0 eg hcmp R hsz f ih a m b d w h1 h2 h3 h4 hs S c1
    · by_cases c2 : b - m = 1
      · exact symMerge_B k aE zE enc cf g cb blk off cap d0 w0 eg hcmp R hsz f ih a m b d w h1 h2 h3 h4 hs S c1 c2
      · exact symMerge_C k aE zE enc cf g cb blk off cap d0 w0 eg hcmp R hsz f ih a m b d w h1 h2 h3 h4 hs S c1 c2
variable {cl : α → α → Bool}
theorem ins_size (lt : α → α → Bool) (a b : Nat) (d : Array α) (hb : b ≤ d.size) : (insertionSort lt d a b).size = d.size := by
  have inn : ∀ (j : Nat) (d : Array α), (insInner lt a j d).size = d.size := by
    intro j
    induction j with
    | zero => intro d; rw [insInner]
    | succ j ih =>
      intro d
      rw [insInner]
      split
      · rw [ih, size_swp]
      · rfl
  have out : ∀ (n i : Nat) (d : Array α), b - i ≤ n → (insOuter lt a b i d).size = d.size := by
    intro n
    induction n with
    | zero => intro i d h; rw [io_stop _ _ _ _ _ (by omega)]
    | succ n ih =>
      intro i d h
      by_cases c : i < b
      · rw [io_go _ _ _ _ _ c, ih _ _ (by omega), inn]
      · rw [io_stop _ _ _ _ _ c]
  exact out _ _ _ (Nat.le_refl _)
theorem blocks_go (n f a : Nat) (d : Array α) (h : a + 20 ≤ n) : blocks cl n (f + 1) a d = blocks cl n f (a + 20) (insertionSort cl d a (a + 20)) := by rw [blocks, if_pos h]
theorem blocks_end (n f a : Nat) (d : Array α) (h : ¬ a + 20 ≤ n) : blocks cl n (f + 1) a d = insertionSort cl d a n := by rw [blocks, if_neg h]
theorem passM_go (n bs f a : Nat) (d : Array α) (h : a + 2 * bs ≤ n) : passM cl n bs (f + 1) a d = passM cl n bs f (a + 2 * bs) (symM cl (2 * bs) a (a + bs) (a + 2 * bs) d) := by rw [passM, if_pos h]
theorem passM_last (n bs f a : Nat) (d : Array α) (h : ¬ a + 2 * bs ≤ n) (h2 : a + bs < n) : passM cl n bs (f + 1) a d = symM cl (n - a) a (a + bs) n d := by rw [passM, if_neg h, if_pos h2]
theorem passM_end (n bs f a : Nat) (d : Array α) (h : ¬ a + 2 * bs ≤ n) (h2 : ¬ a + bs < n) : passM cl n bs (f + 1) a d = d := by rw [passM, if_neg h, if_neg h2]
theorem merges_go (n f bs : Nat) (d : Array α) (h : bs < n) : merges cl n (f + 1) bs d = merges cl n f (2 * bs) (passM cl n bs (n + 1) 0 d) := by rw [merges, if_pos h]
theorem merges_end (n f bs : Nat) (d : Array α) (h : ¬ bs < n) : merges cl n (f + 1) bs d = d := by rw [merges, if_neg h]
set_option maxHeartbeats 16000000 in
set_option maxRecDepth 1000000 in
theorem stableCmp_run (k : Nat) (aE : ∀ w, (isAgg 101).run Tryd.prog w = .ok true w) (zE : ∀ w, (Go.sizeOf 101).run Tryd.prog w = .ok k w) (enc : α → List Value) (cf : α → α → Int) (g : Nat) (cb : Array Value) (blk off cap : Nat) (d0 : Array α) (w0 : World)
    (eg : ∀ args w, (callFunc g args).run Tryd.prog w = .ok (.enter g args) w) (hcmp : CmpLays Tryd.prog g cb enc k cf blk off d0.size w0) (R : RowK enc k w0 blk off d0) (hsz : d0.size < 115292150460684697)
    (n : Nat) (d : Array α) (w : World) (hs : d.size = n) (h0 : d0.size = n) (S : SWK enc k w0 blk off d w) :
    Calls Tryd.prog 117 #[.slice (some ⟨blk, off, none⟩) n cap, .int .i64 n, .func (.func g) #[] cb] w fun e w' => e = .returned (.tuple #[]) ∧ SWK enc k w0 blk off (stable (ltOf cf) n d) w' := by
  have HI : Hid (∀ (a b : Nat) (d : Array α) (w : World), a ≤ b → b ≤ n → d.size = n → SWK enc k w0 blk off d w →
    Calls Tryd.prog 128 #[.slice (some ⟨blk, off, none⟩) n cap, .int .i64 a, .int .i64 b, .func (.func g) #[] cb] w fun e w' => e = .returned (.tuple #[]) ∧ SWK enc k w0 blk off (insertionSort (ltOf cf) d a b) w') := by
    show ∀ _, _
    intro a b d w g1 g2 g3 g4
    have := insertion_run k aE zE enc cf g cb blk off cap d0 w0 eg hcmp R (by omega) a b d w g1 (by omega) (by omega) g4
    rw [g3] at this
    exact this
  have HM : Hid (∀ (f a m b : Nat) (d : Array α) (w : World), a < m → m < b → b ≤ n → b - a ≤ f → d.size = n → SWK enc k w0 blk off d w →
    Calls Tryd.prog 129 #[.slice (some ⟨blk, off, none⟩) n cap, .int .i64 a, .int .i64 m, .int .i64 b, .func (.func g) #[] cb] w fun e w' => e = .returned (.tuple #[]) ∧ SWK enc k w0 blk off (symM (ltOf cf) f a m b d) w') := by
    show ∀ _, _
    intro f a m b d w g1 g2 g3 g4 g5 g6
    have := symMerge_run k aE zE enc cf g cb blk off cap d0 w0 eg hcmp R (by omega) f a m b d w g1 g2 (by omega) g4 (by omega) g6
    rw [g5] at this
    exact this
  have S0 : Aside (SWK enc k w0 blk off d w) := S
  have hn : n < 115292150460684697 := by omega
  have HDS := Lib.hid hs
  clear S hcmp hs h0 hsz R eg aE zE
  go_enter Tryd.func117, Tryd.ntmps117
  go_wp2
  go_loopg [7, 8] n (fun kx s7 s8 wr => ∃ (a f : Nat) (dk : Array α), s7 = .int .i64 a ∧ s8 = .int .i64 (a + 20 : Nat) ∧ a ≤ n ∧ n - a ≤ kx ∧ n - a < f ∧ dk.size = n ∧ Aside (SWK enc k w0 blk off dk wr) ∧ Hid (blocks (ltOf cf) n f a dk = blocks (ltOf cf) n (n + 1) 0 d))
  case atStart => exact ⟨0, n + 1, d, rfl, rfl, Nat.zero_le _, by omega, by omega, HDS.out, S0, rfl⟩
  case round =>
    clear S0
    obtain ⟨a, f, dk, rfl, rfl, han, hkx, hf, hds, S1, heq⟩ := hrel
    obtain ⟨f, rfl⟩ : ∃ f', f = f' + 1 := ⟨f - 1, by omega⟩
    by_cases hlt : a + 20 ≤ n
    · have hltz : (a : Int) + 20 ≤ (n : Int) := by omega
      have hc := HI.out a (a + 20) dk wr (by omega) hlt hds S1.out
      rw [show ((a + 20 : Nat) : Int) = (a : Int) + 20 by omega] at hc
      have HCC := Lib.hid hc
      clear hc S1
      go_wp2_with (first | (go_at_call 128; refine HCC.out.mono ?_; rintro e w1 ⟨rfl, S3⟩))
      have S4 : Aside (SWK enc k w0 blk off (insertionSort (ltOf cf) dk a (a + 20)) w1) := S3
      clear S3
      go_roundg (n - (a + 20))
      case measure => omega
      case rel => exact ⟨a + 20, f, _, by first | rfl | simp, by first | rfl | (congr 1; done) | (congr 1; omega), hlt, Nat.le_refl _, by omega, by rw [ins_size _ _ _ _ (by omega)]; exact hds, S4, by show _ = _; rw [← heq.out, blocks_go _ _ _ _ hlt]⟩
    · have hltz : ¬ (a : Int) + 20 ≤ (n : Int) := by omega
      have hc := HI.out a n dk wr han (Nat.le_refl _) hds S1.out
      have HCC := Lib.hid hc
      obtain ⟨d1, hd1⟩ : ∃ d1, d1 = blocks (ltOf cf) n (n + 1) 0 d := ⟨_, rfl⟩
      have e1 : insertionSort (ltOf cf) dk a n = d1 := by rw [hd1, ← heq.out, blocks_end _ _ _ _ hlt]
      have s1 : d1.size = n := by rw [← e1, ins_size _ _ _ _ (by omega)]; exact hds
      have HD1 := Lib.hid hd1
      have HE1 := Lib.hid e1
      have HS1 := Lib.hid s1
      clear hc S1 hd1 e1 s1 heq hds
      go_wp2_with (first | (go_at_call 128; refine HCC.out.mono ?_; rintro e w1 ⟨rfl, S3⟩))
      have S4 : Aside (SWK enc k w0 blk off d1 w1) := by rw [← HE1.out]; exact S3
      clear S3 HCC HE1
      -- the merges
      go_loopg [6, 7, 8, 9] n (fun kx s6 s7 s8 s9 wr => ∃ (bs f : Nat) (dk : Array α), s6 = .int .i64 bs ∧ 20 ≤ bs ∧ (bs < n → n - bs ≤ kx) ∧ n - bs < f ∧ bs ≤ 2 * n + 20 ∧ dk.size = n ∧ Aside (SWK enc k w0 blk off dk wr) ∧ Hid (merges (ltOf cf) n f bs dk = merges (ltOf cf) n (n + 1) 20 d1))
      case atStart => exact ⟨20, n + 1, d1, rfl, by omega, by omega, by omega, by omega, HS1.out, S4, rfl⟩
      case round =>
        clear S4 hltz hlt
        obtain ⟨bs, f, dk, rfl, hbs, hkx, hf, hb2, hds, S1, heq⟩ := hrel
        obtain ⟨f, rfl⟩ : ∃ f', f = f' + 1 := ⟨f - 1, by omega⟩
        by_cases hlt : bs < n
        · have hltz : (bs : Int) < (n : Int) := by omega
          go_wp2
          obtain ⟨dp, hdp⟩ : ∃ dp, dp = passM (ltOf cf) n bs (n + 1) 0 dk := ⟨_, rfl⟩
          have HDP := Lib.hid hdp
          clear hdp
          go_loopg [7, 8] n (fun kx s7 s8 wr => ∃ (a f : Nat) (dj : Array α), s7 = .int .i64 a ∧ s8 = .int .i64 (a + 2 * bs : Nat) ∧ a ≤ n ∧ n - a ≤ kx ∧ n - a < f ∧ dj.size = n ∧ Aside (SWK enc k w0 blk off dj wr) ∧ Hid (passM (ltOf cf) n bs f a dj = dp))
          case atStart => exact ⟨0, n + 1, dk, rfl, by first | rfl | (congr 1; done) | (congr 1; omega), Nat.zero_le _, by omega, by omega, hds, S1, HDP.out.symm⟩
          case round =>
            clear S1 hds
            obtain ⟨a, g2, dj, rfl, rfl, han, hkx2, hg, hsj, S1, heq2⟩ := hrel
            obtain ⟨g2, rfl⟩ : ∃ f', g2 = f' + 1 := ⟨g2 - 1, by omega⟩
            by_cases hl : a + 2 * bs ≤ n
            · have hlz : (a : Int) + 2 * (bs : Int) ≤ (n : Int) := by omega
              have hc := HM.out (2 * bs) a (a + bs) (a + 2 * bs) dj wr (by omega) (by omega) hl (by omega) hsj S1.out
              rw [show ((a + 2 * bs : Nat) : Int) = (a : Int) + 2 * (bs : Int) by omega, show ((a + bs : Nat) : Int) = (a : Int) + (bs : Int) by omega] at hc
              have HCC := Lib.hid hc
              clear hc S1
              go_wp2_with (first | (go_at_call 129; refine HCC.out.mono ?_; rintro e w1 ⟨rfl, S3⟩))
              have S4 : Aside (SWK enc k w0 blk off (symM (ltOf cf) (2 * bs) a (a + bs) (a + 2 * bs) dj) w1) := S3
              clear S3
              go_roundg (n - (a + 2 * bs))
              case measure => omega
              case rel => exact ⟨a + 2 * bs, g2, _, by (congr 1), by first | rfl | (congr 1; done) | (congr 1; omega), hl, Nat.le_refl _, by omega, by rw [symM_size]; exact hsj, S4, by show _ = _; rw [← heq2.out, passM_go _ _ _ _ _ hl]⟩
            · have hlz : ¬ (a : Int) + 2 * (bs : Int) ≤ (n : Int) := by omega
              by_cases hm : a + bs < n
              · have hmz : (a : Int) + (bs : Int) < (n : Int) := by omega
                have hc := HM.out (n - a) a (a + bs) n dj wr (by omega) hm (Nat.le_refl _) (by omega) hsj S1.out
                rw [show ((a + bs : Nat) : Int) = (a : Int) + (bs : Int) by omega] at hc
                have HCC := Lib.hid hc
                clear hc S1
                go_wp2_with (first | (go_at_call 129; refine HCC.out.mono ?_; rintro e w1 ⟨rfl, S3⟩))
                have S4 : Aside (SWK enc k w0 blk off dp w1) := by rw [← heq2.out, passM_last _ _ _ _ _ hl hm]; exact S3
                have s4 : dp.size = n := by rw [← heq2.out, passM_last _ _ _ _ _ hl hm, symM_size]; exact hsj
                clear S3
                go_roundg (n - 2 * bs)
                case measure => omega
                case rel => exact ⟨2 * bs, f, dp, by first | rfl | (congr 1; done) | (congr 1; omega), by omega, fun _ => Nat.le_refl _, by omega, by omega, s4, S4, by show _ = _; rw [← heq.out, merges_go _ _ _ _ hlt, HDP.out]⟩
              · have hmz : ¬ (a : Int) + (bs : Int) < (n : Int) := by omega
                go_wp2
                have S4 : Aside (SWK enc k w0 blk off dp wr) := by rw [← heq2.out, passM_end _ _ _ _ _ hl hm]; exact S1
                have s4 : dp.size = n := by rw [← heq2.out, passM_end _ _ _ _ _ hl hm]; exact hsj
                go_roundg (n - 2 * bs)
                case measure => omega
                case rel => exact ⟨2 * bs, f, dp, by first | rfl | (congr 1; done) | (congr 1; omega), by omega, fun _ => Nat.le_refl _, by omega, by omega, s4, S4, by show _ = _; rw [← heq.out, merges_go _ _ _ _ hlt, HDP.out]⟩
        · have hltz : ¬ (bs : Int) < (n : Int) := by omega
          go_wp2
          go_end0
          refine ⟨rfl, ?_⟩
          unfold stable
          rw [← HD1.out, ← heq.out, merges_end _ _ _ _ hlt]
          exact S1.out
set_option maxHeartbeats 4000000 in
set_option maxRecDepth 100000 in
theorem sortStable_run (k : Nat) (aE : ∀ w, (isAgg 101).run Tryd.prog w = .ok true w) (zE : ∀ w, (Go.sizeOf 101).run Tryd.prog w = .ok k w) (enc : α → List Value) (cf : α → α → Int) (g : Nat) (cb : Array Value) (blk off cap : Nat) (d : Array α) (w : World)
    (eg : ∀ args w, (callFunc g args).run Tryd.prog w = .ok (.enter g args) w) (n : Nat) (hn : d.size = n) (hcmp : CmpLays Tryd.prog g cb enc k cf blk off d.size w) (R : RowK enc k w blk off d) (hsz : d.size < 115292150460684697) (hH : HoldsK enc k w blk off d) :
    Calls Tryd.prog 94 #[.slice (some ⟨blk, off, none⟩) n cap, .func (.func g) #[] cb] w fun e w' => e = .returned (.tuple #[]) ∧ SWK enc k w blk off (stable (ltOf cf) n d) w' := by
  have hc := stableCmp_run k aE zE enc cf g cb blk off cap d w eg hcmp R hsz n d w hn hn (SWK.start hH)
  have HC := Lib.hid hc
  clear hc hcmp R hsz hH hn eg
  go_enter Tryd.func94, Tryd.ntmps94
  go_wp2_with (first | (go_at_call 117; refine HC.out.mono ?_; rintro e w1 ⟨rfl, S3⟩))
  go_end0
  exact ⟨rfl, S3⟩
end Go.Proofs.Num.St

namespace Go.Proofs.Num
open Go.Sort
set_option linter.unusedVariables false
set_option linter.unusedSimpArgs false
/-- Does j come before i: a larger remainder, or the same one and a lower place? -/
def befR (r : Nat → Int) (j i : Nat) : Bool := decide (r i < r j ∨ (r i = r j ∧ j < i))
def rkR (r : Nat → Int) (n i : Nat) : Nat := (List.range n).countP (fun j => befR r j i)
theorem befR_irrefl (r : Nat → Int) (i : Nat) : befR r i i = false := by simp [befR]
theorem befR_iff {r : Nat → Int} {j i : Nat} : befR r j i = true ↔ r i < r j ∨ (r i = r j ∧ j < i) := by simp [befR]
theorem befR_trans {r : Nat → Int} {a b c : Nat} (h : befR r a b = true) (g : befR r b c = true) : befR r a c = true := by
  rw [befR_iff] at *; omega
theorem befR_total {r : Nat → Int} {a b : Nat} (h : a ≠ b) : befR r a b = true ∨ befR r b a = true := by
  rw [befR_iff, befR_iff]; omega
theorem countP_lt {p q : Nat → Bool} : ∀ {l : List Nat}, (∀ x ∈ l, p x = true → q x = true) → (∃ x ∈ l, p x = false ∧ q x = true) → l.countP p < l.countP q
  | [], _, ⟨x, hx, _⟩ => by simp at hx
  | a :: l, h, ⟨x, hx, h1, h2⟩ => by
    have hm : l.countP p ≤ l.countP q := List.countP_mono_left fun y hy => h y (List.mem_cons_of_mem _ hy)
    rw [List.countP_cons, List.countP_cons]
    rcases List.mem_cons.1 hx with e | e
    · rw [e] at h1 h2
      rw [h1, h2]
      simp
      omega
    · have := countP_lt (fun y hy => h y (List.mem_cons_of_mem _ hy)) ⟨x, e, h1, h2⟩
      have ha := h a (List.mem_cons_self)
      cases hp : p a
      · cases q a <;> simp <;> omega
      · rw [ha hp]; simp; omega
theorem rkR_lt {r : Nat → Int} {n a b : Nat} (ha : a < n) (h : befR r a b = true) : rkR r n a < rkR r n b :=
  countP_lt (fun x _ hx => befR_trans hx h) ⟨a, List.mem_range.2 ha, befR_irrefl r a, h⟩
theorem rkR_inj {r : Nat → Int} {n a b : Nat} (ha : a < n) (hb : b < n) (h : rkR r n a = rkR r n b) : a = b := by
  rcases Classical.em (a = b) with e | e
  · exact e
  · rcases befR_total (r := r) e with g | g
    · have := rkR_lt ha g; omega
    · have := rkR_lt hb g; omega
theorem rkR_congr {r s : Nat → Int} {n i : Nat} (hi : i < n) (h : ∀ a b, a < n → b < n → (r a < r b ↔ s a < s b)) : rkR r n i = rkR s n i := by
  unfold rkR
  refine List.countP_congr fun j hj => ?_
  have hj := List.mem_range.1 hj
  have a1 := h i j hi hj
  have a2 := h j i hj hi
  rw [befR_iff, befR_iff]
  omega
/-- The element at place t of a sorted row has rank t. -/
theorem rkR_sorted {r : Nat → Int} {n : Nat} {p : Nat → Nat} (hp : ((List.range n).map p).Perm (List.range n)) (hs : ∀ i j, i < j → j < n → befR r (p i) (p j) = true) (t : Nat) (ht : t < n) : rkR r n (p t) = t := by
  have e : rkR r n (p t) = ((List.range n).map p).countP (fun j => befR r j (p t)) := (hp.countP_eq _).symm
  rw [e, List.countP_map]
  have key : ∀ m, m ≤ n → (List.range m).countP ((fun j => befR r j (p t)) ∘ p) = min m t := by
    intro m
    induction m with
    | zero => intro _; simp
    | succ m ih =>
      intro hm
      rw [List.range_succ, List.countP_append, ih (by omega)]
      have : befR r (p m) (p t) = decide (m < t) := by
        rcases Nat.lt_trichotomy m t with g | g | g
        · rw [hs m t g ht]; simp [g]
        · subst g; rw [befR_irrefl]; simp
        · have := hs t m g (by omega)
          cases q : befR r (p m) (p t)
          · simp; omega
          · have := befR_trans this q
            rw [befR_irrefl] at this; cases this
      simp [this]
      by_cases c : m < t <;> simp [c] <;> omega
  rw [key n (Nat.le_refl _)]
  omega
end Go.Proofs.Num

namespace Go.Proofs.Num
open Go.Sort Go.Shelf Go.Lib Go.RowKit Go.Proofs.YtdjnneflpkllmaaDoorW.PrintWords Go.Proofs.YtdjnneflpkllmaaDoorW.PrintMore
set_option linter.unusedVariables false
set_option linter.unusedSimpArgs false
def shQ (N S : Int) (w : Nat → Int) (i : Nat) : Int := N * w i / S
def shR (N S : Int) (w : Nat → Int) (i : Nat) : Int := N * w i % S
/-- A function of the places, as a list. -/
def tab (n : Nat) (f : Nat → Int) : List Int := (List.range n).map f
theorem tab_length (n : Nat) (f : Nat → Int) : (tab n f).length = n := by simp [tab]
theorem at_tab {n : Nat} {f : Nat → Int} {i : Nat} (h : i < n) : at_ (tab n f) i = f i := by
  unfold at_ tab
  rw [List.getD_eq_getElem?_getD, List.getElem?_map, List.getElem?_range h]
  rfl
theorem tab_congr {n : Nat} {f g : Nat → Int} (h : ∀ i, i < n → f i = g i) : tab n f = tab n g := by
  unfold tab
  exact List.map_congr_left fun i hi => h i (List.mem_range.1 hi)
theorem tab_at {l : List Int} : tab l.length (at_ l) = l := by
  apply List.ext_getElem
  · simp [tab]
  · intro i h1 h2
    simp only [tab, List.getElem_map, List.getElem_range]
    unfold at_
    rw [List.getD_eq_getElem?_getD, List.getElem?_eq_getElem h2]
    rfl
theorem tab_set {n : Nat} {f : Nat → Int} {i : Nat} {x : Int} : (tab n f).set i x = tab n (fun j => if j = i then x else f j) := by
  apply List.ext_getElem
  · simp [tab]
  · intro j h1 h2
    simp only [tab, List.getElem_set, List.getElem_map, List.getElem_range]
    by_cases c : i = j
    · subst c; simp
    · rw [if_neg c, if_neg (fun e => c e.symm)]
theorem tab_replicate (n : Nat) : List.replicate n (0 : Int) = tab n (fun _ => 0) := by
  apply List.ext_getElem
  · simp [tab]
  · intro j h1 h2
    simp [tab]
/-- How many of the floors' units are left. -/
def leftN (N S : Int) (l : List Int) : Nat := (N - sumTo (shQ N S (at_ l)) l.length).toNat
def appF (N S : Int) (l : List Int) (t : Nat) (i : Nat) : Int := shQ N S (at_ l) i + if rkR (shR N S (at_ l)) l.length i < t then 1 else 0
def apportion (N : Int) (l : List Int) : List Int × Int := if (weigh N l).2 = 0 then (tab l.length (appF N (weigh N l).1 l (leftN N (weigh N l).1 l)), 0) else ([], (weigh N l).2)
theorem sum_split (N S : Int) (w : Nat → Int) : ∀ n, S * sumTo (shQ N S w) n + sumTo (shR N S w) n = N * sumTo w n
  | 0 => by simp [sumTo]
  | n + 1 => by
    have ih := sum_split N S w n
    have e := Int.mul_ediv_add_emod (N * w n) S
    simp only [sumTo, shQ, shR] at ih ⊢
    rw [Int.mul_add, Int.mul_add]
    omega
/-- The floors. -/
structure Sh (N S : Int) (l : List Int) : Prop where
  n0 : 0 ≤ N
  n1 : N ≤ 1125899906842624
  few : l.length ≤ 256
  ww : ∀ i, i < l.length → 0 ≤ at_ l i ∧ at_ l i ≤ 1073741824
  hS : S = sumTo (at_ l) l.length
  s0 : 0 < S
theorem Sh.s1 {N S : Int} {l : List Int} (h : Sh N S l) : S ≤ 274877906944 := by
  have := sumTo_max (p := at_ l) (c := 1073741824) (n := l.length) (fun i hi => (h.ww i hi).2)
  have := h.few
  rw [h.hS]; omega
theorem Sh.le {N S : Int} {l : List Int} (h : Sh N S l) (i : Nat) (hi : i < l.length) : at_ l i ≤ S := by
  rw [h.hS]; exact le_sumTo (fun i hi => (h.ww i hi).1) i hi
theorem Sh.q {N S : Int} {l : List Int} (h : Sh N S l) (i : Nat) (hi : i < l.length) : 0 ≤ shQ N S (at_ l) i ∧ shQ N S (at_ l) i ≤ N ∧ 0 ≤ shR N S (at_ l) i ∧ shR N S (at_ l) i < S := by
  have m0 := Int.mul_nonneg h.n0 (h.ww i hi).1
  exact ⟨Int.ediv_nonneg m0 (by have := h.s0; omega), Int.ediv_le_of_le_mul h.s0 (Int.mul_le_mul_of_nonneg_left (h.le i hi) h.n0), Int.emod_nonneg _ (by have := h.s0; omega), Int.emod_lt_of_pos _ h.s0⟩
theorem Sh.sums {N S : Int} {l : List Int} (h : Sh N S l) : ∀ n, n ≤ l.length → 0 ≤ sumTo (shQ N S (at_ l)) n ∧ sumTo (shQ N S (at_ l)) n ≤ N := by
  intro n hn
  have a := sumTo_nonneg (p := shQ N S (at_ l)) (n := n) (fun i hi => (h.q i (by omega)).1)
  refine ⟨a, ?_⟩
  have e := sum_split N S (at_ l) n
  have r := sumTo_nonneg (p := shR N S (at_ l)) (n := n) (fun i hi => (h.q i (by omega)).2.2.1)
  have w1 : sumTo (at_ l) n ≤ S := by
    rw [h.hS]
    have : ∀ d, n + d ≤ l.length → sumTo (at_ l) n ≤ sumTo (at_ l) (n + d) := by
      intro d
      induction d with
      | zero => intro _; simp
      | succ d ih =>
        intro hd
        have := ih (by omega)
        have := (h.ww (n + d) (by omega)).1
        show _ ≤ sumTo (at_ l) (n + d) + at_ l (n + d)
        omega
    have := this (l.length - n) (by omega)
    rwa [show n + (l.length - n) = l.length by omega] at this
  have m : N * sumTo (at_ l) n ≤ N * S := Int.mul_le_mul_of_nonneg_left w1 h.n0
  have k : S * sumTo (shQ N S (at_ l)) n ≤ S * N := by rw [Int.mul_comm S N]; omega
  exact Int.le_of_mul_le_mul_left k h.s0
theorem Sh.left {N S : Int} {l : List Int} (h : Sh N S l) : (leftN N S l : Int) = N - sumTo (shQ N S (at_ l)) l.length ∧ leftN N S l < l.length := by
  have a := h.sums l.length (Nat.le_refl _)
  have e1 : (leftN N S l : Int) = N - sumTo (shQ N S (at_ l)) l.length := by unfold leftN; omega
  refine ⟨e1, ?_⟩
  have np : 0 < l.length := by
    rcases Nat.eq_zero_or_pos l.length with g | g
    · have := h.hS; rw [g] at this; simp [sumTo] at this; have := h.s0; omega
    · exact g
  have e := sum_split N S (at_ l) l.length
  rw [← h.hS] at e
  have r : sumTo (shR N S (at_ l)) l.length ≤ l.length * (S - 1) := sumTo_max (fun i hi => by have := (h.q i hi).2.2.2; omega)
  have c : S * (leftN N S l : Int) ≤ l.length * (S - 1) := by
    rw [e1, Int.mul_sub, Int.mul_comm S N]; omega
  have c2 : (l.length : Int) * (S - 1) < S * l.length := by
    rw [Int.mul_sub, Int.mul_comm S]; omega
  have := Int.lt_of_mul_lt_mul_left (show S * (leftN N S l : Int) < S * l.length by omega) (by have := h.s0; omega)
  omega
def encR (x : Int × Int) : List Value := [.int .i64 x.1, .int .i64 x.2]
def cmpR (x y : Int × Int) : Int := if y.2 < x.2 then -1 else if x.2 < y.2 then 1 else 0
def ltR (x y : Int × Int) : Bool := decide (y.2 < x.2 ∨ (y.2 = x.2 ∧ x.1 < y.1))
theorem ltR_iff {x y : Int × Int} : ltR x y = true ↔ y.2 < x.2 ∨ (y.2 = x.2 ∧ x.1 < y.1) := by simp [ltR]
theorem swoR : SWO ltR where
  irrefl x := by simp [ltR]
  trans x y z h1 h2 := by rw [ltR_iff] at *; omega
  ntrans x y z h1 h2 := by
    cases h : ltR x z
    · rfl
    · have a : ¬ ltR x y = true := by rw [h1]; decide
      have b : ¬ ltR y z = true := by rw [h2]; decide
      rw [ltR_iff] at *; omega
theorem ltOf_cmpR (x y : Int × Int) (h : y.1 < x.1) : ltOf cmpR x y = ltR x y := by
  unfold ltOf cmpR
  rw [Bool.eq_iff_iff, ltR_iff]
  simp
  constructor
  · intro g
    split at g
    · exact Or.inl (by assumption)
    · split at g <;> omega
  · intro g
    rw [if_pos (by omega)]; omega
def restsA (n : Nat) (r : Nat → Int) : Array (Int × Int) := ((List.range n).map fun i : Nat => ((i : Int), r i)).toArray
theorem restsA_size (n : Nat) (r : Nat → Int) : (restsA n r).size = n := by simp [restsA]
theorem restsA_get {n : Nat} {r : Nat → Int} {i : Nat} (h : i < n) : (restsA n r)[i]! = ((i : Int), r i) := by
  rw [getElem!_pos _ i (by rw [restsA_size]; exact h)]
  simp [restsA]
/-- The sorted remainders: at place t the one of rank t. -/
theorem sorted_rests (n : Nat) (r : Nat → Int) (s : Array (Int × Int)) (hs : s = St.stable (ltOf cmpR) n (restsA n r)) : s.size = n ∧ ∀ t, t < n → ∃ b : Nat, s[t]! = ((b : Int), r b) ∧ b < n ∧ rkR r n b = t := by
  obtain ⟨P, S⟩ := St.stable_spec (cl := ltOf cmpR) (lt := ltR) (pr := fun y x => y.1 < x.1) swoR (fun x y h => ltOf_cmpR x y h) n (restsA n r) (restsA_size n r).symm (fun i j h1 h2 => by
    rw [restsA_get (by omega), restsA_get h2]
    show (i : Int) < (j : Int)
    omega)
  rw [← hs] at P S
  have hz : s.size = n := by rw [P.1, restsA_size]
  refine ⟨hz, ?_⟩
  have all : ∀ t, 0 ≤ t → t < n → ∃ b : Nat, s[t]! = ((b : Int), r b) ∧ b < n := permIn_all (restsA n r) s 0 n (fun x => ∃ b : Nat, x = ((b : Int), r b) ∧ b < n) (by rw [restsA_size]; exact Nat.le_refl _) P (fun i _ hi => ⟨i, restsA_get hi, hi⟩)
  have fst : ∀ t, t < n → ∃ b : Nat, s[t]! = ((b : Int), r b) ∧ b < n ∧ (s[t]!.1).toNat = b := fun t ht => by
    obtain ⟨b, h1, h2⟩ := all t (Nat.zero_le _) ht
    exact ⟨b, h1, h2, by rw [h1]; simp⟩
  have perm : ((List.range n).map fun t => (s[t]!.1).toNat).Perm (List.range n) := by
    have p3 := P.2.2
    have e1 : (s.extract 0 n).toList = s.toList := by rw [show n = s.size from hz.symm, Array.extract_size]
    have e2 : ((restsA n r).extract 0 n).toList = (restsA n r).toList := by
      have := restsA_size n r
      rw [show (restsA n r).extract 0 n = (restsA n r).extract 0 (restsA n r).size by rw [this], Array.extract_size]
    rw [e1, e2] at p3
    have p4 := p3.map (fun x : Int × Int => x.1.toNat)
    have e3 : (restsA n r).toList.map (fun x : Int × Int => x.1.toNat) = List.range n := by
      unfold restsA
      simp [List.map_map, Function.comp_def]
    have e4 : s.toList.map (fun x : Int × Int => x.1.toNat) = (List.range n).map fun t => (s[t]!.1).toNat := by
      apply List.ext_getElem
      · simp [hz]
      · intro i h1 h2
        have hi : i < s.size := by simpa using h1
        simp [getElem!_pos s i hi]
    rw [e3, e4] at p4
    exact p4
  have nd : ∀ i j, i < j → j < n → (s[i]!.1).toNat ≠ (s[j]!.1).toNat := fun i j h1 h2 e => by
    have N := (perm.nodup_iff).2 List.nodup_range
    rw [List.nodup_iff_pairwise_ne, List.pairwise_iff_getElem] at N
    have := N i j (by simp; omega) (by simp; omega) h1
    simp at this
    omega
  have hs' : ∀ i j, i < j → j < n → befR r (s[i]!.1).toNat (s[j]!.1).toNat = true := fun i j h1 h2 => by
    obtain ⟨bi, a1, a2, a3⟩ := fst i (by omega)
    obtain ⟨bj, c1, c2, c3⟩ := fst j h2
    have g := S i j (Nat.zero_le _) h1 h2
    have ne := nd i j h1 h2
    rw [a3, c3] at ne ⊢
    rw [a1, c1] at g
    have g' : ¬ ltR ((bj : Int), r bj) ((bi : Int), r bi) = true := by rw [g]; decide
    rw [ltR_iff] at g'
    rw [befR_iff]
    simp only at g'
    omega
  intro t ht
  obtain ⟨b, a1, a2, a3⟩ := fst t ht
  have := rkR_sorted (r := r) (n := n) (p := fun t => (s[t]!.1).toNat) perm hs' t ht
  simp only [a3] at this
  exact ⟨b, a1, a2, this⟩
theorem appF_next {N S : Int} {l : List Int} {t b : Nat} (hb : b < l.length) (h : rkR (shR N S (at_ l)) l.length b = t) : (tab l.length (appF N S l t)).set b (appF N S l t b + 1) = tab l.length (appF N S l (t + 1)) := by
  rw [tab_set]
  refine tab_congr fun i hi => ?_
  by_cases c : i = b
  · subst c
    rw [if_pos rfl]
    unfold appF
    rw [if_neg (by omega), if_pos (by omega)]
    omega
  · rw [if_neg c]
    unfold appF
    have : rkR (shR N S (at_ l)) l.length i ≠ t := fun e => c (rkR_inj hi hb (e.trans h.symm))
    by_cases d : rkR (shR N S (at_ l)) l.length i < t
    · rw [if_pos d, if_pos (by omega)]
    · rw [if_neg d, if_neg (by omega)]
end Go.Proofs.Num

namespace Go.Proofs.Num
open Go.Sort Go.Shelf Go.Lib Go.RowKit Go.Proofs.YtdjnneflpkllmaaDoorW.PrintWords Go.Proofs.YtdjnneflpkllmaaDoorW.PrintLast Go.Proofs.YtdjnneflpkllmaaDoorW.PrintMore Go.Proofs.YtdjnneflpkllmaaDoor.Q
set_option linter.unusedVariables false
set_option linter.unusedSimpArgs false
theorem aE101 (w : World) : (isAgg 101).run Tryd.prog w = .ok true w := by kernel_rfl
theorem zE101 (w : World) : (Go.sizeOf 101).run Tryd.prog w = .ok 2 w := by kernel_rfl
theorem cmp_int_run (a b : Int) (W : World) : Calls Tryd.prog 96 #[.int .i64 a, .int .i64 b] W fun e w' => e = .returned (.int .i64 (if a < b then -1 else if b < a then 1 else 0)) ∧ W = w' := by
  go_enter Tryd.func96, Tryd.ntmps96
  by_cases h1 : a < b
  · go_wp2
    go_ret
    exact ⟨rfl, rfl⟩
  · by_cases h2 : b < a
    · go_wp2
      go_ret
      exact ⟨rfl, rfl⟩
    · go_wp2
      go_ret
      exact ⟨rfl, rfl⟩
theorem closure95 (x y : Int × Int) (W : World) : Calls Tryd.prog 95 #[.agg #[.int .i64 x.1, .int .i64 x.2], .agg #[.int .i64 y.1, .int .i64 y.2]] W fun e w' => e = .returned (.int .i64 (cmpR x y)) ∧ ∃ q os', w' = grow (W.drewN q) os' := by
  have hcon : ∀ W', Calls Tryd.prog 96 #[.int .i64 y.2, .int .i64 x.2] W' fun e w' => e = .returned (.int .i64 (cmpR x y)) ∧ W' = w' := fun W' => cmp_int_run y.2 x.2 W'
  generalize cmpR x y = r at hcon ⊢
  go_enter Tryd.func95, Tryd.ntmps95
  go_wp2_with (go_at_call 96; refine (hcon _).mono ?_; rintro e w' ⟨rfl, rfl⟩)
  go_ret
  exact ⟨rfl, 0, _, by rw [alloc_eq_grow, alloc_eq_grow, grow_grow]; rfl⟩
theorem cmpLays95 (blk off size : Nat) (w : World) : CmpLays Tryd.prog 95 #[] encR 2 cmpR blk off size w := fun _ _ _ _ x y => closure95 x y _
theorem enters95 : ∀ args w, (callFunc 95 args).run Tryd.prog w = .ok (.enter 95 args) w := enters_of Tryd.func95 (by kernel_rfl) rfl
theorem Rst.of_eq {W W' : World} {g : Nat} {l : List (Int × Int)} (h : Rst W g l) (e : W'.heap[g]? = W.heap[g]?) : Rst W' g l := by
  obtain ⟨cs, ty, hh, r⟩ := h
  exact ⟨cs, ty, e.trans hh, r⟩
theorem list_get! {s : Array (Int × Int)} {i : Nat} {x : Int × Int} (h : s.toList[i]? = some x) : i < s.size ∧ x = s[i]! := by
  have hi : i < s.toList.length := by
    rcases Nat.lt_or_ge i s.toList.length with g | g
    · exact g
    · rw [List.getElem?_eq_none g] at h; cases h
  rw [List.getElem?_eq_getElem hi] at h
  injection h with h
  have hi' : i < s.size := by simpa using hi
  refine ⟨hi', ?_⟩
  rw [← h, getElem!_pos s i hi']
  simp
theorem rst_holds {w : World} {g : Nat} {d : Array (Int × Int)} (h : Rst w g d.toList) : HoldsK encR 2 w g 0 d := by
  intro j hj
  rw [size_flatK] at hj
  have hi : j / 2 < d.size := by omega
  obtain ⟨cs, ty, hh, hn, hc⟩ := h
  have hx : d.toList[j / 2]? = some d[j / 2]! := by
    rw [List.getElem?_eq_getElem (by simpa using hi), getElem!_pos d _ hi]
    simp
  obtain ⟨h1, h2⟩ := hc _ _ hx
  rw [get_flatK _ _ _ _ hj]
  refine ⟨?_, by simp [World.frozen?, hh]⟩
  rcases Nat.mod_two_eq_zero_or_one j with e | e
  · rw [e, show 0 + j = j / 2 * 2 by omega]
    simp only [World.cell?, hh]
    exact h1
  · rw [e, show 0 + j = j / 2 * 2 + 1 by omega]
    simp only [World.cell?, hh]
    exact h2
theorem swk_out {w W : World} {g : Nat} {d s : Array (Int × Int)} (hR : Rst w g d.toList) (hs : s.size = d.size) (h : SWK encR 2 w g 0 s W) : w.grownBy W (some g) ∧ Rst W g s.toList := by
  have hg := hR.lt
  have hH := rst_holds hR
  obtain ⟨cur, ty, hh, hn, -⟩ := hR
  obtain ⟨n, os, rfl⟩ := h
  have hH2 := holdsK_sortWorldK_c encR 2 w g 0 d s n os hH hg hs
  have z : (putRowK encR 2 (Sort.ahead w n) g 0 s).heap.size = w.heap.size := size_putRow _ _ _ _ _
  have blk : ∀ k, k < w.heap.size → (sortWorldK encR 2 w g 0 n s os).heap[k]? = (putRowK encR 2 (Sort.ahead w n) g 0 s).heap[k]? := fun k hk => heap_grow_old _ os (by rw [z]; exact hk)
  refine ⟨⟨rfl, rfl, rfl, size_sortWorldK_c encR 2 w g 0 n s os, fun k hk hne => ?_⟩, ?_⟩
  · rw [blk k hk]
    show ((w.heap).modify g _)[k]? = _
    rw [Array.getElem?_modify, if_neg (fun e => hne (by rw [e]))]
  · have e : (sortWorldK encR 2 w g 0 n s os).heap[g]? = some (.cells (putCells id 0 (flatK encR 2 s) cur) ty (0, 0)) := by
      rw [blk g hg]
      show ((w.heap).modify g _)[g]? = _
      rw [Array.getElem?_modify, if_pos rfl, hh]
      rfl
    generalize putCells id 0 (flatK encR 2 s) cur = cs at e
    have cell : ∀ i, i < s.size → cs[i * 2]? = some (.int .i64 s[i]!.1) ∧ cs[i * 2 + 1]? = some (.int .i64 s[i]!.2) := fun i hi => by
      have h0 := (HoldsK.cell hH2 (c := 0) hi (by omega)).1
      have h1 := (HoldsK.cell hH2 (c := 1) hi (by omega)).1
      simp only [World.cell?, e, Nat.zero_add, Nat.add_zero] at h0 h1
      exact ⟨h0, h1⟩
    refine ⟨cs, ty, e, ?_, fun i x hx => ?_⟩
    · rcases Nat.eq_zero_or_pos s.size with q | q
      · simp [q]
      · have := (cell (s.size - 1) (by omega)).2
        have hlt := (Array.getElem?_eq_some_iff.1 this).1
        simp
        omega
    · obtain ⟨hi, rfl⟩ := list_get! hx
      exact cell i hi
end Go.Proofs.Num

namespace Go.Proofs.Num
open Go.Sort Go.Shelf Go.Lib Go.RowKit Go.Proofs.YtdjnneflpkllmaaDoorW.PrintWords Go.Proofs.YtdjnneflpkllmaaDoorW.PrintLast Go.Proofs.YtdjnneflpkllmaaDoorW.PrintMore Go.Proofs.YtdjnneflpkllmaaDoor.Q
set_option linter.unusedVariables false
set_option linter.unusedSimpArgs false
/-- The rests' cells. -/
def restC (r : Nat → Int) (i : Nat) : List Value := ((List.range i).map fun j : Nat => ((j : Int), r j)).flatMap fun x => [.int .i64 x.1, .int .i64 x.2]
theorem restC_succ (r : Nat → Int) (i : Nat) : restC r (i + 1) = restC r i ++ [.int .i64 (i : Int), .int .i64 (r i)] := by
  unfold restC
  rw [List.range_succ, List.map_append, List.flatMap_append]
  rfl
def preQ (N S : Int) (l : List Int) (i : Nat) : List Int := tab l.length (fun j => if j < i then shQ N S (at_ l) j else 0)
theorem preQ_set (N S : Int) (l : List Int) (i : Nat) : (preQ N S l i).set i (shQ N S (at_ l) i) = preQ N S l (i + 1) := by
  unfold preQ
  rw [tab_set]
  refine tab_congr fun j hj => ?_
  by_cases c : j = i
  · subst c; rw [if_pos rfl, if_pos (by omega)]
  · rw [if_neg c]
    by_cases d : j < i
    · rw [if_pos d, if_pos (by omega)]
    · rw [if_neg d, if_neg (by omega)]
theorem preQ_zero (N S : Int) (l : List Int) : preQ N S l 0 = List.replicate l.length (0 : Int) := by
  rw [tab_replicate]
  exact tab_congr fun j hj => by rw [if_neg (by omega)]
theorem preQ_all (N S : Int) (l : List Int) : preQ N S l l.length = tab l.length (appF N S l 0) := by
  refine tab_congr fun j hj => ?_
  rw [if_pos hj]
  unfold appF
  rw [if_neg (by omega)]
  omega
theorem own_put {W : World} {base e n gp i : Nat} {v : Value} {xs : List Value} {cells : Array Value} {t : TypeId} (h : W.ownsRow base e 2 v n xs) (hp : W.heap[gp]? = some (.cells cells t (0, 0))) (ht : e ≠ t) (u : Value) : (W.setCell ⟨gp, i, none⟩ u).ownsRow base e 2 v n xs := by
  refine own_move h fun k hk => ?_
  obtain ⟨c, hc⟩ := own_typed h k hk
  refine Below.heap_setCell W ⟨gp, i, none⟩ u k (fun e1 => ?_)
  have e2 : k = gp := e1
  rw [e2, hp] at hc
  injection hc with hc
  injection hc with _ hc
  exact ht hc.symm
set_option maxHeartbeats 16000000 in
set_option maxRecDepth 1000000 in
theorem apportion_main (N S : Int) (l : List Int) (A1 : Option Addr) (c1 : Nat) (w : World) (hS : Sh N S l) (hw : (weigh N l) = (S, 0)) (hr1 : Kd.C (Kd.int .i64) w A1 l.length l) (hc1 : l.length ≤ c1) :
    Calls Tryd.prog 47 #[.int .i64 N, .slice A1 l.length c1] w fun e w' => ∃ v0_ : Value, e = .returned (.tuple #[v0_, .int .i64 0]) ∧ Kd.R (Kd.int .i64) 3 w' w.heap.size (fun _ => True) v0_ (tab l.length (appF N S l (leftN N S l))) ∧ Below w.heap.size w w' := by
  have HR1 := Aside0.mk hr1
  have HC1 := Aside0.mk hc1
  have HSh := Aside0.mk hS
  obtain ⟨kw, hkw⟩ := (weighed_ok N l).rounds
  rw [hw] at hkw
  have HW := Aside0.mk hkw
  obtain ⟨n, hn⟩ : ∃ n, n = l.length := ⟨_, rfl⟩
  have hn0 : 0 < l.length := by have := hS.left.2; omega
  have hfew := hS.few
  have HB := Aside0.mk (Below.refl w.heap.size w)
  have s0b : (S == 0) = false := beq_eq_false_iff_ne.mpr (by have := hS.s0; omega)
  obtain ⟨i0, hi, hz0, hz1, hz2⟩ := info_parts info101
  have HI : Aside0 (Tryd.prog.info? 101 = some i0 ∧ i0.zero = some (.agg #[.int .i64 0, .int .i64 0]) ∧ i0.size = 2 ∧ i0.bytes = 16) := ⟨hi, hz0, hz1, hz2⟩
  clear hr1 hc1 hS hw hkw hi hz0 hz1 hz2 hn n
  have p0 : (0 : Int) ≤ (l.length : Int) := by omega
  have p1 : ((l.length : Int)).toNat ≤ 35184372088832 := by omega
  have P0 := Aside0.mk p0
  have P1 := Aside0.mk p1
  clear p0 p1
  go_enter Tryd.func47, Tryd.ntmps47
  go_wp2_with (first
    | (go_at_call 92; refine (num_weighed.calls kw N A1 c1 l S 0 _ HR1.out HC1.out HW.out).mono ?_; rintro e w' ⟨rfl, ⟨nd, rfl⟩⟩)
    | ((with_reducible refine gate_dst (N := 28) rfl ?_); refine Kd.R_make (Kd.int .i64) _ 3 rfl (N := 28) rfl 29 _ _ rfl (l.length : Int) rfl rfl Tryd.underlying29 (.int .i64 0) 8 info3 rfl (by decide) (by omega) 0 (ok := fun _ => True) (okp := fun _ => True) rfl (fun _ hk => hk) trivial P0.out (Nat.le_trans (Nat.mul_le_mul_right _ P1.out) (by omega)) (Below.refl _ _) (Nat.le_refl _) ?_; intro v8 w8 ho9 hb hg_ hnew_))
  clear hg_ hnew_
  have ho8 : Kd.R (Kd.int .i64) 3 w8 w.heap.size (fun _ => True) v8 (List.replicate l.length (0 : Int)) := by
    rw [Int.toNat_natCast] at ho9
    exact Kd.R_lower ho9 (below_size (pw_below_drewN HB.out _))
  have hB8 : Below w.heap.size w w8 := below_step (pw_below_drewN HB.out _) hb
  clear ho9 hb HB
  rw [← preQ_zero N S l] at ho8
  obtain ⟨gp, cp, hv8, hgb, hgl, hgc⟩ := Kd.R_form ho8 (by rw [show (preQ N S l 0).length = l.length from tab_length _ _]; exact hn0)
  rw [show (preQ N S l 0).length = l.length from tab_length _ _] at hv8
  subst hv8
  clear hgl hgc
  have HG := Aside0.mk hgb
  clear hgb P0 P1
  have HO0 := Aside0.mk ho8
  have HB0 := Aside0.mk hB8
  clear ho8 hB8
  go_loopg [9, 10, 35] l.length (fun kx v9 v10 v35 wr => ∃ (i : Nat), v35 = .int .i64 i ∧ v10 = .int .i64 (N - sumTo (shQ N S (at_ l)) i) ∧ i ≤ l.length ∧ l.length - i ≤ kx ∧ Aside0 (Kd.R (Kd.int .i64) 3 wr w.heap.size (fun _ => True) (.slice (some ⟨gp, 0, none⟩) l.length cp) (preQ N S l i)) ∧ Aside0 (wr.ownsRow w.heap.size 101 2 v9 i (restC (shR N S (at_ l)) i)) ∧ Aside0 (Below w.heap.size w wr))
  case atStart => exact ⟨0, rfl, by simp [sumTo], Nat.zero_le _, by omega, HO0, ⟨World.ownsRow_nil _ _ _ _⟩, HB0⟩
  case round =>
    clear HO0 HB0
    obtain ⟨i, rfl, rfl, hin, hkx, HO, HR, HB⟩ := hrel
    by_cases hlt : i < l.length
    · have hltz : (i : Int) < (l.length : Int) := by omega
      have pz : (0 : Int) ≤ (i : Int) := by omega
      obtain ⟨ks, hks⟩ := (share_ok (N := N) (w := at_ l i) (S := S) HSh.out.n0 HSh.out.n1 (HSh.out.ww i hlt).1 (HSh.out.le i hlt) HSh.out.s0 HSh.out.s1).rounds
      have HK := Aside0.mk hks
      clear hks
      obtain ⟨ad, ead, hx⟩ := Kd.at_int HR1.out (i : Int) pz hltz
      rw [rd_nat] at hx
      subst ead
      have hx' := (HB.out.cell (World.block_lt_of_cell? w _ hx)).trans hx
      rw [Int.toNat_natCast] at hx'
      clear hx
      obtain ⟨hy, hz⟩ := Kd.R_celln 0 HO.out (i : Int) pz hltz
      rw [Int.toNat_natCast] at hy hz
      have qb := HSh.out.q i hlt
      have sb := HSh.out.sums i hin
      have sb2 := HSh.out.sums (i + 1) (by omega)
      have n1 := HSh.out.n1
      have hsum : sumTo (shQ N S (at_ l)) (i + 1) = sumTo (shQ N S (at_ l)) i + shQ N S (at_ l) i := rfl
      have HSUM := Aside0.mk hsum
      have eqq : N * at_ l i / S = shQ N S (at_ l) i := rfl
      have err : N * at_ l i % S = shR N S (at_ l) i := rfl
      rw [eqq, err] at HK
      obtain ⟨q, hq⟩ : ∃ q, q = shQ N S (at_ l) i := ⟨_, rfl⟩
      obtain ⟨r, hr⟩ : ∃ r, r = shR N S (at_ l) i := ⟨_, rfl⟩
      obtain ⟨s, hs⟩ : ∃ s, s = sumTo (shQ N S (at_ l)) i := ⟨_, rfl⟩
      rw [← hq, ← hr] at HK qb
      rw [← hs] at sb ⊢
      rw [hsum, ← hs, ← hq] at sb2
      have HQ := Aside0.mk hq
      have HRR := Aside0.mk hr
      have HSS := Aside0.mk hs
      clear hq hr hs hsum eqq err
      obtain ⟨W, hW⟩ : ∃ W, W = at_ l i := ⟨_, rfl⟩
      rw [← hW] at HK hx'
      clear hW
      have NS0 : 0 ≤ N - s - q ∧ N - s - q ≤ 1125899906842624 := by omega
      obtain ⟨cells, hcell⟩ := Kd.R_typed HO.out gp rfl
      have HCE := Aside0.mk hcell
      clear hcell
      go_wp2_with (first
        | (go_at_call 93; refine (num_share.calls ks N W S q r _ HK.out).mono ?_; rintro e w1 ⟨rfl, ⟨nd1, rfl⟩⟩)
        | (at_builtin; refine wpList_append_own _ rfl _ _ 98 rfl w.heap.size 101 i0 (.agg #[.int .i64 0, .int .i64 0]) 2 16 Tryd.underlying98 HI.out.1 HI.out.2.1 HI.out.2.2.1 HI.out.2.2.2 rfl (by decide) _ _ _ rfl ((own_put (W := wr.drewN nd1) (own_move HR.out (fun _ _ => rfl)) HCE.out (by decide) _).alloc _) ⟨wr.heap.size, 0, none⟩ 1 1 [.int .i64 i, .int .i64 r] rfl rfl (cell_two' _ _ (size_set' _ _ _ _ _) _ _ _) (by simp [Value.oneCell']) (by unfold maxLen; omega) (by omega) (by have := HB.out.size; simp [World.setCell, World.drewN]; omega) ?_; intro v' w2 hown1 hgrow1 _))
      have HOW1 := Aside0.mk hown1
      have HGR1 := Aside0.mk hgrow1
      clear hown1 hgrow1 hx' hy hz
      go_roundg (l.length - (i + 1))
      case measure => omega
      case rel =>
        have ho2 : Kd.R (Kd.int .i64) 3 (((wr.drewN nd1).setCell ⟨gp, i, none⟩ (.int .i64 q)).alloc (.cells #[.int .i64 i, .int .i64 r] 101)) w.heap.size (fun _ => True) (.slice (some ⟨gp, 0, none⟩) l.length cp) (preQ N S l (i + 1)) := by
          have := Kd.R_putn (Kd.R_drewN HO.out nd1) (i : Int) q
          rw [Int.toNat_natCast, HQ.out, preQ_set] at this
          rw [HQ.out]
          exact Kd.R_alloc this _
        have hb2 : Below w.heap.size w (((wr.drewN nd1).setCell ⟨gp, i, none⟩ (.int .i64 q)).alloc (.cells #[.int .i64 i, .int .i64 r] 101)) := ((below_draws HB.out nd1).setCell HG.out _).alloc (by have := HB.out.size; simp [World.setCell, World.drewN]; omega) _
        have hw2 := (own_put (W := wr.drewN nd1) (i := i) (own_move HR.out (fun _ _ => rfl)) HCE.out (by decide) (.int .i64 q)).alloc (.cells #[.int .i64 i, .int .i64 r] 101)
        refine ⟨i + 1, by first | rfl | simp, by rw [HSUM.out, ← HSS.out, ← HQ.out]; first | rfl | (congr 1; omega), hlt, Nat.le_refl _, ⟨Kd.R_over' ho2 (fun k hk => own_typed hw2 k hk) (by decide) HGR1.out⟩, ⟨by rw [restC_succ, ← HRR.out]; exact HOW1.out⟩, ⟨hb2.grown HGR1.out (by have := HB.out.size; simp [World.setCell, World.drewN]; omega) (fun k hk => own_base hw2 k hk)⟩⟩
    · obtain rfl : i = l.length := by omega
      have hltz : ¬ (l.length : Int) < (l.length : Int) := by omega
      -- the sort
      obtain ⟨d, hd⟩ : ∃ d, d = restsA l.length (shR N S (at_ l)) := ⟨_, rfl⟩
      have hds : d.size = l.length := by rw [hd, restsA_size]
      have hdl : d.toList = (List.range l.length).map fun j : Nat => ((j : Int), shR N S (at_ l) j) := by rw [hd]; simp [restsA]
      have hown := HR.out
      obtain ⟨g9, cp9, hv9⟩ : ∃ g9 cp9, u9 = .slice (some ⟨g9, 0, none⟩) l.length cp9 := by
        rcases hown.2 with ⟨_, h0⟩ | ⟨g, cap, cur, rfl, _⟩
        · omega
        · exact ⟨g, cap, rfl⟩
      subst hv9
      obtain ⟨hR9, hc9, hb9⟩ := rst_own (l := d.toList) (by rw [hdl]; exact hown) (by simpa using hds)
      have hlt9 := hR9.lt
      obtain ⟨s, hs⟩ : ∃ s, s = St.stable (ltOf cmpR) l.length d := ⟨_, rfl⟩
      have SR := sorted_rests l.length (shR N S (at_ l)) s (by rw [hs, hd])
      have hrow : RowK encR 2 wr g9 0 d := ⟨fun _ => rfl, fun x v hv => by simp [encR] at hv; rcases hv with rfl | rfl <;> rfl, rst_holds hR9, hlt9⟩
      have hsort := St.sortStable_run 2 aE101 zE101 encR cmpR 95 #[] g9 0 cp9 d wr enters95 l.length hds (cmpLays95 _ _ _ _) hrow (by omega) (rst_holds hR9)
      rw [← hs] at hsort
      have HSO := Aside0.mk hsort
      have HR9 := Aside0.mk hR9
      have HSR := Aside0.mk SR
      have HDS := Aside0.mk hds
      have H9B := Aside0.mk hb9
      have H9L := Aside0.mk hlt9
      have HC9 := Aside0.mk hc9
      have H9T := Aside0.mk (own_typed hown g9 rfl)
      have HTL := Aside0.mk HSh.out.left
      clear hsort hR9 SR hds hb9 hlt9 hd hdl hown hs hrow hkx hin HR hc9
      obtain ⟨T, hT⟩ : ∃ T, T = leftN N S l := ⟨_, rfl⟩
      have hTl : (T : Int) = N - sumTo (shQ N S (at_ l)) l.length ∧ T < l.length := by rw [hT]; exact HTL.out
      have HT := Aside0.mk hT
      obtain ⟨hTe, hTn⟩ := hTl
      rw [← hTe]
      clear hT hTe HTL
      have t0 : (0 : Int) ≤ (T : Int) := by omega
      go_upto_region 18 with (first
        | (go_at_call 94; refine HSO.out.mono ?_; rintro e W5 ⟨rfl, hsw⟩))
      obtain ⟨hg5, hR5⟩ := swk_out HR9.out (by rw [HSR.out.1, HDS.out]) hsw
      have ho5 : Kd.R (Kd.int .i64) 3 W5 w.heap.size (fun _ => True) (.slice (some ⟨gp, 0, none⟩) l.length cp) (preQ N S l l.length) := Kd.R_over' (v := .slice (some ⟨g9, 0, none⟩) l.length cp9) (e' := 101) HO.out (fun k hk => by
        obtain rfl : g9 = k := by simpa [Value.ownBlock] using hk
        exact H9T.out) (by decide) hg5
      have hb5 : Below w.heap.size w W5 := HB.out.grown hg5 HB.out.size (fun k e => by cases e; exact H9B.out)
      have ne9 : gp ≠ g9 := fun e => by
        obtain ⟨c2, h2⟩ := Kd.R_typed HO.out gp rfl
        obtain ⟨c3, h3⟩ := H9T.out
        rw [e, h3] at h2
        injection h2 with h2
        injection h2 with _ h2
        exact absurd h2 (by decide)
      rw [preQ_all] at ho5
      have HO5 := Aside0.mk ho5
      have HR5 := Aside0.mk hR5
      have HB5 := Aside0.mk hb5
      have HNE := Aside0.mk ne9
      have hcz : (T : Int) ≤ (cp9 : Int) := by have := HC9.out; omega
      have tz : ((T : Int)).toNat = T := Int.toNat_natCast T
      clear hg5 ho5 hR5 hb5 ne9 hsw HO HB
      go_wp2
      clear tz hcz
      go_loopg [67] T (fun kx v67 wx => ∃ (t : Nat), v67 = .int .i64 t ∧ t ≤ T ∧ T - t ≤ kx ∧ Aside0 (Kd.R (Kd.int .i64) 3 wx w.heap.size (fun _ => True) (.slice (some ⟨gp, 0, none⟩) l.length cp) (tab l.length (appF N S l t))) ∧ Aside0 (Rst wx g9 s.toList) ∧ Aside0 (Below w.heap.size w wx))
      case atStart => exact ⟨0, rfl, Nat.zero_le _, by omega, HO5, HR5, HB5⟩
      case round =>
        clear HO5 HR5 HB5
        obtain ⟨t, rfl, htT, hkx, HO, HR, HB⟩ := hrel
        by_cases hlt2 : t < T
        · have hz2 : (t : Int) < (T : Int) := by omega
          have hp2 : (0 : Int) ≤ (t : Int) := by omega
          obtain ⟨b, hb1, hb2, hb3⟩ := HSR.out.2 t (by omega)
          have hx : s.toList[t]? = some ((b : Int), shR N S (at_ l) b) := by
            have hts : t < s.size := by rw [HSR.out.1]; omega
            rw [List.getElem?_eq_getElem (by simpa using hts), ← hb1, getElem!_pos s t hts]
            simp
          obtain ⟨x0, x1⟩ := HR.out.cell hx
          have hbz : (b : Int) < (l.length : Int) := by omega
          have hbp : (0 : Int) ≤ (b : Int) := by omega
          obtain ⟨hy, hz⟩ := Kd.R_celln 0 HO.out (b : Int) hbp hbz
          rw [Int.toNat_natCast] at hy hz
          have er : rdOf (0 : Int) (tab l.length (appF N S l t)) (b : Int) = appF N S l t b := by
            show rd _ _ = _
            rw [rd_nat, at_tab hb2]
          rw [er] at hy
          obtain ⟨f, hf⟩ : ∃ f, f = appF N S l t b := ⟨_, rfl⟩
          have hfb : 0 ≤ f ∧ f ≤ 1125899906842625 := by
            have := HSh.out.q b hb2
            have := HSh.out.n1
            rw [hf]; unfold appF
            split <;> omega
          obtain ⟨rb, hrb⟩ : ∃ x, x = shR N S (at_ l) b := ⟨_, rfl⟩
          rw [← hf] at hy
          rw [← hrb] at x1
          have HF := Aside0.mk hf
          have HBB := Aside0.mk (And.intro hb2 hb3)
          have gpl : gp < wr.heap.size := by
            obtain ⟨c2, h2⟩ := Kd.R_typed HO.out gp rfl
            exact blk_lt h2
          clear hf hb1 hb3 hx er hrb
          go_wp2
          have HGL := Aside0.mk gpl
          clear gpl x0 x1 hy hz
          go_roundg (T - (t + 1))
          case measure => omega
          case rel =>
            have ho2 := Kd.R_putn HO.out (b : Int) (f + 1)
            rw [Int.toNat_natCast, HF.out, appF_next HBB.out.1 HBB.out.2] at ho2
            refine ⟨t + 1, by first | rfl | simp, hlt2, Nat.le_refl _, ⟨by rw [HF.out]; exact Kd.R_alloc ho2 _⟩, ⟨?_⟩, ⟨(HB.out.setCell HG.out _).alloc (by have := HB.out.size; simp [World.setCell]; omega) _⟩⟩
            exact (HR.out.of_eq (Below.heap_setCell _ _ _ g9 (Ne.symm HNE.out))).of_eq (Below.heap_alloc _ _ _ (by have := HR.out.lt; simp [World.setCell]; omega))
        · obtain rfl : t = T := by omega
          have hz2 : ¬ (t : Int) < (t : Int) := by omega
          go_wp2
          go_ret2
          exact ⟨_, rfl, by rw [← HT.out]; exact HO.out, HB.out⟩
theorem appF_zero (l : List Int) : tab l.length (appF 0 0 l (leftN 0 0 l)) = List.replicate l.length (0 : Int) := by
  rw [tab_replicate]
  have q : ∀ i, shQ 0 0 (at_ l) i = 0 := fun i => by unfold shQ; simp
  have e : leftN 0 0 l = 0 := by
    unfold leftN
    have : ∀ n, sumTo (shQ 0 0 (at_ l)) n = 0 := by
      intro n
      induction n with
      | zero => rfl
      | succ n ih => show sumTo _ n + _ = 0; rw [ih, q]; rfl
    rw [this]; rfl
  rw [e]
  refine tab_congr fun i hi => ?_
  unfold appF
  rw [q, if_neg (by omega)]
  rfl
set_option maxHeartbeats 4000000 in
set_option maxRecDepth 1000000 in
theorem apportion_none (N : Int) (l : List Int) (A1 : Option Addr) (c1 : Nat) (w : World) (hn : (weigh N l).2 ≠ 0) (hr1 : Kd.C (Kd.int .i64) w A1 l.length l) (hc1 : l.length ≤ c1) :
    Calls Tryd.prog 47 #[.int .i64 N, .slice A1 l.length c1] w fun e w' => e = .returned (.tuple #[.slice none 0 0, .int .i64 (weigh N l).2]) ∧ ∃ n, w' = w.drewN n := by
  obtain ⟨kw, hkw⟩ := (weighed_ok N l).rounds
  generalize weigh N l = we at hn hkw ⊢
  obtain ⟨S, E⟩ := we
  replace hn : E ≠ 0 := hn
  show Calls _ _ _ _ fun e w' => e = .returned (.tuple #[.slice none 0 0, .int .i64 E]) ∧ _
  have HR1 := Aside0.mk hr1
  have HC1 := Aside0.mk hc1
  have HW := Aside0.mk hkw
  have hz : (E == 0) = false := beq_eq_false_iff_ne.mpr hn
  have hz2 : (E != 0) = true := bne_iff_ne.mpr hn
  clear hr1 hc1 hkw hn
  go_enter Tryd.func47, Tryd.ntmps47
  go_wp2_with (first
    | (go_at_call 92; refine (num_weighed.calls kw N A1 c1 l S E _ HR1.out HC1.out HW.out).mono ?_; rintro e w' ⟨rfl, ⟨nd, rfl⟩⟩))
  go_ret2
  exact ⟨rfl, nd, rfl⟩
set_option maxHeartbeats 4000000 in
set_option maxRecDepth 1000000 in
theorem apportion_zero (l : List Int) (A1 : Option Addr) (c1 : Nat) (w : World) (hfew : l.length ≤ 256) (hw : weigh 0 l = (0, 0)) (hr1 : Kd.C (Kd.int .i64) w A1 l.length l) (hc1 : l.length ≤ c1) :
    Calls Tryd.prog 47 #[.int .i64 0, .slice A1 l.length c1] w fun e w' => ∃ v0_ : Value, e = .returned (.tuple #[v0_, .int .i64 0]) ∧ Kd.R (Kd.int .i64) 3 w' w.heap.size (fun _ => True) v0_ (List.replicate l.length (0 : Int)) ∧ Below w.heap.size w w' := by
  obtain ⟨kw, hkw⟩ := (weighed_ok 0 l).rounds
  rw [hw] at hkw
  have HR1 := Aside0.mk hr1
  have HC1 := Aside0.mk hc1
  have HW := Aside0.mk hkw
  have HB := Aside0.mk (Below.refl w.heap.size w)
  clear hr1 hc1 hkw hw
  have p0 : (0 : Int) ≤ (l.length : Int) := by omega
  have p1 : ((l.length : Int)).toNat ≤ 35184372088832 := by omega
  have P0 := Aside0.mk p0
  have P1 := Aside0.mk p1
  clear p0 p1
  go_enter Tryd.func47, Tryd.ntmps47
  go_wp2_with (first
    | (go_at_call 92; refine (num_weighed.calls kw 0 A1 c1 l 0 0 _ HR1.out HC1.out HW.out).mono ?_; rintro e w' ⟨rfl, ⟨nd, rfl⟩⟩)
    | ((with_reducible refine gate_dst (N := 28) rfl ?_); refine Kd.R_make (Kd.int .i64) _ 3 rfl (N := 28) rfl 29 _ _ rfl (l.length : Int) rfl rfl Tryd.underlying29 (.int .i64 0) 8 info3 rfl (by decide) (by omega) 0 (ok := fun _ => True) (okp := fun _ => True) rfl (fun _ hk => hk) trivial P0.out (Nat.le_trans (Nat.mul_le_mul_right _ P1.out) (by omega)) (Below.refl _ _) (Nat.le_refl _) ?_; intro v8 w8 ho9 hb hg_ hnew_))
  clear hg_ hnew_
  have ho8 : Kd.R (Kd.int .i64) 3 w8 w.heap.size (fun _ => True) v8 (List.replicate l.length (0 : Int)) := by
    rw [Int.toNat_natCast] at ho9
    exact Kd.R_lower ho9 (below_size (pw_below_drewN HB.out _))
  have hB8 : Below w.heap.size w w8 := below_step (pw_below_drewN HB.out _) hb
  clear ho9 hb HB
  go_ret2
  exact ⟨_, rfl, ho8, hB8⟩
end Go.Proofs.Num
namespace Go.Proofs.YtdjnneflpkllmaaDoor.Q
open Go.RowKit Go.Proofs.YtdjnneflpkllmaaDoorW.PrintWords Go.Proofs.YtdjnneflpkllmaaDoorW.PrintLast Go.Proofs.YtdjnneflpkllmaaDoorW.PrintMore Go.Proofs.Num
def num_Apportion.f (_k : Nat) (a0 : Int) (l1 : List Int) : Option (List Int × Int) := some (apportion a0 l1)
theorem num_Apportion.mono : ∀ a0 a1 k, LeO (num_Apportion.f k a0 a1) (num_Apportion.f (k + 1) a0 a1) := fun _ _ _ => LeO.refl _
theorem num_Apportion.calls (k : Nat) (a0 : Int) (A1 : Option Addr) (c1 : Nat) (l1 : List Int) (r1 : List Int) (r2 : Int) (w : World) (hr1 : Kd.C (Kd.int .i64) w A1 l1.length l1) (hc1 : l1.length ≤ c1) (h : num_Apportion.f k a0 l1 = some (r1, r2)) :
    Calls Tryd.prog 47 #[.int .i64 a0, .slice A1 l1.length c1] w fun e w' => ∃ v0_ : Value, e = .returned (.tuple #[v0_, .int .i64 r2]) ∧ Kd.R (Kd.int .i64) 3 w' w.heap.size (fun _ => True) v0_ r1 ∧ Below w.heap.size w w' := by
  have h' : apportion a0 l1 = (r1, r2) := by injection h
  clear h
  unfold apportion at h'
  by_cases c : (weigh a0 l1).2 = 0
  · rw [if_pos c] at h'
    injection h' with e1 e2
    subst e1 e2
    obtain ⟨few, n0, n1, ww, hS, hz⟩ := weigh_ok c
    have hp : weigh a0 l1 = (sumTo (at_ l1) l1.length, 0) := Prod.ext hS c
    rw [hS]
    by_cases s0 : sumTo (at_ l1) l1.length = 0
    · obtain rfl := hz s0
      rw [s0] at hp ⊢
      rw [appF_zero]
      exact apportion_zero l1 A1 c1 w few hp hr1 hc1
    · have sp := sumTo_nonneg (p := at_ l1) (n := l1.length) (fun i hi => (ww i hi).1)
      exact apportion_main a0 _ l1 A1 c1 w ⟨n0, n1, few, ww, rfl, by omega⟩ hp hr1 hc1
  · rw [if_neg c] at h'
    injection h' with e1 e2
    subst e1 e2
    refine (apportion_none a0 l1 A1 c1 w c hr1 hc1).mono ?_
    rintro e w' ⟨rfl, n, rfl⟩
    exact ⟨_, rfl, Kd.R_nil _ _ _ _ _, pw_below_drewN (Below.refl _ _) n⟩
end Go.Proofs.YtdjnneflpkllmaaDoor.Q

namespace Go.Proofs.YtdjnneflpkllmaaDoor.Q
open Go.RowKit Go.Proofs.YtdjnneflpkllmaaDoorW.PrintWords Go.Proofs.YtdjnneflpkllmaaDoorW.PrintLast Go.Proofs.YtdjnneflpkllmaaDoorW.PrintMore
attribute [local go_sem] max2_int min2_int max_two min_two max_three min_three max_four min_four   -- for this text's walks alone
set_option linter.unusedVariables false
set_option linter.unusedSimpArgs false
mutual
def merinolaw01_NumScaled.l0 : Nat → Int → List Int → Int → List Int → Int → Option (Bool)
  | 0, _, _, _, _, _ => none
  | k + 1, x0, x1, x7, x8, x9 => if x9 < (x1.length : Int) then (if 0 ≤ x9 then (if (rd x1 x9) < 0 then ((merinolaw01_alive.f).bind fun t1021 => (some t1021)) else (if (rd x1 x9) > 21474836 then ((merinolaw01_alive.f).bind fun t1023 => (some t1023)) else (if x8.length < 17592186044416 then (merinolaw01_NumScaled.l0 k x0 x1 x7 (x8 ++ [wrap64 ((rd x1 x9) * x7)]) (wrap64 (x9 + 1))) else (none)))) else (none)) else ((num_Apportion.f k x0 x1).bind fun bt1028 => ((num_Apportion.f k x0 x8).bind fun bt1032 => ((num_Divide.f k x0 x1).bind fun bt1036 => (if x8.length < 17592186044416 then ((num_Divide.f k x0 (x8 ++ [0])).bind fun bt1043 => (if bt1028.2 = bt1032.2 then (if bt1028.2 = bt1036.2 then (if bt1028.2 = bt1043.2 then ((merinolaw01_same.f k bt1028.1 bt1032.1).bind fun t1047 => (merinolaw01_NumScaled.j1 k bt1028.1 bt1028.2 bt1036.1 bt1043.1 (!t1047))) else (merinolaw01_NumScaled.j1 k bt1028.1 bt1028.2 bt1036.1 bt1043.1 true)) else (merinolaw01_NumScaled.j1 k bt1028.1 bt1028.2 bt1036.1 bt1043.1 true)) else (merinolaw01_NumScaled.j1 k bt1028.1 bt1028.2 bt1036.1 bt1043.1 true))) else (none)))))
def merinolaw01_NumScaled.j1 : Nat → List Int → Int → List Int → List Int → Bool → Option (Bool)
  | 0, _, _, _, _, _ => none
  | k + 1, x10, x11, x14, x16, x98 => if x98 = true then (some false) else (if x11 = 0 then (if (x16.length : Int) = (wrap64 ((x14.length : Int) + 1)) then (if 0 ≤ (x14.length : Int) then (if (x14.length : Int) ≤ (x16.length : Int) then ((merinolaw01_same.f k x14 (x16.take ((x14.length : Int) : Int).toNat)).bind fun t1052 => (if t1052 = true then (if (x14.length : Int) < (x16.length : Int) then (if (rd x16 (x14.length : Int)) = 0 then ((merinolaw01_alive.f).bind fun t1054 => (some t1054)) else (some false)) else (none)) else (some false))) else (none)) else (none)) else (some false)) else (if (x10.length : Int) = 0 then (if (x14.length : Int) = 0 then (if (x16.length : Int) = 0 then ((merinolaw01_alive.f).bind fun t1055 => (some t1055)) else (some false)) else (some false)) else (some false)))
end
def merinolaw01_NumScaled.f (k : Nat) (a0 : Int) (l1 : List Int) (a2 : Int) : Option (Bool) := if (l1.length : Int) > 200 then ((merinolaw01_alive.f).bind fun t1019 => (some t1019)) else (merinolaw01_NumScaled.l0 k a0 l1 (wrap64 (1 + (Int.tmod (wrap64 (a2)) 50))) ([] : List Int) 0)
theorem merinolaw01_NumScaled.mono_l : ∀ k, (∀ y0 y1 y2 y3 y4, LeO (merinolaw01_NumScaled.l0 k y0 y1 y2 y3 y4) (merinolaw01_NumScaled.l0 (k + 1) y0 y1 y2 y3 y4)) ∧ (∀ y0 y1 y2 y3 y4, LeO (merinolaw01_NumScaled.j1 k y0 y1 y2 y3 y4) (merinolaw01_NumScaled.j1 (k + 1) y0 y1 y2 y3 y4))
  | 0 => ⟨fun _ _ _ _ _ r h => by simp [merinolaw01_NumScaled.l0] at h, fun _ _ _ _ _ r h => by simp [merinolaw01_NumScaled.j1] at h⟩
  | k + 1 => by
    obtain ⟨ih0, ih1⟩ := merinolaw01_NumScaled.mono_l k
    refine ⟨?_, ?_⟩
    · intro y0 y1 y2 y3 y4
      unfold merinolaw01_NumScaled.l0
      repeat' first
      | (with_reducible exact ih0 _ _ _ _ _)
      | (with_reducible exact ih1 _ _ _ _ _)
      | (with_reducible exact merinolaw01_same.mono _ _ _)
      | (with_reducible exact num_Apportion.mono _ _ _)
      | (with_reducible exact num_Divide.mono _ _ _)
      | (with_reducible exact LeO.refl _)
      | (with_reducible exact LeO.none _)
      | (with_reducible refine LeO.ite ?_ ?_)
      | (with_reducible refine LeO.bind ?_ (fun _ => ?_))
      | exact ih0 _ _ _ _ _
      | exact ih1 _ _ _ _ _
      | exact merinolaw01_same.mono _ _ _
      | exact num_Apportion.mono _ _ _
      | exact num_Divide.mono _ _ _
      | exact LeO.none _
      | refine LeO.ite ?_ ?_
      | refine LeO.bind ?_ (fun _ => ?_)
    · intro y0 y1 y2 y3 y4
      unfold merinolaw01_NumScaled.j1
      repeat' first
      | (with_reducible exact ih0 _ _ _ _ _)
      | (with_reducible exact ih1 _ _ _ _ _)
      | (with_reducible exact merinolaw01_same.mono _ _ _)
      | (with_reducible exact num_Apportion.mono _ _ _)
      | (with_reducible exact num_Divide.mono _ _ _)
      | (with_reducible exact LeO.refl _)
      | (with_reducible exact LeO.none _)
      | (with_reducible refine LeO.ite ?_ ?_)
      | (with_reducible refine LeO.bind ?_ (fun _ => ?_))
      | exact ih0 _ _ _ _ _
      | exact ih1 _ _ _ _ _
      | exact merinolaw01_same.mono _ _ _
      | exact num_Apportion.mono _ _ _
      | exact num_Divide.mono _ _ _
      | exact LeO.none _
      | refine LeO.ite ?_ ?_
      | refine LeO.bind ?_ (fun _ => ?_)
theorem merinolaw01_NumScaled.mono : ∀ a0 a1 a2 k, LeO (merinolaw01_NumScaled.f k a0 a1 a2) (merinolaw01_NumScaled.f (k + 1) a0 a1 a2) := by
  intro a0 a1 a2 k
  obtain ⟨ih0, ih1⟩ := merinolaw01_NumScaled.mono_l k
  unfold merinolaw01_NumScaled.f
  repeat' first
      | (with_reducible exact ih0 _ _ _ _ _)
      | (with_reducible exact ih1 _ _ _ _ _)
      | (with_reducible exact merinolaw01_same.mono _ _ _)
      | (with_reducible exact num_Apportion.mono _ _ _)
      | (with_reducible exact num_Divide.mono _ _ _)
      | (with_reducible exact LeO.refl _)
      | (with_reducible exact LeO.none _)
      | (with_reducible refine LeO.ite ?_ ?_)
      | (with_reducible refine LeO.bind ?_ (fun _ => ?_))
      | exact ih0 _ _ _ _ _
      | exact ih1 _ _ _ _ _
      | exact merinolaw01_same.mono _ _ _
      | exact num_Apportion.mono _ _ _
      | exact num_Divide.mono _ _ _
      | exact LeO.none _
      | refine LeO.ite ?_ ?_
      | refine LeO.bind ?_ (fun _ => ?_)
set_option maxHeartbeats 8000000 in
set_option maxRecDepth 100000 in
theorem merinolaw01_NumScaled.calls (k : Nat) (a0 : Int) (A1 : Option Addr) (c1 : Nat) (l1 : List Int) (a2 : Int) (r : Bool) (w : World) (hr1 : Kd.C (Kd.int .i64) w A1 l1.length l1) (hc1 : l1.length ≤ c1) (h : merinolaw01_NumScaled.f k a0 l1 a2 = some r) :
    Calls Tryd.prog 13 #[.int .i64 a0, .slice A1 l1.length c1, .int .u8 a2] w fun e w' => e = .returned (.bool r) ∧ Below w.heap.size w w' := by
  have HR1 := Aside0.mk hr1
  have HC1 := Aside0.mk hc1
  clear hr1 hc1
  have HB := Aside0.mk (Below.refl w.heap.size w)
  have H : (if (l1.length : Int) > 200 then ((merinolaw01_alive.f).bind fun t1019 => (some t1019)) else (merinolaw01_NumScaled.l0 k a0 l1 (wrap64 (1 + (Int.tmod (wrap64 (a2)) 50))) ([] : List Int) 0)) = some r := h
  clear h
  by_cases c4 : (l1.length : Int) > 200
  · rw [if_pos c4] at H
    have c4b0 : decide (200 < (l1.length : Int)) = true := decide_eq_true c4
    have c4b1 : decide (200 < l1.length) = true := decide_eq_true (by omega)
    clear c4
    replace H := Option.bind_eq_some_iff.mp H
    obtain ⟨t1019, A50, H⟩ := H
    replace H : (some t1019) = some r := H
    have A5 := Aside0.mk A50
    clear A50
    obtain rfl := Option.some.inj H
    go_enter Tryd.func13, Tryd.ntmps13
    go_wp2_with (first | ((with_reducible refine gate_callee (f := 21) rfl ?_); refine goesL_ (some 21) rfl rfl Tryd.func21 (by kernel_rfl) rfl #[] rfl (by (try simp only [List.map_toArray, List.map_cons, List.map_nil]); first | done | rfl | (simp only [List.length_drop, List.length_take]; rfl)) ?_; (with_reducible refine (merinolaw01_alive.calls  t1019 _ A5.out).mono ?_); rintro e w6 ⟨rfl, hb⟩; refine ⟨_, rfl, ?_⟩; have n0_ := Aside0.mk (below_step (by repeat (first | (with_reducible first | exact HB.out | apply below_alloc | apply pw_below_drewN | apply below_drew1) | exact HB.out)) hb); clear HB; have HB := n0_; clear n0_; (try clear hb); (try clear hb2); (try clear hk); (try clear hi)))
    go_ret
    exact ⟨by first | rfl | (simp [errW_none, errW_some] <;> rfl) | (simp [*, errW_none, errW_some] <;> rfl), by repeat (first | (with_reducible first | exact HB.out | apply below_alloc | apply pw_below_drewN | apply below_drew1) | exact HB.out)⟩
  · rw [if_neg c4] at H
    have c4b0 : decide (200 < (l1.length : Int)) = false := decide_eq_false c4
    have c4b1 : decide (200 < l1.length) = false := decide_eq_false (by omega)
    clear c4
    have H' := Aside0.mk H
    clear H
    go_enter Tryd.func13, Tryd.ntmps13
    go_wp2
    go_loopg [8, 9] k (fun kq v8 v9 w' => ∃ (x8_1 : List Int) (x9_1 : Int), v9 = .int .i64 x9_1 ∧ Aside0 (merinolaw01_NumScaled.l0 kq a0 l1 (wrap64 (1 + (Int.tmod (wrap64 (a2)) 50))) x8_1 x9_1 = some r) ∧ Aside0 (kq ≤ k) ∧ Aside0 (Kd.R (Kd.int .i64) 3 w' w.heap.size (fun _ => True) v8 x8_1) ∧ Aside0 (Below w.heap.size w w'))
    case atStart => exact ⟨(([] : List Int)), (0), (by first | rfl | (simp; done) | (simp [*]; done)), H', ⟨Nat.le_refl _⟩, ⟨by first | exact Kd.R_nil _ _ _ _ _ | exact Kd.N_nil _ _ _ _ _ | exact Kd.V_nil _ _ _ _ _ | exact Kd.Q_nil _ _ _ _ _ | exact Kd.S_nil _ _ _ _ _⟩, ⟨by repeat (first | (with_reducible first | exact HB.out | apply below_alloc | apply pw_below_drewN | apply below_drew1) | exact HB.out)⟩⟩
    case round =>
      clear H'
      try clear c1
      try clear c2
      try clear p2
      try clear c4
      try clear c4b0
      try clear c4b1
      try clear p6
      obtain ⟨x8_1, x9_1, rfl, HA, HK1, HO_8, HB⟩ := hrel
      cases gk with
      | zero => exact absurd HA.out (by simp [merinolaw01_NumScaled.l0])
      | succ k1 =>
        have H := HA.out
        clear HA
        simp only [merinolaw01_NumScaled.l0] at H
        by_cases c7 : x9_1 < (l1.length : Int)
        · rw [if_pos c7] at H
          have c7b0 : decide (x9_1 < (l1.length : Int)) = true := decide_eq_true c7
          clear c7
          by_cases c8 : 0 ≤ x9_1
          · rw [if_pos c8] at H
            have c8b0 : decide (0 ≤ x9_1) = true := decide_eq_true c8
            clear c8
            by_cases c9 : (rd l1 x9_1) < 0
            · rw [if_pos c9] at H
              have c9b0 : decide ((rd l1 x9_1) < 0) = true := decide_eq_true c9
              clear c9
              replace H := Option.bind_eq_some_iff.mp H
              obtain ⟨t1021, A100, H⟩ := H
              replace H : (some t1021) = some r := H
              have A10 := Aside0.mk A100
              clear A100
              obtain rfl := Option.some.inj H
              have p1020 : 0 ≤ (x9_1 : Int) := of_decide_eq_true (by first | (with_reducible assumption) | assumption)
              have q1020 : x9_1 < (l1.length : Int) := of_decide_eq_true (by first | (with_reducible assumption) | assumption)
              obtain ⟨ad1020, e1020, hx1020_0⟩ := Kd.at_int HR1.out x9_1 p1020 q1020
              cases e1020
              replace hx1020_0 := (HB.out.cell (World.block_lt_of_cell? w _ hx1020_0)).trans hx1020_0
              replace p1020 := eq_true p1020
              replace q1020 := eq_true q1020
              go_wp2_with (first | ((with_reducible refine gate_callee (f := 21) rfl ?_); refine goesL_ (some 44) rfl rfl Tryd.func21 (by kernel_rfl) rfl #[] rfl (by (try simp only [List.map_toArray, List.map_cons, List.map_nil]); first | done | rfl | (simp only [List.length_drop, List.length_take]; rfl)) ?_; (with_reducible refine (merinolaw01_alive.calls  t1021 _ A10.out).mono ?_); rintro e w11 ⟨rfl, hb⟩; refine ⟨_, rfl, ?_⟩; have n0_ := Aside0.mk (Kd.R_below (by (with_reducible repeat (first | apply Kd.R_alloc | apply Kd.R_drewN | apply Kd.R_drew)); exact HO_8.out) hb); have n1_ := Aside0.mk (below_step (by repeat (first | (with_reducible first | exact HB.out | apply below_alloc | apply pw_below_drewN | apply below_drew1) | exact HB.out)) hb); clear HO_8; clear HB; have HO_8 := n0_; have HB := n1_; clear n0_ n1_; (try clear hb); (try clear hb2); (try clear hk); (try clear hi)))
              go_ret
              exact ⟨by first | rfl | (simp [errW_none, errW_some] <;> rfl) | (simp [*, errW_none, errW_some] <;> rfl), by repeat (first | (with_reducible first | exact HB.out | apply below_alloc | apply pw_below_drewN | apply below_drew1) | exact HB.out)⟩
            · rw [if_neg c9] at H
              have c9b0 : decide ((rd l1 x9_1) < 0) = false := decide_eq_false c9
              clear c9
              by_cases c12 : (rd l1 x9_1) > 21474836
              · rw [if_pos c12] at H
                have c12b0 : decide (21474836 < (rd l1 x9_1)) = true := decide_eq_true c12
                clear c12
                replace H := Option.bind_eq_some_iff.mp H
                obtain ⟨t1023, A130, H⟩ := H
                replace H : (some t1023) = some r := H
                have A13 := Aside0.mk A130
                clear A130
                obtain rfl := Option.some.inj H
                have p1020 : 0 ≤ (x9_1 : Int) := of_decide_eq_true (by first | (with_reducible assumption) | assumption)
                have q1020 : x9_1 < (l1.length : Int) := of_decide_eq_true (by first | (with_reducible assumption) | assumption)
                obtain ⟨ad1020, e1020, hx1020_0⟩ := Kd.at_int HR1.out x9_1 p1020 q1020
                cases e1020
                replace hx1020_0 := (HB.out.cell (World.block_lt_of_cell? w _ hx1020_0)).trans hx1020_0
                replace p1020 := eq_true p1020
                replace q1020 := eq_true q1020
                have p1022 : 0 ≤ (x9_1 : Int) := of_decide_eq_true (by first | (with_reducible assumption) | assumption)
                have q1022 : x9_1 < (l1.length : Int) := of_decide_eq_true (by first | (with_reducible assumption) | assumption)
                obtain ⟨ad1022, e1022, hx1022_0⟩ := Kd.at_int HR1.out x9_1 p1022 q1022
                obtain rfl : ad1020 = ad1022 := (by injection e1022)
                replace hx1022_0 := (HB.out.cell (World.block_lt_of_cell? w _ hx1022_0)).trans hx1022_0
                replace p1022 := eq_true p1022
                replace q1022 := eq_true q1022
                go_wp2_with (first | ((with_reducible refine gate_callee (f := 21) rfl ?_); refine goesL_ (some 44) rfl rfl Tryd.func21 (by kernel_rfl) rfl #[] rfl (by (try simp only [List.map_toArray, List.map_cons, List.map_nil]); first | done | rfl | (simp only [List.length_drop, List.length_take]; rfl)) ?_; (with_reducible refine (merinolaw01_alive.calls  t1023 _ A13.out).mono ?_); rintro e w14 ⟨rfl, hb⟩; refine ⟨_, rfl, ?_⟩; have n0_ := Aside0.mk (Kd.R_below (by (with_reducible repeat (first | apply Kd.R_alloc | apply Kd.R_drewN | apply Kd.R_drew)); exact HO_8.out) hb); have n1_ := Aside0.mk (below_step (by repeat (first | (with_reducible first | exact HB.out | apply below_alloc | apply pw_below_drewN | apply below_drew1) | exact HB.out)) hb); clear HO_8; clear HB; have HO_8 := n0_; have HB := n1_; clear n0_ n1_; (try clear hb); (try clear hb2); (try clear hk); (try clear hi)))
                go_ret
                exact ⟨by first | rfl | (simp [errW_none, errW_some] <;> rfl) | (simp [*, errW_none, errW_some] <;> rfl), by repeat (first | (with_reducible first | exact HB.out | apply below_alloc | apply pw_below_drewN | apply below_drew1) | exact HB.out)⟩
              · rw [if_neg c12] at H
                have c12b0 : decide (21474836 < (rd l1 x9_1)) = false := decide_eq_false c12
                clear c12
                by_cases c15 : x8_1.length < 17592186044416
                · rw [if_pos c15] at H
                  have LMc15 := Aside0.mk c15
                  clear c15
                  obtain ⟨y1025, hy1025⟩ : ∃ y_ : List Int, y_ = (x8_1 ++ [wrap64 ((rd l1 x9_1) * (wrap64 (1 + (Int.tmod (wrap64 (a2)) 50))))]) := ⟨_, rfl⟩
                  replace H : (merinolaw01_NumScaled.l0 k1 a0 l1 (wrap64 (1 + (Int.tmod (wrap64 (a2)) 50))) y1025 (wrap64 (x9_1 + 1))) = some r := by first | (rw [hy1025]; with_reducible exact H) | (have H2_ := (Option.bind_some _ _).symm.trans H; rw [hy1025]; with_reducible exact H2_) | (have H2_ := (Option.bind_some _ _).symm.trans H; with_reducible exact H2_) | with_reducible exact H | (rw [hy1025]; exact H) | exact H
                  have Ny1025 := Aside0.mk hy1025
                  clear hy1025
                  have H' := Aside0.mk H
                  clear H
                  have p1020 : 0 ≤ (x9_1 : Int) := of_decide_eq_true (by first | (with_reducible assumption) | assumption)
                  have q1020 : x9_1 < (l1.length : Int) := of_decide_eq_true (by first | (with_reducible assumption) | assumption)
                  obtain ⟨ad1020, e1020, hx1020_0⟩ := Kd.at_int HR1.out x9_1 p1020 q1020
                  cases e1020
                  replace hx1020_0 := (HB.out.cell (World.block_lt_of_cell? w _ hx1020_0)).trans hx1020_0
                  replace p1020 := eq_true p1020
                  replace q1020 := eq_true q1020
                  have p1022 : 0 ≤ (x9_1 : Int) := of_decide_eq_true (by first | (with_reducible assumption) | assumption)
                  have q1022 : x9_1 < (l1.length : Int) := of_decide_eq_true (by first | (with_reducible assumption) | assumption)
                  obtain ⟨ad1022, e1022, hx1022_0⟩ := Kd.at_int HR1.out x9_1 p1022 q1022
                  obtain rfl : ad1020 = ad1022 := (by injection e1022)
                  replace hx1022_0 := (HB.out.cell (World.block_lt_of_cell? w _ hx1022_0)).trans hx1022_0
                  replace p1022 := eq_true p1022
                  replace q1022 := eq_true q1022
                  have p1024 : 0 ≤ (x9_1 : Int) := of_decide_eq_true (by first | (with_reducible assumption) | assumption)
                  have q1024 : x9_1 < (l1.length : Int) := of_decide_eq_true (by first | (with_reducible assumption) | assumption)
                  obtain ⟨ad1024, e1024, hx1024_0⟩ := Kd.at_int HR1.out x9_1 p1024 q1024
                  obtain rfl : ad1020 = ad1024 := (by injection e1024)
                  replace hx1024_0 := (HB.out.cell (World.block_lt_of_cell? w _ hx1024_0)).trans hx1024_0
                  replace p1024 := eq_true p1024
                  replace q1024 := eq_true q1024
                  go_wp2_with (first | ((with_reducible refine gate_builtin (b := .append) (xs := #[.tmp 45, .tmp 52]) rfl ?_); (try (refine gate_guard (by rfl) ?_; dsimp only)); at_builtin; refine Kd.R_append (Kd.int .i64) (w0 := w) w.heap.size rfl (.tmp 45) (.tmp 52) 29 3 (.int .i64 0) 8 rfl Tryd.underlying29 info3 rfl (by decide) (by omega) u8 x8_1 (wrap64 ((rd l1 x9_1) * (wrap64 (1 + (Int.tmod (wrap64 (a2)) 50))))) [.int .i64 (wrap64 ((rd l1 x9_1) * (wrap64 (1 + (Int.tmod (wrap64 (a2)) 50)))))] (fun _ => True) (fun _ => False) rfl rfl ?aP (fun _ hk => hk.elim) ?aF ?aO ?aB ?aS ?aL ?_; (case aP => exact rfl); (case aB => exact (by repeat (first | (with_reducible first | exact HB.out | apply below_alloc | apply pw_below_drewN | apply below_drew1) | exact HB.out))); (case aF => exact (fun _ _ => trivial)); (case aO => exact (by (with_reducible repeat (first | apply Kd.R_alloc | apply Kd.R_drewN | apply Kd.R_drew)); exact HO_8.out)); (case aS => exact (below_size (by repeat (first | (with_reducible first | exact HB.out | apply below_alloc | apply pw_below_drewN | apply below_drew1) | exact HB.out)))); (case aL => have := LMc15.out; omega); intro v1026 w16 ho hb hg hat; rw [← Ny1025.out] at ho; have n0_ := Aside0.mk (hb); have n1_ := Aside0.mk (ho); clear HB; clear HO_8; have HB := n0_; have HO1027 := n1_; clear n0_ n1_; clear ho hb hg hat))
                  go_roundg k1
                  case measure => have := HK1.out; omega
                  case rel => exact ⟨(y1025), (wrap64 (x9_1 + 1)), (by first | rfl | (simp; done) | (simp [*]; done)), H', ⟨by have := HK1.out; omega⟩, ⟨by (with_reducible repeat (first | apply Kd.R_alloc | apply Kd.R_drewN | apply Kd.R_drew)); exact HO1027.out⟩, ⟨by repeat (first | (with_reducible first | exact HB.out | apply below_alloc | apply pw_below_drewN | apply below_drew1) | exact HB.out)⟩⟩
                · rw [if_neg c15] at H
                  exact absurd H (by simp)
          · rw [if_neg c8] at H
            exact absurd H (by simp)
        · rw [if_neg c7] at H
          have c7b0 : decide (x9_1 < (l1.length : Int)) = false := decide_eq_false c7
          clear c7
          replace H := Option.bind_eq_some_iff.mp H
          obtain ⟨⟨t1028, t1029⟩, A170, H⟩ := H
          replace H : ((num_Apportion.f k1 a0 x8_1).bind fun bt1032 => ((num_Divide.f k1 a0 l1).bind fun bt1036 => (if x8_1.length < 17592186044416 then ((num_Divide.f k1 a0 (x8_1 ++ [0])).bind fun bt1043 => (if t1029 = bt1032.2 then (if t1029 = bt1036.2 then (if t1029 = bt1043.2 then ((merinolaw01_same.f k1 t1028 bt1032.1).bind fun t1047 => (merinolaw01_NumScaled.j1 k1 t1028 t1029 bt1036.1 bt1043.1 (!t1047))) else (merinolaw01_NumScaled.j1 k1 t1028 t1029 bt1036.1 bt1043.1 true)) else (merinolaw01_NumScaled.j1 k1 t1028 t1029 bt1036.1 bt1043.1 true)) else (merinolaw01_NumScaled.j1 k1 t1028 t1029 bt1036.1 bt1043.1 true))) else (none)))) = some r := H
          have A17 := Aside0.mk A170
          clear A170
          replace H := Option.bind_eq_some_iff.mp H
          obtain ⟨⟨t1032, t1033⟩, A180, H⟩ := H
          replace H : ((num_Divide.f k1 a0 l1).bind fun bt1036 => (if x8_1.length < 17592186044416 then ((num_Divide.f k1 a0 (x8_1 ++ [0])).bind fun bt1043 => (if t1029 = t1033 then (if t1029 = bt1036.2 then (if t1029 = bt1043.2 then ((merinolaw01_same.f k1 t1028 t1032).bind fun t1047 => (merinolaw01_NumScaled.j1 k1 t1028 t1029 bt1036.1 bt1043.1 (!t1047))) else (merinolaw01_NumScaled.j1 k1 t1028 t1029 bt1036.1 bt1043.1 true)) else (merinolaw01_NumScaled.j1 k1 t1028 t1029 bt1036.1 bt1043.1 true)) else (merinolaw01_NumScaled.j1 k1 t1028 t1029 bt1036.1 bt1043.1 true))) else (none))) = some r := H
          have A18 := Aside0.mk A180
          clear A180
          replace H := Option.bind_eq_some_iff.mp H
          obtain ⟨⟨t1036, t1037⟩, A190, H⟩ := H
          replace H : (if x8_1.length < 17592186044416 then ((num_Divide.f k1 a0 (x8_1 ++ [0])).bind fun bt1043 => (if t1029 = t1033 then (if t1029 = t1037 then (if t1029 = bt1043.2 then ((merinolaw01_same.f k1 t1028 t1032).bind fun t1047 => (merinolaw01_NumScaled.j1 k1 t1028 t1029 t1036 bt1043.1 (!t1047))) else (merinolaw01_NumScaled.j1 k1 t1028 t1029 t1036 bt1043.1 true)) else (merinolaw01_NumScaled.j1 k1 t1028 t1029 t1036 bt1043.1 true)) else (merinolaw01_NumScaled.j1 k1 t1028 t1029 t1036 bt1043.1 true))) else (none)) = some r := H
          have A19 := Aside0.mk A190
          clear A190
          by_cases c20 : x8_1.length < 17592186044416
          · rw [if_pos c20] at H
            have LMc20 := Aside0.mk c20
            clear c20
            obtain ⟨y1040, hy1040⟩ : ∃ y_ : List Int, y_ = (x8_1 ++ [0]) := ⟨_, rfl⟩
            replace H : ((num_Divide.f k1 a0 y1040).bind fun bt1043 => (if t1029 = t1033 then (if t1029 = t1037 then (if t1029 = bt1043.2 then ((merinolaw01_same.f k1 t1028 t1032).bind fun t1047 => (merinolaw01_NumScaled.j1 k1 t1028 t1029 t1036 bt1043.1 (!t1047))) else (merinolaw01_NumScaled.j1 k1 t1028 t1029 t1036 bt1043.1 true)) else (merinolaw01_NumScaled.j1 k1 t1028 t1029 t1036 bt1043.1 true)) else (merinolaw01_NumScaled.j1 k1 t1028 t1029 t1036 bt1043.1 true))) = some r := by first | (rw [hy1040]; with_reducible exact H) | (have H2_ := (Option.bind_some _ _).symm.trans H; rw [hy1040]; with_reducible exact H2_) | (have H2_ := (Option.bind_some _ _).symm.trans H; with_reducible exact H2_) | with_reducible exact H | (rw [hy1040]; exact H) | exact H
            have Ny1040 := Aside0.mk hy1040
            clear hy1040
            replace H := Option.bind_eq_some_iff.mp H
            obtain ⟨⟨t1043, t1044⟩, A210, H⟩ := H
            replace H : (if t1029 = t1033 then (if t1029 = t1037 then (if t1029 = t1044 then ((merinolaw01_same.f k1 t1028 t1032).bind fun t1047 => (merinolaw01_NumScaled.j1 k1 t1028 t1029 t1036 t1043 (!t1047))) else (merinolaw01_NumScaled.j1 k1 t1028 t1029 t1036 t1043 true)) else (merinolaw01_NumScaled.j1 k1 t1028 t1029 t1036 t1043 true)) else (merinolaw01_NumScaled.j1 k1 t1028 t1029 t1036 t1043 true)) = some r := H
            have A21 := Aside0.mk A210
            clear A210
            have HC22 := Aside0.mk H
            clear H
            go_upto_region 15 with (first | ((with_reducible refine gate_callee (f := 47) rfl ?_); refine goesL_ (some 57) rfl rfl Tryd.func47 (by kernel_rfl) rfl #[.int .i64 a0, .slice A1 l1.length c1] rfl (by (try simp only [List.map_toArray, List.map_cons, List.map_nil]); first | done | rfl | (simp only [List.length_drop, List.length_take]; rfl)) ?_; (with_reducible refine (num_Apportion.calls k1 a0 _ _ l1 t1028 t1029 _ ?side1 ?side2 A17.out).mono ?_); (case side1 => repeat (first | exact (Kd.C_below HR1.out HB.out) | (with_reducible refine Kd.C_alloc ?_ _) | (with_reducible refine Kd.C_drewN ?_ _) | (with_reducible refine Kd.C_drew ?_))); (case side2 => exact HC1.out); rintro e w23 ⟨v1030, rfl, ho0, hb⟩; refine ⟨_, rfl, ?_⟩; have n0_ := Aside0.mk (Kd.R_elder' (by (with_reducible repeat (first | apply Kd.R_alloc | apply Kd.R_drewN | apply Kd.R_drew)); exact HO_8.out) (Kd.R_base ho0) hb); have n1_ := Aside0.mk (Kd.R_lower (Kd.R_new' ho0 (Kd.R_lt (by (with_reducible repeat (first | apply Kd.R_alloc | apply Kd.R_drewN | apply Kd.R_drew)); exact HO_8.out))) (below_size (by repeat (first | (with_reducible first | exact HB.out | apply below_alloc | apply pw_below_drewN | apply below_drew1) | exact HB.out)))); have n2_ := Aside0.mk (below_step (by repeat (first | (with_reducible first | exact HB.out | apply below_alloc | apply pw_below_drewN | apply below_drew1) | exact HB.out)) hb); clear HO_8; clear HB; have HO_8 := n0_; have HO1031 := n1_; have HB := n2_; clear n0_ n1_ n2_; (try clear hb); (try clear hb2); (try clear hk); (try clear hi); (try clear ho0); obtain ⟨Ao24, co24, eo24⟩ := Kd.R_slice HO_8.out; subst eo24) | ((with_reducible refine gate_callee (f := 47) rfl ?_); refine goesL_ (some 63) rfl rfl Tryd.func47 (by kernel_rfl) rfl #[.int .i64 a0, .slice Ao24 x8_1.length co24] rfl (by (try simp only [List.map_toArray, List.map_cons, List.map_nil]); first | done | rfl | (simp only [List.length_drop, List.length_take]; rfl)) ?_; (with_reducible refine (num_Apportion.calls k1 a0 _ _ x8_1 t1032 t1033 _ ?side1 ?side2 A18.out).mono ?_); (case side1 => repeat (first | exact (Kd.R_reads' HO_8.out).2.2 | (with_reducible refine Kd.C_alloc ?_ _) | (with_reducible refine Kd.C_drewN ?_ _) | (with_reducible refine Kd.C_drew ?_))); (case side2 => exact (Kd.R_reads' HO_8.out).2.1); rintro e w25 ⟨v1034, rfl, ho0, hb⟩; refine ⟨_, rfl, ?_⟩; have n0_ := Aside0.mk (Kd.R_elder' (by (with_reducible repeat (first | apply Kd.R_alloc | apply Kd.R_drewN | apply Kd.R_drew)); exact HO_8.out) (Kd.R_base ho0) hb); have n1_ := Aside0.mk (Kd.R_elder' (by (with_reducible repeat (first | apply Kd.R_alloc | apply Kd.R_drewN | apply Kd.R_drew)); exact HO1031.out) (Kd.R_base ho0) hb); have n2_ := Aside0.mk (Kd.R_lower (Kd.R_new' (Kd.R_new' ho0 (Kd.R_lt (by (with_reducible repeat (first | apply Kd.R_alloc | apply Kd.R_drewN | apply Kd.R_drew)); exact HO_8.out))) (Kd.R_lt (by (with_reducible repeat (first | apply Kd.R_alloc | apply Kd.R_drewN | apply Kd.R_drew)); exact HO1031.out))) (below_size (by repeat (first | (with_reducible first | exact HB.out | apply below_alloc | apply pw_below_drewN | apply below_drew1) | exact HB.out)))); have n3_ := Aside0.mk (below_step (by repeat (first | (with_reducible first | exact HB.out | apply below_alloc | apply pw_below_drewN | apply below_drew1) | exact HB.out)) hb); clear HO_8; clear HO1031; clear HB; have HO_8 := n0_; have HO1031 := n1_; have HO1035 := n2_; have HB := n3_; clear n0_ n1_ n2_ n3_; (try clear hb); (try clear hb2); (try clear hk); (try clear hi); (try clear ho0)) | ((with_reducible refine gate_callee (f := 49) rfl ?_); refine goesL_ (some 69) rfl rfl Tryd.func49 (by kernel_rfl) rfl #[.int .i64 a0, .slice A1 l1.length c1] rfl (by (try simp only [List.map_toArray, List.map_cons, List.map_nil]); first | done | rfl | (simp only [List.length_drop, List.length_take]; rfl)) ?_; (with_reducible refine (num_Divide.calls k1 a0 _ _ l1 t1036 t1037 _ ?side1 ?side2 A19.out).mono ?_); (case side1 => repeat (first | exact (Kd.C_below HR1.out HB.out) | (with_reducible refine Kd.C_alloc ?_ _) | (with_reducible refine Kd.C_drewN ?_ _) | (with_reducible refine Kd.C_drew ?_))); (case side2 => exact HC1.out); rintro e w26 ⟨v1038, rfl, ho0, hb⟩; refine ⟨_, rfl, ?_⟩; have n0_ := Aside0.mk (Kd.R_elder' (by (with_reducible repeat (first | apply Kd.R_alloc | apply Kd.R_drewN | apply Kd.R_drew)); exact HO_8.out) (Kd.R_base ho0) hb); have n1_ := Aside0.mk (Kd.R_elder' (by (with_reducible repeat (first | apply Kd.R_alloc | apply Kd.R_drewN | apply Kd.R_drew)); exact HO1031.out) (Kd.R_base ho0) hb); have n2_ := Aside0.mk (Kd.R_elder' (by (with_reducible repeat (first | apply Kd.R_alloc | apply Kd.R_drewN | apply Kd.R_drew)); exact HO1035.out) (Kd.R_base ho0) hb); have n3_ := Aside0.mk (Kd.R_lower (Kd.R_new' (Kd.R_new' (Kd.R_new' ho0 (Kd.R_lt (by (with_reducible repeat (first | apply Kd.R_alloc | apply Kd.R_drewN | apply Kd.R_drew)); exact HO_8.out))) (Kd.R_lt (by (with_reducible repeat (first | apply Kd.R_alloc | apply Kd.R_drewN | apply Kd.R_drew)); exact HO1031.out))) (Kd.R_lt (by (with_reducible repeat (first | apply Kd.R_alloc | apply Kd.R_drewN | apply Kd.R_drew)); exact HO1035.out))) (below_size (by repeat (first | (with_reducible first | exact HB.out | apply below_alloc | apply pw_below_drewN | apply below_drew1) | exact HB.out)))); have n4_ := Aside0.mk (below_step (by repeat (first | (with_reducible first | exact HB.out | apply below_alloc | apply pw_below_drewN | apply below_drew1) | exact HB.out)) hb); clear HO_8; clear HO1031; clear HO1035; clear HB; have HO_8 := n0_; have HO1031 := n1_; have HO1035 := n2_; have HO1039 := n3_; have HB := n4_; clear n0_ n1_ n2_ n3_ n4_; (try clear hb); (try clear hb2); (try clear hk); (try clear hi); (try clear ho0)) | ((with_reducible refine gate_builtin (b := .append) (xs := #[.tmp 74, .tmp 75]) rfl ?_); (try (refine gate_guard (by rfl) ?_; dsimp only)); at_builtin; refine Kd.R_append (Kd.int .i64) (w0 := w) w.heap.size rfl (.tmp 74) (.tmp 75) 29 3 (.int .i64 0) 8 rfl Tryd.underlying29 info3 rfl (by decide) (by omega) (.slice Ao24 x8_1.length co24) x8_1 0 [.int .i64 0] (fun k_ => some k_ ≠ (v1030 : Value).ownBlock ∧ some k_ ≠ (v1034 : Value).ownBlock ∧ some k_ ≠ (v1038 : Value).ownBlock) (fun _ => False) rfl rfl ?aP (fun _ hk => hk.elim) ?aF ?aO ?aB ?aS ?aL ?_; (case aP => exact rfl); (case aB => exact (by repeat (first | (with_reducible first | exact HB.out | apply below_alloc | apply pw_below_drewN | apply below_drew1) | exact HB.out))); (case aF => exact (fun k_ hk => ⟨Kd.fresh' (Kd.R_lt (by (with_reducible repeat (first | apply Kd.R_alloc | apply Kd.R_drewN | apply Kd.R_drew)); exact HO1031.out)) k_ hk, Kd.fresh' (Kd.R_lt (by (with_reducible repeat (first | apply Kd.R_alloc | apply Kd.R_drewN | apply Kd.R_drew)); exact HO1035.out)) k_ hk, Kd.fresh' (Kd.R_lt (by (with_reducible repeat (first | apply Kd.R_alloc | apply Kd.R_drewN | apply Kd.R_drew)); exact HO1039.out)) k_ hk⟩)); (case aO => exact (by (with_reducible repeat (first | apply Kd.R_alloc | apply Kd.R_drewN | apply Kd.R_drew)); exact Kd.R_mono HO_8.out (fun _ hk => ⟨hk.1.1.2, ⟨hk.1.2, hk.2⟩⟩))); (case aS => exact (below_size (by repeat (first | (with_reducible first | exact HB.out | apply below_alloc | apply pw_below_drewN | apply below_drew1) | exact HB.out)))); (case aL => have := LMc20.out; omega); intro v1041 w27 ho hb hg hat; rw [← Ny1040.out] at ho; have n0_ := Aside0.mk (Kd.R_after (ok := (fun k_ => some k_ ≠ (v1034 : Value).ownBlock ∧ some k_ ≠ (v1038 : Value).ownBlock)) (by (with_reducible repeat (first | apply Kd.R_alloc | apply Kd.R_drewN | apply Kd.R_drew)); exact Kd.R_mono HO1031.out (fun _ hk => ⟨⟨hk.1.2, hk.2⟩, hk.1.1.2⟩)) hg hat); have n1_ := Aside0.mk (Kd.R_after (ok := (fun k_ => some k_ ≠ (v1030 : Value).ownBlock ∧ some k_ ≠ (v1038 : Value).ownBlock)) (by (with_reducible repeat (first | apply Kd.R_alloc | apply Kd.R_drewN | apply Kd.R_drew)); exact Kd.R_mono HO1035.out (fun _ hk => ⟨⟨hk.1.2, hk.2⟩, hk.1.1.2⟩)) hg hat); have n2_ := Aside0.mk (Kd.R_after (ok := (fun k_ => some k_ ≠ (v1030 : Value).ownBlock ∧ some k_ ≠ (v1034 : Value).ownBlock)) (by (with_reducible repeat (first | apply Kd.R_alloc | apply Kd.R_drewN | apply Kd.R_drew)); exact Kd.R_mono HO1039.out (fun _ hk => ⟨⟨hk.1.2, hk.2⟩, hk.1.1.2⟩)) hg hat); have n3_ := Aside0.mk (hb); have n4_ := Aside0.mk (ho); clear HO1031; clear HO1035; clear HO1039; clear HB; clear HO_8; have HO1031 := n0_; have HO1035 := n1_; have HO1039 := n2_; have HB := n3_; have HO1042 := n4_; clear n0_ n1_ n2_ n3_ n4_; clear ho hb hg hat; obtain ⟨Ao28, co28, eo28⟩ := Kd.R_slice HO1042.out; subst eo28) | ((with_reducible refine gate_callee (f := 49) rfl ?_); refine goesL_ (some 77) rfl rfl Tryd.func49 (by kernel_rfl) rfl #[.int .i64 a0, .slice Ao28 y1040.length co28] rfl (by (try simp only [List.map_toArray, List.map_cons, List.map_nil]); first | done | rfl | (simp only [List.length_drop, List.length_take]; rfl)) ?_; (with_reducible refine (num_Divide.calls k1 a0 _ _ y1040 t1043 t1044 _ ?side1 ?side2 A21.out).mono ?_); (case side1 => repeat (first | exact (Kd.R_reads' HO1042.out).2.2 | (with_reducible refine Kd.C_alloc ?_ _) | (with_reducible refine Kd.C_drewN ?_ _) | (with_reducible refine Kd.C_drew ?_))); (case side2 => exact (Kd.R_reads' HO1042.out).2.1); rintro e w29 ⟨v1045, rfl, ho0, hb⟩; refine ⟨_, rfl, ?_⟩; have n0_ := Aside0.mk (Kd.R_elder' (by (with_reducible repeat (first | apply Kd.R_alloc | apply Kd.R_drewN | apply Kd.R_drew)); exact HO1031.out) (Kd.R_base ho0) hb); have n1_ := Aside0.mk (Kd.R_elder' (by (with_reducible repeat (first | apply Kd.R_alloc | apply Kd.R_drewN | apply Kd.R_drew)); exact HO1035.out) (Kd.R_base ho0) hb); have n2_ := Aside0.mk (Kd.R_elder' (by (with_reducible repeat (first | apply Kd.R_alloc | apply Kd.R_drewN | apply Kd.R_drew)); exact HO1039.out) (Kd.R_base ho0) hb); have n3_ := Aside0.mk (Kd.R_elder' (by (with_reducible repeat (first | apply Kd.R_alloc | apply Kd.R_drewN | apply Kd.R_drew)); exact HO1042.out) (Kd.R_base ho0) hb); have n4_ := Aside0.mk (Kd.R_lower (Kd.R_new' (Kd.R_new' (Kd.R_new' (Kd.R_new' ho0 (Kd.R_lt (by (with_reducible repeat (first | apply Kd.R_alloc | apply Kd.R_drewN | apply Kd.R_drew)); exact HO1031.out))) (Kd.R_lt (by (with_reducible repeat (first | apply Kd.R_alloc | apply Kd.R_drewN | apply Kd.R_drew)); exact HO1035.out))) (Kd.R_lt (by (with_reducible repeat (first | apply Kd.R_alloc | apply Kd.R_drewN | apply Kd.R_drew)); exact HO1039.out))) (Kd.R_lt (by (with_reducible repeat (first | apply Kd.R_alloc | apply Kd.R_drewN | apply Kd.R_drew)); exact HO1042.out))) (below_size (by repeat (first | (with_reducible first | exact HB.out | apply below_alloc | apply pw_below_drewN | apply below_drew1) | exact HB.out)))); have n5_ := Aside0.mk (below_step (by repeat (first | (with_reducible first | exact HB.out | apply below_alloc | apply pw_below_drewN | apply below_drew1) | exact HB.out)) hb); clear HO1031; clear HO1035; clear HO1039; clear HO1042; clear HB; have HO1031 := n0_; have HO1035 := n1_; have HO1039 := n2_; have HO1042 := n3_; have HO1046 := n4_; have HB := n5_; clear n0_ n1_ n2_ n3_ n4_ n5_; (try clear hb); (try clear hb2); (try clear hk); (try clear hi); (try clear ho0)))
            (try simp only [Act.put, List.setIfInBounds_toArray, List.set_cons_zero, List.set_cons_succ])
            go_cut [98] (fun v98 wc => ∃ (kq : Nat) (x98_21 : Bool), v98 = .bool x98_21 ∧ Aside0 (merinolaw01_NumScaled.j1 kq t1028 t1029 t1036 t1043 x98_21 = some r) ∧ Aside0 (kq ≤ k1) ∧ Aside0 (Kd.R (Kd.int .i64) 3 wc w.heap.size (fun k_ => some k_ ≠ (v1038 : Value).ownBlock ∧ some k_ ≠ (v1045 : Value).ownBlock) v1030 t1028) ∧ Aside0 (Kd.R (Kd.int .i64) 3 wc w.heap.size (fun k_ => some k_ ≠ (v1030 : Value).ownBlock ∧ some k_ ≠ (v1045 : Value).ownBlock) v1038 t1036) ∧ Aside0 (Kd.R (Kd.int .i64) 3 wc w.heap.size (fun k_ => some k_ ≠ (v1030 : Value).ownBlock ∧ some k_ ≠ (v1038 : Value).ownBlock) v1045 t1043) ∧ Aside0 (Below w.heap.size w wc))
            case first =>
              have H := HC22.out
              clear HC22
              by_cases c30 : t1029 = t1033
              · rw [if_pos c30] at H
                have c30b0 : (t1029 == t1033) = true := beq_iff_eq.mpr c30
                have c30b1 : (t1029 != t1033) = false := bne_eq_false_iff_eq.mpr c30
                clear c30
                (first | rw [c30b0] | (simp only [i64_w, i32_w]; rw [c30b0]) | skip)
                by_cases c31 : t1029 = t1037
                · rw [if_pos c31] at H
                  have c31b0 : (t1029 == t1037) = true := beq_iff_eq.mpr c31
                  have c31b1 : (t1029 != t1037) = false := bne_eq_false_iff_eq.mpr c31
                  clear c31
                  by_cases c32 : t1029 = t1044
                  · rw [if_pos c32] at H
                    have c32b0 : (t1029 == t1044) = true := beq_iff_eq.mpr c32
                    have c32b1 : (t1029 != t1044) = false := bne_eq_false_iff_eq.mpr c32
                    clear c32
                    replace H := Option.bind_eq_some_iff.mp H
                    obtain ⟨t1047, A330, H⟩ := H
                    replace H : (merinolaw01_NumScaled.j1 k1 t1028 t1029 t1036 t1043 (!t1047)) = some r := H
                    have A33 := Aside0.mk A330
                    clear A330
                    have H' := Aside0.mk H
                    clear H
                    obtain ⟨Ao34, co34, eo34⟩ := Kd.R_slice HO1031.out
                    subst eo34
                    obtain ⟨Ao35, co35, eo35⟩ := Kd.R_slice HO1035.out
                    subst eo35
                    go_wp2_with (first | (go_at_call 41; (with_reducible refine (merinolaw01_same.calls k1 _ _ t1028 _ _ t1032 t1047 _ ?side1 ?side2 ?side3 ?side4 A33.out).mono ?_); (case side1 => repeat (first | exact (Kd.R_reads' HO1031.out).2.2 | (with_reducible refine Kd.C_alloc ?_ _) | (with_reducible refine Kd.C_drewN ?_ _) | (with_reducible refine Kd.C_drew ?_))); (case side2 => exact (Kd.R_reads' HO1031.out).2.1); (case side3 => repeat (first | exact (Kd.R_reads' HO1035.out).2.2 | (with_reducible refine Kd.C_alloc ?_ _) | (with_reducible refine Kd.C_drewN ?_ _) | (with_reducible refine Kd.C_drew ?_))); (case side4 => exact (Kd.R_reads' HO1035.out).2.1); rintro e w' ⟨rfl, ⟨nd, rfl⟩⟩))
                    go_meet
                    case rel => exact ⟨_, (!t1047), (by first | rfl | (simp; done) | (simp [*]; done)), H', ⟨by have := HK1.out; first | omega | exact Nat.le_refl _⟩, ⟨by (with_reducible repeat (first | apply Kd.R_alloc | apply Kd.R_drewN | apply Kd.R_drew)); exact Kd.R_mono HO1031.out (fun _ hk => ⟨hk.1.1.2, hk.2⟩)⟩, ⟨by (with_reducible repeat (first | apply Kd.R_alloc | apply Kd.R_drewN | apply Kd.R_drew)); exact Kd.R_mono HO1039.out (fun _ hk => ⟨hk.1.1.1, hk.2⟩)⟩, ⟨by (with_reducible repeat (first | apply Kd.R_alloc | apply Kd.R_drewN | apply Kd.R_drew)); exact Kd.R_mono HO1046.out (fun _ hk => ⟨hk.1.1.1.2, hk.1.2⟩)⟩, ⟨by repeat (first | (with_reducible first | exact HB.out | apply below_alloc | apply pw_below_drewN | apply below_drew1) | exact HB.out)⟩⟩
                  · rw [if_neg c32] at H
                    have c32b0 : (t1029 == t1044) = false := beq_eq_false_iff_ne.mpr c32
                    have c32b1 : (t1029 != t1044) = true := bne_iff_ne.mpr c32
                    have H' := Aside0.mk H
                    clear H
                    go_wp2
                    go_meet
                    case rel => exact ⟨_, (true), (by first | rfl | (simp; done) | (simp [*]; done)), H', ⟨by have := HK1.out; first | omega | exact Nat.le_refl _⟩, ⟨by (with_reducible repeat (first | apply Kd.R_alloc | apply Kd.R_drewN | apply Kd.R_drew)); exact Kd.R_mono HO1031.out (fun _ hk => ⟨hk.1.1.2, hk.2⟩)⟩, ⟨by (with_reducible repeat (first | apply Kd.R_alloc | apply Kd.R_drewN | apply Kd.R_drew)); exact Kd.R_mono HO1039.out (fun _ hk => ⟨hk.1.1.1, hk.2⟩)⟩, ⟨by (with_reducible repeat (first | apply Kd.R_alloc | apply Kd.R_drewN | apply Kd.R_drew)); exact Kd.R_mono HO1046.out (fun _ hk => ⟨hk.1.1.1.2, hk.1.2⟩)⟩, ⟨by repeat (first | (with_reducible first | exact HB.out | apply below_alloc | apply pw_below_drewN | apply below_drew1) | exact HB.out)⟩⟩
                · rw [if_neg c31] at H
                  have c31b0 : (t1029 == t1037) = false := beq_eq_false_iff_ne.mpr c31
                  have c31b1 : (t1029 != t1037) = true := bne_iff_ne.mpr c31
                  have H' := Aside0.mk H
                  clear H
                  go_wp2
                  go_meet
                  case rel => exact ⟨_, (true), (by first | rfl | (simp; done) | (simp [*]; done)), H', ⟨by have := HK1.out; first | omega | exact Nat.le_refl _⟩, ⟨by (with_reducible repeat (first | apply Kd.R_alloc | apply Kd.R_drewN | apply Kd.R_drew)); exact Kd.R_mono HO1031.out (fun _ hk => ⟨hk.1.1.2, hk.2⟩)⟩, ⟨by (with_reducible repeat (first | apply Kd.R_alloc | apply Kd.R_drewN | apply Kd.R_drew)); exact Kd.R_mono HO1039.out (fun _ hk => ⟨hk.1.1.1, hk.2⟩)⟩, ⟨by (with_reducible repeat (first | apply Kd.R_alloc | apply Kd.R_drewN | apply Kd.R_drew)); exact Kd.R_mono HO1046.out (fun _ hk => ⟨hk.1.1.1.2, hk.1.2⟩)⟩, ⟨by repeat (first | (with_reducible first | exact HB.out | apply below_alloc | apply pw_below_drewN | apply below_drew1) | exact HB.out)⟩⟩
              · rw [if_neg c30] at H
                have c30b0 : (t1029 == t1033) = false := beq_eq_false_iff_ne.mpr c30
                have c30b1 : (t1029 != t1033) = true := bne_iff_ne.mpr c30
                (first | rw [c30b0] | (simp only [i64_w, i32_w]; rw [c30b0]) | skip)
                have H' := Aside0.mk H
                clear H
                go_wp2
                go_meet
                case rel => exact ⟨_, (true), (by first | rfl | (simp; done) | (simp [*]; done)), H', ⟨by have := HK1.out; first | omega | exact Nat.le_refl _⟩, ⟨by (with_reducible repeat (first | apply Kd.R_alloc | apply Kd.R_drewN | apply Kd.R_drew)); exact Kd.R_mono HO1031.out (fun _ hk => ⟨hk.1.1.2, hk.2⟩)⟩, ⟨by (with_reducible repeat (first | apply Kd.R_alloc | apply Kd.R_drewN | apply Kd.R_drew)); exact Kd.R_mono HO1039.out (fun _ hk => ⟨hk.1.1.1, hk.2⟩)⟩, ⟨by (with_reducible repeat (first | apply Kd.R_alloc | apply Kd.R_drewN | apply Kd.R_drew)); exact Kd.R_mono HO1046.out (fun _ hk => ⟨hk.1.1.1.2, hk.1.2⟩)⟩, ⟨by repeat (first | (with_reducible first | exact HB.out | apply below_alloc | apply pw_below_drewN | apply below_drew1) | exact HB.out)⟩⟩
            case rest =>
              clear HC22
              try clear c1
              try clear p1
              try clear q1
              try clear hx1
              try clear c2
              try clear p2
              try clear c3
              try clear c4
              try clear c4b0
              try clear c4b1
              try clear p6
              try clear c7
              try clear c7b0
              try clear c8
              try clear c8b0
              try clear c9
              try clear c9b0
              try clear p10
              try clear q10
              try clear hx10
              try clear c12
              try clear c12b0
              try clear c13
              try clear c15
              try clear c20
              try clear c21
              try clear c30
              try clear c30b0
              try clear c30b1
              try clear c31
              try clear c31b0
              try clear c31b1
              try clear c32
              try clear c32b0
              try clear c32b1
              try clear hx1020_0
              try clear hx1022_0
              try clear hx1024_0
              try clear p1020
              try clear p1022
              try clear p1024
              try clear p2
              try clear p6
              try clear q1020
              try clear q1022
              try clear q1024
              obtain ⟨kq, x98_21, rfl, HA, HJ21, HO_10, HO_14, HO_16, HB⟩ := hcut
              cases kq with
              | zero => exact absurd HA.out (by simp [merinolaw01_NumScaled.j1])
              | succ kj21 =>
                have H := HA.out
                clear HA
                simp only [merinolaw01_NumScaled.j1] at H
                by_cases c36 : x98_21 = true
                · subst c36
                  have H1 : (some false) = some r := by rw [if_pos rfl] at H; exact H
                  clear H
                  have H := H1
                  clear H1
                  obtain rfl := Option.some.inj H
                  go_wp2
                  go_ret
                  exact ⟨by first | rfl | (simp [errW_none, errW_some] <;> rfl) | (simp [*, errW_none, errW_some] <;> rfl), by repeat (first | (with_reducible first | exact HB.out | apply below_alloc | apply pw_below_drewN | apply below_drew1) | exact HB.out)⟩
                · replace c36 := Bool.eq_false_iff.mpr c36
                  subst c36
                  have H1 : (if t1029 = 0 then (if (t1043.length : Int) = (wrap64 ((t1036.length : Int) + 1)) then (if 0 ≤ (t1036.length : Int) then (if (t1036.length : Int) ≤ (t1043.length : Int) then ((merinolaw01_same.f kj21 t1036 (t1043.take ((t1036.length : Int) : Int).toNat)).bind fun t1052 => (if t1052 = true then (if (t1036.length : Int) < (t1043.length : Int) then (if (rd t1043 (t1036.length : Int)) = 0 then ((merinolaw01_alive.f).bind fun t1054 => (some t1054)) else (some false)) else (none)) else (some false))) else (none)) else (none)) else (some false)) else (if (t1028.length : Int) = 0 then (if (t1036.length : Int) = 0 then (if (t1043.length : Int) = 0 then ((merinolaw01_alive.f).bind fun t1055 => (some t1055)) else (some false)) else (some false)) else (some false))) = some r := by rw [if_neg (show ¬ (false = true) by decide)] at H; exact H
                  clear H
                  have H := H1
                  clear H1
                  by_cases c37 : t1029 = 0
                  · rw [if_pos c37] at H
                    have c37b0 : (t1029 == 0) = true := beq_iff_eq.mpr c37
                    have c37b1 : (t1029 != 0) = false := bne_eq_false_iff_eq.mpr c37
                    clear c37
                    by_cases c38 : (t1043.length : Int) = (wrap64 ((t1036.length : Int) + 1))
                    · rw [if_pos c38] at H
                      have c38b0 : ((t1043.length : Int) == (wrap64 ((t1036.length : Int) + 1))) = true := beq_iff_eq.mpr c38
                      have c38b1 : ((t1043.length : Int) != (wrap64 ((t1036.length : Int) + 1))) = false := bne_eq_false_iff_eq.mpr c38
                      clear c38
                      by_cases c39 : 0 ≤ (t1036.length : Int)
                      · rw [if_pos c39] at H
                        have c39b0 := eq_true c39
                        have c39b1 : decide (0 ≤ (t1036.length : Int)) = true := decide_eq_true c39
                        clear c39
                        by_cases c40 : (t1036.length : Int) ≤ (t1043.length : Int)
                        · rw [if_pos c40] at H
                          have c40b0 := eq_true c40
                          have c40b1 : decide ((t1036.length : Int) ≤ (t1043.length : Int)) = true := decide_eq_true c40
                          clear c40
                          obtain ⟨y1048, hy1048⟩ : ∃ y_ : List Int, y_ = (t1043.take ((t1036.length : Int) : Int).toNat) := ⟨_, rfl⟩
                          replace H : ((merinolaw01_same.f kj21 t1036 y1048).bind fun t1052 => (if t1052 = true then (if (t1036.length : Int) < (t1043.length : Int) then (if (rd t1043 (t1036.length : Int)) = 0 then ((merinolaw01_alive.f).bind fun t1054 => (some t1054)) else (some false)) else (none)) else (some false))) = some r := by first | (rw [hy1048]; with_reducible exact H) | (have H2_ := (Option.bind_some _ _).symm.trans H; rw [hy1048]; with_reducible exact H2_) | (have H2_ := (Option.bind_some _ _).symm.trans H; with_reducible exact H2_) | with_reducible exact H | (rw [hy1048]; exact H) | exact H
                          have Ny1048 := Aside0.mk hy1048
                          clear hy1048
                          replace H := Option.bind_eq_some_iff.mp H
                          obtain ⟨t1052, A410, H⟩ := H
                          replace H : (if t1052 = true then (if (t1036.length : Int) < (t1043.length : Int) then (if (rd t1043 (t1036.length : Int)) = 0 then ((merinolaw01_alive.f).bind fun t1054 => (some t1054)) else (some false)) else (none)) else (some false)) = some r := H
                          have A41 := Aside0.mk A410
                          clear A410
                          by_cases c42 : t1052 = true
                          · subst c42
                            have H1 : (if (t1036.length : Int) < (t1043.length : Int) then (if (rd t1043 (t1036.length : Int)) = 0 then ((merinolaw01_alive.f).bind fun t1054 => (some t1054)) else (some false)) else (none)) = some r := by rw [if_pos rfl] at H; exact H
                            clear H
                            have H := H1
                            clear H1
                            by_cases c43 : (t1036.length : Int) < (t1043.length : Int)
                            · rw [if_pos c43] at H
                              have c43b0 : decide ((t1036.length : Int) < (t1043.length : Int)) = true := decide_eq_true c43
                              have c43b1 : decide (t1036.length < t1043.length) = true := decide_eq_true (Int.ofNat_lt.mp c43)
                              clear c43
                              by_cases c44 : (rd t1043 (t1036.length : Int)) = 0
                              · rw [if_pos c44] at H
                                have c44b0 : ((rd t1043 (t1036.length : Int)) == 0) = true := beq_iff_eq.mpr c44
                                have c44b1 : ((rd t1043 (t1036.length : Int)) != 0) = false := bne_eq_false_iff_eq.mpr c44
                                clear c44
                                replace H := Option.bind_eq_some_iff.mp H
                                obtain ⟨t1054, A450, H⟩ := H
                                replace H : (some t1054) = some r := H
                                have A45 := Aside0.mk A450
                                clear A450
                                obtain rfl := Option.some.inj H
                                obtain ⟨Ao46, co46, eo46⟩ := Kd.R_slice HO_16.out
                                subst eo46
                                obtain ⟨Ao47, co47, eo47⟩ := Kd.R_slice HO_14.out
                                subst eo47
                                have q48 : ((t1036.length : Int) : Int) ≤ ((t1043.length : Int) : Int) := of_decide_eq_true (by first | (with_reducible assumption) | assumption)
                                obtain ⟨i048, hi048, _, hsz48, _⟩ := info_parts info3
                                have hroom48 : t1043.length ≤ co46 := (Kd.R_reads' HO_16.out).2.1
                                have hC48 : Kd.C (Kd.int .i64) _ Ao46 t1043.length t1043 := (Kd.R_reads' HO_16.out).2.2
                                have hcut48 := cut_to (P := Tryd.prog) 29 3 .i64 Tryd.underlying29 hi048 Ao46 t1043.length co46 (t1036.length : Int) (of_decide_eq_true (by first | (with_reducible assumption) | assumption)) q48 hroom48
                                have hr48 := Kd.C_take (m := ((t1036.length : Int) : Int).toNat) hC48 (by omega)
                                have hy48 : y1048.length = ((t1036.length : Int) : Int).toNat := (by rw [Ny1048.out, List.length_take]; omega)
                                rw [← Ny1048.out] at hr48
                                rw [← hy48] at hcut48
                                have HR1051 := Aside0.mk hr48
                                have HC1051 := Aside0.mk (show y1048.length ≤ co46 from by omega)
                                clear hr48 hC48 hroom48 hi048 hsz48
                                have KY48 := Aside0.mk hy48
                                clear hy48
                                have KL48 := Aside0.mk (show ((t1036.length : Int) : Int).toNat ≤ t1043.length from by omega)
                                replace q48 := eq_true q48
                                go_wp2_with (first | (go_at_call 41; (with_reducible refine (merinolaw01_same.calls kj21 _ _ t1036 _ _ y1048 true _ ?side1 ?side2 ?side3 ?side4 A41.out).mono ?_); (case side1 => repeat (first | exact (Kd.R_reads' HO_14.out).2.2 | (with_reducible refine Kd.C_alloc ?_ _) | (with_reducible refine Kd.C_drewN ?_ _) | (with_reducible refine Kd.C_drew ?_))); (case side2 => exact (Kd.R_reads' HO_14.out).2.1); (case side3 => repeat (first | exact (by repeat (first | (with_reducible exact HR1051.out) | (with_reducible refine Kd.C_alloc ?_ _) | (with_reducible refine Kd.C_drewN ?_ _) | (with_reducible refine Kd.C_drew ?_) | exact HR1051.out)) | (with_reducible refine Kd.C_alloc ?_ _) | (with_reducible refine Kd.C_drewN ?_ _) | (with_reducible refine Kd.C_drew ?_))); (case side4 => exact HC1051.out); rintro e w' ⟨rfl, ⟨nd, rfl⟩⟩; have p1053 : 0 ≤ ((t1036.length : Int) : Int) := of_decide_eq_true (by first | (with_reducible assumption) | assumption); have q1053 : (t1036.length : Int) < (t1043.length : Int) := of_decide_eq_true (by first | (with_reducible assumption) | assumption); obtain ⟨ad1053, e1053, hx1053_0⟩ := Kd.at_int (Kd.R_reads' HO_16.out).2.2 (t1036.length : Int) p1053 q1053; cases e1053; (try simp only [Go.IntWalk.toNatUp] at hx1053_0); replace p1053 := eq_true p1053; replace q1053 := eq_true q1053) | (go_at_call 21; (with_reducible refine (merinolaw01_alive.calls  t1054 _ A45.out).mono ?_); rintro e w49 ⟨rfl, hb⟩; have n0_ := Aside0.mk (Kd.R_below (by (with_reducible repeat (first | apply Kd.R_alloc | apply Kd.R_drewN | apply Kd.R_drew)); exact HO_10.out) hb); have n1_ := Aside0.mk (Kd.R_below (by (with_reducible repeat (first | apply Kd.R_alloc | apply Kd.R_drewN | apply Kd.R_drew)); exact HO_14.out) hb); have n2_ := Aside0.mk (Kd.R_below (by (with_reducible repeat (first | apply Kd.R_alloc | apply Kd.R_drewN | apply Kd.R_drew)); exact HO_16.out) hb); have n3_ := Aside0.mk (Kd.C_below (by repeat (first | (with_reducible exact HR1051.out) | (with_reducible refine Kd.C_alloc ?_ _) | (with_reducible refine Kd.C_drewN ?_ _) | (with_reducible refine Kd.C_drew ?_) | exact HR1051.out)) hb); have n4_ := Aside0.mk (below_step (by repeat (first | (with_reducible first | exact HB.out | apply below_alloc | apply pw_below_drewN | apply below_drew1) | exact HB.out)) hb); clear HO_10; clear HO_14; clear HO_16; clear HR1051; clear HB; have HO_10 := n0_; have HO_14 := n1_; have HO_16 := n2_; have HR1051 := n3_; have HB := n4_; clear n0_ n1_ n2_ n3_ n4_; (try clear hb); (try clear hb2); (try clear hk); (try clear hi)))
                                go_ret
                                exact ⟨by first | rfl | (simp [errW_none, errW_some] <;> rfl) | (simp [*, errW_none, errW_some] <;> rfl), by repeat (first | (with_reducible first | exact HB.out | apply below_alloc | apply pw_below_drewN | apply below_drew1) | exact HB.out)⟩
                              · rw [if_neg c44] at H
                                have c44b0 : ((rd t1043 (t1036.length : Int)) == 0) = false := beq_eq_false_iff_ne.mpr c44
                                have c44b1 : ((rd t1043 (t1036.length : Int)) != 0) = true := bne_iff_ne.mpr c44
                                obtain rfl := Option.some.inj H
                                obtain ⟨Ao50, co50, eo50⟩ := Kd.R_slice HO_16.out
                                subst eo50
                                obtain ⟨Ao51, co51, eo51⟩ := Kd.R_slice HO_14.out
                                subst eo51
                                have q52 : ((t1036.length : Int) : Int) ≤ ((t1043.length : Int) : Int) := of_decide_eq_true (by first | (with_reducible assumption) | assumption)
                                obtain ⟨i052, hi052, _, hsz52, _⟩ := info_parts info3
                                have hroom52 : t1043.length ≤ co50 := (Kd.R_reads' HO_16.out).2.1
                                have hC52 : Kd.C (Kd.int .i64) _ Ao50 t1043.length t1043 := (Kd.R_reads' HO_16.out).2.2
                                have hcut52 := cut_to (P := Tryd.prog) 29 3 .i64 Tryd.underlying29 hi052 Ao50 t1043.length co50 (t1036.length : Int) (of_decide_eq_true (by first | (with_reducible assumption) | assumption)) q52 hroom52
                                have hr52 := Kd.C_take (m := ((t1036.length : Int) : Int).toNat) hC52 (by omega)
                                have hy52 : y1048.length = ((t1036.length : Int) : Int).toNat := (by rw [Ny1048.out, List.length_take]; omega)
                                rw [← Ny1048.out] at hr52
                                rw [← hy52] at hcut52
                                have HR1051 := Aside0.mk hr52
                                have HC1051 := Aside0.mk (show y1048.length ≤ co50 from by omega)
                                clear hr52 hC52 hroom52 hi052 hsz52
                                have KY52 := Aside0.mk hy52
                                clear hy52
                                have KL52 := Aside0.mk (show ((t1036.length : Int) : Int).toNat ≤ t1043.length from by omega)
                                replace q52 := eq_true q52
                                go_wp2_with (first | (go_at_call 41; (with_reducible refine (merinolaw01_same.calls kj21 _ _ t1036 _ _ y1048 true _ ?side1 ?side2 ?side3 ?side4 A41.out).mono ?_); (case side1 => repeat (first | exact (Kd.R_reads' HO_14.out).2.2 | (with_reducible refine Kd.C_alloc ?_ _) | (with_reducible refine Kd.C_drewN ?_ _) | (with_reducible refine Kd.C_drew ?_))); (case side2 => exact (Kd.R_reads' HO_14.out).2.1); (case side3 => repeat (first | exact (by repeat (first | (with_reducible exact HR1051.out) | (with_reducible refine Kd.C_alloc ?_ _) | (with_reducible refine Kd.C_drewN ?_ _) | (with_reducible refine Kd.C_drew ?_) | exact HR1051.out)) | (with_reducible refine Kd.C_alloc ?_ _) | (with_reducible refine Kd.C_drewN ?_ _) | (with_reducible refine Kd.C_drew ?_))); (case side4 => exact HC1051.out); rintro e w' ⟨rfl, ⟨nd, rfl⟩⟩; have p1053 : 0 ≤ ((t1036.length : Int) : Int) := of_decide_eq_true (by first | (with_reducible assumption) | assumption); have q1053 : (t1036.length : Int) < (t1043.length : Int) := of_decide_eq_true (by first | (with_reducible assumption) | assumption); obtain ⟨ad1053, e1053, hx1053_0⟩ := Kd.at_int (Kd.R_reads' HO_16.out).2.2 (t1036.length : Int) p1053 q1053; cases e1053; (try simp only [Go.IntWalk.toNatUp] at hx1053_0); replace p1053 := eq_true p1053; replace q1053 := eq_true q1053))
                                go_ret
                                exact ⟨by first | rfl | (simp [errW_none, errW_some] <;> rfl) | (simp [*, errW_none, errW_some] <;> rfl), by repeat (first | (with_reducible first | exact HB.out | apply below_alloc | apply pw_below_drewN | apply below_drew1) | exact HB.out)⟩
                            · rw [if_neg c43] at H
                              exact absurd H (by simp)
                          · replace c42 := Bool.eq_false_iff.mpr c42
                            subst c42
                            have H1 : (some false) = some r := by rw [if_neg (show ¬ (false = true) by decide)] at H; exact H
                            clear H
                            have H := H1
                            clear H1
                            obtain rfl := Option.some.inj H
                            obtain ⟨Ao53, co53, eo53⟩ := Kd.R_slice HO_16.out
                            subst eo53
                            obtain ⟨Ao54, co54, eo54⟩ := Kd.R_slice HO_14.out
                            subst eo54
                            have q55 : ((t1036.length : Int) : Int) ≤ ((t1043.length : Int) : Int) := of_decide_eq_true (by first | (with_reducible assumption) | assumption)
                            obtain ⟨i055, hi055, _, hsz55, _⟩ := info_parts info3
                            have hroom55 : t1043.length ≤ co53 := (Kd.R_reads' HO_16.out).2.1
                            have hC55 : Kd.C (Kd.int .i64) _ Ao53 t1043.length t1043 := (Kd.R_reads' HO_16.out).2.2
                            have hcut55 := cut_to (P := Tryd.prog) 29 3 .i64 Tryd.underlying29 hi055 Ao53 t1043.length co53 (t1036.length : Int) (of_decide_eq_true (by first | (with_reducible assumption) | assumption)) q55 hroom55
                            have hr55 := Kd.C_take (m := ((t1036.length : Int) : Int).toNat) hC55 (by omega)
                            have hy55 : y1048.length = ((t1036.length : Int) : Int).toNat := (by rw [Ny1048.out, List.length_take]; omega)
                            rw [← Ny1048.out] at hr55
                            rw [← hy55] at hcut55
                            have HR1051 := Aside0.mk hr55
                            have HC1051 := Aside0.mk (show y1048.length ≤ co53 from by omega)
                            clear hr55 hC55 hroom55 hi055 hsz55
                            have KY55 := Aside0.mk hy55
                            clear hy55
                            have KL55 := Aside0.mk (show ((t1036.length : Int) : Int).toNat ≤ t1043.length from by omega)
                            replace q55 := eq_true q55
                            go_wp2_with (first | (go_at_call 41; (with_reducible refine (merinolaw01_same.calls kj21 _ _ t1036 _ _ y1048 false _ ?side1 ?side2 ?side3 ?side4 A41.out).mono ?_); (case side1 => repeat (first | exact (Kd.R_reads' HO_14.out).2.2 | (with_reducible refine Kd.C_alloc ?_ _) | (with_reducible refine Kd.C_drewN ?_ _) | (with_reducible refine Kd.C_drew ?_))); (case side2 => exact (Kd.R_reads' HO_14.out).2.1); (case side3 => repeat (first | exact (by repeat (first | (with_reducible exact HR1051.out) | (with_reducible refine Kd.C_alloc ?_ _) | (with_reducible refine Kd.C_drewN ?_ _) | (with_reducible refine Kd.C_drew ?_) | exact HR1051.out)) | (with_reducible refine Kd.C_alloc ?_ _) | (with_reducible refine Kd.C_drewN ?_ _) | (with_reducible refine Kd.C_drew ?_))); (case side4 => exact HC1051.out); rintro e w' ⟨rfl, ⟨nd, rfl⟩⟩))
                            go_ret
                            exact ⟨by first | rfl | (simp [errW_none, errW_some] <;> rfl) | (simp [*, errW_none, errW_some] <;> rfl), by repeat (first | (with_reducible first | exact HB.out | apply below_alloc | apply pw_below_drewN | apply below_drew1) | exact HB.out)⟩
                        · rw [if_neg c40] at H
                          exact absurd H (by simp)
                      · rw [if_neg c39] at H
                        exact absurd H (by simp)
                    · rw [if_neg c38] at H
                      have c38b0 : ((t1043.length : Int) == (wrap64 ((t1036.length : Int) + 1))) = false := beq_eq_false_iff_ne.mpr c38
                      have c38b1 : ((t1043.length : Int) != (wrap64 ((t1036.length : Int) + 1))) = true := bne_iff_ne.mpr c38
                      obtain rfl := Option.some.inj H
                      obtain ⟨Ao56, co56, eo56⟩ := Kd.R_slice HO_16.out
                      subst eo56
                      obtain ⟨Ao57, co57, eo57⟩ := Kd.R_slice HO_14.out
                      subst eo57
                      go_wp2
                      go_ret
                      exact ⟨by first | rfl | (simp [errW_none, errW_some] <;> rfl) | (simp [*, errW_none, errW_some] <;> rfl), by repeat (first | (with_reducible first | exact HB.out | apply below_alloc | apply pw_below_drewN | apply below_drew1) | exact HB.out)⟩
                  · rw [if_neg c37] at H
                    have c37b0 : (t1029 == 0) = false := beq_eq_false_iff_ne.mpr c37
                    have c37b1 : (t1029 != 0) = true := bne_iff_ne.mpr c37
                    by_cases c58 : (t1028.length : Int) = 0
                    · rw [if_pos c58] at H
                      have c58b0 : ((t1028.length : Int) == 0) = true := beq_iff_eq.mpr c58
                      have c58b1 : ((t1028.length : Int) != 0) = false := bne_eq_false_iff_eq.mpr c58
                      clear c58
                      by_cases c59 : (t1036.length : Int) = 0
                      · rw [if_pos c59] at H
                        have c59b0 : ((t1036.length : Int) == 0) = true := beq_iff_eq.mpr c59
                        have c59b1 : ((t1036.length : Int) != 0) = false := bne_eq_false_iff_eq.mpr c59
                        clear c59
                        by_cases c60 : (t1043.length : Int) = 0
                        · rw [if_pos c60] at H
                          have c60b0 : ((t1043.length : Int) == 0) = true := beq_iff_eq.mpr c60
                          have c60b1 : ((t1043.length : Int) != 0) = false := bne_eq_false_iff_eq.mpr c60
                          clear c60
                          replace H := Option.bind_eq_some_iff.mp H
                          obtain ⟨t1055, A610, H⟩ := H
                          replace H : (some t1055) = some r := H
                          have A61 := Aside0.mk A610
                          clear A610
                          obtain rfl := Option.some.inj H
                          obtain ⟨Ao62, co62, eo62⟩ := Kd.R_slice HO_10.out
                          subst eo62
                          obtain ⟨Ao63, co63, eo63⟩ := Kd.R_slice HO_14.out
                          subst eo63
                          obtain ⟨Ao64, co64, eo64⟩ := Kd.R_slice HO_16.out
                          subst eo64
                          go_wp2_with (first | (go_at_call 21; (with_reducible refine (merinolaw01_alive.calls  t1055 _ A61.out).mono ?_); rintro e w65 ⟨rfl, hb⟩; have n0_ := Aside0.mk (Kd.R_below (by (with_reducible repeat (first | apply Kd.R_alloc | apply Kd.R_drewN | apply Kd.R_drew)); exact HO_10.out) hb); have n1_ := Aside0.mk (Kd.R_below (by (with_reducible repeat (first | apply Kd.R_alloc | apply Kd.R_drewN | apply Kd.R_drew)); exact HO_14.out) hb); have n2_ := Aside0.mk (Kd.R_below (by (with_reducible repeat (first | apply Kd.R_alloc | apply Kd.R_drewN | apply Kd.R_drew)); exact HO_16.out) hb); have n3_ := Aside0.mk (below_step (by repeat (first | (with_reducible first | exact HB.out | apply below_alloc | apply pw_below_drewN | apply below_drew1) | exact HB.out)) hb); clear HO_10; clear HO_14; clear HO_16; clear HB; have HO_10 := n0_; have HO_14 := n1_; have HO_16 := n2_; have HB := n3_; clear n0_ n1_ n2_ n3_; (try clear hb); (try clear hb2); (try clear hk); (try clear hi)))
                          go_ret
                          exact ⟨by first | rfl | (simp [errW_none, errW_some] <;> rfl) | (simp [*, errW_none, errW_some] <;> rfl), by repeat (first | (with_reducible first | exact HB.out | apply below_alloc | apply pw_below_drewN | apply below_drew1) | exact HB.out)⟩
                        · rw [if_neg c60] at H
                          have c60b0 : ((t1043.length : Int) == 0) = false := beq_eq_false_iff_ne.mpr c60
                          have c60b1 : ((t1043.length : Int) != 0) = true := bne_iff_ne.mpr c60
                          have c60b2 : ¬ (t1043 = []) := fun h_ => c60 (by rw [h_]; rfl)
                          obtain rfl := Option.some.inj H
                          obtain ⟨Ao66, co66, eo66⟩ := Kd.R_slice HO_10.out
                          subst eo66
                          obtain ⟨Ao67, co67, eo67⟩ := Kd.R_slice HO_14.out
                          subst eo67
                          obtain ⟨Ao68, co68, eo68⟩ := Kd.R_slice HO_16.out
                          subst eo68
                          go_wp2
                          go_ret
                          exact ⟨by first | rfl | (simp [errW_none, errW_some] <;> rfl) | (simp [*, errW_none, errW_some] <;> rfl), by repeat (first | (with_reducible first | exact HB.out | apply below_alloc | apply pw_below_drewN | apply below_drew1) | exact HB.out)⟩
                      · rw [if_neg c59] at H
                        have c59b0 : ((t1036.length : Int) == 0) = false := beq_eq_false_iff_ne.mpr c59
                        have c59b1 : ((t1036.length : Int) != 0) = true := bne_iff_ne.mpr c59
                        have c59b2 : ¬ (t1036 = []) := fun h_ => c59 (by rw [h_]; rfl)
                        obtain rfl := Option.some.inj H
                        obtain ⟨Ao69, co69, eo69⟩ := Kd.R_slice HO_10.out
                        subst eo69
                        obtain ⟨Ao70, co70, eo70⟩ := Kd.R_slice HO_14.out
                        subst eo70
                        go_wp2
                        go_ret
                        exact ⟨by first | rfl | (simp [errW_none, errW_some] <;> rfl) | (simp [*, errW_none, errW_some] <;> rfl), by repeat (first | (with_reducible first | exact HB.out | apply below_alloc | apply pw_below_drewN | apply below_drew1) | exact HB.out)⟩
                    · rw [if_neg c58] at H
                      have c58b0 : ((t1028.length : Int) == 0) = false := beq_eq_false_iff_ne.mpr c58
                      have c58b1 : ((t1028.length : Int) != 0) = true := bne_iff_ne.mpr c58
                      have c58b2 : ¬ (t1028 = []) := fun h_ => c58 (by rw [h_]; rfl)
                      obtain rfl := Option.some.inj H
                      obtain ⟨Ao71, co71, eo71⟩ := Kd.R_slice HO_10.out
                      subst eo71
                      go_wp2
                      go_ret
                      exact ⟨by first | rfl | (simp [errW_none, errW_some] <;> rfl) | (simp [*, errW_none, errW_some] <;> rfl), by repeat (first | (with_reducible first | exact HB.out | apply below_alloc | apply pw_below_drewN | apply below_drew1) | exact HB.out)⟩
          · rw [if_neg c20] at H
            exact absurd H (by simp)
end Go.Proofs.YtdjnneflpkllmaaDoor.Q

namespace Go.Proofs.Num
open Go.RowKit Go.Proofs.YtdjnneflpkllmaaDoorW.PrintWords Go.Proofs.YtdjnneflpkllmaaDoorW.PrintMore Go.Proofs.YtdjnneflpkllmaaDoor.Q
set_option linter.unusedVariables false
set_option linter.unusedSimpArgs false
theorem ext_at {a b : List Int} (hl : a.length = b.length) (h : ∀ i, i < a.length → at_ a i = at_ b i) : a = b := by
  rw [← tab_at (l := a), ← tab_at (l := b), ← hl]
  exact tab_congr h
theorem Stable.less {n : Nat} {p w : Nat → Int} (h : Stable (n + 1) p w) : Stable n p w :=
  ⟨fun i hi => h.nn i (by omega), fun i hi => h.ww i (by omega), fun i hi e => h.none i (by omega) e, fun i j hi hj h1 h2 ij => h.ah i j (by omega) (by omega) h1 h2 ij⟩
def mulL (l : List Int) (c : Int) : List Int := l.map (· * c)
theorem mulL_length (l : List Int) (c : Int) : (mulL l c).length = l.length := by simp [mulL]
theorem at_mulL {l : List Int} {c : Int} (i : Nat) : at_ (mulL l c) i = at_ l i * c := by
  unfold at_ mulL
  rw [List.getD_eq_getElem?_getD, List.getD_eq_getElem?_getD, List.getElem?_map]
  cases l[i]? <;> simp
theorem at_snoc0 {l : List Int} (i : Nat) : at_ (l ++ [0]) i = at_ l i := by
  unfold at_
  rw [List.getD_eq_getElem?_getD, List.getD_eq_getElem?_getD, List.getElem?_append]
  by_cases c : i < l.length
  · rw [if_pos c]
  · rw [if_neg c, List.getElem?_eq_none (show l.length ≤ i by omega)]
    rcases Nat.eq_zero_or_pos (i - l.length) with e | e
    · rw [e]; rfl
    · rw [List.getElem?_eq_none (by simp; omega)]
theorem sumTo_scale (p : Nat → Int) (c : Int) : ∀ n, sumTo (fun i => p i * c) n = sumTo p n * c
  | 0 => by simp [sumTo]
  | n + 1 => by
    show sumTo (fun i => p i * c) n + p n * c = (sumTo p n + p n) * c
    rw [sumTo_scale p c n, Int.add_mul]
theorem mul_eq_zero_pos {x c : Int} (hc : 0 < c) : x * c = 0 ↔ x = 0 := by
  constructor
  · intro h
    rcases Int.mul_eq_zero.1 h with h | h
    · exact h
    · omega
  · intro h; rw [h]; simp
/-- Weights within a fiftieth of the limit. -/
def Low (l : List Int) : Prop := ∀ x ∈ l, 0 ≤ x ∧ x ≤ 21474836
theorem weigh_low {N : Int} {l : List Int} (hn : l.length ≤ 256) (h : ∀ x ∈ l, 0 ≤ x ∧ x ≤ 1073741824) : weigh N l = if N < 0 ∨ 1125899906842624 < N then (0, 2) else if sumTo (at_ l) l.length = 0 ∧ N ≠ 0 then (0, 5) else (sumTo (at_ l) l.length, 0) := by
  unfold weigh
  rw [if_neg (by omega), if_pos h]
theorem scaled_range {l : List Int} (h : Low l) {c : Int} (c1 : 1 ≤ c) (c2 : c ≤ 50) : ∀ x ∈ mulL l c, 0 ≤ x ∧ x ≤ 1073741824 := by
  intro x hx
  obtain ⟨y, hy, rfl⟩ := List.mem_map.1 hx
  obtain ⟨a, b⟩ := h y hy
  have m1 := Int.mul_nonneg a (show 0 ≤ c by omega)
  have m2 : y * c ≤ 21474836 * 50 := Int.mul_le_mul b c2 (by omega) (by omega)
  exact ⟨m1, by omega⟩
theorem err_scaled {N : Int} {l : List Int} (hn : l.length ≤ 200) (h : Low l) {c : Int} (c1 : 1 ≤ c) (c2 : c ≤ 50) : (weigh N (mulL l c)).2 = (weigh N l).2 ∧ (weigh N (mulL l c ++ [0])).2 = (weigh N l).2 ∧ ((weigh N l).2 = 0 → (weigh N (mulL l c)).1 = (weigh N l).1 * c) := by
  have r0 : ∀ x ∈ l, 0 ≤ x ∧ x ≤ 1073741824 := fun x hx => by have := h x hx; omega
  have r1 := scaled_range h c1 c2
  have r2 : ∀ x ∈ mulL l c ++ [0], 0 ≤ x ∧ x ≤ 1073741824 := fun x hx => by
    rcases List.mem_append.1 hx with g | g
    · exact r1 x g
    · simp at g; omega
  have l1 := mulL_length l c
  have s1 : sumTo (at_ (mulL l c)) (mulL l c).length = sumTo (at_ l) l.length * c := by
    rw [l1, ← sumTo_scale]
    exact sumTo_congr fun i _ => at_mulL i
  have s2 : sumTo (at_ (mulL l c ++ [0])) (mulL l c ++ [0]).length = sumTo (at_ l) l.length * c := by
    rw [← s1, List.length_append]
    show sumTo (at_ (mulL l c ++ [0])) (mulL l c).length + at_ (mulL l c ++ [0]) (mulL l c).length = _
    rw [at_snoc0, at_none (Nat.le_refl _), Int.add_zero]
    exact sumTo_congr fun i _ => at_snoc0 i
  rw [weigh_low (by omega) r0, weigh_low (by omega) r1, weigh_low (by simp; omega) r2, s1, s2]
  by_cases d : N < 0 ∨ 1125899906842624 < N
  · simp only [if_pos d]; exact ⟨trivial, trivial, fun e => by simp at e⟩
  · simp only [if_neg d]
    have z := mul_eq_zero_pos (x := sumTo (at_ l) l.length) (c := c) (by omega)
    by_cases e : sumTo (at_ l) l.length = 0 ∧ N ≠ 0
    · rw [if_pos e, if_pos ⟨z.2 e.1, e.2⟩]; exact ⟨rfl, rfl, fun e => by simp at e⟩
    · rw [if_neg e, if_neg (fun g => e ⟨z.1 g.1, g.2⟩)]; exact ⟨rfl, rfl, fun _ => rfl⟩
theorem shQ_scaled (N S : Int) (l : List Int) {c : Int} (c1 : 1 ≤ c) (i : Nat) : shQ N (S * c) (at_ (mulL l c)) i = shQ N S (at_ l) i := by
  unfold shQ
  rw [at_mulL, ← Int.mul_assoc]
  exact Int.mul_ediv_mul_of_pos_left _ _ (by omega)
theorem shR_scaled (N S : Int) (l : List Int) {c : Int} (c1 : 1 ≤ c) (i : Nat) : shR N (S * c) (at_ (mulL l c)) i = shR N S (at_ l) i * c := by
  have e1 := Int.mul_ediv_add_emod (N * at_ l i) S
  have e2 := Int.mul_ediv_add_emod (N * at_ (mulL l c) i) (S * c)
  have q := shQ_scaled N S l c1 i
  unfold shQ at q
  rw [q] at e2
  unfold shR
  have e3 : N * at_ (mulL l c) i = N * at_ l i * c := by rw [at_mulL, Int.mul_assoc]
  rw [e3] at e2 ⊢
  have e4 : S * c * (N * at_ l i / S) = S * (N * at_ l i / S) * c := by grind
  rw [e4] at e2
  have e5 : (S * (N * at_ l i / S) + N * at_ l i % S) * c = N * at_ l i * c := by rw [e1]
  rw [Int.add_mul] at e5
  omega
theorem apportion_scaled (N : Int) {l : List Int} (hn : l.length ≤ 200) (h : Low l) {c : Int} (c1 : 1 ≤ c) (c2 : c ≤ 50) : apportion N (mulL l c) = apportion N l := by
  obtain ⟨e1, _, e3⟩ := err_scaled (N := N) hn h c1 c2
  unfold apportion
  rw [e1]
  by_cases z : (weigh N l).2 = 0
  · rw [if_pos z, if_pos z, e3 z, mulL_length]
    generalize (weigh N l).1 = S
    have t : leftN N (S * c) (mulL l c) = leftN N S l := by
      unfold leftN
      rw [mulL_length, sumTo_congr (fun i _ => shQ_scaled N S l c1 i)]
    rw [t]
    congr 1
    refine tab_congr fun i hi => ?_
    unfold appF
    rw [shQ_scaled N S l c1, mulL_length]
    have : rkR (shR N (S * c) (at_ (mulL l c))) l.length i = rkR (shR N S (at_ l)) l.length i := rkR_congr hi fun a b _ _ => by
      rw [shR_scaled N S l c1, shR_scaled N S l c1]
      constructor
      · intro g; exact Int.lt_of_mul_lt_mul_right g (by omega)
      · intro g; exact Int.mul_lt_mul_of_pos_right g (by omega)
    rw [this]
  · rw [if_neg z, if_neg z]
theorem scaled_l0 {N c : Int} {l : List Int} (hn : l.length ≤ 200) (c1 : 1 ≤ c) (c2 : c ≤ 50) : ∀ (d i : Nat), l.length - i = d → i ≤ l.length → (∀ j, j < i → 0 ≤ at_ l j ∧ at_ l j ≤ 21474836) →
    Ev (fun k => merinolaw01_NumScaled.l0 k N l c (mulL (l.take i) c) (i : Int)) true := by
  intro d
  induction d with
  | zero =>
    intro i hd hi hp
    obtain rfl : i = l.length := by omega
    rw [List.take_length]
    have L : Low l := fun x hx => by
      obtain ⟨j, hj, e⟩ := mem_at hx
      rw [← e]; exact hp j hj
    obtain ⟨e1, e2, e3⟩ := err_scaled (N := N) hn L c1 c2
    have ea := apportion_scaled N hn L c1 c2
    obtain ⟨u, ⟨Ku, Eu⟩, Du⟩ := divide_ok N l
    obtain ⟨v, ⟨Kv, Ev2⟩, Dv⟩ := divide_ok N (mulL l c ++ [0])
    have hal : (apportion N l).2 = (weigh N l).2 ∧ ((weigh N l).2 ≠ 0 → (apportion N l).1 = []) ∧ (apportion N l).1.length ≤ 4194304 := by
      unfold apportion
      by_cases z : (weigh N l).2 = 0
      · rw [if_pos z]; exact ⟨z.symm, fun g => absurd z g, by rw [tab_length]; omega⟩
      · rw [if_neg z]; exact ⟨rfl, fun _ => rfl, by simp⟩
    obtain ⟨Ks, Es⟩ := same_ok (l := (apportion N l).1) hal.2.2
    have hu2 : u.2 = (weigh N l).2 := by rcases Du with ⟨_, rfl⟩ | ⟨a, b, _⟩ <;> simp_all
    have hv2 : v.2 = (weigh N l).2 := by rcases Dv with ⟨_, rfl⟩ | ⟨a, b, _⟩ <;> simp_all
    have hul : u.1.length ≤ 4194304 := by rcases Du with ⟨_, rfl⟩ | ⟨a, b, g, _⟩ <;> simp_all <;> omega
    obtain ⟨Kt, Et⟩ := same_ok (l := u.1) hul
    refine ⟨Ku + Kv + Ks + Kt + 2, fun k hk => ?_⟩
    obtain ⟨j, rfl⟩ : ∃ j, k = j + 1 + 1 := ⟨k - 2, by omega⟩
    have lm := mulL_length l c
    show merinolaw01_NumScaled.l0 (j + 1 + 1) N l c (mulL l c) (l.length : Int) = some true
    rw [merinolaw01_NumScaled.l0, if_neg (by omega)]
    simp only [num_Apportion.f, ea, Option.bind_some, Eu (j + 1) (by omega)]
    rw [if_pos (by omega)]
    simp only [Ev2 (j + 1) (by omega), Option.bind_some, hu2, hv2, hal.1, if_true, Es (j + 1) (by omega), Bool.not_true]
    rw [merinolaw01_NumScaled.j1, if_neg (by decide)]
    by_cases z : (weigh N l).2 = 0
    · rw [if_pos z]
      rcases Du with ⟨g, _⟩ | ⟨z1, z2, lu, Su, su⟩
      · exact absurd z g
      · rcases Dv with ⟨g, _⟩ | ⟨y1, y2, lv, Sv, sv⟩
        · rw [e2] at g; exact absurd z g
        · have ll : (mulL l c ++ [0]).length = l.length + 1 := by simp [mulL_length]
          rw [ll] at lv Sv sv
          have v0 : at_ v.1 l.length = 0 := Sv.none l.length (by omega) (by rw [at_snoc0]; exact at_none (by omega))
          have sv' : sumTo (at_ v.1) l.length = N := by
            have : sumTo (at_ v.1) l.length + at_ v.1 l.length = N := sv
            omega
          have Su' := Su.scale (c := c) (by omega)
          have Sv' : Stable l.length (at_ v.1) (fun i => at_ l i * c) := Sv.less.congr (fun _ _ => rfl) (fun i hi => by rw [at_snoc0, at_mulL])
          have eq := Su'.uniq Sv' (by omega)
          have et : v.1.take l.length = u.1 := ext_at (by rw [List.length_take]; omega) fun i hi => by
            have hi' : i < l.length := by rw [List.length_take] at hi; omega
            rw [at_take hi', eq i hi']
          rw [lu, lv, wd64 (x := (l.length : Int) + 1) (by omega) (by omega), if_pos (by omega), if_pos (by omega), if_pos (by omega), Int.toNat_natCast, et]
          simp only [Et j (by omega), Option.bind_some]
          rw [if_pos trivial, if_pos (by omega), rd_nat, v0, if_pos rfl]
          rfl
    · rw [if_neg z]
      have a0 : (apportion N l).1.length = 0 := by rw [hal.2.1 z]; rfl
      have u0 : u.1.length = 0 := by rcases Du with ⟨_, rfl⟩ | ⟨g, _⟩ <;> simp_all
      have v0 : v.1.length = 0 := by rcases Dv with ⟨_, rfl⟩ | ⟨g, _⟩ <;> simp_all
      rw [a0, u0, v0]
      simp [merinolaw01_alive.f]
  | succ d ih =>
    intro i hd hi hp
    by_cases h1 : at_ l i < 0
    · refine Ev.step (f := fun _ => some true) (fun k => ?_) (Ev.now _)
      rw [merinolaw01_NumScaled.l0, if_pos (by omega), if_pos (by omega), rd_nat, if_pos h1]
      rfl
    · by_cases h2 : at_ l i > 21474836
      · refine Ev.step (f := fun _ => some true) (fun k => ?_) (Ev.now _)
        rw [merinolaw01_NumScaled.l0, if_pos (by omega), if_pos (by omega), rd_nat, if_neg h1, if_pos h2]
        rfl
      · have E := ih (i + 1) (by omega) (by omega) (fun j hj => by
          rcases Nat.lt_or_ge j i with g | g
          · exact hp j g
          · obtain rfl : j = i := by omega
            omega)
        have m1 := Int.mul_nonneg (show 0 ≤ at_ l i by omega) (show 0 ≤ c by omega)
        have m2 : at_ l i * c ≤ 21474836 * 50 := Int.mul_le_mul (by omega) c2 (by omega) (by omega)
        have e : mulL (l.take i) c ++ [at_ l i * c] = mulL (l.take (i + 1)) c := by
          unfold mulL
          rw [List.take_succ_eq_append_getElem (by omega), List.map_append]
          unfold at_
          rw [List.getD_eq_getElem?_getD, List.getElem?_eq_getElem (by omega)]
          rfl
        refine Ev.step (f := fun k => merinolaw01_NumScaled.l0 k N l c (mulL (l.take (i + 1)) c) ((i + 1 : Nat) : Int)) (fun k => ?_) E
        have lt := mulL_length (l.take i) c
        rw [List.length_take] at lt
        rw [merinolaw01_NumScaled.l0, if_pos (by omega), if_pos (by omega), rd_nat, if_neg h1, if_neg h2, if_pos (by omega), wd64 (x := at_ l i * c) (by omega) (by omega), e, wd64 (x := (i : Int) + 1) (by omega) (by omega)]
        rfl
theorem scaled_true (N : Int) (l : List Int) (b : Int) (b0 : 0 ≤ b) (b1 : b ≤ 255) : ∃ k, merinolaw01_NumScaled.f k N l b = some true := by
  apply Ev.rounds
  unfold merinolaw01_NumScaled.f
  by_cases h : (l.length : Int) > 200
  · simp only [if_pos h]
    exact Ev.now _
  · simp only [if_neg h]
    have t : Int.tmod b 50 = b % 50 := Int.tmod_eq_emod_of_nonneg b0
    rw [wd64 (x := b) (by omega) (by omega), t, wd64 (x := 1 + b % 50) (by omega) (by omega)]
    exact scaled_l0 (N := N) (c := 1 + b % 50) (l := l) (by omega) (by omega) (by omega) l.length 0 (by omega) (by omega) (fun j hj => by omega)
/-- The law, called. -/
theorem walk_NumScaled (a0 : Int) (A1 : Option Addr) (c1 : Nat) (l1 : List Int) (b : Int) (b0 : 0 ≤ b) (b1 : b ≤ 255) (w : World) (hr1 : Kd.C (Kd.int .i64) w A1 l1.length l1) (hc1 : l1.length ≤ c1) :
    Calls Tryd.prog 13 #[.int .i64 a0, .slice A1 l1.length c1, .int .u8 b] w fun e w' => e = .returned (.bool true) ∧ Below w.heap.size w w' := by
  obtain ⟨k, h⟩ := scaled_true a0 l1 b b0 b1
  exact merinolaw01_NumScaled.calls k a0 A1 c1 l1 b true w hr1 hc1 h
end Go.Proofs.Num
