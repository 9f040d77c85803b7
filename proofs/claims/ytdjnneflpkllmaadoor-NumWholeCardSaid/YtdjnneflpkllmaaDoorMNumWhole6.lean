/- Part 6 of the proof of NumWhole. -/
import Derived.Test.YtdjnneflpkllmaaDoorMNumWhole5
import Derived.Sort.LotA
import Derived.Sort.Lot0
import Derived.Shelf.SlSortCmp.KitK
import Derived.Sort.WalkB2
import Derived.Sort.WalkB12
import Derived.Shelf.SlSortCmp.QuietGrown

namespace Go.Proofs.Num.St
open Go.Sort
set_option linter.unusedVariables false
set_option linter.unusedSimpArgs false
variable {α : Type} [Inhabited α]
def swpUp (a b n i : Nat) (d : Array α) : Array α := if i < n then swpUp a b n (i + 1) (swp d (a + i) (b + i)) else d
  termination_by n - i
theorem swpUp_go {a b n i : Nat} {d : Array α} (h : i < n) : swpUp a b n i d = swpUp a b n (i + 1) (swp d (a + i) (b + i)) := by rw [swpUp, if_pos h]
theorem swpUp_end {a b n i : Nat} {d : Array α} (h : ¬ i < n) : swpUp a b n i d = d := by rw [swpUp, if_neg h]
theorem swpUp_size (a b n : Nat) : ∀ (k i : Nat) (d : Array α), n - i ≤ k → (swpUp a b n i d).size = d.size := by
  intro k
  induction k with
  | zero => intro i d h; rw [swpUp_end (by omega)]
  | succ k ih =>
    intro i d h
    by_cases c : i < n
    · rw [swpUp_go c, ih _ _ (by omega), size_swp]
    · rw [swpUp_end c]
theorem swpUp_get {a b n : Nat} (hab : a + n ≤ b) : ∀ (k i : Nat) (d : Array α), n - i ≤ k → b + n ≤ d.size → ∀ t, (swpUp a b n i d)[t]! = if a + i ≤ t ∧ t < a + n then d[t - a + b]! else if b + i ≤ t ∧ t < b + n then d[t - b + a]! else d[t]! := by
  intro k
  induction k with
  | zero =>
    intro i d h hb t
    rw [swpUp_end (by omega), if_neg (by omega), if_neg (by omega)]
  | succ k ih =>
    intro i d h hb t
    by_cases c : i < n
    · rw [swpUp_go c, ih _ _ (by omega) (by rw [size_swp]; exact hb)]
      have hl := swp_left d (a + i) (b + i) (by omega) (by omega)
      have hr := swp_right d (a + i) (b + i) (by omega)
      have ho := swp_other d (a + i) (b + i)
      by_cases c1 : a + i ≤ t ∧ t < a + n
      · rw [if_pos c1]
        by_cases c2 : t = a + i
        · subst c2
          rw [if_neg (by omega), if_neg (by omega), hl]
          congr 1; omega
        · rw [if_pos (by omega), ho _ (by omega) (by omega)]
      · rw [if_neg c1, if_neg (by omega)]
        by_cases c2 : b + i ≤ t ∧ t < b + n
        · rw [if_pos c2]
          by_cases c3 : t = b + i
          · subst c3
            rw [if_neg (by omega), hr]
            congr 1; omega
          · rw [if_pos (by omega), ho _ (by omega) (by omega)]
        · rw [if_neg c2, if_neg (by omega), ho _ (by omega) (by omega)]
    · rw [swpUp_end c, if_neg (by omega), if_neg (by omega)]
theorem swpUp_perm {A B a b n : Nat} (hA : A ≤ a) (hab : a ≤ b) (hB : b + n ≤ B) : ∀ (k i : Nat) (d : Array α), n - i ≤ k → B ≤ d.size → PermIn A B d (swpUp a b n i d) := by
  intro k
  induction k with
  | zero => intro i d h hs; rw [swpUp_end (by omega)]; exact permIn_refl _ _ _
  | succ k ih =>
    intro i d h hs
    by_cases c : i < n
    · rw [swpUp_go c]
      exact permIn_trans _ _ _ _ _ (swp_permIn d A B (a + i) (b + i) (by omega) (by omega) (by omega) (by omega) hs) (ih _ _ (by omega) (by rw [size_swp]; exact hs))
    · rw [swpUp_end c]; exact permIn_refl _ _ _
def rot (m : Nat) : Nat → Nat → Nat → Array α → Array α
  | 0, _, _, d => d
  | f + 1, i, j, d => if i = j then swpUp (m - i) m i 0 d else if j < i then rot m f (i - j) j (swpUp (m - i) m j 0 d) else rot m f i (j - i) (swpUp (m - i) (m + j - i) i 0 d)
theorem rot_spec (m A B : Nat) : ∀ (f i j : Nat) (d : Array α), 0 < i → 0 < j → i ≤ m → A ≤ m - i → m + j ≤ B → B ≤ d.size → i + j ≤ f →
    PermIn A B d (rot m f i j d) ∧ ∀ t, (rot m f i j d)[t]! = if t < m - i ∨ m + j ≤ t then d[t]! else if t < m - i + j then d[t + i]! else d[t - j]! := by
  intro f
  induction f with
  | zero => intro i j d h1 h2 h3 h4 h5 h6 h7; omega
  | succ f ih =>
    intro i j d h1 h2 h3 h4 h5 h6 h7
    rw [rot]
    by_cases c : i = j
    · rw [if_pos c]
      refine ⟨swpUp_perm h4 (by omega) (by omega) i 0 d (by omega) h6, fun t => ?_⟩
      rw [swpUp_get (by omega) i 0 d (by omega) (by omega)]
      by_cases c1 : m - i + 0 ≤ t ∧ t < m - i + i
      · rw [if_pos c1, if_neg (by omega), if_pos (by omega)]
        congr 1; omega
      · rw [if_neg c1]
        by_cases c2 : m + 0 ≤ t ∧ t < m + i
        · rw [if_pos c2, if_neg (by omega), if_neg (by omega)]
          congr 1; omega
        · rw [if_neg c2, if_pos (by omega)]
    · rw [if_neg c]
      by_cases c1 : j < i
      · rw [if_pos c1]
        have hs : (swpUp (m - i) m j 0 d).size = d.size := swpUp_size _ _ _ j 0 d (by omega)
        obtain ⟨hp, hg⟩ := ih (i - j) j (swpUp (m - i) m j 0 d) (by omega) h2 (by omega) (by omega) h5 (by omega) (by omega)
        refine ⟨permIn_trans _ _ _ _ _ (swpUp_perm h4 (by omega) (by omega) j 0 d (by omega) h6) hp, fun t => ?_⟩
        have G := swpUp_get (a := m - i) (b := m) (n := j) (by omega) j 0 d (by omega) (by omega)
        rw [hg t]
        by_cases e1 : t < m - i ∨ m + j ≤ t
        · rw [if_pos (by omega), if_pos e1, G, if_neg (by omega), if_neg (by omega)]
        · rw [if_neg e1]
          by_cases e2 : t < m - i + j
          · rw [if_pos (by omega), if_pos e2, G, if_pos (by omega)]
            congr 1; omega
          · rw [if_neg e2, if_neg (by omega)]
            by_cases e3 : t < m - (i - j) + j
            · rw [if_pos e3, G]
              by_cases e4 : m + 0 ≤ t + (i - j) ∧ t + (i - j) < m + j
              · rw [if_neg (by omega), if_pos e4]
                congr 1; omega
              · exfalso; omega
            · rw [if_neg e3, G, if_neg (by omega), if_neg (by omega)]
      · rw [if_neg c1]
        have hs : (swpUp (m - i) (m + j - i) i 0 d).size = d.size := swpUp_size _ _ _ i 0 d (by omega)
        obtain ⟨hp, hg⟩ := ih i (j - i) (swpUp (m - i) (m + j - i) i 0 d) h1 (by omega) h3 h4 (by omega) (by omega) (by omega)
        refine ⟨permIn_trans _ _ _ _ _ (swpUp_perm h4 (by omega) (by omega) i 0 d (by omega) h6) hp, fun t => ?_⟩
        have G := swpUp_get (a := m - i) (b := m + j - i) (n := i) (by omega) i 0 d (by omega) (by omega)
        rw [hg t]
        by_cases e1 : t < m - i ∨ m + j ≤ t
        · rw [if_pos (by omega), if_pos e1, G, if_neg (by omega), if_neg (by omega)]
        · rw [if_neg e1]
          by_cases e0 : m + (j - i) ≤ t
          · rw [if_pos (by omega), if_neg (by omega), G, if_neg (by omega), if_pos (by omega)]
            congr 1; omega
          · rw [if_neg (by omega)]
            by_cases e2 : t < m - i + (j - i)
            · rw [if_pos e2, if_pos (by omega), G, if_neg (by omega), if_neg (by omega)]
            · rw [if_neg e2, G]
              by_cases e3 : t < m - i + j
              · rw [if_pos e3, if_pos (by omega)]
                congr 1; omega
              · rw [if_neg e3]; exfalso; omega
def bs (p : Nat → Bool) (i j : Nat) : Nat := if i < j then (if p ((i + j) / 2) then bs p ((i + j) / 2 + 1) j else bs p i ((i + j) / 2)) else i
  termination_by j - i
theorem bs_up {p : Nat → Bool} {i j : Nat} (h : i < j) (hp : p ((i + j) / 2) = true) : bs p i j = bs p ((i + j) / 2 + 1) j := by rw [bs, if_pos h, if_pos hp]
theorem bs_down {p : Nat → Bool} {i j : Nat} (h : i < j) (hp : p ((i + j) / 2) = false) : bs p i j = bs p i ((i + j) / 2) := by rw [bs, if_pos h, if_neg (by rw [hp]; decide)]
theorem bs_end {p : Nat → Bool} {i j : Nat} (h : ¬ i < j) : bs p i j = i := by rw [bs, if_neg h]
theorem bs_range (p : Nat → Bool) : ∀ (k i j : Nat), j - i ≤ k → i ≤ j → i ≤ bs p i j ∧ bs p i j ≤ j := by
  intro k
  induction k with
  | zero => intro i j h hij; rw [bs_end (by omega)]; omega
  | succ k ih =>
    intro i j h hij
    by_cases c : i < j
    · cases hp : p ((i + j) / 2)
      · rw [bs_down c hp]
        have := ih i ((i + j) / 2) (by omega) (by omega)
        omega
      · rw [bs_up c hp]
        have := ih ((i + j) / 2 + 1) j (by omega) (by omega)
        omega
    · rw [bs_end c]; omega
theorem bs_spec {p : Nat → Bool} : ∀ (k i j : Nat), j - i ≤ k → (∀ x y, i ≤ x → x ≤ y → y < j → p y = true → p x = true) → (∀ x, i ≤ x → x < bs p i j → p x = true) ∧ (∀ x, bs p i j ≤ x → x < j → p x = false) := by
  intro k
  induction k with
  | zero => intro i j h hm; rw [bs_end (by omega)]; exact ⟨fun x h1 h2 => by omega, fun x h1 h2 => by omega⟩
  | succ k ih =>
    intro i j h hm
    by_cases c : i < j
    · cases hp : p ((i + j) / 2)
      · rw [bs_down c hp]
        obtain ⟨g1, g2⟩ := ih i ((i + j) / 2) (by omega) fun x y h1 h2 h3 => hm x y h1 h2 (by omega)
        refine ⟨g1, fun x h1 h2 => ?_⟩
        by_cases c2 : x < (i + j) / 2
        · exact g2 x h1 c2
        · cases hx : p x
          · rfl
          · rw [hm ((i + j) / 2) x (by omega) (by omega) h2 hx] at hp; cases hp
      · rw [bs_up c hp]
        obtain ⟨g1, g2⟩ := ih ((i + j) / 2 + 1) j (by omega) fun x y h1 h2 h3 => hm x y (by omega) h2 h3
        refine ⟨fun x h1 h2 => ?_, g2⟩
        by_cases c2 : x ≤ (i + j) / 2
        · exact hm x ((i + j) / 2) h1 c2 (by omega) hp
        · exact g1 x (by omega) h2
    · rw [bs_end c]; exact ⟨fun x h1 h2 => by omega, fun x h1 h2 => by omega⟩
def shUp (k e : Nat) (d : Array α) : Array α := if k < e then shUp (k + 1) e (swp d k (k + 1)) else d
  termination_by e - k
theorem shUp_go {k e : Nat} {d : Array α} (h : k < e) : shUp k e d = shUp (k + 1) e (swp d k (k + 1)) := by rw [shUp, if_pos h]
theorem shUp_end {k e : Nat} {d : Array α} (h : ¬ k < e) : shUp k e d = d := by rw [shUp, if_neg h]
theorem shUp_spec (A B e : Nat) : ∀ (n k : Nat) (d : Array α), e - k ≤ n → A ≤ k → k ≤ e → e < B → B ≤ d.size → PermIn A B d (shUp k e d) ∧ ∀ t, (shUp k e d)[t]! = if k ≤ t ∧ t < e then d[t + 1]! else if t = e then d[k]! else d[t]! := by
  intro n
  induction n with
  | zero =>
    intro k d h h1 h2 h3 h4
    rw [shUp_end (by omega)]
    refine ⟨permIn_refl _ _ _, fun t => ?_⟩
    rw [if_neg (by omega)]
    by_cases c : t = e
    · rw [if_pos c]; congr 1; omega
    · rw [if_neg c]
  | succ n ih =>
    intro k d h h1 h2 h3 h4
    by_cases c : k < e
    · rw [shUp_go c]
      obtain ⟨hp, hg⟩ := ih (k + 1) (swp d k (k + 1)) (by omega) (by omega) (by omega) h3 (by rw [size_swp]; exact h4)
      have hl := swp_left d k (k + 1) (by omega) (by omega)
      have hr := swp_right d k (k + 1) (by omega)
      have ho := swp_other d k (k + 1)
      refine ⟨permIn_trans _ _ _ _ _ (swp_permIn d A B k (k + 1) h1 (by omega) (by omega) (by omega) h4) hp, fun t => ?_⟩
      rw [hg t]
      by_cases c1 : t = k
      · subst c1
        rw [if_neg (by omega), if_neg (by omega), if_pos (by omega), hl]
      · by_cases c2 : k + 1 ≤ t ∧ t < e
        · rw [if_pos c2, if_pos (by omega), ho _ (by omega) (by omega)]
        · by_cases c3 : t = e
          · rw [if_neg c2, if_pos c3, if_neg (show ¬ (k ≤ t ∧ t < e) by omega), if_pos c3, hr]
          · rw [if_neg c2, if_neg c3, if_neg (show ¬ (k ≤ t ∧ t < e) by omega), if_neg c3, ho _ (by omega) (by omega)]
    · rw [shUp_end c]
      refine ⟨permIn_refl _ _ _, fun t => ?_⟩
      rw [if_neg (by omega)]
      by_cases c2 : t = e
      · rw [if_pos c2]; congr 1; omega
      · rw [if_neg c2]
def shDn (i : Nat) : Nat → Array α → Array α
  | 0, d => d
  | k + 1, d => if i < k + 1 then shDn i k (swp d (k + 1) k) else d
theorem shDn_go {i k : Nat} {d : Array α} (h : i < k + 1) : shDn i (k + 1) d = shDn i k (swp d (k + 1) k) := by rw [shDn, if_pos h]
theorem shDn_end {i k : Nat} {d : Array α} (h : ¬ i < k) : shDn i k d = d := by
  cases k with
  | zero => rfl
  | succ k => rw [shDn, if_neg h]
theorem shDn_spec (A B i : Nat) : ∀ (k : Nat) (d : Array α), A ≤ i → i ≤ k → k < B → B ≤ d.size → PermIn A B d (shDn i k d) ∧ ∀ t, (shDn i k d)[t]! = if t = i then d[k]! else if i < t ∧ t ≤ k then d[t - 1]! else d[t]! := by
  intro k
  induction k with
  | zero =>
    intro d h1 h2 h3 h4
    rw [shDn_end (by omega)]
    refine ⟨permIn_refl _ _ _, fun t => ?_⟩
    by_cases c : t = i
    · rw [if_pos c]; congr 1; omega
    · rw [if_neg c, if_neg (by omega)]
  | succ k ih =>
    intro d h1 h2 h3 h4
    by_cases c : i < k + 1
    · rw [shDn_go c]
      obtain ⟨hp, hg⟩ := ih (swp d (k + 1) k) h1 (by omega) (by omega) (by rw [size_swp]; exact h4)
      have hl := swp_left d (k + 1) k (by omega) (by omega)
      have hr := swp_right d (k + 1) k (by omega)
      have ho := swp_other d (k + 1) k
      refine ⟨permIn_trans _ _ _ _ _ (swp_permIn d A B (k + 1) k (by omega) (by omega) (by omega) (by omega) h4) hp, fun t => ?_⟩
      rw [hg t]
      by_cases c1 : t = i
      · rw [if_pos c1, if_pos c1, hr]
      · rw [if_neg c1, if_neg c1]
        by_cases c2 : i < t ∧ t ≤ k
        · rw [if_pos c2, if_pos (by omega), ho _ (by omega) (by omega)]
        · rw [if_neg c2]
          by_cases c3 : t = k + 1
          · subst c3
            rw [if_pos (by omega), hl]; congr 1
          · rw [if_neg (by omega), ho _ (by omega) (by omega)]
    · rw [shDn_end c]
      refine ⟨permIn_refl _ _ _, fun t => ?_⟩
      by_cases c2 : t = i
      · rw [if_pos c2]; congr 1; omega
      · rw [if_neg c2, if_neg (by omega)]
section
variable (cl : α → α → Bool)
def symM : Nat → Nat → Nat → Nat → Array α → Array α
  | 0, _, _, _, d => d
  | f + 1, a, m, b, d =>
    if m - a = 1 then shUp a (bs (fun h => cl d[h]! d[a]!) m b - 1) d
    else if b - m = 1 then shDn (bs (fun h => !cl d[m]! d[h]!) a m) m d
    else
      let mid := (a + b) / 2
      let n := mid + m
      let s := bs (fun c => !cl d[n - 1 - c]! d[c]!) (if m > mid then n - b else a) (if m > mid then mid else m)
      let e := n - s
      let d1 := if s < m ∧ m < e then rot m (b - a) (m - s) (e - m) d else d
      let d2 := if a < s ∧ s < mid then symM f a s mid d1 else d1
      if mid < e ∧ e < b then symM f mid e b d2 else d2
end
variable {cl lt : α → α → Bool} {pr : α → α → Prop}
theorem sorted_part {a b a' b' : Nat} {d : Array α} (h : SortedIn lt a b d) (h1 : a ≤ a') (h2 : b' ≤ b) : SortedIn lt a' b' d := fun i j x y z => h i j (by omega) y (by omega)
theorem asymm_ {β : Type} {ls : β → β → Bool} (hS : SWO ls) {x y : β} (h : ls x y = true) : ls y x = false := by
  cases g : ls y x
  · rfl
  · have := hS.trans _ _ _ h g
    rw [hS.irrefl] at this
    exact absurd this (by decide)
theorem sorted_join {a m b : Nat} {d : Array α} (h1 : SortedIn lt a m d) (h2 : SortedIn lt m b d) (hx : ∀ i j, a ≤ i → i < m → m ≤ j → j < b → lt d[j]! d[i]! = false) : SortedIn lt a b d := fun i j x y z => by
  by_cases c1 : j < m
  · exact h1 i j x y c1
  · by_cases c2 : i < m
    · exact hx i j x c2 (by omega) z
    · exact h2 i j (by omega) y z
theorem symM_spec (hS : SWO lt) (hA : ∀ x y, pr y x → cl x y = lt x y) : ∀ (f a m b : Nat) (d : Array α), a < m → m < b → b ≤ d.size → b - a ≤ f → SortedIn lt a m d → SortedIn lt m b d →
    (∀ i j, a ≤ i → i < m → m ≤ j → j < b → pr d[i]! d[j]!) → PermIn a b d (symM cl f a m b d) ∧ SortedIn lt a b (symM cl f a m b d) := by
  intro f
  induction f with
  | zero => intro a m b d h1 h2 h3 h4; omega
  | succ f ih =>
    intro a m b d h1 h2 h3 h4 hs1 hs2 hp
    rw [symM]
    by_cases c1 : m - a = 1
    · rw [if_pos c1]
      have R := bs_range (fun h => cl d[h]! d[a]!) (b - m) m b (Nat.le_refl _) (by omega)
      obtain ⟨g1, g2⟩ := bs_spec (p := fun h => cl d[h]! d[a]!) (b - m) m b (Nat.le_refl _) fun x y hx hxy hy h => by
        have e1 := hA d[y]! d[a]! (hp a y (by omega) (by omega) (by omega) hy)
        have e2 := hA d[x]! d[a]! (hp a x (by omega) (by omega) (by omega) (by omega))
        rw [e1] at h
        rw [e2]
        by_cases exy : x = y
        · rw [exy]; exact h
        · cases g : lt d[x]! d[a]!
          · have := hS.ntrans _ _ _ (hs2 x y hx (by omega) hy) g
            rw [this] at h; cases h
          · rfl
      generalize bs (fun h => cl d[h]! d[a]!) m b = r at *
      obtain ⟨P, G⟩ := shUp_spec a b (r - 1) (r - 1 - a) a d (Nat.le_refl _) (Nat.le_refl _) (by omega) (by omega) h3
      refine ⟨P, fun i j hi hij hj => ?_⟩
      rw [G i, G j]
      have u1 : ∀ x, m ≤ x → x < r → lt d[x]! d[a]! = true := fun x hx hxr => by rw [← hA _ _ (hp a x (by omega) (by omega) hx (by omega))]; exact g1 x hx hxr
      have u2 : ∀ x, r ≤ x → x < b → lt d[x]! d[a]! = false := fun x hx hxr => by rw [← hA _ _ (hp a x (by omega) (by omega) (by omega) hxr)]; exact g2 x hx hxr
      by_cases d1 : j < r - 1
      · rw [if_pos (by omega), if_pos (by omega)]
        exact hs2 (i + 1) (j + 1) (by omega) (by omega) (by omega)
      · rw [if_neg (show ¬ (a ≤ j ∧ j < r - 1) by omega)]
        by_cases d2 : j = r - 1
        · rw [if_pos d2, if_pos (by omega)]
          exact asymm_ hS (u1 (i + 1) (by omega) (by omega))
        · rw [if_neg d2]
          by_cases d3 : i < r - 1
          · rw [if_pos (by omega)]
            exact hs2 (i + 1) j (by omega) (by omega) hj
          · rw [if_neg (by omega)]
            by_cases d4 : i = r - 1
            · rw [if_pos d4]; exact u2 j (by omega) hj
            · rw [if_neg d4]; exact hs2 i j (by omega) hij hj
    · rw [if_neg c1]
      by_cases c2 : b - m = 1
      · rw [if_pos c2]
        have R := bs_range (fun h => !cl d[m]! d[h]!) (m - a) a m (Nat.le_refl _) (by omega)
        obtain ⟨g1, g2⟩ := bs_spec (p := fun h => !cl d[m]! d[h]!) (m - a) a m (Nat.le_refl _) fun x y hx hxy hy h => by
          have e1 := hA d[m]! d[y]! (hp y m (by omega) (by omega) (by omega) (by omega))
          have e2 := hA d[m]! d[x]! (hp x m (by omega) (by omega) (by omega) (by omega))
          rw [e1] at h
          rw [e2]
          by_cases exy : x = y
          · rw [exy]; exact h
          · have h' : lt d[m]! d[y]! = false := by simpa using h
            have := hS.ntrans _ _ _ h' (hs1 x y hx (by omega) hy)
            rw [this]; rfl
        generalize bs (fun h => !cl d[m]! d[h]!) a m = r at *
        obtain ⟨P, G⟩ := shDn_spec a b r m d (by omega) (by omega) h2 h3
        refine ⟨P, fun i j hi hij hj => ?_⟩
        have u1 : ∀ x, a ≤ x → x < r → lt d[m]! d[x]! = false := fun x hx hxr => by
          have := g1 x hx hxr
          simp only [hA _ _ (hp x m hx (by omega) (by omega) (by omega))] at this
          simpa using this
        have u2 : ∀ x, r ≤ x → x < m → lt d[m]! d[x]! = true := fun x hx hxr => by
          have := g2 x hx hxr
          simp only [hA _ _ (hp x m (by omega) hxr (by omega) (by omega))] at this
          simpa using this
        rw [G i, G j]
        by_cases d1 : j < r
        · rw [if_neg (by omega), if_neg (by omega), if_neg (by omega), if_neg (by omega)]
          exact hs1 i j hi hij (by omega)
        · by_cases d2 : j = r
          · rw [if_pos d2, if_neg (by omega), if_neg (by omega)]
            exact u1 i hi (by omega)
          · rw [if_neg d2, if_pos (by omega)]
            by_cases d3 : i = r
            · rw [if_pos d3]; exact asymm_ hS (u2 (j - 1) (by omega) (by omega))
            · rw [if_neg d3]
              by_cases d4 : r < i ∧ i ≤ m
              · rw [if_pos d4]; exact hs1 (i - 1) (j - 1) (by omega) (by omega) (by omega)
              · rw [if_neg d4]
                by_cases d5 : i < j - 1
                · exact hs1 i (j - 1) hi d5 (by omega)
                · have : i = j - 1 := by omega
                  rw [this]; exact hS.irrefl _
      · rw [if_neg c2]
        simp only []
        obtain ⟨mid, hmid⟩ : ∃ mid, mid = (a + b) / 2 := ⟨_, rfl⟩
        obtain ⟨lo, hlo⟩ : ∃ lo, lo = (if m > mid then mid + m - b else a) := ⟨_, rfl⟩
        obtain ⟨hi, hhi⟩ : ∃ hi, hi = (if m > mid then mid else m) := ⟨_, rfl⟩
        rw [← hmid, ← hlo, ← hhi]
        have m1 : a < mid := by omega
        have m2 : mid < b := by omega
        have r1 : a ≤ lo ∧ lo ≤ hi ∧ hi ≤ m ∧ hi ≤ mid ∧ mid + m ≤ lo + b ∧ (lo = a ∨ lo = mid + m - b) ∧ (hi = m ∨ hi = mid) := by
          rw [hlo, hhi]
          by_cases c : m > mid
          · rw [if_pos c, if_pos c]; omega
          · rw [if_neg c, if_neg c]; omega
        clear hlo hhi
        obtain ⟨r1, r2, r3, r4, r5, r6, r7⟩ := r1
        have R := bs_range (fun c => !cl d[mid + m - 1 - c]! d[c]!) (hi - lo) lo hi (Nat.le_refl _) r2
        have ag : ∀ c, lo ≤ c → c < hi → (!cl d[mid + m - 1 - c]! d[c]!) = !lt d[mid + m - 1 - c]! d[c]! := fun c h5 h6 => by
          rw [hA _ _ (hp c (mid + m - 1 - c) (by omega) (by omega) (by omega) (by omega))]
        obtain ⟨g1, g2⟩ := bs_spec (p := fun c => !cl d[mid + m - 1 - c]! d[c]!) (hi - lo) lo hi (Nat.le_refl _) fun x y hx hxy hy h => by
          rw [ag y (by omega) hy] at h
          rw [ag x hx (by omega)]
          by_cases exy : x = y
          · rw [exy]; exact h
          · have h' : lt d[mid + m - 1 - y]! d[y]! = false := by simpa using h
            have k1 := hs1 x y (by omega) (by omega) (by omega)
            have k2 := hs2 (mid + m - 1 - y) (mid + m - 1 - x) (by omega) (by omega) (by omega)
            rw [hS.ntrans _ _ _ k2 (hS.ntrans _ _ _ h' k1)]; rfl
        have u1 : ∀ x, lo ≤ x → x < bs (fun c => !cl d[mid + m - 1 - c]! d[c]!) lo hi → lt d[mid + m - 1 - x]! d[x]! = false := fun x hx hxr => by
          have h := g1 x hx hxr
          simp only [ag x hx (by omega)] at h
          simpa using h
        have u2 : ∀ x, bs (fun c => !cl d[mid + m - 1 - c]! d[c]!) lo hi ≤ x → x < hi → lt d[mid + m - 1 - x]! d[x]! = true := fun x hx hxr => by
          have h := g2 x hx hxr
          simp only [ag x (by omega) hxr] at h
          simpa using h
        clear g1 g2 ag
        generalize bs (fun c => !cl d[mid + m - 1 - c]! d[c]!) lo hi = s at *
        obtain ⟨e, he⟩ : ∃ e, e = mid + m - s := ⟨_, rfl⟩
        rw [← he]
        -- the rotation
        obtain ⟨d1, hd1⟩ : ∃ d1, d1 = (if s < m ∧ m < e then rot m (b - a) (m - s) (e - m) d else d) := ⟨_, rfl⟩
        have D1 : PermIn a b d d1 ∧ ∀ t, d1[t]! = if t < s ∨ e ≤ t then d[t]! else if t < mid then d[t + (m - s)]! else d[t - (e - m)]! := by
          rw [hd1]
          by_cases c : s < m ∧ m < e
          · rw [if_pos c]
            obtain ⟨P, G⟩ := rot_spec m a b (b - a) (m - s) (e - m) d (by omega) (by omega) (by omega) (by omega) (by omega) h3 (by omega)
            refine ⟨P, fun t => ?_⟩
            rw [G t]
            by_cases e1 : t < s ∨ e ≤ t
            · rw [if_pos e1, if_pos (by omega)]
            · rw [if_neg e1, if_neg (by omega)]
              by_cases e2 : t < mid
              · rw [if_pos e2, if_pos (by omega)]
              · rw [if_neg e2, if_neg (by omega)]
          · rw [if_neg c]
            refine ⟨permIn_refl _ _ _, fun t => ?_⟩
            by_cases e1 : t < s ∨ e ≤ t
            · rw [if_pos e1]
            · rw [if_neg e1]
              by_cases e2 : t < mid
              · rw [if_pos e2]; congr 1; omega
              · rw [if_neg e2]; congr 1; omega
        rw [← hd1]
        clear hd1
        obtain ⟨P1, G1⟩ := D1
        have z1 : d1.size = d.size := P1.1
        have Gs : ∀ t, t < s → d1[t]! = d[t]! := fun t h => by rw [G1 t, if_pos (Or.inl h)]
        have Ge : ∀ t, e ≤ t → d1[t]! = d[t]! := fun t h => by rw [G1 t, if_pos (Or.inr h)]
        have Gm : ∀ t, s ≤ t → t < mid → d1[t]! = d[t + (m - s)]! := fun t h h' => by rw [G1 t, if_neg (by omega), if_pos h']
        have Gu : ∀ t, mid ≤ t → t < e → d1[t]! = d[t - (e - m)]! := fun t h h' => by rw [G1 t, if_neg (by omega), if_neg (by omega)]
        clear G1
        -- the lower half is nowhere above the upper
        have low : ∀ i j, a ≤ i → i < mid → mid ≤ j → j < b → lt d1[j]! d1[i]! = false := fun i j i1 i2 j1 j2 => by
          by_cases ci : i < s
          · by_cases cj : e ≤ j
            · rw [Gs i ci, Ge j cj]
              have sl : lo < s := by omega
              have k := u1 (s - 1) (by omega) (by omega)
              rw [show mid + m - 1 - (s - 1) = e by omega] at k
              have k1 : lt d[j]! d[e]! = false := by
                by_cases q : j = e
                · rw [q]; exact hS.irrefl _
                · exact hs2 e j (by omega) (by omega) j2
              have k2 : lt d[s - 1]! d[i]! = false := by
                by_cases q : i = s - 1
                · rw [q]; exact hS.irrefl _
                · exact hs1 i (s - 1) i1 (by omega) (by omega)
              exact hS.ntrans _ _ _ k1 (hS.ntrans _ _ _ k k2)
            · rw [Gs i ci, Gu j j1 (by omega)]
              exact hs1 i (j - (e - m)) i1 (by omega) (by omega)
          · by_cases cj : e ≤ j
            · rw [Gm i (by omega) i2, Ge j cj]
              exact hs2 (i + (m - s)) j (by omega) (by omega) j2
            · rw [Gm i (by omega) i2, Gu j j1 (by omega)]
              have k := asymm_ hS (u2 s (Nat.le_refl _) (by omega))
              rw [show mid + m - 1 - s = e - 1 by omega] at k
              have k1 : lt d[j - (e - m)]! d[s]! = false := by
                by_cases q : j - (e - m) = s
                · rw [q]; exact hS.irrefl _
                · exact hs1 s (j - (e - m)) (by omega) (by omega) (by omega)
              have k2 : lt d[e - 1]! d[i + (m - s)]! = false := by
                by_cases q : i + (m - s) = e - 1
                · rw [q]; exact hS.irrefl _
                · exact hs2 (i + (m - s)) (e - 1) (by omega) (by omega) (by omega)
              exact hS.ntrans _ _ _ k1 (hS.ntrans _ _ _ k k2)
        -- the parts are sorted
        have s1 : SortedIn lt a s d1 := fun i j i1 i2 i3 => by rw [Gs i (by omega), Gs j i3]; exact hs1 i j i1 i2 (by omega)
        have s2 : SortedIn lt s mid d1 := fun i j i1 i2 i3 => by rw [Gm i i1 (by omega), Gm j (by omega) i3]; exact hs2 _ _ (by omega) (by omega) (by omega)
        have s3 : SortedIn lt mid e d1 := fun i j i1 i2 i3 => by rw [Gu i i1 (by omega), Gu j (by omega) i3]; exact hs1 _ _ (by omega) (by omega) (by omega)
        have s4 : SortedIn lt e b d1 := fun i j i1 i2 i3 => by rw [Ge i i1, Ge j (by omega)]; exact hs2 i j (by omega) i2 i3
        have q1 : ∀ i j, a ≤ i → i < s → s ≤ j → j < mid → pr d1[i]! d1[j]! := fun i j i1 i2 j1 j2 => by
          rw [Gs i i2, Gm j j1 j2]
          exact hp _ _ i1 (by omega) (by omega) (by omega)
        have q2 : ∀ i j, mid ≤ i → i < e → e ≤ j → j < b → pr d1[i]! d1[j]! := fun i j i1 i2 j1 j2 => by
          rw [Gu i i1 i2, Ge j j1]
          exact hp _ _ (by omega) (by omega) (by omega) j2
        clear Gs Ge Gm Gu hs1 hs2 hp u1 u2
        -- the lower half merged
        obtain ⟨d2, hd2⟩ : ∃ d2, d2 = (if a < s ∧ s < mid then symM cl f a s mid d1 else d1) := ⟨_, rfl⟩
        have D2 : PermIn a mid d1 d2 ∧ SortedIn lt a mid d2 := by
          rw [hd2]
          by_cases c : a < s ∧ s < mid
          · rw [if_pos c]
            exact ih a s mid d1 c.1 c.2 (by omega) (by omega) s1 s2 q1
          · rw [if_neg c]
            refine ⟨permIn_refl _ _ _, ?_⟩
            by_cases c3 : a < s
            · exact sorted_part s1 (Nat.le_refl _) (by omega)
            · exact sorted_part s2 (by omega) (Nat.le_refl _)
        rw [← hd2]
        clear hd2
        obtain ⟨P2, S2⟩ := D2
        have z2 : d2.size = d1.size := P2.1
        have o2 : ∀ i, mid ≤ i → d2[i]! = d1[i]! := fun i hi => P2.2.1 i (Or.inr hi)
        have s3' : SortedIn lt mid e d2 := fun i j i1 i2 i3 => by rw [o2 i i1, o2 j (by omega)]; exact s3 i j i1 i2 i3
        have s4' : SortedIn lt e b d2 := fun i j i1 i2 i3 => by rw [o2 i (by omega), o2 j (by omega)]; exact s4 i j i1 i2 i3
        have q2' : ∀ i j, mid ≤ i → i < e → e ≤ j → j < b → pr d2[i]! d2[j]! := fun i j i1 i2 j1 j2 => by rw [o2 i i1, o2 j (by omega)]; exact q2 i j i1 i2 j1 j2
        obtain ⟨d3, hd3⟩ : ∃ d3, d3 = (if mid < e ∧ e < b then symM cl f mid e b d2 else d2) := ⟨_, rfl⟩
        have D3 : PermIn mid b d2 d3 ∧ SortedIn lt mid b d3 := by
          rw [hd3]
          by_cases c : mid < e ∧ e < b
          · rw [if_pos c]
            exact ih mid e b d2 c.1 c.2 (by omega) (by omega) s3' s4' q2'
          · rw [if_neg c]
            refine ⟨permIn_refl _ _ _, ?_⟩
            by_cases c3 : mid < e
            · exact sorted_part s3' (Nat.le_refl _) (by omega)
            · exact sorted_part s4' (by omega) (Nat.le_refl _)
        rw [← hd3]
        clear hd3
        obtain ⟨P3, S3⟩ := D3
        have o3 : ∀ i, i < mid → d3[i]! = d2[i]! := fun i hi => P3.2.1 i (Or.inl hi)
        refine ⟨permIn_trans _ _ _ _ _ P1 (permIn_trans _ _ _ _ _ (permIn_mono _ _ a mid a b (Nat.le_refl _) (by omega) (by omega) P2) (permIn_mono _ _ mid b a b (by omega) (Nat.le_refl _) (by omega) P3)), ?_⟩
        refine sorted_join (m := mid) (fun i j i1 i2 i3 => by rw [o3 i (by omega), o3 j i3]; exact S2 i j i1 i2 i3) S3 fun i j i1 i2 j1 j2 => ?_
        rw [o3 i i2]
        -- both halves hold what they held
        have L2 : ∀ i, a ≤ i → i < mid → ∀ j, mid ≤ j → j < b → lt d1[j]! d2[i]! = false := permIn_all d1 d2 a mid (fun x => ∀ j, mid ≤ j → j < b → lt d1[j]! x = false) (by omega) P2 (fun i i1 i2 j j1 j2 => low i j i1 i2 j1 j2)
        exact permIn_all d2 d3 mid b (fun y => lt y d2[i]! = false) (by omega) P3 (fun j j1 j2 => by rw [o2 j j1]; exact L2 i i1 i2 j j1 j2) j j1 j2
variable {α : Type} [Inhabited α]
section
variable (cl : α → α → Bool)
def blocks (n : Nat) : Nat → Nat → Array α → Array α
  | 0, _, d => d
  | f + 1, a, d => if a + 20 ≤ n then blocks n f (a + 20) (insertionSort cl d a (a + 20)) else insertionSort cl d a n
def passM (n bs : Nat) : Nat → Nat → Array α → Array α
  | 0, _, d => d
  | f + 1, a, d => if a + 2 * bs ≤ n then passM n bs f (a + 2 * bs) (symM cl (2 * bs) a (a + bs) (a + 2 * bs) d) else if a + bs < n then symM cl (n - a) a (a + bs) n d else d
def merges (n : Nat) : Nat → Nat → Array α → Array α
  | 0, _, d => d
  | f + 1, bs, d => if bs < n then merges n f (2 * bs) (passM cl n bs (n + 1) 0 d) else d
def stable (n : Nat) (d : Array α) : Array α := merges cl n (n + 1) 20 (blocks cl n (n + 1) 0 d)
end
variable {cl lt : α → α → Bool} {pr : α → α → Prop}
theorem insInner_perm (a B : Nat) : ∀ (j : Nat) (d : Array α), j < B → B ≤ d.size → PermIn a B d (insInner lt a j d) := by
  intro j
  induction j with
  | zero => intro d h1 h2; rw [insInner]; exact permIn_refl _ _ _
  | succ j ih =>
    intro d h1 h2
    rw [insInner]
    by_cases c : (decide (j + 1 > a) && lt d[j + 1]! d[j]!) = true
    · rw [if_pos c]
      have h : j + 1 > a := by
        have := (Bool.and_eq_true _ _ ▸ c).1
        exact of_decide_eq_true this
      exact permIn_trans _ _ _ _ _ (swp_permIn d a B (j + 1) j (by omega) h1 (by omega) (by omega) h2) (ih _ (by omega) (by rw [size_swp]; exact h2))
    · rw [if_neg c]; exact permIn_refl _ _ _
theorem insInner_congr (a : Nat) : ∀ (j : Nat) (d : Array α), j < d.size → (∀ t, a ≤ t → t < j → cl d[j]! d[t]! = lt d[j]! d[t]!) → insInner cl a j d = insInner lt a j d := by
  intro j
  induction j with
  | zero => intro d _ _; rw [insInner, insInner]
  | succ j ih =>
    intro d hj h
    rw [insInner, insInner]
    by_cases c : j + 1 > a
    · rw [h j (by omega) (by omega)]
      have e := ih (swp d (j + 1) j) (by rw [size_swp]; omega) fun t h1 h2 => by
        rw [swp_right d (j + 1) j (by omega), swp_other d (j + 1) j t (by omega) (by omega)]
        exact h t h1 (by omega)
      rw [e]
    · simp [c]
theorem io_go (lt : α → α → Bool) (a b i : Nat) (d : Array α) (h : i < b) : insOuter lt a b i d = insOuter lt a b (i + 1) (insInner lt a i d) := by rw [insOuter, if_pos h]
theorem io_stop (lt : α → α → Bool) (a b i : Nat) (d : Array α) (h : ¬ i < b) : insOuter lt a b i d = d := by rw [insOuter, if_neg h]
theorem insOuter_congr (hA : ∀ x y, pr y x → cl x y = lt x y) (a b : Nat) : ∀ (k i : Nat) (d : Array α), b - i ≤ k → a < i → b ≤ d.size → (∀ t u, a ≤ t → t < u → i ≤ u → u < b → pr d[t]! d[u]!) → insOuter cl a b i d = insOuter lt a b i d := by
  intro k
  induction k with
  | zero => intro i d h1 h2 h3 h4; rw [io_stop _ _ _ _ _ (by omega), io_stop _ _ _ _ _ (by omega)]
  | succ k ih =>
    intro i d h1 h2 h3 h4
    by_cases c : i < b
    · rw [io_go _ _ _ _ _ c, io_go _ _ _ _ _ c]
      have e := insInner_congr (cl := cl) (lt := lt) a i d (by omega) fun t g1 g2 => hA _ _ (h4 t i g1 g2 (Nat.le_refl _) c)
      rw [e]
      have P := insInner_perm (lt := lt) a (i + 1) i d (by omega) (by omega)
      refine ih (i + 1) _ (by omega) (by omega) (by rw [P.1]; exact h3) fun t u g1 g2 g3 g4 => ?_
      rw [P.2.1 u (Or.inr g3)]
      by_cases g5 : t < i + 1
      · exact permIn_all d _ a (i + 1) (fun x => pr x d[u]!) (by omega) P (fun t' k1 k2 => h4 t' u k1 (by omega) (by omega) g4) t g1 g5
      · rw [P.2.1 t (Or.inr (by omega))]
        exact h4 t u g1 g2 (by omega) g4
    · rw [io_stop _ _ _ _ _ c, io_stop _ _ _ _ _ c]
theorem insertion_congr (hA : ∀ x y, pr y x → cl x y = lt x y) (a b : Nat) (d : Array α) (hb : b ≤ d.size) (h : ∀ t u, a ≤ t → t < u → u < b → pr d[t]! d[u]!) : insertionSort cl d a b = insertionSort lt d a b := by
  unfold insertionSort
  exact insOuter_congr hA a b _ _ d (Nat.le_refl _) (by omega) hb fun t u h1 h2 h3 h4 => h t u h1 h2 h4
theorem pr_permIn {A B : Nat} {d d' : Array α} (hB : B ≤ d.size) (P : PermIn A B d d') (i j : Nat) (hij : i < j) (hout : ¬ (A ≤ i ∧ j < B)) (h : ∀ x y, (x = i ∨ A ≤ i ∧ i < B ∧ A ≤ x ∧ x < B) → (y = j ∨ A ≤ j ∧ j < B ∧ A ≤ y ∧ y < B) → pr d[x]! d[y]!) : pr d'[i]! d'[j]! := by
  by_cases ci : A ≤ i ∧ i < B
  · rw [P.2.1 j (by omega)]
    exact permIn_all d _ A B (fun x => pr x d[j]!) hB P (fun x k1 k2 => h x j (Or.inr ⟨ci.1, ci.2, k1, k2⟩) (Or.inl rfl)) i ci.1 ci.2
  · rw [P.2.1 i (by omega)]
    by_cases cj : A ≤ j ∧ j < B
    · exact permIn_all d _ A B (fun x => pr d[i]! x) hB P (fun x k1 k2 => h i x (Or.inl rfl) (Or.inr ⟨cj.1, cj.2, k1, k2⟩)) j cj.1 cj.2
    · rw [P.2.1 j (by omega)]
      exact h i j (Or.inl rfl) (Or.inl rfl)
def OrdB (pr : α → α → Prop) (bs n : Nat) (d : Array α) : Prop := ∀ i j, i < j → j < n → i / bs < j / bs → pr d[i]! d[j]!
def SortB (lt : α → α → Bool) (bs n : Nat) (d : Array α) : Prop := ∀ i j, i < j → j < n → i / bs = j / bs → lt d[j]! d[i]! = false
theorem blocks_spec (hS : SWO lt) (hA : ∀ x y, pr y x → cl x y = lt x y) (n : Nat) : ∀ (f c : Nat) (d : Array α), n = d.size → 20 * c ≤ n → n - 20 * c < f →
    (∀ i j, i < j → j < n → (i / 20 < j / 20 ∨ c ≤ i / 20) → pr d[i]! d[j]!) → (∀ i j, i < j → j < 20 * c → i / 20 = j / 20 → lt d[j]! d[i]! = false) →
    PermIn 0 n d (blocks cl n f (20 * c) d) ∧ OrdB pr 20 n (blocks cl n f (20 * c) d) ∧ SortB lt 20 n (blocks cl n f (20 * c) d) := by
  intro f
  induction f with
  | zero => intro c d h1 h2 h3; omega
  | succ f ih =>
    intro c d h1 h2 h3 h4 h5
    rw [blocks]
    by_cases k : 20 * c + 20 ≤ n
    · rw [if_pos k, insertion_congr hA _ _ d (by omega) fun t u g1 g2 g3 => h4 t u g2 (by omega) (Or.inr (by omega))]
      obtain ⟨P, S⟩ := insertionSort_holds (lt := lt) hS d (20 * c) (20 * c + 20) (by omega) (by omega)
      generalize insertionSort lt d (20 * c) (20 * c + 20) = d' at P S ⊢
      have hz := P.1
      obtain ⟨Q, O⟩ := ih (c + 1) d' (by omega) (by omega) (by omega)
        (fun i j g1 g2 g3 => pr_permIn (by omega) P i j g1 (by omega) fun x y gx gy => h4 x y (by omega) (by omega) (by omega))
        (fun i j g1 g2 g3 => by
          by_cases k1 : 20 * c ≤ i
          · exact S i j k1 g1 (by omega)
          · rw [P.2.1 i (by omega), P.2.1 j (by omega)]
            exact h5 i j g1 (by omega) g3)
      rw [show 20 * c + 20 = 20 * (c + 1) by omega]
      exact ⟨permIn_trans _ _ _ _ _ (permIn_mono _ _ _ _ 0 n (Nat.zero_le _) k (by omega) P) Q, O⟩
    · rw [if_neg k, insertion_congr hA _ _ d (by omega) fun t u g1 g2 g3 => h4 t u g2 (by omega) (Or.inr (by omega))]
      obtain ⟨P, S⟩ := insertionSort_holds (lt := lt) hS d (20 * c) n (by omega) (by omega)
      generalize insertionSort lt d (20 * c) n = d' at P S ⊢
      have hz := P.1
      refine ⟨permIn_mono _ _ _ _ 0 n (Nat.zero_le _) (Nat.le_refl _) (by omega) P, fun i j g1 g2 g3 => pr_permIn (by omega) P i j g1 (by omega) fun x y gx gy => h4 x y (by omega) (by omega) (by omega), fun i j g1 g2 g3 => ?_⟩
      by_cases k1 : 20 * c ≤ i
      · exact S i j k1 g1 (by omega)
      · rw [P.2.1 i (by omega), P.2.1 j (by omega)]
        exact h5 i j g1 (by omega) g3
theorem dv {bs : Nat} (hb : 0 < bs) (i c : Nat) : i < c * bs ↔ i / bs < c := (Nat.div_lt_iff_lt_mul hb).symm
theorem pass_spec (hS : SWO lt) (hA : ∀ x y, pr y x → cl x y = lt x y) (n bs : Nat) (hb : 0 < bs) : ∀ (f c a : Nat) (d : Array α), n = d.size → a = 2 * c * bs → a ≤ n → n - a < f →
    (∀ i j, i < j → j < n → (i / bs / 2 < j / bs / 2 ∨ 2 * c ≤ i / bs ∧ i / bs < j / bs) → pr d[i]! d[j]!) → (∀ i j, i < j → j < n → (i / bs / 2 = j / bs / 2 ∧ j / bs < 2 * c ∨ i / bs = j / bs) → lt d[j]! d[i]! = false) →
    PermIn 0 n d (passM cl n bs f a d) ∧ OrdB pr (bs * 2) n (passM cl n bs f a d) ∧ SortB lt (bs * 2) n (passM cl n bs f a d) := by
  intro f
  induction f with
  | zero => intro c a d h1 h2 h3 h4; omega
  | succ f ih =>
    intro c a d h1 ha h3 h4 h5 h6
    rw [passM]
    have e1 : (2 * c + 1) * bs = a + bs := by rw [ha, Nat.add_mul, Nat.one_mul]
    have e2 : (2 * c + 2) * bs = a + 2 * bs := by rw [ha, Nat.add_mul]
    have w0 : ∀ i, i < a ↔ i / bs < 2 * c := fun i => by rw [ha]; exact dv hb i _
    have w1 : ∀ i, i < a + bs ↔ i / bs < 2 * c + 1 := fun i => by rw [← e1]; exact dv hb i _
    have w2 : ∀ i, i < a + 2 * bs ↔ i / bs < 2 * c + 2 := fun i => by rw [← e2]; exact dv hb i _
    have mo : ∀ i j, i < j → i / bs ≤ j / bs := fun i j h => Nat.div_le_div_right (by omega)
    have hw : ∀ i, i / (bs * 2) = i / bs / 2 := fun i => (Nat.div_div_eq_div_mul i bs 2).symm
    -- a merge of [a, a + bs) and [a + bs, e)
    have merge : ∀ e, a + bs < e → e ≤ a + 2 * bs → e ≤ n → PermIn a e d (symM cl (e - a) a (a + bs) e d) ∧ SortedIn lt a e (symM cl (e - a) a (a + bs) e d) := fun e g1 g2 g3 => by
      refine symM_spec hS hA (e - a) a (a + bs) e d (by omega) g1 (by omega) (Nat.le_refl _) (fun i j k1 k2 k3 => ?_) (fun i j k1 k2 k3 => ?_) fun i j k1 k2 k3 k4 => ?_
      · have z1 := w0 i; have z2 := w1 j; have z3 := mo i j k2
        exact h6 i j k2 (by omega) (by omega)
      · have z1 := w1 i; have z2 := w2 j; have z3 := mo i j k2
        exact h6 i j k2 (by omega) (by omega)
      · have z1 := w0 i; have z2 := w1 i; have z3 := w1 j; have z4 := w2 j
        exact h5 i j (by omega) (by omega) (by omega)
    -- behind a merge
    have after : ∀ e (d' : Array α), a + bs < e → e ≤ a + 2 * bs → e ≤ n → (∀ i, i < n → (i < e ↔ i / bs < 2 * c + 2)) → PermIn a e d d' → SortedIn lt a e d' →
        (∀ i j, i < j → j < n → (i / bs / 2 < j / bs / 2 ∨ 2 * c + 2 ≤ i / bs ∧ i / bs < j / bs) → pr d'[i]! d'[j]!) ∧ (∀ i j, i < j → j < n → (i / bs / 2 = j / bs / 2 ∧ j / bs < 2 * c + 2 ∨ i / bs = j / bs) → lt d'[j]! d'[i]! = false) := fun e d' g1 g2 g3 we P S => by
      constructor
      · intro i j k1 k2 k3
        have z1 := w0 i; have z2 := we i (by omega); have z3 := w0 j; have z4 := we j k2
        refine pr_permIn (by omega) P i j k1 (by omega) fun x y gx gy => ?_
        by_cases cx : x = i
        · by_cases cy : y = j
          · rw [cx, cy]; exact h5 i j k1 k2 (by omega)
          · have y1 := w0 y; have y2 := we y (by omega)
            rw [cx]; exact h5 i y (by omega) (by omega) (by omega)
        · have x1 := w0 x; have x2 := we x (by omega)
          by_cases cy : y = j
          · rw [cy]; exact h5 x j (by omega) (by omega) (by omega)
          · omega
      · intro i j k1 k2 k3
        have z1 := w0 i; have z2 := we i (by omega); have z3 := w0 j; have z4 := we j k2
        by_cases ci : a ≤ i ∧ j < e
        · exact S i j ci.1 k1 ci.2
        · rw [P.2.1 i (by omega), P.2.1 j (by omega)]
          exact h6 i j k1 k2 (by omega)
    by_cases k : a + 2 * bs ≤ n
    · rw [if_pos k]
      have M := merge (a + 2 * bs) (by omega) (Nat.le_refl _) k
      rw [show a + 2 * bs - a = 2 * bs by omega] at M
      obtain ⟨P, S⟩ := M
      generalize symM cl (2 * bs) a (a + bs) (a + 2 * bs) d = d' at P S ⊢
      have hz := P.1
      obtain ⟨A1, A2⟩ := after _ d' (by omega) (Nat.le_refl _) k (fun i _ => w2 i) P S
      obtain ⟨Q, O⟩ := ih (c + 1) (a + 2 * bs) d' (by omega) (by rw [← e2]; rfl) (by omega) (by omega) A1 A2
      exact ⟨permIn_trans _ _ _ _ _ (permIn_mono _ _ _ _ 0 n (Nat.zero_le _) k (by omega) P) Q, O⟩
    · rw [if_neg k]
      by_cases k2 : a + bs < n
      · rw [if_pos k2]
        obtain ⟨P, S⟩ := merge n k2 (by omega) (Nat.le_refl _)
        generalize symM cl (n - a) a (a + bs) n d = d' at P S ⊢
        have hz := P.1
        obtain ⟨A1, A2⟩ := after n d' k2 (by omega) (Nat.le_refl _) (fun i hi => ⟨fun _ => (w2 i).1 (by omega), fun _ => hi⟩) P S
        refine ⟨permIn_mono _ _ _ _ 0 n (Nat.zero_le _) (Nat.le_refl _) (by omega) P, fun i j g1 g2 g3 => ?_, fun i j g1 g2 g3 => ?_⟩
        · rw [hw, hw] at g3
          exact A1 i j g1 g2 (Or.inl g3)
        · rw [hw, hw] at g3
          exact A2 i j g1 g2 (Or.inl ⟨g3, (w2 j).1 (by omega)⟩)
      · rw [if_neg k2]
        refine ⟨permIn_refl _ _ _, fun i j g1 g2 g3 => ?_, fun i j g1 g2 g3 => ?_⟩
        · rw [hw, hw] at g3
          exact h5 i j g1 g2 (Or.inl g3)
        · rw [hw, hw] at g3
          have z1 := w1 j; have z2 := w0 j; have z3 := w0 i; have z4 := mo i j g1
          exact h6 i j g1 g2 (by omega)
theorem merges_spec (hS : SWO lt) (hA : ∀ x y, pr y x → cl x y = lt x y) (n : Nat) : ∀ (f bs : Nat) (d : Array α), n = d.size → 0 < bs → n - bs < f → OrdB pr bs n d → SortB lt bs n d → PermIn 0 n d (merges cl n f bs d) ∧ SortedIn lt 0 n (merges cl n f bs d) := by
  intro f
  induction f with
  | zero => intro bs d h1 h2 h3; omega
  | succ f ih =>
    intro bs d h1 hb h3 hO hT
    rw [merges]
    by_cases k : bs < n
    · rw [if_pos k]
      have mo : ∀ i j, i < j → i / bs ≤ j / bs := fun i j h => Nat.div_le_div_right (by omega)
      obtain ⟨P, O, T⟩ := pass_spec hS hA n bs hb (n + 1) 0 0 d h1 (by rw [Nat.mul_zero, Nat.zero_mul]) (by omega) (by omega) (fun i j g1 g2 g3 => hO i j g1 g2 (by have := mo i j g1; omega)) (fun i j g1 g2 g3 => hT i j g1 g2 (by have z := Nat.zero_le (j / bs); omega))
      rw [Nat.mul_comm bs 2] at O T
      have hz := P.1
      obtain ⟨Q, U⟩ := ih (2 * bs) _ (by omega) (by omega) (by omega) O T
      exact ⟨permIn_trans _ _ _ _ _ P Q, U⟩
    · rw [if_neg k]
      refine ⟨permIn_refl _ _ _, fun i j _ g1 g2 => hT i j g1 g2 ?_⟩
      rw [Nat.div_eq_of_lt (by omega), Nat.div_eq_of_lt (by omega)]
theorem stable_spec (hS : SWO lt) (hA : ∀ x y, pr y x → cl x y = lt x y) (n : Nat) (d : Array α) (hn : n = d.size) (h : ∀ i j, i < j → j < n → pr d[i]! d[j]!) : PermIn 0 n d (stable cl n d) ∧ SortedIn lt 0 n (stable cl n d) := by
  unfold stable
  obtain ⟨P, O, T⟩ := blocks_spec hS hA n (n + 1) 0 d hn (by omega) (by omega) (fun i j g1 g2 _ => h i j g1 g2) (fun i j g1 g2 => by omega)
  have hz := P.1
  obtain ⟨Q, U⟩ := merges_spec hS hA n (n + 1) 20 _ (by omega) (by omega) (by omega) O T
  exact ⟨permIn_trans _ _ _ _ _ P Q, U⟩
end Go.Proofs.Num.St

namespace Go.Proofs.Num
open Go.Sort
set_option linter.unusedVariables false
set_option linter.unusedSimpArgs false
def befR (r : Nat → Int) (j i : Nat) : Bool := decide (r i < r j ∨ (r i = r j ∧ j < i))
def rkR (r : Nat → Int) (n i : Nat) : Nat := (List.range n).countP (fun j => befR r j i)
theorem befR_irrefl (r : Nat → Int) (i : Nat) : befR r i i = false := by simp [befR]
theorem befR_iff {r : Nat → Int} {j i : Nat} : befR r j i = true ↔ r i < r j ∨ (r i = r j ∧ j < i) := by simp [befR]
theorem befR_trans {r : Nat → Int} {a b c : Nat} (h : befR r a b = true) (g : befR r b c = true) : befR r a c = true := by
 rw [befR_iff] at *; omega
theorem befR_total {r : Nat → Int} {a b : Nat} (h : a ≠ b) : befR r a b = true ∨ befR r b a = true := by
 rw [befR_iff, befR_iff]; omega
theorem countP_lt {p q : Nat → Bool} : ∀ {l : List Nat}, (∀ x ∈ l, p x = true → q x = true) → (∃ x ∈ l, p x = false ∧ q x = true) → l.countP p < l.countP q
 | [], _, ⟨x, hx, _⟩ => by simp at hx
 | a :: l, h, ⟨x, hx, h1, h2⟩ => by
  have hm : l.countP p ≤ l.countP q := List.countP_mono_left fun y hy => h y (List.mem_cons_of_mem _ hy)
  rw [List.countP_cons, List.countP_cons]
  rcases List.mem_cons.1 hx with e | e
  ·rw [e] at h1 h2
   rw [h1, h2]
   simp
   omega
  ·have := countP_lt (fun y hy => h y (List.mem_cons_of_mem _ hy)) ⟨x, e, h1, h2⟩
   have ha := h a (List.mem_cons_self)
   cases hp : p a
   ·cases q a <;> simp <;> omega
   ·rw [ha hp]; simp; omega
theorem rkR_lt {r : Nat → Int} {n a b : Nat} (ha : a < n) (h : befR r a b = true) : rkR r n a < rkR r n b :=
 countP_lt (fun x _ hx => befR_trans hx h) ⟨a, List.mem_range.2 ha, befR_irrefl r a, h⟩
theorem rkR_inj {r : Nat → Int} {n a b : Nat} (ha : a < n) (hb : b < n) (h : rkR r n a = rkR r n b) : a = b := by
 rcases Classical.em (a = b) with e | e
 ·exact e
 ·rcases befR_total (r := r) e with g | g
  ·have := rkR_lt ha g; omega
  ·have := rkR_lt hb g; omega
theorem rkR_sorted {r : Nat → Int} {n : Nat} {p : Nat → Nat} (hp : ((List.range n).map p).Perm (List.range n)) (hs : ∀ i j, i < j → j < n → befR r (p i) (p j) = true) (t : Nat) (ht : t < n) : rkR r n (p t) = t := by
 have e : rkR r n (p t) = ((List.range n).map p).countP (fun j => befR r j (p t)) := (hp.countP_eq _).symm
 rw [e, List.countP_map]
 have key : ∀ m, m ≤ n → (List.range m).countP ((fun j => befR r j (p t)) ∘ p) = min m t := by
  intro m
  induction m with
  | zero => intro _; simp
  | succ m ih =>
   intro hm
   rw [List.range_succ, List.countP_append, ih (by omega)]
   have : befR r (p m) (p t) = decide (m < t) := by
    rcases Nat.lt_trichotomy m t with g | g | g
    ·rw [hs m t g ht]; simp [g]
    ·subst g; rw [befR_irrefl]; simp
    ·have := hs t m g (by omega)
     cases q : befR r (p m) (p t)
     ·simp; omega
     ·have := befR_trans this q
      rw [befR_irrefl] at this; cases this
   simp [this]
   by_cases c : m < t <;> simp [c] <;> omega
 rw [key n (Nat.le_refl _)]
 omega
end Go.Proofs.Num

namespace Go.Proofs.Num
open Go.Sort Go.Shelf Go.Lib Go.RowKit Go.Proofs.YtdjnneflpkllmaaDoorW.PrintWords Go.Proofs.YtdjnneflpkllmaaDoorW.PrintMore
set_option linter.unusedVariables false
set_option linter.unusedSimpArgs false
def shQ (N S : Int) (w : Nat → Int) (i : Nat) : Int := N * w i / S
def shR (N S : Int) (w : Nat → Int) (i : Nat) : Int := N * w i % S
def tab (n : Nat) (f : Nat → Int) : List Int := (List.range n).map f
theorem tab_length (n : Nat) (f : Nat → Int) : (tab n f).length = n := by simp [tab]
theorem at_tab {n : Nat} {f : Nat → Int} {i : Nat} (h : i < n) : at_ (tab n f) i = f i := by
  unfold at_ tab
  rw [List.getD_eq_getElem?_getD, List.getElem?_map, List.getElem?_range h]
  rfl
theorem tab_congr {n : Nat} {f g : Nat → Int} (h : ∀ i, i < n → f i = g i) : tab n f = tab n g := by
  unfold tab
  exact List.map_congr_left fun i hi => h i (List.mem_range.1 hi)
theorem tab_set {n : Nat} {f : Nat → Int} {i : Nat} {x : Int} : (tab n f).set i x = tab n (fun j => if j = i then x else f j) := by
  apply List.ext_getElem
  · simp [tab]
  · intro j h1 h2
    simp only [tab, List.getElem_set, List.getElem_map, List.getElem_range]
    by_cases c : i = j
    · subst c; simp
    · rw [if_neg c, if_neg (fun e => c e.symm)]
theorem tab_replicate (n : Nat) : List.replicate n (0 : Int) = tab n (fun _ => 0) := by
  apply List.ext_getElem
  · simp [tab]
  · intro j h1 h2
    simp [tab]
def leftN (N S : Int) (l : List Int) : Nat := (N - sumTo (shQ N S (at_ l)) l.length).toNat
def appF (N S : Int) (l : List Int) (t : Nat) (i : Nat) : Int := shQ N S (at_ l) i + if rkR (shR N S (at_ l)) l.length i < t then 1 else 0
def apportion (N : Int) (l : List Int) : List Int × Int := if (weigh N l).2 = 0 then (tab l.length (appF N (weigh N l).1 l (leftN N (weigh N l).1 l)), 0) else ([], (weigh N l).2)
theorem sum_split (N S : Int) (w : Nat → Int) : ∀ n, S * sumTo (shQ N S w) n + sumTo (shR N S w) n = N * sumTo w n
  | 0 => by simp [sumTo]
  | n + 1 => by
    have ih := sum_split N S w n
    have e := Int.mul_ediv_add_emod (N * w n) S
    simp only [sumTo, shQ, shR] at ih ⊢
    rw [Int.mul_add, Int.mul_add]
    omega
structure Sh (N S : Int) (l : List Int) : Prop where
  n0 : 0 ≤ N
  n1 : N ≤ 1125899906842624
  few : l.length ≤ 256
  ww : ∀ i, i < l.length → 0 ≤ at_ l i ∧ at_ l i ≤ 1073741824
  hS : S = sumTo (at_ l) l.length
  s0 : 0 < S
theorem Sh.s1 {N S : Int} {l : List Int} (h : Sh N S l) : S ≤ 274877906944 := by
  have := sumTo_max (p := at_ l) (c := 1073741824) (n := l.length) (fun i hi => (h.ww i hi).2)
  have := h.few
  rw [h.hS]; omega
theorem Sh.le {N S : Int} {l : List Int} (h : Sh N S l) (i : Nat) (hi : i < l.length) : at_ l i ≤ S := by
  rw [h.hS]; exact le_sumTo (fun i hi => (h.ww i hi).1) i hi
theorem Sh.q {N S : Int} {l : List Int} (h : Sh N S l) (i : Nat) (hi : i < l.length) : 0 ≤ shQ N S (at_ l) i ∧ shQ N S (at_ l) i ≤ N ∧ 0 ≤ shR N S (at_ l) i ∧ shR N S (at_ l) i < S := by
  have m0 := Int.mul_nonneg h.n0 (h.ww i hi).1
  exact ⟨Int.ediv_nonneg m0 (by have := h.s0; omega), Int.ediv_le_of_le_mul h.s0 (Int.mul_le_mul_of_nonneg_left (h.le i hi) h.n0), Int.emod_nonneg _ (by have := h.s0; omega), Int.emod_lt_of_pos _ h.s0⟩
theorem Sh.sums {N S : Int} {l : List Int} (h : Sh N S l) : ∀ n, n ≤ l.length → 0 ≤ sumTo (shQ N S (at_ l)) n ∧ sumTo (shQ N S (at_ l)) n ≤ N := by
  intro n hn
  have a := sumTo_nonneg (p := shQ N S (at_ l)) (n := n) (fun i hi => (h.q i (by omega)).1)
  refine ⟨a, ?_⟩
  have e := sum_split N S (at_ l) n
  have r := sumTo_nonneg (p := shR N S (at_ l)) (n := n) (fun i hi => (h.q i (by omega)).2.2.1)
  have w1 : sumTo (at_ l) n ≤ S := by
    rw [h.hS]
    have : ∀ d, n + d ≤ l.length → sumTo (at_ l) n ≤ sumTo (at_ l) (n + d) := by
      intro d
      induction d with
      | zero => intro _; simp
      | succ d ih =>
        intro hd
        have := ih (by omega)
        have := (h.ww (n + d) (by omega)).1
        show _ ≤ sumTo (at_ l) (n + d) + at_ l (n + d)
        omega
    have := this (l.length - n) (by omega)
    rwa [show n + (l.length - n) = l.length by omega] at this
  have m : N * sumTo (at_ l) n ≤ N * S := Int.mul_le_mul_of_nonneg_left w1 h.n0
  have k : S * sumTo (shQ N S (at_ l)) n ≤ S * N := by rw [Int.mul_comm S N]; omega
  exact Int.le_of_mul_le_mul_left k h.s0
theorem Sh.left {N S : Int} {l : List Int} (h : Sh N S l) : (leftN N S l : Int) = N - sumTo (shQ N S (at_ l)) l.length ∧ leftN N S l < l.length := by
  have a := h.sums l.length (Nat.le_refl _)
  have e1 : (leftN N S l : Int) = N - sumTo (shQ N S (at_ l)) l.length := by unfold leftN; omega
  refine ⟨e1, ?_⟩
  have np : 0 < l.length := by
    rcases Nat.eq_zero_or_pos l.length with g | g
    · have := h.hS; rw [g] at this; simp [sumTo] at this; have := h.s0; omega
    · exact g
  have e := sum_split N S (at_ l) l.length
  rw [← h.hS] at e
  have r : sumTo (shR N S (at_ l)) l.length ≤ l.length * (S - 1) := sumTo_max (fun i hi => by have := (h.q i hi).2.2.2; omega)
  have c : S * (leftN N S l : Int) ≤ l.length * (S - 1) := by
    rw [e1, Int.mul_sub, Int.mul_comm S N]; omega
  have c2 : (l.length : Int) * (S - 1) < S * l.length := by
    rw [Int.mul_sub, Int.mul_comm S]; omega
  have := Int.lt_of_mul_lt_mul_left (show S * (leftN N S l : Int) < S * l.length by omega) (by have := h.s0; omega)
  omega
def encR (x : Int × Int) : List Value := [.int .i64 x.1, .int .i64 x.2]
def cmpR (x y : Int × Int) : Int := if y.2 < x.2 then -1 else if x.2 < y.2 then 1 else 0
def ltR (x y : Int × Int) : Bool := decide (y.2 < x.2 ∨ (y.2 = x.2 ∧ x.1 < y.1))
theorem ltR_iff {x y : Int × Int} : ltR x y = true ↔ y.2 < x.2 ∨ (y.2 = x.2 ∧ x.1 < y.1) := by simp [ltR]
theorem swoR : SWO ltR where
  irrefl x := by simp [ltR]
  trans x y z h1 h2 := by rw [ltR_iff] at *; omega
  ntrans x y z h1 h2 := by
    cases h : ltR x z
    · rfl
    · have a : ¬ ltR x y = true := by rw [h1]; decide
      have b : ¬ ltR y z = true := by rw [h2]; decide
      rw [ltR_iff] at *; omega
theorem ltOf_cmpR (x y : Int × Int) (h : y.1 < x.1) : ltOf cmpR x y = ltR x y := by
  unfold ltOf cmpR
  rw [Bool.eq_iff_iff, ltR_iff]
  simp
  constructor
  · intro g
    split at g
    · exact Or.inl (by assumption)
    · split at g <;> omega
  · intro g
    rw [if_pos (by omega)]; omega
def restsA (n : Nat) (r : Nat → Int) : Array (Int × Int) := ((List.range n).map fun i : Nat => ((i : Int), r i)).toArray
theorem restsA_size (n : Nat) (r : Nat → Int) : (restsA n r).size = n := by simp [restsA]
theorem restsA_get {n : Nat} {r : Nat → Int} {i : Nat} (h : i < n) : (restsA n r)[i]! = ((i : Int), r i) := by
  rw [getElem!_pos _ i (by rw [restsA_size]; exact h)]
  simp [restsA]
theorem sorted_rests (n : Nat) (r : Nat → Int) (s : Array (Int × Int)) (hs : s = St.stable (ltOf cmpR) n (restsA n r)) : s.size = n ∧ ∀ t, t < n → ∃ b : Nat, s[t]! = ((b : Int), r b) ∧ b < n ∧ rkR r n b = t := by
  obtain ⟨P, S⟩ := St.stable_spec (cl := ltOf cmpR) (lt := ltR) (pr := fun y x => y.1 < x.1) swoR (fun x y h => ltOf_cmpR x y h) n (restsA n r) (restsA_size n r).symm (fun i j h1 h2 => by
    rw [restsA_get (by omega), restsA_get h2]
    show (i : Int) < (j : Int)
    omega)
  rw [← hs] at P S
  have hz : s.size = n := by rw [P.1, restsA_size]
  refine ⟨hz, ?_⟩
  have all : ∀ t, 0 ≤ t → t < n → ∃ b : Nat, s[t]! = ((b : Int), r b) ∧ b < n := permIn_all (restsA n r) s 0 n (fun x => ∃ b : Nat, x = ((b : Int), r b) ∧ b < n) (by rw [restsA_size]; exact Nat.le_refl _) P (fun i _ hi => ⟨i, restsA_get hi, hi⟩)
  have fst : ∀ t, t < n → ∃ b : Nat, s[t]! = ((b : Int), r b) ∧ b < n ∧ (s[t]!.1).toNat = b := fun t ht => by
    obtain ⟨b, h1, h2⟩ := all t (Nat.zero_le _) ht
    exact ⟨b, h1, h2, by rw [h1]; simp⟩
  have perm : ((List.range n).map fun t => (s[t]!.1).toNat).Perm (List.range n) := by
    have p3 := P.2.2
    have e1 : (s.extract 0 n).toList = s.toList := by rw [show n = s.size from hz.symm, Array.extract_size]
    have e2 : ((restsA n r).extract 0 n).toList = (restsA n r).toList := by
      have := restsA_size n r
      rw [show (restsA n r).extract 0 n = (restsA n r).extract 0 (restsA n r).size by rw [this], Array.extract_size]
    rw [e1, e2] at p3
    have p4 := p3.map (fun x : Int × Int => x.1.toNat)
    have e3 : (restsA n r).toList.map (fun x : Int × Int => x.1.toNat) = List.range n := by
      unfold restsA
      simp [List.map_map, Function.comp_def]
    have e4 : s.toList.map (fun x : Int × Int => x.1.toNat) = (List.range n).map fun t => (s[t]!.1).toNat := by
      apply List.ext_getElem
      · simp [hz]
      · intro i h1 h2
        have hi : i < s.size := by simpa using h1
        simp [getElem!_pos s i hi]
    rw [e3, e4] at p4
    exact p4
  have nd : ∀ i j, i < j → j < n → (s[i]!.1).toNat ≠ (s[j]!.1).toNat := fun i j h1 h2 e => by
    have N := (perm.nodup_iff).2 List.nodup_range
    rw [List.nodup_iff_pairwise_ne, List.pairwise_iff_getElem] at N
    have := N i j (by simp; omega) (by simp; omega) h1
    simp at this
    omega
  have hs' : ∀ i j, i < j → j < n → befR r (s[i]!.1).toNat (s[j]!.1).toNat = true := fun i j h1 h2 => by
    obtain ⟨bi, a1, a2, a3⟩ := fst i (by omega)
    obtain ⟨bj, c1, c2, c3⟩ := fst j h2
    have g := S i j (Nat.zero_le _) h1 h2
    have ne := nd i j h1 h2
    rw [a3, c3] at ne ⊢
    rw [a1, c1] at g
    have g' : ¬ ltR ((bj : Int), r bj) ((bi : Int), r bi) = true := by rw [g]; decide
    rw [ltR_iff] at g'
    rw [befR_iff]
    simp only at g'
    omega
  intro t ht
  obtain ⟨b, a1, a2, a3⟩ := fst t ht
  have := rkR_sorted (r := r) (n := n) (p := fun t => (s[t]!.1).toNat) perm hs' t ht
  simp only [a3] at this
  exact ⟨b, a1, a2, this⟩
theorem appF_next {N S : Int} {l : List Int} {t b : Nat} (hb : b < l.length) (h : rkR (shR N S (at_ l)) l.length b = t) : (tab l.length (appF N S l t)).set b (appF N S l t b + 1) = tab l.length (appF N S l (t + 1)) := by
  rw [tab_set]
  refine tab_congr fun i hi => ?_
  by_cases c : i = b
  · subst c
    rw [if_pos rfl]
    unfold appF
    rw [if_neg (by omega), if_pos (by omega)]
    omega
  · rw [if_neg c]
    unfold appF
    have : rkR (shR N S (at_ l)) l.length i ≠ t := fun e => c (rkR_inj hi hb (e.trans h.symm))
    by_cases d : rkR (shR N S (at_ l)) l.length i < t
    · rw [if_pos d, if_pos (by omega)]
    · rw [if_neg d, if_neg (by omega)]
end Go.Proofs.Num

namespace Go.Proofs.Num
open Go.Sort Go.Shelf Go.Lib Go.RowKit Go.Proofs.YtdjnneflpkllmaaDoorW.PrintWords Go.Proofs.YtdjnneflpkllmaaDoorW.PrintMore Go.Proofs.YtdjnneflpkllmaaDoor.Q
set_option linter.unusedVariables false
set_option linter.unusedSimpArgs false
structure Parts (N S : Int) (l P : List Int) : Prop where
  len : P.length = l.length
  nn : ∀ i, i < l.length → 0 ≤ at_ P i
  sum : sumTo (at_ P) l.length = N
  zero : ∀ i, i < l.length → at_ l i = 0 → at_ P i = 0
  near : 0 < S → ∀ i, i < l.length → (at_ P i - N * at_ l i / S = 0 ∨ (at_ P i - N * at_ l i / S = 1 ∧ N * at_ l i % S ≠ 0))
theorem rank_at {n : Nat} (r : Nat → Int) {t : Nat} (ht : t < n) : ∃ b, b < n ∧ rkR r n b = t := by
  obtain ⟨b, -, hb, e⟩ := (sorted_rests n r _ rfl).2 t ht
  exact ⟨b, hb, e⟩
theorem appF_sum {N S : Int} {l : List Int} : ∀ t, t ≤ l.length → sumTo (appF N S l t) l.length = sumTo (shQ N S (at_ l)) l.length + t
  | 0, _ => by
    rw [sumTo_congr (q := shQ N S (at_ l)) (fun i hi => by simp [appF])]
    simp
  | t + 1, ht => by
    have ih := appF_sum (N := N) (S := S) (l := l) t (by omega)
    obtain ⟨b, hb, e⟩ := rank_at (n := l.length) (shR N S (at_ l)) (t := t) (by omega)
    have c : ∀ i, i < l.length → appF N S l (t + 1) i = bump (appF N S l t) b 1 i := by
      intro i hi
      show shQ N S (at_ l) i + (if rkR (shR N S (at_ l)) l.length i < t + 1 then 1 else 0) = if i = b then (shQ N S (at_ l) i + if rkR (shR N S (at_ l)) l.length i < t then 1 else 0) + 1 else (shQ N S (at_ l) i + if rkR (shR N S (at_ l)) l.length i < t then 1 else 0)
      by_cases ib : i = b
      · subst ib
        rw [if_pos rfl, if_pos (by omega), if_neg (by omega)]
        omega
      · rw [if_neg ib]
        have : rkR (shR N S (at_ l)) l.length i ≠ t := fun h => ib (rkR_inj hi hb (h.trans e.symm))
        by_cases d : rkR (shR N S (at_ l)) l.length i < t
        · rw [if_pos (by omega), if_pos d]
        · rw [if_neg (by omega), if_neg d]
    rw [sumTo_congr c, sumTo_bump _ _ _ _ hb, ih]
    omega
theorem sum_count {r : Nat → Int} {S : Int} {i : Nat} (h0 : r i = 0) : ∀ n, (∀ j, j < n → 0 ≤ r j ∧ r j < S) → 0 < S → sumTo r n ≤ ((List.range n).countP (fun j => befR r j i) : Int) * (S - 1)
  | 0, _, _ => by simp [sumTo]
  | n + 1, h, hS => by
    have ih := sum_count h0 n (fun j hj => h j (by omega)) hS
    obtain ⟨a, b⟩ := h n (by omega)
    rw [List.range_succ, List.countP_append, sumTo]
    by_cases p : 0 < r n
    · have e : befR r n i = true := befR_iff.2 (Or.inl (by omega))
      have c : List.countP (fun j => befR r j i) [n] = 1 := by simp [e]
      rw [c, Int.natCast_add, Int.add_mul]
      omega
    · have : 0 ≤ (List.countP (fun j => befR r j i) [n] : Int) * (S - 1) := Int.mul_nonneg (by omega) (by omega)
      rw [Int.natCast_add, Int.add_mul]
      omega
theorem extra_pos {N S : Int} {l : List Int} (h : Sh N S l) {i : Nat} (hi : i < l.length) (hr : rkR (shR N S (at_ l)) l.length i < leftN N S l) : shR N S (at_ l) i ≠ 0 := by
  intro z
  have c := sum_count z l.length (fun j hj => ⟨(h.q j hj).2.2.1, (h.q j hj).2.2.2⟩) h.s0
  have e := sum_split N S (at_ l) l.length
  rw [← h.hS] at e
  have t := h.left.1
  have m : S * (leftN N S l : Int) = N * S - S * sumTo (shQ N S (at_ l)) l.length := by rw [t, Int.mul_sub, Int.mul_comm S N]
  have k : S * (((List.range l.length).countP (fun j => befR (shR N S (at_ l)) j i) : Int) + 1) ≤ S * (leftN N S l : Int) := Int.mul_le_mul_of_nonneg_left (by unfold rkR at hr; omega) (by have := h.s0; omega)
  rw [Int.mul_add, Int.mul_comm S] at k
  rw [Int.mul_sub] at c
  have := h.s0
  omega
theorem parts_ok {N : Int} {l P : List Int} (hz : (weigh N l).2 = 0) (hP : apportion N l = (P, 0)) : Parts N (weigh N l).1 l P := by
  obtain ⟨few, n0, n1, ww, hS, hn⟩ := weigh_ok hz
  unfold apportion at hP
  rw [if_pos hz] at hP
  injection hP with hP _
  generalize (weigh N l).1 = S at hS hP ⊢
  have s0 := sumTo_nonneg (p := at_ l) (n := l.length) (fun i hi => (ww i hi).1)
  have atP : ∀ i, i < l.length → at_ P i = appF N S l (leftN N S l) i := fun i hi => by rw [← hP]; exact at_tab hi
  have len : P.length = l.length := by rw [← hP]; exact tab_length _ _
  by_cases sz : S = 0
  · have nz := hn (by omega)
    have lz : leftN N S l = 0 := by
      unfold leftN
      have : sumTo (shQ N S (at_ l)) l.length = sumTo (fun _ => 0) l.length := sumTo_congr (fun i hi => by simp [shQ, nz])
      have z0 : ∀ n, sumTo (fun _ => 0) n = 0 := by intro n; induction n with | zero => rfl | succ n ih => rw [sumTo, ih]; rfl
      rw [this, z0, nz]; rfl
    have z : ∀ i, i < l.length → at_ P i = 0 := fun i hi => by
      rw [atP i hi, lz]
      simp [appF, shQ, nz]
    refine ⟨len, fun i hi => by rw [z i hi]; exact Int.le_refl _, ?_, fun i hi _ => z i hi, fun h => by omega⟩
    have z0 : ∀ n, sumTo (fun _ => 0) n = 0 := by intro n; induction n with | zero => rfl | succ n ih => rw [sumTo, ih]; rfl
    rw [sumTo_congr (q := fun _ => 0) z, z0, nz]
  · have h : Sh N S l := ⟨n0, n1, few, ww, hS, by omega⟩
    refine ⟨len, fun i hi => ?_, ?_, fun i hi wz => ?_, fun _ i hi => ?_⟩
    · rw [atP i hi]
      unfold appF
      have := (h.q i hi).1
      split <;> omega
    · rw [sumTo_congr (q := appF N S l (leftN N S l)) atP, appF_sum _ (Nat.le_of_lt h.left.2), h.left.1]
      omega
    · have q0 : shQ N S (at_ l) i = 0 := by unfold shQ; rw [wz]; simp
      have r0 : shR N S (at_ l) i = 0 := by unfold shR; rw [wz]; simp
      rw [atP i hi]
      unfold appF
      rw [if_neg (fun hr => extra_pos h hi hr r0), q0]; rfl
    · rw [atP i hi]
      unfold appF
      by_cases d : rkR (shR N S (at_ l)) l.length i < leftN N S l
      · refine Or.inr ⟨?_, extra_pos h hi d⟩
        rw [if_pos d]
        show shQ N S (at_ l) i + 1 - shQ N S (at_ l) i = 1
        omega
      · refine Or.inl ?_
        rw [if_neg d]
        show shQ N S (at_ l) i + 0 - shQ N S (at_ l) i = 0
        omega
theorem fair_stable {N : Int} {l Q : List Int} (n1 : N ≤ 1125899906842624) (few : l.length ≤ 256) (ww : ∀ i, i < l.length → 0 ≤ at_ l i ∧ at_ l i ≤ 1073741824) (len : Q.length = l.length) (St : Stable l.length (at_ Q) (at_ l)) (sum : sumTo (at_ Q) l.length = N) : Ev (fun k => num_Fair.f k Q l) (true, 0) := by
  obtain ⟨v, E, F⟩ := nfair_ok Q l
  have bnd := sum_le St.nn (Int.le_of_eq sum)
  have hf : fine Q l := fun i hi => ⟨⟨St.nn i (by omega), by have := bnd i (by omega); omega⟩, ww i (by omega)⟩
  unfold FairSaid at F
  rw [if_neg (by omega), if_pos len] at F
  rcases F with ⟨n, _⟩ | ⟨_, e2, hq⟩
  · exact (n hf).elim
  · have q : FairQ Q.length (at_ Q) (at_ l) := by
      rw [len]
      refine ⟨St.none, fun i j hi hj wi wj pi => ?_⟩
      by_cases e : i = j
      · subst e
        exact mul_le_r (by omega) (by omega)
      · exact (St.ah i j hi hj pi wj e).le
    obtain ⟨v1, v2⟩ := v
    have : v1 = true := hq.2 q
    subst this
    have : v2 = 0 := e2
    subst this
    exact E
end Go.Proofs.Num

namespace Go.Proofs.Num.St
open Go.Shelf Go.RowKit Go.Lib Go.Sort Go.Proofs
set_option linter.unusedVariables false
set_option linter.unusedSimpArgs false
variable {α : Type} [Inhabited α]
set_option maxHeartbeats 4000000 in
set_option maxRecDepth 1000000 in
theorem swapRange_run (k : Nat) (aE : ∀ w, (isAgg 101).run Tryd.prog w = .ok true w) (zE : ∀ w, (Go.sizeOf 101).run Tryd.prog w = .ok k w) (enc : α → List Value) (g : Nat) (cb : Array Value) (blk off cap a b n : Nat) (d0 d : Array α) (w0 w : World)
    (R : RowK enc k w0 blk off d0) (hs : d0.size = d.size) (S : SWK enc k w0 blk off d w) (hab : a + n ≤ b) (hb : b + n ≤ d.size) (hsz : d.size < 4611686018427387904) :
    Calls Tryd.prog 146 #[.slice (some ⟨blk, off, none⟩) d.size cap, .int .i64 a, .int .i64 b, .int .i64 n, .func (.func g) #[] cb] w fun e w' => e = .returned (.tuple #[]) ∧ SWK enc k w0 blk off (swpUp a b n 0 d) w' := by
  have mixed : Tryd.prog.follows .mixedOrders = true := by kernel_rfl
  have S0 : Aside (SWK enc k w0 blk off d w) := S
  clear S
  go_enter Tryd.func146, Tryd.ntmps146
  go_wp2
  go_loopg [10] n (fun kx s10 wr => ∃ (i : Nat) (dk : Array α), s10 = .int .i64 i ∧ i ≤ n ∧ n - i ≤ kx ∧ dk.size = d.size ∧ Aside (SWK enc k w0 blk off dk wr) ∧ Hid (swpUp a b n i dk = swpUp a b n 0 d))
  case atStart => exact ⟨0, d, rfl, Nat.zero_le _, by omega, rfl, S0, rfl⟩
  case round =>
    clear S0
    obtain ⟨i, dk, rfl, hin, hkx, hds, S1, heq⟩ := hrel
    by_cases hlt : i < n
    · have hltz : (i : Int) < (n : Int) := by omega
      go_wp2_with fail
      have ea : ((a : Int) + (i : Int)).toNat = a + i := by omega
      have pa : (0 : Int) ≤ (a : Int) + (i : Int) := by omega
      have ba : (a : Int) + (i : Int) < (d.size : Int) := by omega
      have ra : IntKind.i64.wrap ((a : Int) + (i : Int)) = (a : Int) + (i : Int) := by rw [IntKind.wrap_i64]; omega
      have ec : ((b : Int) + (i : Int)).toNat = b + i := by omega
      have pc : (0 : Int) ≤ (b : Int) + (i : Int) := by omega
      have bc : (b : Int) + (i : Int) < (d.size : Int) := by omega
      have rc : IntKind.i64.wrap ((b : Int) + (i : Int)) = (b : Int) + (i : Int) := by rw [IntKind.wrap_i64]; omega
      have S2 : Aside (SWK enc k w0 blk off (swp dk (a + i) (b + i)) ((wr.drew.setCells blk (off + (a + i) * k) (enc dk[b + i]!)).setCells blk (off + (b + i) * k) (enc dk[a + i]!))) := S1.out.swapped R (a + i) (b + i) (by omega) (by omega)
      have la := S1.out.ld1 R (by omega) Tryd.prog (a + i) (by omega)
      have lb := S1.out.ld1 R (by omega) Tryd.prog (b + i) (by omega)
      have sa := S1.out.st1 R (by omega) Tryd.prog (a + i) (by omega) dk[b + i]!
      have sb := S1.out.st2 R (by omega) Tryd.prog (a + i) (b + i) (by omega) (by omega) dk[b + i]! dk[a + i]!
      have na : (enc dk[a + i]!).length = k := R.hk _
      have nb : (enc dk[b + i]!).length = k := R.hk _
      generalize enc dk[a + i]! = cI at S2 la sb na
      generalize enc dk[b + i]! = cJ at S2 lb sa sb nb
      clear S1
      go_wp2_with fail
      go_big_region_o
      clear la lb sa sb
      generalize (wr.drew.setCells blk (off + (a + i) * k) cJ).setCells blk (off + (b + i) * k) cI = w2 at S2 ⊢
      go_wp2
      go_roundg (n - (i + 1))
      case measure => omega
      case rel => exact ⟨i + 1, swp dk (a + i) (b + i), by simp, by omega, Nat.le_refl _, by rw [size_swp]; exact hds, S2, by show _ = _; rw [← heq.out, swpUp_go hlt]⟩
    · have hltz : ¬ (i : Int) < (n : Int) := by omega
      go_wp2
      go_end0
      refine ⟨rfl, ?_⟩
      rw [← heq.out, swpUp_end hlt]
      exact S1.out
set_option maxHeartbeats 4000000 in
set_option maxRecDepth 1000000 in
theorem rotate_run (k : Nat) (aE : ∀ w, (isAgg 101).run Tryd.prog w = .ok true w) (zE : ∀ w, (Go.sizeOf 101).run Tryd.prog w = .ok k w) (enc : α → List Value) (g : Nat) (cb : Array Value) (blk off cap a m b : Nat) (d0 d : Array α) (w0 w : World)
    (R : RowK enc k w0 blk off d0) (hs : d0.size = d.size) (S : SWK enc k w0 blk off d w) (ham : a < m) (hmb : m < b) (hb : b ≤ d.size) (hsz : d.size < 4611686018427387904) :
    Calls Tryd.prog 139 #[.slice (some ⟨blk, off, none⟩) d.size cap, .int .i64 a, .int .i64 m, .int .i64 b, .func (.func g) #[] cb] w fun e w' => e = .returned (.tuple #[]) ∧ SWK enc k w0 blk off (rot m (b - a) (m - a) (b - m) d) w' := by
  have S0 : Aside (SWK enc k w0 blk off d w) := S
  clear S
  have ra : IntKind.i64.wrap ((m : Int) - (a : Int)) = (m : Int) - (a : Int) := by rw [IntKind.wrap_i64]; omega
  have rb : IntKind.i64.wrap ((b : Int) - (m : Int)) = (b : Int) - (m : Int) := by rw [IntKind.wrap_i64]; omega
  have HC : Hid (∀ (x y n : Nat) (dk : Array α) (wr : World), dk.size = d.size → x + n ≤ y → y + n ≤ d.size → SWK enc k w0 blk off dk wr → Calls Tryd.prog 146 #[.slice (some ⟨blk, off, none⟩) d.size cap, .int .i64 x, .int .i64 y, .int .i64 n, .func (.func g) #[] cb] wr fun e w' => e = .returned (.tuple #[]) ∧ SWK enc k w0 blk off (swpUp x y n 0 dk) w') := by
    show ∀ _, _
    intro x y n dk wr h1 h2 h3 h4
    rw [← h1] at h3 ⊢
    exact swapRange_run k aE zE enc g cb blk off cap x y n d0 dk w0 wr R (by omega) h4 h2 h3 (by omega)
  go_enter Tryd.func139, Tryd.ntmps139
  go_wp2
  clear ra rb
  go_loopg [10, 11] (b - a) (fun kx s10 s11 wr => ∃ (i j f : Nat) (dk : Array α), s10 = .int .i64 i ∧ s11 = .int .i64 j ∧ 0 < i ∧ 0 < j ∧ i ≤ m - a ∧ j ≤ b - m ∧ i + j ≤ f ∧ f ≤ kx ∧ dk.size = d.size ∧ Aside (SWK enc k w0 blk off dk wr) ∧ Hid (rot m f i j dk = rot m (b - a) (m - a) (b - m) d))
  case atStart => exact ⟨m - a, b - m, b - a, d, by rw [show ((m - a : Nat) : Int) = (m : Int) - (a : Int) by omega], by rw [show ((b - m : Nat) : Int) = (b : Int) - (m : Int) by omega], by omega, by omega, Nat.le_refl _, Nat.le_refl _, by omega, Nat.le_refl _, rfl, S0, rfl⟩
  case round =>
    clear S0
    obtain ⟨i, j, f, dk, rfl, rfl, hi, hj, hia, hjb, hf, hkx, hds, S1, heq⟩ := hrel
    obtain ⟨f, rfl⟩ : ∃ f', f = f' + 1 := ⟨f - 1, by omega⟩
    have r1 : IntKind.i64.wrap ((m : Int) - (i : Int)) = (m : Int) - (i : Int) := by rw [IntKind.wrap_i64]; omega
    by_cases hij : i = j
    · subst hij
      have hc := HC.out (m - i) m i dk wr hds (by omega) (by omega) S1.out
      rw [show ((m - i : Nat) : Int) = (m : Int) - (i : Int) by omega] at hc
      have HCC := Lib.hid hc
      clear hc S1
      go_wp2_with (first | (go_at_call 146; refine HCC.out.mono ?_; rintro e w1 ⟨rfl, S3⟩))
      go_end0
      refine ⟨rfl, ?_⟩
      rw [← heq.out, rot, if_pos rfl]
      exact S3
    · by_cases hlt : j < i
      · have z1 : ¬ (i : Int) = (j : Int) := by omega
        have z2 : (j : Int) < (i : Int) := by omega
        have r2 : IntKind.i64.wrap ((i : Int) - (j : Int)) = (i : Int) - (j : Int) := by rw [IntKind.wrap_i64]; omega
        have hc := HC.out (m - i) m j dk wr hds (by omega) (by omega) S1.out
        rw [show ((m - i : Nat) : Int) = (m : Int) - (i : Int) by omega] at hc
        have HCC := Lib.hid hc
        clear hc S1
        go_wp2_with (first | (go_at_call 146; refine HCC.out.mono ?_; rintro e w1 ⟨rfl, S3⟩))
        have S4 : Aside (SWK enc k w0 blk off (swpUp (m - i) m j 0 dk) w1) := S3
        clear S3
        go_roundg f
        case measure => omega
        case rel => exact ⟨i - j, j, f, _, by rw [show ((i - j : Nat) : Int) = (i : Int) - (j : Int) by omega], rfl, by omega, hj, by omega, hjb, by omega, Nat.le_refl _, by rw [swpUp_size _ _ _ j 0 dk (by omega)]; exact hds, S4, by show _ = _; rw [← heq.out, rot, if_neg hij, if_pos hlt]⟩
      · have z1 : ¬ (i : Int) = (j : Int) := by omega
        have z2 : ¬ (j : Int) < (i : Int) := by omega
        have r2 : IntKind.i64.wrap ((j : Int) - (i : Int)) = (j : Int) - (i : Int) := by rw [IntKind.wrap_i64]; omega
        have r3 : IntKind.i64.wrap ((m : Int) + (j : Int)) = (m : Int) + (j : Int) := by rw [IntKind.wrap_i64]; omega
        have r4 : IntKind.i64.wrap ((m : Int) + (j : Int) - (i : Int)) = (m : Int) + (j : Int) - (i : Int) := by rw [IntKind.wrap_i64]; omega
        have hc := HC.out (m - i) (m + j - i) i dk wr hds (by omega) (by omega) S1.out
        rw [show ((m - i : Nat) : Int) = (m : Int) - (i : Int) by omega, show ((m + j - i : Nat) : Int) = (m : Int) + (j : Int) - (i : Int) by omega] at hc
        have HCC := Lib.hid hc
        clear hc S1
        go_wp2_with (first | (go_at_call 146; refine HCC.out.mono ?_; rintro e w1 ⟨rfl, S3⟩))
        have S4 : Aside (SWK enc k w0 blk off (swpUp (m - i) (m + j - i) i 0 dk) w1) := S3
        clear S3
        go_roundg f
        case measure => omega
        case rel => exact ⟨i, j - i, f, _, rfl, by rw [show ((j - i : Nat) : Int) = (j : Int) - (i : Int) by omega], hi, by omega, hia, by omega, by omega, Nat.le_refl _, by rw [swpUp_size _ _ _ i 0 dk (by omega)]; exact hds, S4, by show _ = _; rw [← heq.out, rot, if_neg hij, if_neg hlt]⟩
variable {α : Type} [Inhabited α]
theorem w64_ {x : Int} (h0 : -9223372036854775808 ≤ x) (h1 : x ≤ 9223372036854775807) : wrap64 x = x := by unfold wrap64; omega
theorem wi_ {x : Int} (h0 : -9223372036854775808 ≤ x) (h1 : x ≤ 9223372036854775807) : IntKind.i64.wrap x = x := by rw [IntKind.wrap_i64]; omega
theorem wu_ {x : Int} (h0 : 0 ≤ x) (h1 : x ≤ 18446744073709551615) : IntKind.u64.wrap x = x := by
  simp [IntKind.wrap, IntKind.bits, IntKind.signed]
  omega
theorem shUp_size (e : Nat) : ∀ (n k : Nat) (d : Array α), e - k ≤ n → (shUp k e d).size = d.size := by
  intro n
  induction n with
  | zero => intro k d h; rw [shUp_end (by omega)]
  | succ n ih =>
    intro k d h
    by_cases c : k < e
    · rw [shUp_go c, ih _ _ (by omega), size_swp]
    · rw [shUp_end c]
theorem shDn_size (i : Nat) : ∀ (k : Nat) (d : Array α), (shDn i k d).size = d.size := by
  intro k
  induction k with
  | zero => intro d; rfl
  | succ k ih =>
    intro d
    by_cases c : i < k + 1
    · rw [shDn_go c, ih, size_swp]
    · rw [shDn_end c]
theorem rot_size (m : Nat) : ∀ (f i j : Nat) (d : Array α), (rot m f i j d).size = d.size := by
  intro f
  induction f with
  | zero => intro i j d; rfl
  | succ f ih =>
    intro i j d
    rw [rot]
    split
    · exact swpUp_size _ _ _ i 0 d (by omega)
    · split
      · rw [ih, swpUp_size _ _ _ j 0 d (by omega)]
      · rw [ih, swpUp_size _ _ _ i 0 d (by omega)]
theorem symM_size (cl : α → α → Bool) : ∀ (f a m b : Nat) (d : Array α), (symM cl f a m b d).size = d.size := by
  intro f
  induction f with
  | zero => intro a m b d; rfl
  | succ f ih =>
    intro a m b d
    rw [symM]
    split
    · exact shUp_size _ _ _ _ (Nat.le_refl _)
    · split
      · exact shDn_size _ _ _
      · dsimp only
        have e1 : ∀ (c : Prop) [Decidable c] (x y : Array α) (n : Nat), x.size = n → y.size = n → (if c then x else y).size = n := fun c _ x y n h1 h2 => by split <;> assumption
        refine e1 _ _ _ _ ((ih _ _ _ _).trans ?_) ?_
        · exact e1 _ _ _ _ ((ih _ _ _ _).trans (e1 _ _ _ _ (rot_size _ _ _ _ _) rfl)) (e1 _ _ _ _ (rot_size _ _ _ _ _) rfl)
        · exact e1 _ _ _ _ ((ih _ _ _ _).trans (e1 _ _ _ _ (rot_size _ _ _ _ _) rfl)) (e1 _ _ _ _ (rot_size _ _ _ _ _) rfl)
set_option maxHeartbeats 16000000 in
set_option maxRecDepth 1000000 in
theorem symMerge_A (k : Nat) (aE : ∀ w, (isAgg 101).run Tryd.prog w = .ok true w) (zE : ∀ w, (Go.sizeOf 101).run Tryd.prog w = .ok k w) (enc : α → List Value) (cf : α → α → Int) (g : Nat) (cb : Array Value) (blk off cap : Nat) (d0 : Array α) (w0 : World)
    (eg : ∀ args w, (callFunc g args).run Tryd.prog w = .ok (.enter g args) w) (hcmp : CmpLays Tryd.prog g cb enc k cf blk off d0.size w0) (R : RowK enc k w0 blk off d0) (hsz : d0.size < 1152921504606846976)
    (f : Nat) (IH : Hid (∀ (a m b : Nat) (d : Array α) (w : World), a < m → m < b → b ≤ d.size → b - a ≤ f → d.size = d0.size → SWK enc k w0 blk off d w →
      Calls Tryd.prog 129 #[.slice (some ⟨blk, off, none⟩) d.size cap, .int .i64 a, .int .i64 m, .int .i64 b, .func (.func g) #[] cb] w fun e w' => e = .returned (.tuple #[]) ∧ SWK enc k w0 blk off (symM (ltOf cf) f a m b d) w'))
    (a m b : Nat) (d : Array α) (w : World) (h1 : a < m) (h2 : m < b) (h3 : b ≤ d.size) (h4 : b - a ≤ f + 1) (hs : d.size = d0.size) (S : SWK enc k w0 blk off d w) (c1 : m - a = 1) :
    Calls Tryd.prog 129 #[.slice (some ⟨blk, off, none⟩) d.size cap, .int .i64 a, .int .i64 m, .int .i64 b, .func (.func g) #[] cb] w fun e w' => e = .returned (.tuple #[]) ∧ SWK enc k w0 blk off (symM (ltOf cf) (f + 1) a m b d) w' := by
    have mixed : Tryd.prog.follows .mixedOrders = true := by kernel_rfl
    have HC : Aside _ := hcmp
    have S0 : Aside (SWK enc k w0 blk off d w) := S
    have HS := Lib.hid hs
    have hB : b < 1152921504606846976 := by omega
    have r1 : IntKind.i64.wrap ((m : Int) - (a : Int)) = (m : Int) - (a : Int) := wi_ (by omega) (by omega)
    clear S hcmp hs hsz

    have z1 : (m : Int) - (a : Int) = 1 := by omega
    go_enter Tryd.func129, Tryd.ntmps129
    go_wp2
    clear r1 z1
    go_loopg [10, 11] (b - m) (fun kx s1 s2 wr => ∃ (i j : Nat), s1 = .int .i64 i ∧ s2 = .int .i64 j ∧ m ≤ i ∧ i ≤ j ∧ j ≤ b ∧ j - i ≤ kx ∧ Aside (SWK enc k w0 blk off d wr) ∧ Hid (bs (fun h => ltOf cf d[h]! d[a]!) i j = bs (fun h => ltOf cf d[h]! d[a]!) m b))
    case atStart => exact ⟨m, b, rfl, rfl, Nat.le_refl _, by omega, Nat.le_refl _, Nat.le_refl _, S0, rfl⟩
    case round =>
      clear S0
      obtain ⟨i, j, rfl, rfl, hi, hij, hj, hk, S1, heq⟩ := hrel
      by_cases hlt : i < j
      · have z0 : (i : Int) < (j : Int) := by omega
        have r2 : IntKind.i64.wrap ((i : Int) + (j : Int)) = (i : Int) + (j : Int) := wi_ (by omega) (by omega)
        have r3 : IntKind.u64.wrap ((i : Int) + (j : Int)) = (i : Int) + (j : Int) := wu_ (by omega) (by omega)
        have R3 := Lib.hid r3
        clear r3
        obtain ⟨h, hh⟩ : ∃ h, h = (i + j) / 2 := ⟨_, rfl⟩
        have r4 : ((i : Int) + (j : Int)) / 2 = (h : Int) := by omega
        have hh1 : i ≤ h ∧ h < j := by omega
        have HH := Lib.hid hh
        clear hh
        have r5 : wrap64 (h : Int) = (h : Int) := w64_ (by omega) (by omega)
        have R5 := Lib.hid r5
        clear r5
        have r6 : IntKind.i64.wrap ((h : Int) + 1) = (h : Int) + 1 := wi_ (by omega) (by omega)
        cases hlv : ltOf cf d[h]! d[a]! with
        | false =>
          have ea : ((h : Int)).toNat = h := by omega
          have pa : (0 : Int) ≤ (h : Int) := by omega
          have ba : (h : Int) < (d.size : Int) := by omega
          have rA : IntKind.i64.wrap ((h : Int)) = (h : Int) := wi_ (by omega) (by omega)
          have ec : ((a : Int)).toNat = a := by omega
          have pc : (0 : Int) ≤ (a : Int) := by omega
          have bc : (a : Int) < (d.size : Int) := by omega
          have rC : IntKind.i64.wrap ((a : Int)) = (a : Int) := wi_ (by omega) (by omega)
          obtain ⟨X, hX⟩ : ∃ x, x = d[h]! := ⟨_, rfl⟩
          obtain ⟨Y, hY⟩ : ∃ x, x = d[a]! := ⟨_, rfl⟩
          have la := S1.out.ld R HS.out Tryd.prog (h) (by omega)
          have lb := S1.out.ld R HS.out Tryd.prog (a) (by omega)
          rw [← hX] at la
          rw [← hY] at lb
          have hc := S1.out.cmp HC.out HS.out X Y
          have hv : ¬ cf X Y < 0 := by rw [hX, hY]; exact of_decide_eq_false hlv
          have hd : decide (cf X Y < 0) = false := decide_eq_false hv
          clear hX hY
          have r3 := R3.out
          have r5 := R5.out
          go_wp2_with fail
          clear r3 r5
          go_quiet_grown (first | (go_at_fn g; refine Calls.grown_of (hc _ _)))
          have S2 : Aside (SWK enc k w0 blk off d (grow (wr.drewN nq) osq)) := S1.out.grown nq osq
          clear la lb hc S1
          generalize grow (wr.drewN nq) osq = wu at S2 ⊢
          clear nq osq
          go_wp2
          have hp : ((fun h => ltOf cf d[h]! d[a]!)) ((i + j) / 2) = false := by rw [← HH.out]; simp [hlv]
          go_roundg (h - i)
          case measure => omega
          case rel => exact ⟨i, h, rfl, by first | rfl | simp, hi, by omega, by omega, Nat.le_refl _, S2, by show _ = _; rw [← heq.out, bs_down hlt hp, ← HH.out]⟩
        | true =>
          have ea : ((h : Int)).toNat = h := by omega
          have pa : (0 : Int) ≤ (h : Int) := by omega
          have ba : (h : Int) < (d.size : Int) := by omega
          have rA : IntKind.i64.wrap ((h : Int)) = (h : Int) := wi_ (by omega) (by omega)
          have ec : ((a : Int)).toNat = a := by omega
          have pc : (0 : Int) ≤ (a : Int) := by omega
          have bc : (a : Int) < (d.size : Int) := by omega
          have rC : IntKind.i64.wrap ((a : Int)) = (a : Int) := wi_ (by omega) (by omega)
          obtain ⟨X, hX⟩ : ∃ x, x = d[h]! := ⟨_, rfl⟩
          obtain ⟨Y, hY⟩ : ∃ x, x = d[a]! := ⟨_, rfl⟩
          have la := S1.out.ld R HS.out Tryd.prog (h) (by omega)
          have lb := S1.out.ld R HS.out Tryd.prog (a) (by omega)
          rw [← hX] at la
          rw [← hY] at lb
          have hc := S1.out.cmp HC.out HS.out X Y
          have hv : cf X Y < 0 := by rw [hX, hY]; exact of_decide_eq_true hlv
          have hd : decide (cf X Y < 0) = true := decide_eq_true hv
          clear hX hY
          have r3 := R3.out
          have r5 := R5.out
          go_wp2_with fail
          clear r3 r5
          go_quiet_grown (first | (go_at_fn g; refine Calls.grown_of (hc _ _)))
          have S2 : Aside (SWK enc k w0 blk off d (grow (wr.drewN nq) osq)) := S1.out.grown nq osq
          clear la lb hc S1
          generalize grow (wr.drewN nq) osq = wu at S2 ⊢
          clear nq osq
          go_wp2
          have hp : ((fun h => ltOf cf d[h]! d[a]!)) ((i + j) / 2) = true := by rw [← HH.out]; simp [hlv]
          go_roundg (j - (h + 1))
          case measure => omega
          case rel => exact ⟨h + 1, j, by first | rfl | simp, rfl, by omega, by omega, hj, Nat.le_refl _, S2, by show _ = _; rw [← heq.out, bs_up hlt hp, ← HH.out]⟩
      · have z0 : ¬ (i : Int) < (j : Int) := by omega
        have hr : i = bs (fun h => ltOf cf d[h]! d[a]!) m b := by rw [← heq.out, bs_end hlt]
        have HR := Lib.hid hr
        have r7 : IntKind.i64.wrap ((i : Int) - 1) = (i : Int) - 1 := wi_ (by omega) (by omega)
        clear hr heq
        go_wp2
        go_loopg [13] (b - a) (fun kx s13 wx => ∃ (x : Nat) (dk : Array α), s13 = .int .i64 x ∧ a ≤ x ∧ x ≤ i - 1 ∧ i - 1 - x ≤ kx ∧ dk.size = d.size ∧ Aside (SWK enc k w0 blk off dk wx) ∧ Hid (shUp x (i - 1) dk = shUp a (i - 1) d))
        case atStart => exact ⟨a, d, rfl, Nat.le_refl _, by omega, by omega, rfl, S1, rfl⟩
        case round =>
          clear S1
          obtain ⟨x, dk, rfl, hx, hxi, hkx, hds, S1, heq⟩ := hrel
          by_cases hlt2 : x < i - 1
          · have z2 : (x : Int) < (i : Int) - 1 := by omega
            go_wp2_with fail
            have ea : ((x : Int)).toNat = x := by omega
            have pa : (0 : Int) ≤ (x : Int) := by omega
            have ba : (x : Int) < (d.size : Int) := by omega
            have rA : IntKind.i64.wrap ((x : Int)) = (x : Int) := wi_ (by omega) (by omega)
            have ec : ((x : Int) + 1).toNat = x + 1 := by omega
            have pc : (0 : Int) ≤ (x : Int) + 1 := by omega
            have bc : (x : Int) + 1 < (d.size : Int) := by omega
            have rC : IntKind.i64.wrap ((x : Int) + 1) = (x : Int) + 1 := wi_ (by omega) (by omega)
            have S2 : Aside (SWK enc k w0 blk off (swp dk (x) (x + 1)) ((wr.drew.setCells blk (off + (x) * k) (enc dk[x + 1]!)).setCells blk (off + (x + 1) * k) (enc dk[x]!))) := S1.out.swapped R (x) (x + 1) (by omega) (by omega)
            have la := S1.out.ld1 R (hds.trans HS.out) Tryd.prog (x) (by omega)
            have lb := S1.out.ld1 R (hds.trans HS.out) Tryd.prog (x + 1) (by omega)
            have sa := S1.out.st1 R (hds.trans HS.out) Tryd.prog (x) (by omega) dk[x + 1]!
            have sb := S1.out.st2 R (hds.trans HS.out) Tryd.prog (x) (x + 1) (by omega) (by omega) dk[x + 1]! dk[x]!
            have na : (enc dk[x]!).length = k := R.hk _
            have nb : (enc dk[x + 1]!).length = k := R.hk _
            generalize enc dk[x]! = cI at S2 la sb na
            generalize enc dk[x + 1]! = cJ at S2 lb sa sb nb
            clear S1
            go_wp2_with fail
            go_big_region_o
            clear la lb sa sb
            generalize (wr.drew.setCells blk (off + (x) * k) cJ).setCells blk (off + (x + 1) * k) cI = w2 at S2 ⊢
            go_wp2
            go_roundg (i - 1 - (x + 1))
            case measure => omega
            case rel => exact ⟨x + 1, swp dk x (x + 1), by first | rfl | simp, by omega, by omega, Nat.le_refl _, by rw [size_swp]; exact hds, S2, by show _ = _; rw [← heq.out, shUp_go hlt2]⟩
          · have z2 : ¬ (x : Int) < (i : Int) - 1 := by omega
            go_wp2
            (try simp only [Exit.inBlock, Exit.then]); refine bodyPost_ret (results_none rfl _ _ _) rfl ?_
            refine ⟨rfl, ?_⟩
            have e1 := heq.out
            rw [shUp_end hlt2] at e1
            rw [symM, if_pos c1, ← HR.out, ← e1]
            exact S1.out
set_option maxHeartbeats 16000000 in
set_option maxRecDepth 1000000 in
theorem symMerge_B (k : Nat) (aE : ∀ w, (isAgg 101).run Tryd.prog w = .ok true w) (zE : ∀ w, (Go.sizeOf 101).run Tryd.prog w = .ok k w) (enc : α → List Value) (cf : α → α → Int) (g : Nat) (cb : Array Value) (blk off cap : Nat) (d0 : Array α) (w0 : World)
    (eg : ∀ args w, (callFunc g args).run Tryd.prog w = .ok (.enter g args) w) (hcmp : CmpLays Tryd.prog g cb enc k cf blk off d0.size w0) (R : RowK enc k w0 blk off d0) (hsz : d0.size < 1152921504606846976)
    (f : Nat) (IH : Hid (∀ (a m b : Nat) (d : Array α) (w : World), a < m → m < b → b ≤ d.size → b - a ≤ f → d.size = d0.size → SWK enc k w0 blk off d w →
      Calls Tryd.prog 129 #[.slice (some ⟨blk, off, none⟩) d.size cap, .int .i64 a, .int .i64 m, .int .i64 b, .func (.func g) #[] cb] w fun e w' => e = .returned (.tuple #[]) ∧ SWK enc k w0 blk off (symM (ltOf cf) f a m b d) w'))
    (a m b : Nat) (d : Array α) (w : World) (h1 : a < m) (h2 : m < b) (h3 : b ≤ d.size) (h4 : b - a ≤ f + 1) (hs : d.size = d0.size) (S : SWK enc k w0 blk off d w) (c1 : ¬ m - a = 1) (c2 : b - m = 1) :
    Calls Tryd.prog 129 #[.slice (some ⟨blk, off, none⟩) d.size cap, .int .i64 a, .int .i64 m, .int .i64 b, .func (.func g) #[] cb] w fun e w' => e = .returned (.tuple #[]) ∧ SWK enc k w0 blk off (symM (ltOf cf) (f + 1) a m b d) w' := by
    have mixed : Tryd.prog.follows .mixedOrders = true := by kernel_rfl
    have HC : Aside _ := hcmp
    have S0 : Aside (SWK enc k w0 blk off d w) := S
    have HS := Lib.hid hs
    have hB : b < 1152921504606846976 := by omega
    have r1 : IntKind.i64.wrap ((m : Int) - (a : Int)) = (m : Int) - (a : Int) := wi_ (by omega) (by omega)
    clear S hcmp hs hsz

    have z1 : ¬ (m : Int) - (a : Int) = 1 := by omega
    have zb1 : ((m : Int) - (a : Int) == 1) = false := by simp only [beq_eq_false_iff_ne, ne_eq]; omega
    have z2 : (b : Int) - (m : Int) = 1 := by omega
    have r1' : IntKind.i64.wrap ((b : Int) - (m : Int)) = (b : Int) - (m : Int) := wi_ (by omega) (by omega)
    go_enter Tryd.func129, Tryd.ntmps129
    go_wp2
    clear r1 r1' z1 z2
    go_loopg [14, 15] (m - a) (fun kx s1 s2 wr => ∃ (i j : Nat), s1 = .int .i64 i ∧ s2 = .int .i64 j ∧ a ≤ i ∧ i ≤ j ∧ j ≤ m ∧ j - i ≤ kx ∧ Aside (SWK enc k w0 blk off d wr) ∧ Hid (bs (fun h => !ltOf cf d[m]! d[h]!) i j = bs (fun h => !ltOf cf d[m]! d[h]!) a m))
    case atStart => exact ⟨a, m, rfl, rfl, Nat.le_refl _, by omega, Nat.le_refl _, Nat.le_refl _, S0, rfl⟩
    case round =>
      clear S0
      obtain ⟨i, j, rfl, rfl, hi, hij, hj, hk, S1, heq⟩ := hrel
      by_cases hlt : i < j
      · have z0 : (i : Int) < (j : Int) := by omega
        have r2 : IntKind.i64.wrap ((i : Int) + (j : Int)) = (i : Int) + (j : Int) := wi_ (by omega) (by omega)
        have r3 : IntKind.u64.wrap ((i : Int) + (j : Int)) = (i : Int) + (j : Int) := wu_ (by omega) (by omega)
        have R3 := Lib.hid r3
        clear r3
        obtain ⟨h, hh⟩ : ∃ h, h = (i + j) / 2 := ⟨_, rfl⟩
        have r4 : ((i : Int) + (j : Int)) / 2 = (h : Int) := by omega
        have hh1 : i ≤ h ∧ h < j := by omega
        have HH := Lib.hid hh
        clear hh
        have r5 : wrap64 (h : Int) = (h : Int) := w64_ (by omega) (by omega)
        have R5 := Lib.hid r5
        clear r5
        have r6 : IntKind.i64.wrap ((h : Int) + 1) = (h : Int) + 1 := wi_ (by omega) (by omega)
        cases hlv : ltOf cf d[m]! d[h]! with
        | false =>
          have ea : ((m : Int)).toNat = m := by omega
          have pa : (0 : Int) ≤ (m : Int) := by omega
          have ba : (m : Int) < (d.size : Int) := by omega
          have rA : IntKind.i64.wrap ((m : Int)) = (m : Int) := wi_ (by omega) (by omega)
          have ec : ((h : Int)).toNat = h := by omega
          have pc : (0 : Int) ≤ (h : Int) := by omega
          have bc : (h : Int) < (d.size : Int) := by omega
          have rC : IntKind.i64.wrap ((h : Int)) = (h : Int) := wi_ (by omega) (by omega)
          obtain ⟨X, hX⟩ : ∃ x, x = d[m]! := ⟨_, rfl⟩
          obtain ⟨Y, hY⟩ : ∃ x, x = d[h]! := ⟨_, rfl⟩
          have la := S1.out.ld R HS.out Tryd.prog (m) (by omega)
          have lb := S1.out.ld R HS.out Tryd.prog (h) (by omega)
          rw [← hX] at la
          rw [← hY] at lb
          have hc := S1.out.cmp HC.out HS.out X Y
          have hv : ¬ cf X Y < 0 := by rw [hX, hY]; exact of_decide_eq_false hlv
          have hd : decide (cf X Y < 0) = false := decide_eq_false hv
          clear hX hY
          have r3 := R3.out
          have r5 := R5.out
          go_wp2_with fail
          clear r3 r5
          go_quiet_grown (first | (go_at_fn g; refine Calls.grown_of (hc _ _)))
          have S2 : Aside (SWK enc k w0 blk off d (grow (wr.drewN nq) osq)) := S1.out.grown nq osq
          clear la lb hc S1
          generalize grow (wr.drewN nq) osq = wu at S2 ⊢
          clear nq osq
          go_wp2
          have hp : ((fun h => !ltOf cf d[m]! d[h]!)) ((i + j) / 2) = true := by rw [← HH.out]; simp [hlv]
          go_roundg (j - (h + 1))
          case measure => omega
          case rel => exact ⟨h + 1, j, by first | rfl | simp, rfl, by omega, by omega, hj, Nat.le_refl _, S2, by show _ = _; rw [← heq.out, bs_up hlt hp, ← HH.out]⟩
        | true =>
          have ea : ((m : Int)).toNat = m := by omega
          have pa : (0 : Int) ≤ (m : Int) := by omega
          have ba : (m : Int) < (d.size : Int) := by omega
          have rA : IntKind.i64.wrap ((m : Int)) = (m : Int) := wi_ (by omega) (by omega)
          have ec : ((h : Int)).toNat = h := by omega
          have pc : (0 : Int) ≤ (h : Int) := by omega
          have bc : (h : Int) < (d.size : Int) := by omega
          have rC : IntKind.i64.wrap ((h : Int)) = (h : Int) := wi_ (by omega) (by omega)
          obtain ⟨X, hX⟩ : ∃ x, x = d[m]! := ⟨_, rfl⟩
          obtain ⟨Y, hY⟩ : ∃ x, x = d[h]! := ⟨_, rfl⟩
          have la := S1.out.ld R HS.out Tryd.prog (m) (by omega)
          have lb := S1.out.ld R HS.out Tryd.prog (h) (by omega)
          rw [← hX] at la
          rw [← hY] at lb
          have hc := S1.out.cmp HC.out HS.out X Y
          have hv : cf X Y < 0 := by rw [hX, hY]; exact of_decide_eq_true hlv
          have hd : decide (cf X Y < 0) = true := decide_eq_true hv
          clear hX hY
          have r3 := R3.out
          have r5 := R5.out
          go_wp2_with fail
          clear r3 r5
          go_quiet_grown (first | (go_at_fn g; refine Calls.grown_of (hc _ _)))
          have S2 : Aside (SWK enc k w0 blk off d (grow (wr.drewN nq) osq)) := S1.out.grown nq osq
          clear la lb hc S1
          generalize grow (wr.drewN nq) osq = wu at S2 ⊢
          clear nq osq
          go_wp2
          have hp : ((fun h => !ltOf cf d[m]! d[h]!)) ((i + j) / 2) = false := by rw [← HH.out]; simp [hlv]
          go_roundg (h - i)
          case measure => omega
          case rel => exact ⟨i, h, rfl, by first | rfl | simp, hi, by omega, by omega, Nat.le_refl _, S2, by show _ = _; rw [← heq.out, bs_down hlt hp, ← HH.out]⟩
      · have z0 : ¬ (i : Int) < (j : Int) := by omega
        have hr : i = bs (fun h => !ltOf cf d[m]! d[h]!) a m := by rw [← heq.out, bs_end hlt]
        have HR := Lib.hid hr
        clear hr heq
        go_wp2
        go_loopg [17] (m - a) (fun kx s17 wx => ∃ (x : Nat) (dk : Array α), s17 = .int .i64 x ∧ i ≤ x ∧ x ≤ m ∧ x - i ≤ kx ∧ dk.size = d.size ∧ Aside (SWK enc k w0 blk off dk wx) ∧ Hid (shDn i x dk = shDn i m d))
        case atStart => exact ⟨m, d, rfl, by omega, Nat.le_refl _, by omega, rfl, S1, rfl⟩
        case round =>
          clear S1
          obtain ⟨x, dk, rfl, hx, hxi, hkx, hds, S1, heq⟩ := hrel
          by_cases hlt2 : i < x
          · have z2 : (i : Int) < (x : Int) := by omega
            go_wp2_with fail
            have ea : ((x : Int)).toNat = x := by omega
            have pa : (0 : Int) ≤ (x : Int) := by omega
            have ba : (x : Int) < (d.size : Int) := by omega
            have rA : IntKind.i64.wrap ((x : Int)) = (x : Int) := wi_ (by omega) (by omega)
            have ec : ((x : Int) - 1).toNat = x - 1 := by omega
            have pc : (0 : Int) ≤ (x : Int) - 1 := by omega
            have bc : (x : Int) - 1 < (d.size : Int) := by omega
            have rC : IntKind.i64.wrap ((x : Int) - 1) = (x : Int) - 1 := wi_ (by omega) (by omega)
            have S2 : Aside (SWK enc k w0 blk off (swp dk (x) (x - 1)) ((wr.drew.setCells blk (off + (x) * k) (enc dk[x - 1]!)).setCells blk (off + (x - 1) * k) (enc dk[x]!))) := S1.out.swapped R (x) (x - 1) (by omega) (by omega)
            have la := S1.out.ld1 R (hds.trans HS.out) Tryd.prog (x) (by omega)
            have lb := S1.out.ld1 R (hds.trans HS.out) Tryd.prog (x - 1) (by omega)
            have sa := S1.out.st1 R (hds.trans HS.out) Tryd.prog (x) (by omega) dk[x - 1]!
            have sb := S1.out.st2 R (hds.trans HS.out) Tryd.prog (x) (x - 1) (by omega) (by omega) dk[x - 1]! dk[x]!
            have na : (enc dk[x]!).length = k := R.hk _
            have nb : (enc dk[x - 1]!).length = k := R.hk _
            generalize enc dk[x]! = cI at S2 la sb na
            generalize enc dk[x - 1]! = cJ at S2 lb sa sb nb
            clear S1
            go_wp2_with fail
            go_big_region_o
            clear la lb sa sb
            generalize (wr.drew.setCells blk (off + (x) * k) cJ).setCells blk (off + (x - 1) * k) cI = w2 at S2 ⊢
            go_wp2
            go_roundg (x - 1 - i)
            case measure => omega
            case rel => exact ⟨x - 1, swp dk x (x - 1), by first | rfl | (rw [show ((x - 1 : Nat) : Int) = (x : Int) - 1 by omega]), by omega, by omega, Nat.le_refl _, by rw [size_swp]; exact hds, S2, by show _ = _; rw [← heq.out]; obtain ⟨y, rfl⟩ : ∃ y, x = y + 1 := ⟨x - 1, by omega⟩; rw [shDn_go hlt2]; rfl⟩
          · have z2 : ¬ (i : Int) < (x : Int) := by omega
            go_wp2
            (try simp only [Exit.inBlock, Exit.then]); refine bodyPost_ret (results_none rfl _ _ _) rfl ?_
            refine ⟨rfl, ?_⟩
            have e1 := heq.out
            rw [shDn_end hlt2] at e1
            rw [symM, if_neg c1, if_pos c2, ← HR.out, ← e1]
            exact S1.out
variable {α : Type} [Inhabited α]
theorem ii_go (lt : α → α → Bool) (a j : Nat) (d : Array α) (hj : a < j + 1) (hl : lt d[j + 1]! d[j]! = true) : insInner lt a (j + 1) d = insInner lt a j (swp d (j + 1) j) := by
  rw [insInner, hl]; simp; intro h; omega
theorem ii_stop (lt : α → α → Bool) (a j : Nat) (d : Array α) (hl : lt d[j + 1]! d[j]! = false) : insInner lt a (j + 1) d = d := by
  rw [insInner, hl]; simp
theorem ii_end (lt : α → α → Bool) (a j : Nat) (d : Array α) (hj : ¬ a < j) : insInner lt a j d = d := by
  cases j with
  | zero => rw [insInner]
  | succ j => rw [insInner]; simp; intro h; omega
set_option maxHeartbeats 16000000 in
set_option maxRecDepth 1000000 in
theorem insertion_run (k : Nat) (aE : ∀ w, (isAgg 101).run Tryd.prog w = .ok true w) (zE : ∀ w, (Go.sizeOf 101).run Tryd.prog w = .ok k w) (enc : α → List Value) (cf : α → α → Int) (g : Nat) (cb : Array Value) (blk off cap : Nat) (d0 : Array α) (w0 : World)
    (eg : ∀ args w, (callFunc g args).run Tryd.prog w = .ok (.enter g args) w) (hcmp : CmpLays Tryd.prog g cb enc k cf blk off d0.size w0) (R : RowK enc k w0 blk off d0) (hsz : d0.size < 1152921504606846976)
    (a b : Nat) (d : Array α) (w : World) (hab : a ≤ b) (hb : b ≤ d.size) (hs : d.size = d0.size) (S : SWK enc k w0 blk off d w) :
    Calls Tryd.prog 128 #[.slice (some ⟨blk, off, none⟩) d.size cap, .int .i64 a, .int .i64 b, .func (.func g) #[] cb] w fun e w' => e = .returned (.tuple #[]) ∧ SWK enc k w0 blk off (insertionSort (ltOf cf) d a b) w' := by
  have mixed : Tryd.prog.follows .mixedOrders = true := by kernel_rfl
  have HC : Aside _ := hcmp
  have S0 : Aside (SWK enc k w0 blk off d w) := S
  have HS := Lib.hid hs
  have hB : b < 1152921504606846976 := by omega
  clear S hcmp hs hsz
  go_enter Tryd.func128, Tryd.ntmps128
  go_wp2
  go_loopg [8] (b - a) (fun kx s8 wr => ∃ (i : Nat) (dk : Array α), s8 = .int .i64 i ∧ a < i ∧ i ≤ b + 1 ∧ b + 1 - i ≤ kx + 1 ∧ dk.size = d.size ∧ Aside (SWK enc k w0 blk off dk wr) ∧ Hid (insOuter (ltOf cf) a b i dk = insOuter (ltOf cf) a b (a + 1) d))
  case atStart => exact ⟨a + 1, d, by go_num, by omega, by omega, by omega, rfl, S0, rfl⟩
  case round =>
    clear S0
    obtain ⟨i, dk, rfl, hai, hib, hkx, hds, S1, HO⟩ := hrel
    by_cases hlt : i < b
    · have hltz : (i : Int) < (b : Int) := by omega
      go_wp2
      go_loopg [9] i (fun kx s9 wx => ∃ (j : Nat) (dj : Array α), s9 = .int .i64 j ∧ a ≤ j ∧ j ≤ i ∧ j ≤ kx ∧ dj.size = d.size ∧ Aside (SWK enc k w0 blk off dj wx) ∧ Hid (insInner (ltOf cf) a j dj = insInner (ltOf cf) a i dk))
      case atStart => exact ⟨i, dk, rfl, by omega, Nat.le_refl _, Nat.le_refl _, hds, S1, rfl⟩
      case round =>
        clear S1 hds
        obtain ⟨j, dj, rfl, haj, hji, hg2, hsj, S1, HI⟩ := hrel
        have OUT : Hid (insInner (ltOf cf) a j dj = dj → insOuter (ltOf cf) a b (i + 1) dj = insOuter (ltOf cf) a b (a + 1) d) := by
          show _ → _
          intro h
          rw [← HO.out, io_go _ _ _ _ _ hlt, ← HI.out, h]
        by_cases hja : a < j
        · obtain ⟨jp, rfl⟩ : ∃ jp, j = jp + 1 := ⟨j - 1, by omega⟩
          have hwp : IntKind.i64.wrap (jp : Int) = (jp : Int) := wi_ (by omega) (by omega)
          have jz : (jp : Int) + 1 < (d.size : Int) := by omega
          have jz1 : (jp : Int) < (d.size : Int) := by omega
          have hjaz' : (a : Int) < (jp : Int) + 1 := by omega
          have p0 : (0 : Int) ≤ (jp : Int) + 1 := by omega
          have e0 : ((jp : Int) + 1).toNat = jp + 1 := by omega
          have la := S1.out.ld R (hsj.trans HS.out) Tryd.prog (jp + 1) (by omega)
          have lb := S1.out.ld R (hsj.trans HS.out) Tryd.prog jp (by omega)
          obtain ⟨X, hX⟩ : ∃ x, x = dj[jp + 1]! := ⟨_, rfl⟩
          obtain ⟨Y, hY⟩ : ∃ x, x = dj[jp]! := ⟨_, rfl⟩
          rw [← hX] at la
          rw [← hY] at lb
          have hc := S1.out.cmp HC.out (hsj.trans HS.out) X Y
          have HX := Lib.hid hX
          have HY := Lib.hid hY
          clear hX hY
          cases hlv : ltOf cf dj[jp + 1]! dj[jp]! with
          | true =>
            have hv : cf X Y < 0 := by rw [HX.out, HY.out]; exact of_decide_eq_true hlv
            have hd : decide (cf X Y < 0) = true := decide_eq_true hv
            go_wp2_with fail
            go_quiet_grown (first | (go_at_fn g; refine Calls.grown_of (hc _ _)))
            have S2 : Aside (SWK enc k w0 blk off dj (grow (wr.drewN nq) osq)) := S1.out.grown nq osq
            clear la lb hc S1
            generalize grow (wr.drewN nq) osq = wu at S2 ⊢
            clear nq osq
            go_wp2_with fail
            have S3 : Aside (SWK enc k w0 blk off (swp dj (jp + 1) jp) ((wu.drew.setCells blk (off + (jp + 1) * k) (enc dj[jp]!)).setCells blk (off + jp * k) (enc dj[jp + 1]!))) := S2.out.swapped R (jp + 1) jp (by omega) (by omega)
            have la := S2.out.ld1 R (hsj.trans HS.out) Tryd.prog (jp + 1) (by omega)
            have lb := S2.out.ld1 R (hsj.trans HS.out) Tryd.prog jp (by omega)
            have sa := S2.out.st1 R (hsj.trans HS.out) Tryd.prog (jp + 1) (by omega) dj[jp]!
            have sb := S2.out.st2 R (hsj.trans HS.out) Tryd.prog (jp + 1) jp (by omega) (by omega) dj[jp]! dj[jp + 1]!
            have na : (enc dj[jp + 1]!).length = k := R.hk _
            have nb : (enc dj[jp]!).length = k := R.hk _
            generalize enc dj[jp + 1]! = cI at S3 la sb na
            generalize enc dj[jp]! = cJ at S3 lb sa sb nb
            clear S2
            go_big_region_o
            clear la lb sa sb
            generalize (wu.drew.setCells blk (off + (jp + 1) * k) cJ).setCells blk (off + jp * k) cI = w2 at S3 ⊢
            go_wp2
            go_roundg jp
            case measure => omega
            case rel => exact ⟨jp, swp dj (jp + 1) jp, by first | rfl | go_num | (congr 1; omega), by omega, by omega, Nat.le_refl _, by rw [size_swp]; exact hsj, S3, by show _ = _; rw [← HI.out, ii_go _ _ _ _ hja hlv]⟩
          | false =>
            have hv : ¬ cf X Y < 0 := by rw [HX.out, HY.out]; exact of_decide_eq_false hlv
            have hd : decide (cf X Y < 0) = false := decide_eq_false hv
            go_wp2_with fail
            go_quiet_grown (first | (go_at_fn g; refine Calls.grown_of (hc _ _)))
            have S2 : Aside (SWK enc k w0 blk off dj (grow (wr.drewN nq) osq)) := S1.out.grown nq osq
            clear la lb hc S1
            generalize grow (wr.drewN nq) osq = wu at S2 ⊢
            clear nq osq
            go_wp2
            go_roundg (b - (i + 1))
            case measure => omega
            case rel => exact ⟨i + 1, dj, by go_num, by omega, by omega, by omega, hsj, S2, OUT.out (ii_stop _ _ _ _ hlv)⟩
        · have hjaz : decide ((j : Int) > (a : Int)) = false := decide_eq_false (by omega)
          have hjaz' : ¬ (a : Int) < (j : Int) := by omega
          have S2 : Aside (SWK enc k w0 blk off dj wr.drew) := S1.out.drew
          go_wp2_with fail
          go_big_region_o
          all_goals go_wp2
          go_roundg (b - (i + 1))
          case measure => omega
          case rel => exact ⟨i + 1, dj, by go_num, by omega, by omega, by omega, hsj, S2, OUT.out (ii_end _ _ _ _ hja)⟩
    · have hltz : ¬ (i : Int) < (b : Int) := by omega
      go_wp2
      go_end0
      exact ⟨rfl, by unfold insertionSort; rw [← HO.out, io_stop _ _ _ _ _ hlt]; exact S1.out⟩
variable {α : Type} [Inhabited α]
theorem rot_fuel (m : Nat) : ∀ (f f' i j : Nat) (d : Array α), 0 < i → 0 < j → i + j ≤ f → i + j ≤ f' → rot m f i j d = rot m f' i j d := by
  intro f
  induction f with
  | zero => intro f' i j d h1 h2 h3; omega
  | succ f ih =>
    intro f' i j d h1 h2 h3 h4
    obtain ⟨g, rfl⟩ : ∃ g, f' = g + 1 := ⟨f' - 1, by omega⟩
    rw [rot, rot]
    by_cases c1 : i = j
    · rw [if_pos c1, if_pos c1]
    · rw [if_neg c1, if_neg c1]
      by_cases c2 : j < i
      · rw [if_pos c2, if_pos c2]; exact ih _ _ _ _ (by omega) h2 (by omega) (by omega)
      · rw [if_neg c2, if_neg c2]; exact ih _ _ _ _ h1 (by omega) (by omega) (by omega)
set_option maxHeartbeats 16000000 in
set_option maxRecDepth 1000000 in
theorem symMerge_C (k : Nat) (aE : ∀ w, (isAgg 101).run Tryd.prog w = .ok true w) (zE : ∀ w, (Go.sizeOf 101).run Tryd.prog w = .ok k w) (enc : α → List Value) (cf : α → α → Int) (g : Nat) (cb : Array Value) (blk off cap : Nat) (d0 : Array α) (w0 : World)
    (eg : ∀ args w, (callFunc g args).run Tryd.prog w = .ok (.enter g args) w) (hcmp : CmpLays Tryd.prog g cb enc k cf blk off d0.size w0) (R : RowK enc k w0 blk off d0) (hsz : d0.size < 1152921504606846976)
    (f : Nat) (IH : Hid (∀ (a m b : Nat) (d : Array α) (w : World), a < m → m < b → b ≤ d.size → b - a ≤ f → d.size = d0.size → SWK enc k w0 blk off d w →
      Calls Tryd.prog 129 #[.slice (some ⟨blk, off, none⟩) d.size cap, .int .i64 a, .int .i64 m, .int .i64 b, .func (.func g) #[] cb] w fun e w' => e = .returned (.tuple #[]) ∧ SWK enc k w0 blk off (symM (ltOf cf) f a m b d) w'))
    (a m b : Nat) (d : Array α) (w : World) (h1 : a < m) (h2 : m < b) (h3 : b ≤ d.size) (h4 : b - a ≤ f + 1) (hs : d.size = d0.size) (S : SWK enc k w0 blk off d w) (c1 : ¬ m - a = 1) (c2 : ¬ b - m = 1) :
    Calls Tryd.prog 129 #[.slice (some ⟨blk, off, none⟩) d.size cap, .int .i64 a, .int .i64 m, .int .i64 b, .func (.func g) #[] cb] w fun e w' => e = .returned (.tuple #[]) ∧ SWK enc k w0 blk off (symM (ltOf cf) (f + 1) a m b d) w' := by
    have mixed : Tryd.prog.follows .mixedOrders = true := by kernel_rfl
    have HC : Aside _ := hcmp
    have S0 : Aside (SWK enc k w0 blk off d w) := S
    have HS := Lib.hid hs
    have hB : b < 1152921504606846976 := by omega
    have r1 : IntKind.i64.wrap ((m : Int) - (a : Int)) = (m : Int) - (a : Int) := wi_ (by omega) (by omega)
    have HSZ := Lib.hid hsz
    clear S hcmp hs hsz
    have z1 : ¬ (m : Int) - (a : Int) = 1 := by omega
    have zb1 : ((m : Int) - (a : Int) == 1) = false := by simp only [beq_eq_false_iff_ne, ne_eq]; omega
    have z2 : ¬ (b : Int) - (m : Int) = 1 := by omega
    have zb2 : ((b : Int) - (m : Int) == 1) = false := by simp only [beq_eq_false_iff_ne, ne_eq]; omega
    have r1' : IntKind.i64.wrap ((b : Int) - (m : Int)) = (b : Int) - (m : Int) := wi_ (by omega) (by omega)
    obtain ⟨mid, hmid⟩ : ∃ mid, mid = (a + b) / 2 := ⟨_, rfl⟩
    have hm1 : a < mid ∧ mid < b := by omega
    have q4 : ((a : Int) + (b : Int)) / 2 = (mid : Int) := by omega
    have HM := Lib.hid hmid
    clear hmid
    obtain ⟨dn, hlo⟩ : ∃ dn, dn = (if m > mid then mid + m - b else a) := ⟨_, rfl⟩
    obtain ⟨up, hhi⟩ : ∃ up, up = (if m > mid then mid else m) := ⟨_, rfl⟩
    have HLO : Hid (bs (fun c => !ltOf cf d[mid + m - 1 - c]! d[c]!) (if m > mid then mid + m - b else a) (if m > mid then mid else m) = bs (fun c => !ltOf cf d[mid + m - 1 - c]! d[c]!) dn up) := by show _ = _; rw [hlo, hhi]
    have hb0 : a ≤ dn ∧ dn ≤ up ∧ up ≤ m ∧ up ≤ mid ∧ mid + m ≤ dn + b := by
      have := HM.out
      rw [hlo, hhi]
      by_cases c : m > mid
      · rw [if_pos c, if_pos c]; omega
      · rw [if_neg c, if_neg c]; omega
    have HDN := Lib.hid hlo
    have HUP := Lib.hid hhi
    clear hlo hhi
    go_enter Tryd.func129, Tryd.ntmps129
    go_upto_if 140 with (fail)
    clear q4 r1 r1' z1 z2 zb1 zb2
    go_cut [20, 21] (fun v20 v21 wc => v20 = .int .i64 dn ∧ v21 = .int .i64 up ∧ Aside (SWK enc k w0 blk off d wc))
    case first =>
      by_cases cm : mid < m
      · have zm : (mid : Int) < (m : Int) := by omega
        have e1 := HDN.out
        have e2 := HUP.out
        rw [if_pos cm] at e1 e2
        have HE1 := Lib.hid e1
        have HE2 := Lib.hid e2
        have HMM := HM.out
        have HMH := Lib.hid HMM
        clear e1 e2 HMM
        go_wp2_with fail
        go_meet
        exact ⟨by have := HE1.out; have := HMH.out; congr 1; omega, by have := HE2.out; congr 1; omega, S0⟩
      
      · have zm : ¬ (mid : Int) < (m : Int) := by omega
        have e1 := HDN.out
        have e2 := HUP.out
        rw [if_neg cm] at e1 e2
        have HE1 := Lib.hid e1
        have HE2 := Lib.hid e2
        have HMM := HM.out
        have HMH := Lib.hid HMM
        clear e1 e2 HMM
        go_wp2_with fail
        go_meet
        exact ⟨by have := HE1.out; have := HMH.out; congr 1; omega, by have := HE2.out; congr 1; omega, S0⟩
    case rest =>
      as_aux_lemma =>
      obtain ⟨rfl, rfl, S1⟩ := hcut
      clear S0
      go_wp2
      go_loopg [20, 21] (up - dn) (fun kx s1 s2 wr => ∃ (i j : Nat), s1 = .int .i64 i ∧ s2 = .int .i64 j ∧ dn ≤ i ∧ i ≤ j ∧ j ≤ up ∧ j - i ≤ kx ∧ Aside (SWK enc k w0 blk off d wr) ∧ Hid (bs (fun c => !ltOf cf d[mid + m - 1 - c]! d[c]!) i j = bs (fun c => !ltOf cf d[mid + m - 1 - c]! d[c]!) dn up))
      case atStart => exact ⟨dn, up, by first | rfl | (congr 1; omega), by first | rfl | (congr 1; omega), Nat.le_refl _, by omega, Nat.le_refl _, Nat.le_refl _, S1, rfl⟩
      case round =>
        clear S1
        obtain ⟨i, j, rfl, rfl, hi, hij, hj, hk, S1, heq⟩ := hrel
        by_cases hlt : i < j
        · have z0 : (i : Int) < (j : Int) := by omega
          have r2 : IntKind.i64.wrap ((i : Int) + (j : Int)) = (i : Int) + (j : Int) := wi_ (by omega) (by omega)
          have r3 : IntKind.u64.wrap ((i : Int) + (j : Int)) = (i : Int) + (j : Int) := wu_ (by omega) (by omega)
          have R3 := Lib.hid r3
          clear r3
          obtain ⟨h, hh⟩ : ∃ h, h = (i + j) / 2 := ⟨_, rfl⟩
          have r4 : ((i : Int) + (j : Int)) / 2 = (h : Int) := by omega
          have hh1 : i ≤ h ∧ h < j := by omega
          have HH := Lib.hid hh
          clear hh
          have r5 : wrap64 (h : Int) = (h : Int) := w64_ (by omega) (by omega)
          have R5 := Lib.hid r5
          clear r5
          have r6 : IntKind.i64.wrap ((h : Int) + 1) = (h : Int) + 1 := wi_ (by omega) (by omega)
          obtain ⟨p, hp0⟩ : ∃ p, p = mid + m - 1 - h := ⟨_, rfl⟩
          have ep : (mid : Int) + (m : Int) - 1 - (h : Int) = (p : Int) := by omega
          have hp1 : p < d.size := by omega
          have HP := Lib.hid hp0
          clear hp0
          cases hlv : ltOf cf d[p]! d[h]! with
          | false =>
            have ea : ((p : Int)).toNat = p := by omega
            have pa : (0 : Int) ≤ (p : Int) := by omega
            have ba : (p : Int) < (d.size : Int) := by omega
            have rA : IntKind.i64.wrap ((p : Int)) = (p : Int) := wi_ (by omega) (by omega)
            have ec : ((h : Int)).toNat = h := by omega
            have pc : (0 : Int) ≤ (h : Int) := by omega
            have bc : (h : Int) < (d.size : Int) := by omega
            have rC : IntKind.i64.wrap ((h : Int)) = (h : Int) := wi_ (by omega) (by omega)
            obtain ⟨X, hX⟩ : ∃ x, x = d[p]! := ⟨_, rfl⟩
            obtain ⟨Y, hY⟩ : ∃ x, x = d[h]! := ⟨_, rfl⟩
            have la := S1.out.ld R HS.out Tryd.prog (p) (by omega)
            have lb := S1.out.ld R HS.out Tryd.prog (h) (by omega)
            rw [← hX] at la
            rw [← hY] at lb
            have hc := S1.out.cmp HC.out HS.out X Y
            have hv : ¬ cf X Y < 0 := by rw [hX, hY]; exact of_decide_eq_false hlv
            have hd : decide (cf X Y < 0) = false := decide_eq_false hv
            clear hX hY
            have r3 := R3.out
            have r5 := R5.out
            go_wp2_with fail
            clear r3 r5
            go_quiet_grown (first | (go_at_fn g; refine Calls.grown_of (hc _ _)))
            have S2 : Aside (SWK enc k w0 blk off d (grow (wr.drewN nq) osq)) := S1.out.grown nq osq
            clear la lb hc S1
            generalize grow (wr.drewN nq) osq = wu at S2 ⊢
            clear nq osq
            go_wp2
            have hp : ((fun c => !ltOf cf d[mid + m - 1 - c]! d[c]!)) ((i + j) / 2) = true := by rw [← HH.out]; show (!ltOf cf d[mid + m - 1 - h]! d[h]!) = _; rw [← HP.out, hlv]; rfl
            go_roundg (j - (h + 1))
            case measure => omega
            case rel => exact ⟨h + 1, j, by first | rfl | simp, rfl, by omega, by omega, hj, Nat.le_refl _, S2, by show _ = _; rw [← heq.out, bs_up hlt hp, ← HH.out]⟩
          | true =>
            have ea : ((p : Int)).toNat = p := by omega
            have pa : (0 : Int) ≤ (p : Int) := by omega
            have ba : (p : Int) < (d.size : Int) := by omega
            have rA : IntKind.i64.wrap ((p : Int)) = (p : Int) := wi_ (by omega) (by omega)
            have ec : ((h : Int)).toNat = h := by omega
            have pc : (0 : Int) ≤ (h : Int) := by omega
            have bc : (h : Int) < (d.size : Int) := by omega
            have rC : IntKind.i64.wrap ((h : Int)) = (h : Int) := wi_ (by omega) (by omega)
            obtain ⟨X, hX⟩ : ∃ x, x = d[p]! := ⟨_, rfl⟩
            obtain ⟨Y, hY⟩ : ∃ x, x = d[h]! := ⟨_, rfl⟩
            have la := S1.out.ld R HS.out Tryd.prog (p) (by omega)
            have lb := S1.out.ld R HS.out Tryd.prog (h) (by omega)
            rw [← hX] at la
            rw [← hY] at lb
            have hc := S1.out.cmp HC.out HS.out X Y
            have hv : cf X Y < 0 := by rw [hX, hY]; exact of_decide_eq_true hlv
            have hd : decide (cf X Y < 0) = true := decide_eq_true hv
            clear hX hY
            have r3 := R3.out
            have r5 := R5.out
            go_wp2_with fail
            clear r3 r5
            go_quiet_grown (first | (go_at_fn g; refine Calls.grown_of (hc _ _)))
            have S2 : Aside (SWK enc k w0 blk off d (grow (wr.drewN nq) osq)) := S1.out.grown nq osq
            clear la lb hc S1
            generalize grow (wr.drewN nq) osq = wu at S2 ⊢
            clear nq osq
            go_wp2
            have hp : ((fun c => !ltOf cf d[mid + m - 1 - c]! d[c]!)) ((i + j) / 2) = false := by rw [← HH.out]; show (!ltOf cf d[mid + m - 1 - h]! d[h]!) = _; rw [← HP.out, hlv]; rfl
            go_roundg (h - i)
            case measure => omega
            case rel => exact ⟨i, h, rfl, by first | rfl | simp, hi, by omega, by omega, Nat.le_refl _, S2, by show _ = _; rw [← heq.out, bs_down hlt hp, ← HH.out]⟩
        · have z0 : ¬ (i : Int) < (j : Int) := by omega
          have hr : i = bs (fun c => !ltOf cf d[mid + m - 1 - c]! d[c]!) dn up := by rw [← heq.out, bs_end hlt]
          have HR := Lib.hid hr
          clear hr heq
          as_aux_lemma =>
            have hsr : dn ≤ i ∧ i ≤ up := by omega
            go_upto_region 39 with (fail)
            clear hlt z0 hj hij hk hi
            obtain ⟨e, he⟩ : ∃ e, e = mid + m - i := ⟨_, rfl⟩
            have ze : (mid : Int) + (m : Int) - (i : Int) = (e : Int) := by omega
            obtain ⟨d1, hd1⟩ : ∃ d1, d1 = (if i < m ∧ m < e then rot m (b - a) (m - i) (e - m) d else d) := ⟨_, rfl⟩
            obtain ⟨d2, hd2⟩ : ∃ d2, d2 = (if a < i ∧ i < mid then symM (ltOf cf) f a i mid d1 else d1) := ⟨_, rfl⟩
            obtain ⟨d3, hd3⟩ : ∃ d3, d3 = (if mid < e ∧ e < b then symM (ltOf cf) f mid e b d2 else d2) := ⟨_, rfl⟩
            have HD : Hid (symM (ltOf cf) (f + 1) a m b d = d3) := by
              show _ = _
              rw [symM, if_neg c1, if_neg c2]
              simp only []
              rw [← HM.out, HLO.out, ← HR.out, ← he, hd3, hd2, hd1]
            have s1 : d1.size = d.size := by rw [hd1]; split; exact rot_size _ _ _ _ _; rfl
            have s2 : d2.size = d.size := by rw [hd2]; split; exact (symM_size _ _ _ _ _ _).trans s1; exact s1
            have HE1 := Lib.hid hd1
            have HE2 := Lib.hid hd2
            have HE3 := Lib.hid hd3
            have HS1 := Lib.hid s1
            have HS2 := Lib.hid s2
            have HEE := Lib.hid he
            have F : a ≤ i ∧ i ≤ m ∧ i ≤ mid ∧ m ≤ e ∧ mid ≤ e ∧ e ≤ b := by omega
            have FF := Lib.hid F
            clear hd1 hd2 hd3 s1 s2 he hsr hb0 F
            obtain ⟨q, hq⟩ : ∃ q : Bool, q = decide (i < m ∧ m < e) := ⟨_, rfl⟩
            have HQ := Lib.hid hq
            clear hq
            go_cut [24, 185] (fun v24 v wc => v24 = .int .i64 e ∧ v = .bool q ∧ Aside (SWK enc k w0 blk off d wc))
            case first =>
              have F := FF.out
              by_cases g1 : i < m
              · have g1z : (i : Int) < (m : Int) := by omega
                by_cases g2 : m < e
                · have g2z : (m : Int) < (e : Int) := by omega
                  have hq : q = true := by rw [HQ.out]; exact decide_eq_true ⟨g1, g2⟩
                  clear F
                  subst hq
                  go_wp2_with fail
                  go_meet
                  exact ⟨by first | rfl | exact congrArg (Value.int IntKind.i64) ze, rfl, S1⟩
                · have g2z : ¬ (m : Int) < (e : Int) := by omega
                  have hq : q = false := by rw [HQ.out]; exact decide_eq_false (fun h => g2 h.2)
                  clear F
                  subst hq
                  go_wp2_with fail
                  go_meet
                  exact ⟨by first | rfl | exact congrArg (Value.int IntKind.i64) ze, rfl, S1⟩
              · have g1z : ¬ (i : Int) < (m : Int) := by omega
                have hq : q = false := by rw [HQ.out]; exact decide_eq_false (fun h => g1 h.1)
                clear F
                subst hq
                go_wp2_with fail
                go_meet
                exact ⟨by first | rfl | exact congrArg (Value.int IntKind.i64) ze, rfl, S1⟩
            case rest =>
              as_aux_lemma =>
              obtain ⟨rfl, rfl, S2⟩ := hcut
              clear S1
              go_upto_if 185 with (fail)
              go_cut [] (fun wc => Aside (SWK enc k w0 blk off d1 wc))
              case first =>
                cases q with
                | true =>
                  have K : i < m ∧ m < e := of_decide_eq_true HQ.out.symm
                  have F := FF.out
                  have hc := rotate_run k aE zE enc g cb blk off cap i m e d0 d w0 _ R (HS.out.symm) S2.out K.1 K.2 (by omega) (by have := HS.out; have := HSZ.out; omega)
                  rw [rot_fuel m (e - i) (b - a) (m - i) (e - m) d (by omega) (by omega) (by omega) (by omega)] at hc
                  have e1 := HE1.out
                  rw [if_pos K] at e1
                  rw [← e1] at hc
                  have HCC := Lib.hid hc
                  clear hc e1 F K S2
                  go_wp2_with (first | (go_at_call 139; refine HCC.out.mono ?_; rintro e w1 ⟨rfl, S3⟩))
                  have S4 : Aside (SWK enc k w0 blk off d1 w1) := S3
                  clear S3
                  go_meet
                  exact S4
                | false =>
                  have K : ¬ (i < m ∧ m < e) := of_decide_eq_false HQ.out.symm
                  have e1 := HE1.out
                  rw [if_neg K] at e1
                  rw [← e1] at S2
                  have S4 : Aside (SWK enc k w0 blk off d1 _) := S2
                  clear e1 S2 K
                  go_wp2_with fail
                  go_meet
                  exact S4
              case rest =>
                have S5 : Aside _ := hcut
                clear hcut S2 HQ q
                go_upto_region 41 with (fail)
                obtain ⟨q, hq⟩ : ∃ q : Bool, q = decide (a < i ∧ i < mid) := ⟨_, rfl⟩
                have HQ := Lib.hid hq
                clear hq
                go_cut [199] (fun v wc => v = .bool q ∧ Aside (SWK enc k w0 blk off d1 wc))
                case first =>
                  have F := FF.out
                  by_cases g1 : a < i
                  · have g1z : (a : Int) < (i : Int) := by omega
                    by_cases g2 : i < mid
                    · have g2z : (i : Int) < (mid : Int) := by omega
                      have hq : q = true := by rw [HQ.out]; exact decide_eq_true ⟨g1, g2⟩
                      clear F
                      subst hq
                      go_wp2_with fail
                      go_meet
                      exact ⟨rfl, S5⟩
                    · have g2z : ¬ (i : Int) < (mid : Int) := by omega
                      have hq : q = false := by rw [HQ.out]; exact decide_eq_false (fun h => g2 h.2)
                      clear F
                      subst hq
                      go_wp2_with fail
                      go_meet
                      exact ⟨rfl, S5⟩
                  · have g1z : ¬ (a : Int) < (i : Int) := by omega
                    have hq : q = false := by rw [HQ.out]; exact decide_eq_false (fun h => g1 h.1)
                    clear F
                    subst hq
                    go_wp2_with fail
                    go_meet
                    exact ⟨rfl, S5⟩
                case rest =>
                  as_aux_lemma =>
                  obtain ⟨rfl, S2⟩ := hcut
                  clear S5
                  go_upto_if 199 with (fail)
                  go_cut [] (fun wc => Aside (SWK enc k w0 blk off d2 wc))
                  case first =>
                    cases q with
                    | true =>
                      have K : a < i ∧ i < mid := of_decide_eq_true HQ.out.symm
                      have F := FF.out
                      have z1 := HS1.out
                      have hc := IH.out a i mid d1 _ K.1 K.2 (by omega) (by omega) (by rw [z1]; exact HS.out) S2.out
                      rw [z1] at hc
                      have e1 := HE2.out
                      rw [if_pos K] at e1
                      rw [← e1] at hc
                      have HCC := Lib.hid hc
                      clear hc e1 F K S2 z1
                      go_wp2_with (first | (go_at_call 129; refine HCC.out.mono ?_; rintro e w1 ⟨rfl, S3⟩))
                      have S4 : Aside (SWK enc k w0 blk off d2 w1) := S3
                      clear S3
                      go_meet
                      exact S4
                    | false =>
                      have K : ¬ (a < i ∧ i < mid) := of_decide_eq_false HQ.out.symm
                      have e1 := HE2.out
                      rw [if_neg K] at e1
                      rw [← e1] at S2
                      have S4 : Aside (SWK enc k w0 blk off d2 _) := S2
                      clear e1 S2 K
                      go_wp2_with fail
                      go_meet
                      exact S4
                  case rest =>
                    have S6 : Aside _ := hcut
                    clear hcut S2 HQ q
                    go_upto_region 43 with (fail)
                    obtain ⟨q, hq⟩ : ∃ q : Bool, q = decide (mid < e ∧ e < b) := ⟨_, rfl⟩
                    have HQ := Lib.hid hq
                    clear hq
                    go_cut [213] (fun v wc => v = .bool q ∧ Aside (SWK enc k w0 blk off d2 wc))
                    case first =>
                      have F := FF.out
                      by_cases g1 : mid < e
                      · have g1z : (mid : Int) < (e : Int) := by omega
                        by_cases g2 : e < b
                        · have g2z : (e : Int) < (b : Int) := by omega
                          have hq : q = true := by rw [HQ.out]; exact decide_eq_true ⟨g1, g2⟩
                          clear F
                          subst hq
                          go_wp2_with fail
                          go_meet
                          exact ⟨rfl, S6⟩
                        · have g2z : ¬ (e : Int) < (b : Int) := by omega
                          have hq : q = false := by rw [HQ.out]; exact decide_eq_false (fun h => g2 h.2)
                          clear F
                          subst hq
                          go_wp2_with fail
                          go_meet
                          exact ⟨rfl, S6⟩
                      · have g1z : ¬ (mid : Int) < (e : Int) := by omega
                        have hq : q = false := by rw [HQ.out]; exact decide_eq_false (fun h => g1 h.1)
                        clear F
                        subst hq
                        go_wp2_with fail
                        go_meet
                        exact ⟨rfl, S6⟩
                    case rest =>
                      as_aux_lemma =>
                      obtain ⟨rfl, S2⟩ := hcut
                      clear S6
                      cases q with
                      | true =>
                        have K : mid < e ∧ e < b := of_decide_eq_true HQ.out.symm
                        have F := FF.out
                        have z1 := HS2.out
                        have hc := IH.out mid e b d2 _ K.1 K.2 (by omega) (by omega) (by rw [z1]; exact HS.out) S2.out
                        rw [z1] at hc
                        have e1 := HE3.out
                        rw [if_pos K] at e1
                        rw [← e1] at hc
                        have HCC := Lib.hid hc
                        clear hc e1 F K S2 z1
                        go_wp2_with (first | (go_at_call 129; refine HCC.out.mono ?_; rintro e w1 ⟨rfl, S3⟩))
                        have S4 : Aside (SWK enc k w0 blk off d3 w1) := S3
                        clear S3
                        go_end0
                        refine ⟨rfl, ?_⟩
                        rw [HD.out]
                        exact S4.out
                      | false =>
                        have K : ¬ (mid < e ∧ e < b) := of_decide_eq_false HQ.out.symm
                        have e1 := HE3.out
                        rw [if_neg K] at e1
                        rw [← e1] at S2
                        have S4 : Aside (SWK enc k w0 blk off d3 _) := S2
                        clear e1 S2 K
                        go_wp2_with fail
                        go_end0
                        refine ⟨rfl, ?_⟩
                        rw [HD.out]
                        exact S4.out
variable {α : Type} [Inhabited α]
theorem symMerge_run (k : Nat) (aE : ∀ w, (isAgg 101).run Tryd.prog w = .ok true w) (zE : ∀ w, (Go.sizeOf 101).run Tryd.prog w = .ok k w) (enc : α → List Value) (cf : α → α → Int) (g : Nat) (cb : Array Value) (blk off cap : Nat) (d0 : Array α) (w0 : World)
    (eg : ∀ args w, (callFunc g args).run Tryd.prog w = .ok (.enter g args) w) (hcmp : CmpLays Tryd.prog g cb enc k cf blk off d0.size w0) (R : RowK enc k w0 blk off d0) (hsz : d0.size < 1152921504606846976) :
    ∀ (f a m b : Nat) (d : Array α) (w : World), a < m → m < b → b ≤ d.size → b - a ≤ f → d.size = d0.size → SWK enc k w0 blk off d w →
    Calls Tryd.prog 129 #[.slice (some ⟨blk, off, none⟩) d.size cap, .int .i64 a, .int .i64 m, .int .i64 b, .func (.func g) #[] cb] w fun e w' => e = .returned (.tuple #[]) ∧ SWK enc k w0 blk off (symM (ltOf cf) f a m b d) w' := by
  intro f
  induction f with
  | zero => intro a m b d w h1 h2 h3 h4; omega
  | succ f ih =>
    intro a m b d w h1 h2 h3 h4 hs S
    by_cases c1 : m - a = 1
    · exact symMerge_A k aE zE enc cf g cb blk off cap d0 w0 eg hcmp R hsz f ih a m b d w h1 h2 h3 h4 hs S c1
    · by_cases c2 : b - m = 1
      · exact symMerge_B k aE zE enc cf g cb blk off cap d0 w0 eg hcmp R hsz f ih a m b d w h1 h2 h3 h4 hs S c1 c2
      · exact symMerge_C k aE zE enc cf g cb blk off cap d0 w0 eg hcmp R hsz f ih a m b d w h1 h2 h3 h4 hs S c1 c2
variable {cl : α → α → Bool}
theorem ins_size (lt : α → α → Bool) (a b : Nat) (d : Array α) (hb : b ≤ d.size) : (insertionSort lt d a b).size = d.size := by
  have inn : ∀ (j : Nat) (d : Array α), (insInner lt a j d).size = d.size := by
    intro j
    induction j with
    | zero => intro d; rw [insInner]
    | succ j ih =>
      intro d
      rw [insInner]
      split
      · rw [ih, size_swp]
      · rfl
  have out : ∀ (n i : Nat) (d : Array α), b - i ≤ n → (insOuter lt a b i d).size = d.size := by
    intro n
    induction n with
    | zero => intro i d h; rw [io_stop _ _ _ _ _ (by omega)]
    | succ n ih =>
      intro i d h
      by_cases c : i < b
      · rw [io_go _ _ _ _ _ c, ih _ _ (by omega), inn]
      · rw [io_stop _ _ _ _ _ c]
  exact out _ _ _ (Nat.le_refl _)
theorem blocks_go (n f a : Nat) (d : Array α) (h : a + 20 ≤ n) : blocks cl n (f + 1) a d = blocks cl n f (a + 20) (insertionSort cl d a (a + 20)) := by rw [blocks, if_pos h]
theorem blocks_end (n f a : Nat) (d : Array α) (h : ¬ a + 20 ≤ n) : blocks cl n (f + 1) a d = insertionSort cl d a n := by rw [blocks, if_neg h]
theorem passM_go (n bs f a : Nat) (d : Array α) (h : a + 2 * bs ≤ n) : passM cl n bs (f + 1) a d = passM cl n bs f (a + 2 * bs) (symM cl (2 * bs) a (a + bs) (a + 2 * bs) d) := by rw [passM, if_pos h]
theorem passM_last (n bs f a : Nat) (d : Array α) (h : ¬ a + 2 * bs ≤ n) (h2 : a + bs < n) : passM cl n bs (f + 1) a d = symM cl (n - a) a (a + bs) n d := by rw [passM, if_neg h, if_pos h2]
theorem passM_end (n bs f a : Nat) (d : Array α) (h : ¬ a + 2 * bs ≤ n) (h2 : ¬ a + bs < n) : passM cl n bs (f + 1) a d = d := by rw [passM, if_neg h, if_neg h2]
theorem merges_go (n f bs : Nat) (d : Array α) (h : bs < n) : merges cl n (f + 1) bs d = merges cl n f (2 * bs) (passM cl n bs (n + 1) 0 d) := by rw [merges, if_pos h]
theorem merges_end (n f bs : Nat) (d : Array α) (h : ¬ bs < n) : merges cl n (f + 1) bs d = d := by rw [merges, if_neg h]
set_option maxHeartbeats 16000000 in
set_option maxRecDepth 1000000 in
theorem stableCmp_run (k : Nat) (aE : ∀ w, (isAgg 101).run Tryd.prog w = .ok true w) (zE : ∀ w, (Go.sizeOf 101).run Tryd.prog w = .ok k w) (enc : α → List Value) (cf : α → α → Int) (g : Nat) (cb : Array Value) (blk off cap : Nat) (d0 : Array α) (w0 : World)
    (eg : ∀ args w, (callFunc g args).run Tryd.prog w = .ok (.enter g args) w) (hcmp : CmpLays Tryd.prog g cb enc k cf blk off d0.size w0) (R : RowK enc k w0 blk off d0) (hsz : d0.size < 115292150460684697)
    (n : Nat) (d : Array α) (w : World) (hs : d.size = n) (h0 : d0.size = n) (S : SWK enc k w0 blk off d w) :
    Calls Tryd.prog 117 #[.slice (some ⟨blk, off, none⟩) n cap, .int .i64 n, .func (.func g) #[] cb] w fun e w' => e = .returned (.tuple #[]) ∧ SWK enc k w0 blk off (stable (ltOf cf) n d) w' := by
  have HI : Hid (∀ (a b : Nat) (d : Array α) (w : World), a ≤ b → b ≤ n → d.size = n → SWK enc k w0 blk off d w →
    Calls Tryd.prog 128 #[.slice (some ⟨blk, off, none⟩) n cap, .int .i64 a, .int .i64 b, .func (.func g) #[] cb] w fun e w' => e = .returned (.tuple #[]) ∧ SWK enc k w0 blk off (insertionSort (ltOf cf) d a b) w') := by
    show ∀ _, _
    intro a b d w g1 g2 g3 g4
    have := insertion_run k aE zE enc cf g cb blk off cap d0 w0 eg hcmp R (by omega) a b d w g1 (by omega) (by omega) g4
    rw [g3] at this
    exact this
  have HM : Hid (∀ (f a m b : Nat) (d : Array α) (w : World), a < m → m < b → b ≤ n → b - a ≤ f → d.size = n → SWK enc k w0 blk off d w →
    Calls Tryd.prog 129 #[.slice (some ⟨blk, off, none⟩) n cap, .int .i64 a, .int .i64 m, .int .i64 b, .func (.func g) #[] cb] w fun e w' => e = .returned (.tuple #[]) ∧ SWK enc k w0 blk off (symM (ltOf cf) f a m b d) w') := by
    show ∀ _, _
    intro f a m b d w g1 g2 g3 g4 g5 g6
    have := symMerge_run k aE zE enc cf g cb blk off cap d0 w0 eg hcmp R (by omega) f a m b d w g1 g2 (by omega) g4 (by omega) g6
    rw [g5] at this
    exact this
  have S0 : Aside (SWK enc k w0 blk off d w) := S
  have hn : n < 115292150460684697 := by omega
  have HDS := Lib.hid hs
  clear S hcmp hs h0 hsz R eg aE zE
  go_enter Tryd.func117, Tryd.ntmps117
  go_wp2
  go_loopg [7, 8] n (fun kx s7 s8 wr => ∃ (a f : Nat) (dk : Array α), s7 = .int .i64 a ∧ s8 = .int .i64 (a + 20 : Nat) ∧ a ≤ n ∧ n - a ≤ kx ∧ n - a < f ∧ dk.size = n ∧ Aside (SWK enc k w0 blk off dk wr) ∧ Hid (blocks (ltOf cf) n f a dk = blocks (ltOf cf) n (n + 1) 0 d))
  case atStart => exact ⟨0, n + 1, d, rfl, rfl, Nat.zero_le _, by omega, by omega, HDS.out, S0, rfl⟩
  case round =>
    clear S0
    obtain ⟨a, f, dk, rfl, rfl, han, hkx, hf, hds, S1, heq⟩ := hrel
    obtain ⟨f, rfl⟩ : ∃ f', f = f' + 1 := ⟨f - 1, by omega⟩
    by_cases hlt : a + 20 ≤ n
    · have hltz : (a : Int) + 20 ≤ (n : Int) := by omega
      have hc := HI.out a (a + 20) dk wr (by omega) hlt hds S1.out
      rw [show ((a + 20 : Nat) : Int) = (a : Int) + 20 by omega] at hc
      have HCC := Lib.hid hc
      clear hc S1
      go_wp2_with (first | (go_at_call 128; refine HCC.out.mono ?_; rintro e w1 ⟨rfl, S3⟩))
      have S4 : Aside (SWK enc k w0 blk off (insertionSort (ltOf cf) dk a (a + 20)) w1) := S3
      clear S3
      go_roundg (n - (a + 20))
      case measure => omega
      case rel => exact ⟨a + 20, f, _, by first | rfl | simp, by first | rfl | (congr 1; done) | (congr 1; omega), hlt, Nat.le_refl _, by omega, by rw [ins_size _ _ _ _ (by omega)]; exact hds, S4, by show _ = _; rw [← heq.out, blocks_go _ _ _ _ hlt]⟩
    · have hltz : ¬ (a : Int) + 20 ≤ (n : Int) := by omega
      have hc := HI.out a n dk wr han (Nat.le_refl _) hds S1.out
      have HCC := Lib.hid hc
      obtain ⟨d1, hd1⟩ : ∃ d1, d1 = blocks (ltOf cf) n (n + 1) 0 d := ⟨_, rfl⟩
      have e1 : insertionSort (ltOf cf) dk a n = d1 := by rw [hd1, ← heq.out, blocks_end _ _ _ _ hlt]
      have s1 : d1.size = n := by rw [← e1, ins_size _ _ _ _ (by omega)]; exact hds
      have HD1 := Lib.hid hd1
      have HE1 := Lib.hid e1
      have HS1 := Lib.hid s1
      clear hc S1 hd1 e1 s1 heq hds
      go_wp2_with (first | (go_at_call 128; refine HCC.out.mono ?_; rintro e w1 ⟨rfl, S3⟩))
      have S4 : Aside (SWK enc k w0 blk off d1 w1) := by rw [← HE1.out]; exact S3
      clear S3 HCC HE1
      -- the merges
      go_loopg [6, 7, 8, 9] n (fun kx s6 s7 s8 s9 wr => ∃ (bs f : Nat) (dk : Array α), s6 = .int .i64 bs ∧ 20 ≤ bs ∧ (bs < n → n - bs ≤ kx) ∧ n - bs < f ∧ bs ≤ 2 * n + 20 ∧ dk.size = n ∧ Aside (SWK enc k w0 blk off dk wr) ∧ Hid (merges (ltOf cf) n f bs dk = merges (ltOf cf) n (n + 1) 20 d1))
      case atStart => exact ⟨20, n + 1, d1, rfl, by omega, by omega, by omega, by omega, HS1.out, S4, rfl⟩
      case round =>
        clear S4 hltz hlt
        obtain ⟨bs, f, dk, rfl, hbs, hkx, hf, hb2, hds, S1, heq⟩ := hrel
        obtain ⟨f, rfl⟩ : ∃ f', f = f' + 1 := ⟨f - 1, by omega⟩
        by_cases hlt : bs < n
        · have hltz : (bs : Int) < (n : Int) := by omega
          go_wp2
          obtain ⟨dp, hdp⟩ : ∃ dp, dp = passM (ltOf cf) n bs (n + 1) 0 dk := ⟨_, rfl⟩
          have HDP := Lib.hid hdp
          clear hdp
          go_loopg [7, 8] n (fun kx s7 s8 wr => ∃ (a f : Nat) (dj : Array α), s7 = .int .i64 a ∧ s8 = .int .i64 (a + 2 * bs : Nat) ∧ a ≤ n ∧ n - a ≤ kx ∧ n - a < f ∧ dj.size = n ∧ Aside (SWK enc k w0 blk off dj wr) ∧ Hid (passM (ltOf cf) n bs f a dj = dp))
          case atStart => exact ⟨0, n + 1, dk, rfl, by first | rfl | (congr 1; done) | (congr 1; omega), Nat.zero_le _, by omega, by omega, hds, S1, HDP.out.symm⟩
          case round =>
            clear S1 hds
            obtain ⟨a, g2, dj, rfl, rfl, han, hkx2, hg, hsj, S1, heq2⟩ := hrel
            obtain ⟨g2, rfl⟩ : ∃ f', g2 = f' + 1 := ⟨g2 - 1, by omega⟩
            by_cases hl : a + 2 * bs ≤ n
            · have hlz : (a : Int) + 2 * (bs : Int) ≤ (n : Int) := by omega
              have hc := HM.out (2 * bs) a (a + bs) (a + 2 * bs) dj wr (by omega) (by omega) hl (by omega) hsj S1.out
              rw [show ((a + 2 * bs : Nat) : Int) = (a : Int) + 2 * (bs : Int) by omega, show ((a + bs : Nat) : Int) = (a : Int) + (bs : Int) by omega] at hc
              have HCC := Lib.hid hc
              clear hc S1
              go_wp2_with (first | (go_at_call 129; refine HCC.out.mono ?_; rintro e w1 ⟨rfl, S3⟩))
              have S4 : Aside (SWK enc k w0 blk off (symM (ltOf cf) (2 * bs) a (a + bs) (a + 2 * bs) dj) w1) := S3
              clear S3
              go_roundg (n - (a + 2 * bs))
              case measure => omega
              case rel => exact ⟨a + 2 * bs, g2, _, by (congr 1), by first | rfl | (congr 1; done) | (congr 1; omega), hl, Nat.le_refl _, by omega, by rw [symM_size]; exact hsj, S4, by show _ = _; rw [← heq2.out, passM_go _ _ _ _ _ hl]⟩
            · have hlz : ¬ (a : Int) + 2 * (bs : Int) ≤ (n : Int) := by omega
              by_cases hm : a + bs < n
              · have hmz : (a : Int) + (bs : Int) < (n : Int) := by omega
                have hc := HM.out (n - a) a (a + bs) n dj wr (by omega) hm (Nat.le_refl _) (by omega) hsj S1.out
                rw [show ((a + bs : Nat) : Int) = (a : Int) + (bs : Int) by omega] at hc
                have HCC := Lib.hid hc
                clear hc S1
                go_wp2_with (first | (go_at_call 129; refine HCC.out.mono ?_; rintro e w1 ⟨rfl, S3⟩))
                have S4 : Aside (SWK enc k w0 blk off dp w1) := by rw [← heq2.out, passM_last _ _ _ _ _ hl hm]; exact S3
                have s4 : dp.size = n := by rw [← heq2.out, passM_last _ _ _ _ _ hl hm, symM_size]; exact hsj
                clear S3
                go_roundg (n - 2 * bs)
                case measure => omega
                case rel => exact ⟨2 * bs, f, dp, by first | rfl | (congr 1; done) | (congr 1; omega), by omega, fun _ => Nat.le_refl _, by omega, by omega, s4, S4, by show _ = _; rw [← heq.out, merges_go _ _ _ _ hlt, HDP.out]⟩
              · have hmz : ¬ (a : Int) + (bs : Int) < (n : Int) := by omega
                go_wp2
                have S4 : Aside (SWK enc k w0 blk off dp wr) := by rw [← heq2.out, passM_end _ _ _ _ _ hl hm]; exact S1
                have s4 : dp.size = n := by rw [← heq2.out, passM_end _ _ _ _ _ hl hm]; exact hsj
                go_roundg (n - 2 * bs)
                case measure => omega
                case rel => exact ⟨2 * bs, f, dp, by first | rfl | (congr 1; done) | (congr 1; omega), by omega, fun _ => Nat.le_refl _, by omega, by omega, s4, S4, by show _ = _; rw [← heq.out, merges_go _ _ _ _ hlt, HDP.out]⟩
        · have hltz : ¬ (bs : Int) < (n : Int) := by omega
          go_wp2
          go_end0
          refine ⟨rfl, ?_⟩
          unfold stable
          rw [← HD1.out, ← heq.out, merges_end _ _ _ _ hlt]
          exact S1.out
set_option maxHeartbeats 4000000 in
set_option maxRecDepth 100000 in
theorem sortStable_run (k : Nat) (aE : ∀ w, (isAgg 101).run Tryd.prog w = .ok true w) (zE : ∀ w, (Go.sizeOf 101).run Tryd.prog w = .ok k w) (enc : α → List Value) (cf : α → α → Int) (g : Nat) (cb : Array Value) (blk off cap : Nat) (d : Array α) (w : World)
    (eg : ∀ args w, (callFunc g args).run Tryd.prog w = .ok (.enter g args) w) (n : Nat) (hn : d.size = n) (hcmp : CmpLays Tryd.prog g cb enc k cf blk off d.size w) (R : RowK enc k w blk off d) (hsz : d.size < 115292150460684697) (hH : HoldsK enc k w blk off d) :
    Calls Tryd.prog 94 #[.slice (some ⟨blk, off, none⟩) n cap, .func (.func g) #[] cb] w fun e w' => e = .returned (.tuple #[]) ∧ SWK enc k w blk off (stable (ltOf cf) n d) w' := by
  have hc := stableCmp_run k aE zE enc cf g cb blk off cap d w eg hcmp R hsz n d w hn hn (SWK.start hH)
  have HC := Lib.hid hc
  clear hc hcmp R hsz hH hn eg
  go_enter Tryd.func94, Tryd.ntmps94
  go_wp2_with (first | (go_at_call 117; refine HC.out.mono ?_; rintro e w1 ⟨rfl, S3⟩))
  go_end0
  exact ⟨rfl, S3⟩
end Go.Proofs.Num.St

namespace Go.Proofs.Num
open Go.Sort Go.Shelf Go.Lib Go.RowKit Go.Proofs.YtdjnneflpkllmaaDoorW.PrintWords Go.Proofs.YtdjnneflpkllmaaDoorW.PrintLast Go.Proofs.YtdjnneflpkllmaaDoorW.PrintMore Go.Proofs.YtdjnneflpkllmaaDoor.Q
set_option linter.unusedVariables false
set_option linter.unusedSimpArgs false
theorem aE101 (w : World) : (isAgg 101).run Tryd.prog w = .ok true w := by kernel_rfl
theorem zE101 (w : World) : (Go.sizeOf 101).run Tryd.prog w = .ok 2 w := by kernel_rfl
theorem cmp_int_run (a b : Int) (W : World) : Calls Tryd.prog 96 #[.int .i64 a, .int .i64 b] W fun e w' => e = .returned (.int .i64 (if a < b then -1 else if b < a then 1 else 0)) ∧ W = w' := by
  go_enter Tryd.func96, Tryd.ntmps96
  by_cases h1 : a < b
  · go_wp2
    go_ret
    exact ⟨rfl, rfl⟩
  · by_cases h2 : b < a
    · go_wp2
      go_ret
      exact ⟨rfl, rfl⟩
    · go_wp2
      go_ret
      exact ⟨rfl, rfl⟩
theorem closure95 (x y : Int × Int) (W : World) : Calls Tryd.prog 95 #[.agg #[.int .i64 x.1, .int .i64 x.2], .agg #[.int .i64 y.1, .int .i64 y.2]] W fun e w' => e = .returned (.int .i64 (cmpR x y)) ∧ ∃ q os', w' = grow (W.drewN q) os' := by
  have hcon : ∀ W', Calls Tryd.prog 96 #[.int .i64 y.2, .int .i64 x.2] W' fun e w' => e = .returned (.int .i64 (cmpR x y)) ∧ W' = w' := fun W' => cmp_int_run y.2 x.2 W'
  generalize cmpR x y = r at hcon ⊢
  go_enter Tryd.func95, Tryd.ntmps95
  go_wp2_with (go_at_call 96; refine (hcon _).mono ?_; rintro e w' ⟨rfl, rfl⟩)
  go_ret
  exact ⟨rfl, 0, _, by rw [alloc_eq_grow, alloc_eq_grow, grow_grow]; rfl⟩
theorem cmpLays95 (blk off size : Nat) (w : World) : CmpLays Tryd.prog 95 #[] encR 2 cmpR blk off size w := fun _ _ _ _ x y => closure95 x y _
theorem enters95 : ∀ args w, (callFunc 95 args).run Tryd.prog w = .ok (.enter 95 args) w := enters_of Tryd.func95 (by kernel_rfl) rfl
theorem Rst.of_eq {W W' : World} {g : Nat} {l : List (Int × Int)} (h : Rst W g l) (e : W'.heap[g]? = W.heap[g]?) : Rst W' g l := by
  obtain ⟨cs, ty, hh, r⟩ := h
  exact ⟨cs, ty, e.trans hh, r⟩
theorem list_get! {s : Array (Int × Int)} {i : Nat} {x : Int × Int} (h : s.toList[i]? = some x) : i < s.size ∧ x = s[i]! := by
  have hi : i < s.toList.length := by
    rcases Nat.lt_or_ge i s.toList.length with g | g
    · exact g
    · rw [List.getElem?_eq_none g] at h; cases h
  rw [List.getElem?_eq_getElem hi] at h
  injection h with h
  have hi' : i < s.size := by simpa using hi
  refine ⟨hi', ?_⟩
  rw [← h, getElem!_pos s i hi']
  simp
theorem rst_holds {w : World} {g : Nat} {d : Array (Int × Int)} (h : Rst w g d.toList) : HoldsK encR 2 w g 0 d := by
  intro j hj
  rw [size_flatK] at hj
  have hi : j / 2 < d.size := by omega
  obtain ⟨cs, ty, hh, hn, hc⟩ := h
  have hx : d.toList[j / 2]? = some d[j / 2]! := by
    rw [List.getElem?_eq_getElem (by simpa using hi), getElem!_pos d _ hi]
    simp
  obtain ⟨h1, h2⟩ := hc _ _ hx
  rw [get_flatK _ _ _ _ hj]
  refine ⟨?_, by simp [World.frozen?, hh]⟩
  rcases Nat.mod_two_eq_zero_or_one j with e | e
  · rw [e, show 0 + j = j / 2 * 2 by omega]
    simp only [World.cell?, hh]
    exact h1
  · rw [e, show 0 + j = j / 2 * 2 + 1 by omega]
    simp only [World.cell?, hh]
    exact h2
theorem swk_out {w W : World} {g : Nat} {d s : Array (Int × Int)} (hR : Rst w g d.toList) (hs : s.size = d.size) (h : SWK encR 2 w g 0 s W) : w.grownBy W (some g) ∧ Rst W g s.toList := by
  have hg := hR.lt
  have hH := rst_holds hR
  obtain ⟨cur, ty, hh, hn, -⟩ := hR
  obtain ⟨n, os, rfl⟩ := h
  have hH2 := holdsK_sortWorldK_c encR 2 w g 0 d s n os hH hg hs
  have z : (putRowK encR 2 (Sort.ahead w n) g 0 s).heap.size = w.heap.size := size_putRow _ _ _ _ _
  have blk : ∀ k, k < w.heap.size → (sortWorldK encR 2 w g 0 n s os).heap[k]? = (putRowK encR 2 (Sort.ahead w n) g 0 s).heap[k]? := fun k hk => heap_grow_old _ os (by rw [z]; exact hk)
  refine ⟨⟨rfl, rfl, rfl, size_sortWorldK_c encR 2 w g 0 n s os, fun k hk hne => ?_⟩, ?_⟩
  · rw [blk k hk]
    show ((w.heap).modify g _)[k]? = _
    rw [Array.getElem?_modify, if_neg (fun e => hne (by rw [e]))]
  · have e : (sortWorldK encR 2 w g 0 n s os).heap[g]? = some (.cells (putCells id 0 (flatK encR 2 s) cur) ty (0, 0)) := by
      rw [blk g hg]
      show ((w.heap).modify g _)[g]? = _
      rw [Array.getElem?_modify, if_pos rfl, hh]
      rfl
    generalize putCells id 0 (flatK encR 2 s) cur = cs at e
    have cell : ∀ i, i < s.size → cs[i * 2]? = some (.int .i64 s[i]!.1) ∧ cs[i * 2 + 1]? = some (.int .i64 s[i]!.2) := fun i hi => by
      have h0 := (HoldsK.cell hH2 (c := 0) hi (by omega)).1
      have h1 := (HoldsK.cell hH2 (c := 1) hi (by omega)).1
      simp only [World.cell?, e, Nat.zero_add, Nat.add_zero] at h0 h1
      exact ⟨h0, h1⟩
    refine ⟨cs, ty, e, ?_, fun i x hx => ?_⟩
    · rcases Nat.eq_zero_or_pos s.size with q | q
      · simp [q]
      · have := (cell (s.size - 1) (by omega)).2
        have hlt := (Array.getElem?_eq_some_iff.1 this).1
        simp
        omega
    · obtain ⟨hi, rfl⟩ := list_get! hx
      exact cell i hi
end Go.Proofs.Num

namespace Go.Proofs.Num
open Go.Sort Go.Shelf Go.Lib Go.RowKit Go.Proofs.YtdjnneflpkllmaaDoorW.PrintWords Go.Proofs.YtdjnneflpkllmaaDoorW.PrintLast Go.Proofs.YtdjnneflpkllmaaDoorW.PrintMore Go.Proofs.YtdjnneflpkllmaaDoor.Q
set_option linter.unusedVariables false
set_option linter.unusedSimpArgs false
def restC (r : Nat → Int) (i : Nat) : List Value := ((List.range i).map fun j : Nat => ((j : Int), r j)).flatMap fun x => [.int .i64 x.1, .int .i64 x.2]
theorem restC_succ (r : Nat → Int) (i : Nat) : restC r (i + 1) = restC r i ++ [.int .i64 (i : Int), .int .i64 (r i)] := by
 unfold restC
 rw [List.range_succ, List.map_append, List.flatMap_append]
 rfl
def preQ (N S : Int) (l : List Int) (i : Nat) : List Int := tab l.length (fun j => if j < i then shQ N S (at_ l) j else 0)
theorem preQ_set (N S : Int) (l : List Int) (i : Nat) : (preQ N S l i).set i (shQ N S (at_ l) i) = preQ N S l (i + 1) := by
 unfold preQ
 rw [tab_set]
 refine tab_congr fun j hj => ?_
 by_cases c : j = i
 ·subst c; rw [if_pos rfl, if_pos (by omega)]
 ·rw [if_neg c]
  by_cases d : j < i
  ·rw [if_pos d, if_pos (by omega)]
  ·rw [if_neg d, if_neg (by omega)]
theorem preQ_zero (N S : Int) (l : List Int) : preQ N S l 0 = List.replicate l.length (0 : Int) := by
 rw [tab_replicate]
 exact tab_congr fun j hj => by rw [if_neg (by omega)]
theorem preQ_all (N S : Int) (l : List Int) : preQ N S l l.length = tab l.length (appF N S l 0) := by
 refine tab_congr fun j hj => ?_
 rw [if_pos hj]
 unfold appF
 rw [if_neg (by omega)]
 omega
theorem own_put {W : World} {base e n gp i : Nat} {v : Value} {xs : List Value} {cells : Array Value} {t : TypeId} (h : W.ownsRow base e 2 v n xs) (hp : W.heap[gp]? = some (.cells cells t (0, 0))) (ht : e ≠ t) (u : Value) : (W.setCell ⟨gp, i, none⟩ u).ownsRow base e 2 v n xs := by
 refine own_move h fun k hk => ?_
 obtain ⟨c, hc⟩ := own_typed h k hk
 refine Below.heap_setCell W ⟨gp, i, none⟩ u k (fun e1 => ?_)
 have e2 : k = gp := e1
 rw [e2, hp] at hc
 injection hc with hc
 injection hc with _ hc
 exact ht hc.symm
set_option maxHeartbeats 16000000 in
set_option maxRecDepth 1000000 in
theorem apportion_main (N S : Int) (l : List Int) (A1 : Option Addr) (c1 : Nat) (w : World) (hS : Sh N S l) (hw : (weigh N l) = (S, 0)) (hr1 : Kd.C (Kd.int .i64) w A1 l.length l) (hc1 : l.length ≤ c1) :
  Calls Tryd.prog 47 #[.int .i64 N, .slice A1 l.length c1] w fun e w' => ∃ v0_ : Value, e = .returned (.tuple #[v0_, .int .i64 0]) ∧ Kd.R (Kd.int .i64) 3 w' w.heap.size (fun _ => True) v0_ (tab l.length (appF N S l (leftN N S l))) ∧ Below w.heap.size w w' := by
 have HR1 := Aside0.mk hr1
 have HC1 := Aside0.mk hc1
 have HSh := Aside0.mk hS
 obtain ⟨kw, hkw⟩ := (weighed_ok N l).rounds
 rw [hw] at hkw
 have HW := Aside0.mk hkw
 obtain ⟨n, hn⟩ : ∃ n, n = l.length := ⟨_, rfl⟩
 have hn0 : 0 < l.length := by have := hS.left.2; omega
 have hfew := hS.few
 have HB := Aside0.mk (Below.refl w.heap.size w)
 have s0b : (S == 0) = false := beq_eq_false_iff_ne.mpr (by have := hS.s0; omega)
 obtain ⟨i0, hi, hz0, hz1, hz2⟩ := info_parts info101
 have HI : Aside0 (Tryd.prog.info? 101 = some i0 ∧ i0.zero = some (.agg #[.int .i64 0, .int .i64 0]) ∧ i0.size = 2 ∧ i0.bytes = 16) := ⟨hi, hz0, hz1, hz2⟩
 clear hr1 hc1 hS hw hkw hi hz0 hz1 hz2 hn n
 have p0 : (0 : Int) ≤ (l.length : Int) := by omega
 have p1 : ((l.length : Int)).toNat ≤ 35184372088832 := by omega
 have P0 := Aside0.mk p0
 have P1 := Aside0.mk p1
 clear p0 p1
 go_enter Tryd.func47, Tryd.ntmps47
 go_wp2_with (first
  | (go_at_call 92; refine (num_weighed.calls kw N A1 c1 l S 0 _ HR1.out HC1.out HW.out).mono ?_; rintro e w' ⟨rfl, ⟨nd, rfl⟩⟩)
  | ((with_reducible refine gate_dst (N := 28) rfl ?_); refine Kd.R_make (Kd.int .i64) _ 3 rfl (N := 28) rfl 29 _ _ rfl (l.length : Int) rfl rfl Tryd.underlying29 (.int .i64 0) 8 info3 rfl (by decide) (by omega) 0 (ok := fun _ => True) (okp := fun _ => True) rfl (fun _ hk => hk) trivial P0.out (Nat.le_trans (Nat.mul_le_mul_right _ P1.out) (by omega)) (Below.refl _ _) (Nat.le_refl _) ?_; intro v8 w8 ho9 hb hg_ hnew_))
 clear hg_ hnew_
 have ho8 : Kd.R (Kd.int .i64) 3 w8 w.heap.size (fun _ => True) v8 (List.replicate l.length (0 : Int)) := by
  rw [Int.toNat_natCast] at ho9
  exact Kd.R_lower ho9 (below_size (pw_below_drewN HB.out _))
 have hB8 : Below w.heap.size w w8 := below_step (pw_below_drewN HB.out _) hb
 clear ho9 hb HB
 rw [← preQ_zero N S l] at ho8
 obtain ⟨gp, cp, hv8, hgb, hgl, hgc⟩ := Kd.R_form ho8 (by rw [show (preQ N S l 0).length = l.length from tab_length _ _]; exact hn0)
 rw [show (preQ N S l 0).length = l.length from tab_length _ _] at hv8
 subst hv8
 clear hgl hgc
 have HG := Aside0.mk hgb
 clear hgb P0 P1
 have HO0 := Aside0.mk ho8
 have HB0 := Aside0.mk hB8
 clear ho8 hB8
 go_loopg [9, 10, 35] l.length (fun kx v9 v10 v35 wr => ∃ (i : Nat), v35 = .int .i64 i ∧ v10 = .int .i64 (N - sumTo (shQ N S (at_ l)) i) ∧ i ≤ l.length ∧ l.length - i ≤ kx ∧ Aside0 (Kd.R (Kd.int .i64) 3 wr w.heap.size (fun _ => True) (.slice (some ⟨gp, 0, none⟩) l.length cp) (preQ N S l i)) ∧ Aside0 (wr.ownsRow w.heap.size 101 2 v9 i (restC (shR N S (at_ l)) i)) ∧ Aside0 (Below w.heap.size w wr))
 case atStart => exact ⟨0, rfl, by simp [sumTo], Nat.zero_le _, by omega, HO0, ⟨World.ownsRow_nil _ _ _ _⟩, HB0⟩
 case round =>
  clear HO0 HB0
  obtain ⟨i, rfl, rfl, hin, hkx, HO, HR, HB⟩ := hrel
  by_cases hlt : i < l.length
  ·have hltz : (i : Int) < (l.length : Int) := by omega
   have pz : (0 : Int) ≤ (i : Int) := by omega
   obtain ⟨ks, hks⟩ := (share_ok (N := N) (w := at_ l i) (S := S) HSh.out.n0 HSh.out.n1 (HSh.out.ww i hlt).1 (HSh.out.le i hlt) HSh.out.s0 HSh.out.s1).rounds
   have HK := Aside0.mk hks
   clear hks
   obtain ⟨ad, ead, hx⟩ := Kd.at_int HR1.out (i : Int) pz hltz
   rw [rd_nat] at hx
   subst ead
   have hx' := (HB.out.cell (World.block_lt_of_cell? w _ hx)).trans hx
   rw [Int.toNat_natCast] at hx'
   clear hx
   obtain ⟨hy, hz⟩ := Kd.R_celln 0 HO.out (i : Int) pz hltz
   rw [Int.toNat_natCast] at hy hz
   have qb := HSh.out.q i hlt
   have sb := HSh.out.sums i hin
   have sb2 := HSh.out.sums (i + 1) (by omega)
   have n1 := HSh.out.n1
   have hsum : sumTo (shQ N S (at_ l)) (i + 1) = sumTo (shQ N S (at_ l)) i + shQ N S (at_ l) i := rfl
   have HSUM := Aside0.mk hsum
   have eqq : N * at_ l i / S = shQ N S (at_ l) i := rfl
   have err : N * at_ l i % S = shR N S (at_ l) i := rfl
   rw [eqq, err] at HK
   obtain ⟨q, hq⟩ : ∃ q, q = shQ N S (at_ l) i := ⟨_, rfl⟩
   obtain ⟨r, hr⟩ : ∃ r, r = shR N S (at_ l) i := ⟨_, rfl⟩
   obtain ⟨s, hs⟩ : ∃ s, s = sumTo (shQ N S (at_ l)) i := ⟨_, rfl⟩
   rw [← hq, ← hr] at HK qb
   rw [← hs] at sb ⊢
   rw [hsum, ← hs, ← hq] at sb2
   have HQ := Aside0.mk hq
   have HRR := Aside0.mk hr
   have HSS := Aside0.mk hs
   clear hq hr hs hsum eqq err
   obtain ⟨W, hW⟩ : ∃ W, W = at_ l i := ⟨_, rfl⟩
   rw [← hW] at HK hx'
   clear hW
   have NS0 : 0 ≤ N - s - q ∧ N - s - q ≤ 1125899906842624 := by omega
   obtain ⟨cells, hcell⟩ := Kd.R_typed HO.out gp rfl
   have HCE := Aside0.mk hcell
   clear hcell
   go_wp2_with (first
    | (go_at_call 93; refine (num_share.calls ks N W S q r _ HK.out).mono ?_; rintro e w1 ⟨rfl, ⟨nd1, rfl⟩⟩)
    | (at_builtin; refine wpList_append_own _ rfl _ _ 98 rfl w.heap.size 101 i0 (.agg #[.int .i64 0, .int .i64 0]) 2 16 Tryd.underlying98 HI.out.1 HI.out.2.1 HI.out.2.2.1 HI.out.2.2.2 rfl (by decide) _ _ _ rfl ((own_put (W := wr.drewN nd1) (own_move HR.out (fun _ _ => rfl)) HCE.out (by decide) _).alloc _) ⟨wr.heap.size, 0, none⟩ 1 1 [.int .i64 i, .int .i64 r] rfl rfl (cell_two' _ _ (size_set' _ _ _ _ _) _ _ _) (by simp [Value.oneCell']) (by unfold maxLen; omega) (by omega) (by have := HB.out.size; simp [World.setCell, World.drewN]; omega) ?_; intro v' w2 hown1 hgrow1 _))
   have HOW1 := Aside0.mk hown1
   have HGR1 := Aside0.mk hgrow1
   clear hown1 hgrow1 hx' hy hz
   go_roundg (l.length - (i + 1))
   case measure => omega
   case rel =>
    have ho2 : Kd.R (Kd.int .i64) 3 (((wr.drewN nd1).setCell ⟨gp, i, none⟩ (.int .i64 q)).alloc (.cells #[.int .i64 i, .int .i64 r] 101)) w.heap.size (fun _ => True) (.slice (some ⟨gp, 0, none⟩) l.length cp) (preQ N S l (i + 1)) := by
     have := Kd.R_putn (Kd.R_drewN HO.out nd1) (i : Int) q
     rw [Int.toNat_natCast, HQ.out, preQ_set] at this
     rw [HQ.out]
     exact Kd.R_alloc this _
    have hb2 : Below w.heap.size w (((wr.drewN nd1).setCell ⟨gp, i, none⟩ (.int .i64 q)).alloc (.cells #[.int .i64 i, .int .i64 r] 101)) := ((below_draws HB.out nd1).setCell HG.out _).alloc (by have := HB.out.size; simp [World.setCell, World.drewN]; omega) _
    have hw2 := (own_put (W := wr.drewN nd1) (i := i) (own_move HR.out (fun _ _ => rfl)) HCE.out (by decide) (.int .i64 q)).alloc (.cells #[.int .i64 i, .int .i64 r] 101)
    refine ⟨i + 1, by first | rfl | simp, by rw [HSUM.out, ← HSS.out, ← HQ.out]; first | rfl | (congr 1; omega), hlt, Nat.le_refl _, ⟨Kd.R_over' ho2 (fun k hk => own_typed hw2 k hk) (by decide) HGR1.out⟩, ⟨by rw [restC_succ, ← HRR.out]; exact HOW1.out⟩, ⟨hb2.grown HGR1.out (by have := HB.out.size; simp [World.setCell, World.drewN]; omega) (fun k hk => own_base hw2 k hk)⟩⟩
  ·obtain rfl : i = l.length := by omega
   have hltz : ¬ (l.length : Int) < (l.length : Int) := by omega
   -- the sort
   obtain ⟨d, hd⟩ : ∃ d, d = restsA l.length (shR N S (at_ l)) := ⟨_, rfl⟩
   have hds : d.size = l.length := by rw [hd, restsA_size]
   have hdl : d.toList = (List.range l.length).map fun j : Nat => ((j : Int), shR N S (at_ l) j) := by rw [hd]; simp [restsA]
   have hown := HR.out
   obtain ⟨g9, cp9, hv9⟩ : ∃ g9 cp9, u9 = .slice (some ⟨g9, 0, none⟩) l.length cp9 := by
    rcases hown.2 with ⟨_, h0⟩ | ⟨g, cap, cur, rfl, _⟩
    ·omega
    ·exact ⟨g, cap, rfl⟩
   subst hv9
   obtain ⟨hR9, hc9, hb9⟩ := rst_own (l := d.toList) (by rw [hdl]; exact hown) (by simpa using hds)
   have hlt9 := hR9.lt
   obtain ⟨s, hs⟩ : ∃ s, s = St.stable (ltOf cmpR) l.length d := ⟨_, rfl⟩
   have SR := sorted_rests l.length (shR N S (at_ l)) s (by rw [hs, hd])
   have hrow : RowK encR 2 wr g9 0 d := ⟨fun _ => rfl, fun x v hv => by simp [encR] at hv; rcases hv with rfl | rfl <;> rfl, rst_holds hR9, hlt9⟩
   have hsort := St.sortStable_run 2 aE101 zE101 encR cmpR 95 #[] g9 0 cp9 d wr enters95 l.length hds (cmpLays95 _ _ _ _) hrow (by omega) (rst_holds hR9)
   rw [← hs] at hsort
   have HSO := Aside0.mk hsort
   have HR9 := Aside0.mk hR9
   have HSR := Aside0.mk SR
   have HDS := Aside0.mk hds
   have H9B := Aside0.mk hb9
   have H9L := Aside0.mk hlt9
   have HC9 := Aside0.mk hc9
   have H9T := Aside0.mk (own_typed hown g9 rfl)
   have HTL := Aside0.mk HSh.out.left
   clear hsort hR9 SR hds hb9 hlt9 hd hdl hown hs hrow hkx hin HR hc9
   obtain ⟨T, hT⟩ : ∃ T, T = leftN N S l := ⟨_, rfl⟩
   have hTl : (T : Int) = N - sumTo (shQ N S (at_ l)) l.length ∧ T < l.length := by rw [hT]; exact HTL.out
   have HT := Aside0.mk hT
   obtain ⟨hTe, hTn⟩ := hTl
   rw [← hTe]
   clear hT hTe HTL
   have t0 : (0 : Int) ≤ (T : Int) := by omega
   go_upto_region 18 with (first
    | (go_at_call 94; refine HSO.out.mono ?_; rintro e W5 ⟨rfl, hsw⟩))
   obtain ⟨hg5, hR5⟩ := swk_out HR9.out (by rw [HSR.out.1, HDS.out]) hsw
   have ho5 : Kd.R (Kd.int .i64) 3 W5 w.heap.size (fun _ => True) (.slice (some ⟨gp, 0, none⟩) l.length cp) (preQ N S l l.length) := Kd.R_over' (v := .slice (some ⟨g9, 0, none⟩) l.length cp9) (e' := 101) HO.out (fun k hk => by
    obtain rfl : g9 = k := by simpa [Value.ownBlock] using hk
    exact H9T.out) (by decide) hg5
   have hb5 : Below w.heap.size w W5 := HB.out.grown hg5 HB.out.size (fun k e => by cases e; exact H9B.out)
   have ne9 : gp ≠ g9 := fun e => by
    obtain ⟨c2, h2⟩ := Kd.R_typed HO.out gp rfl
    obtain ⟨c3, h3⟩ := H9T.out
    rw [e, h3] at h2
    injection h2 with h2
    injection h2 with _ h2
    exact absurd h2 (by decide)
   rw [preQ_all] at ho5
   have HO5 := Aside0.mk ho5
   have HR5 := Aside0.mk hR5
   have HB5 := Aside0.mk hb5
   have HNE := Aside0.mk ne9
   have hcz : (T : Int) ≤ (cp9 : Int) := by have := HC9.out; omega
   have tz : ((T : Int)).toNat = T := Int.toNat_natCast T
   clear hg5 ho5 hR5 hb5 ne9 hsw HO HB
   go_wp2
   clear tz hcz
   go_loopg [67] T (fun kx v67 wx => ∃ (t : Nat), v67 = .int .i64 t ∧ t ≤ T ∧ T - t ≤ kx ∧ Aside0 (Kd.R (Kd.int .i64) 3 wx w.heap.size (fun _ => True) (.slice (some ⟨gp, 0, none⟩) l.length cp) (tab l.length (appF N S l t))) ∧ Aside0 (Rst wx g9 s.toList) ∧ Aside0 (Below w.heap.size w wx))
   case atStart => exact ⟨0, rfl, Nat.zero_le _, by omega, HO5, HR5, HB5⟩
   case round =>
    clear HO5 HR5 HB5
    obtain ⟨t, rfl, htT, hkx, HO, HR, HB⟩ := hrel
    by_cases hlt2 : t < T
    ·have hz2 : (t : Int) < (T : Int) := by omega
     have hp2 : (0 : Int) ≤ (t : Int) := by omega
     obtain ⟨b, hb1, hb2, hb3⟩ := HSR.out.2 t (by omega)
     have hx : s.toList[t]? = some ((b : Int), shR N S (at_ l) b) := by
      have hts : t < s.size := by rw [HSR.out.1]; omega
      rw [List.getElem?_eq_getElem (by simpa using hts), ← hb1, getElem!_pos s t hts]
      simp
     obtain ⟨x0, x1⟩ := HR.out.cell hx
     have hbz : (b : Int) < (l.length : Int) := by omega
     have hbp : (0 : Int) ≤ (b : Int) := by omega
     obtain ⟨hy, hz⟩ := Kd.R_celln 0 HO.out (b : Int) hbp hbz
     rw [Int.toNat_natCast] at hy hz
     have er : rdOf (0 : Int) (tab l.length (appF N S l t)) (b : Int) = appF N S l t b := by
      show rd _ _ = _
      rw [rd_nat, at_tab hb2]
     rw [er] at hy
     obtain ⟨f, hf⟩ : ∃ f, f = appF N S l t b := ⟨_, rfl⟩
     have hfb : 0 ≤ f ∧ f ≤ 1125899906842625 := by
      have := HSh.out.q b hb2
      have := HSh.out.n1
      rw [hf]; unfold appF
      split <;> omega
     obtain ⟨rb, hrb⟩ : ∃ x, x = shR N S (at_ l) b := ⟨_, rfl⟩
     rw [← hf] at hy
     rw [← hrb] at x1
     have HF := Aside0.mk hf
     have HBB := Aside0.mk (And.intro hb2 hb3)
     have gpl : gp < wr.heap.size := by
      obtain ⟨c2, h2⟩ := Kd.R_typed HO.out gp rfl
      exact blk_lt h2
     clear hf hb1 hb3 hx er hrb
     go_wp2
     have HGL := Aside0.mk gpl
     clear gpl x0 x1 hy hz
     go_roundg (T - (t + 1))
     case measure => omega
     case rel =>
      have ho2 := Kd.R_putn HO.out (b : Int) (f + 1)
      rw [Int.toNat_natCast, HF.out, appF_next HBB.out.1 HBB.out.2] at ho2
      refine ⟨t + 1, by first | rfl | simp, hlt2, Nat.le_refl _, ⟨by rw [HF.out]; exact Kd.R_alloc ho2 _⟩, ⟨?_⟩, ⟨(HB.out.setCell HG.out _).alloc (by have := HB.out.size; simp [World.setCell]; omega) _⟩⟩
      exact (HR.out.of_eq (Below.heap_setCell _ _ _ g9 (Ne.symm HNE.out))).of_eq (Below.heap_alloc _ _ _ (by have := HR.out.lt; simp [World.setCell]; omega))
    ·obtain rfl : t = T := by omega
     have hz2 : ¬ (t : Int) < (t : Int) := by omega
     go_wp2
     go_ret2
     exact ⟨_, rfl, by rw [← HT.out]; exact HO.out, HB.out⟩
theorem appF_zero (l : List Int) : tab l.length (appF 0 0 l (leftN 0 0 l)) = List.replicate l.length (0 : Int) := by
 rw [tab_replicate]
 have q : ∀ i, shQ 0 0 (at_ l) i = 0 := fun i => by unfold shQ; simp
 have e : leftN 0 0 l = 0 := by
  unfold leftN
  have : ∀ n, sumTo (shQ 0 0 (at_ l)) n = 0 := by
   intro n
   induction n with
   | zero => rfl
   | succ n ih => show sumTo _ n + _ = 0; rw [ih, q]; rfl
  rw [this]; rfl
 rw [e]
 refine tab_congr fun i hi => ?_
 unfold appF
 rw [q, if_neg (by omega)]
 rfl
set_option maxHeartbeats 4000000 in
set_option maxRecDepth 1000000 in
theorem apportion_none (N : Int) (l : List Int) (A1 : Option Addr) (c1 : Nat) (w : World) (hn : (weigh N l).2 ≠ 0) (hr1 : Kd.C (Kd.int .i64) w A1 l.length l) (hc1 : l.length ≤ c1) :
  Calls Tryd.prog 47 #[.int .i64 N, .slice A1 l.length c1] w fun e w' => e = .returned (.tuple #[.slice none 0 0, .int .i64 (weigh N l).2]) ∧ ∃ n, w' = w.drewN n := by
 obtain ⟨kw, hkw⟩ := (weighed_ok N l).rounds
 generalize weigh N l = we at hn hkw ⊢
 obtain ⟨S, E⟩ := we
 replace hn : E ≠ 0 := hn
 show Calls _ _ _ _ fun e w' => e = .returned (.tuple #[.slice none 0 0, .int .i64 E]) ∧ _
 have HR1 := Aside0.mk hr1
 have HC1 := Aside0.mk hc1
 have HW := Aside0.mk hkw
 have hz : (E == 0) = false := beq_eq_false_iff_ne.mpr hn
 have hz2 : (E != 0) = true := bne_iff_ne.mpr hn
 clear hr1 hc1 hkw hn
 go_enter Tryd.func47, Tryd.ntmps47
 go_wp2_with (first
  | (go_at_call 92; refine (num_weighed.calls kw N A1 c1 l S E _ HR1.out HC1.out HW.out).mono ?_; rintro e w' ⟨rfl, ⟨nd, rfl⟩⟩))
 go_ret2
 exact ⟨rfl, nd, rfl⟩
set_option maxHeartbeats 4000000 in
set_option maxRecDepth 1000000 in
theorem apportion_zero (l : List Int) (A1 : Option Addr) (c1 : Nat) (w : World) (hfew : l.length ≤ 256) (hw : weigh 0 l = (0, 0)) (hr1 : Kd.C (Kd.int .i64) w A1 l.length l) (hc1 : l.length ≤ c1) :
  Calls Tryd.prog 47 #[.int .i64 0, .slice A1 l.length c1] w fun e w' => ∃ v0_ : Value, e = .returned (.tuple #[v0_, .int .i64 0]) ∧ Kd.R (Kd.int .i64) 3 w' w.heap.size (fun _ => True) v0_ (List.replicate l.length (0 : Int)) ∧ Below w.heap.size w w' := by
 obtain ⟨kw, hkw⟩ := (weighed_ok 0 l).rounds
 rw [hw] at hkw
 have HR1 := Aside0.mk hr1
 have HC1 := Aside0.mk hc1
 have HW := Aside0.mk hkw
 have HB := Aside0.mk (Below.refl w.heap.size w)
 clear hr1 hc1 hkw hw
 have p0 : (0 : Int) ≤ (l.length : Int) := by omega
 have p1 : ((l.length : Int)).toNat ≤ 35184372088832 := by omega
 have P0 := Aside0.mk p0
 have P1 := Aside0.mk p1
 clear p0 p1
 go_enter Tryd.func47, Tryd.ntmps47
 go_wp2_with (first
  | (go_at_call 92; refine (num_weighed.calls kw 0 A1 c1 l 0 0 _ HR1.out HC1.out HW.out).mono ?_; rintro e w' ⟨rfl, ⟨nd, rfl⟩⟩)
  | ((with_reducible refine gate_dst (N := 28) rfl ?_); refine Kd.R_make (Kd.int .i64) _ 3 rfl (N := 28) rfl 29 _ _ rfl (l.length : Int) rfl rfl Tryd.underlying29 (.int .i64 0) 8 info3 rfl (by decide) (by omega) 0 (ok := fun _ => True) (okp := fun _ => True) rfl (fun _ hk => hk) trivial P0.out (Nat.le_trans (Nat.mul_le_mul_right _ P1.out) (by omega)) (Below.refl _ _) (Nat.le_refl _) ?_; intro v8 w8 ho9 hb hg_ hnew_))
 clear hg_ hnew_
 have ho8 : Kd.R (Kd.int .i64) 3 w8 w.heap.size (fun _ => True) v8 (List.replicate l.length (0 : Int)) := by
  rw [Int.toNat_natCast] at ho9
  exact Kd.R_lower ho9 (below_size (pw_below_drewN HB.out _))
 have hB8 : Below w.heap.size w w8 := below_step (pw_below_drewN HB.out _) hb
 clear ho9 hb HB
 go_ret2
 exact ⟨_, rfl, ho8, hB8⟩
end Go.Proofs.Num
namespace Go.Proofs.YtdjnneflpkllmaaDoor.Q
open Go.RowKit Go.Proofs.YtdjnneflpkllmaaDoorW.PrintWords Go.Proofs.YtdjnneflpkllmaaDoorW.PrintLast Go.Proofs.YtdjnneflpkllmaaDoorW.PrintMore Go.Proofs.Num
def num_Apportion.f (_k : Nat) (a0 : Int) (l1 : List Int) : Option (List Int × Int) := some (apportion a0 l1)
theorem num_Apportion.calls (k : Nat) (a0 : Int) (A1 : Option Addr) (c1 : Nat) (l1 : List Int) (r1 : List Int) (r2 : Int) (w : World) (hr1 : Kd.C (Kd.int .i64) w A1 l1.length l1) (hc1 : l1.length ≤ c1) (h : num_Apportion.f k a0 l1 = some (r1, r2)) :
  Calls Tryd.prog 47 #[.int .i64 a0, .slice A1 l1.length c1] w fun e w' => ∃ v0_ : Value, e = .returned (.tuple #[v0_, .int .i64 r2]) ∧ Kd.R (Kd.int .i64) 3 w' w.heap.size (fun _ => True) v0_ r1 ∧ Below w.heap.size w w' := by
 have h' : apportion a0 l1 = (r1, r2) := by injection h
 clear h
 unfold apportion at h'
 by_cases c : (weigh a0 l1).2 = 0
 ·rw [if_pos c] at h'
  injection h' with e1 e2
  subst e1 e2
  obtain ⟨few, n0, n1, ww, hS, hz⟩ := weigh_ok c
  have hp : weigh a0 l1 = (sumTo (at_ l1) l1.length, 0) := Prod.ext hS c
  rw [hS]
  by_cases s0 : sumTo (at_ l1) l1.length = 0
  ·obtain rfl := hz s0
   rw [s0] at hp ⊢
   rw [appF_zero]
   exact apportion_zero l1 A1 c1 w few hp hr1 hc1
  ·have sp := sumTo_nonneg (p := at_ l1) (n := l1.length) (fun i hi => (ww i hi).1)
   exact apportion_main a0 _ l1 A1 c1 w ⟨n0, n1, few, ww, rfl, by omega⟩ hp hr1 hc1
 ·rw [if_neg c] at h'
  injection h' with e1 e2
  subst e1 e2
  refine (apportion_none a0 l1 A1 c1 w c hr1 hc1).mono ?_
  rintro e w' ⟨rfl, n, rfl⟩
  exact ⟨_, rfl, Kd.R_nil _ _ _ _ _, pw_below_drewN (Below.refl _ _) n⟩
end Go.Proofs.YtdjnneflpkllmaaDoor.Q

namespace Go.Proofs.Num
open Go.RowKit Go.Proofs.YtdjnneflpkllmaaDoorW.PrintWords Go.Proofs.YtdjnneflpkllmaaDoorW.PrintMore
set_option linter.unusedVariables false
set_option linter.unusedSimpArgs false
section
variable {p w : Nat → Int} {i m : Nat} {v : Int}
end
end Go.Proofs.Num

namespace Go.Proofs.Num
open Go.RowKit Go.Proofs.YtdjnneflpkllmaaDoorW.PrintWords Go.Proofs.YtdjnneflpkllmaaDoorW.PrintLast Go.Proofs.YtdjnneflpkllmaaDoorW.PrintMore Go.Proofs.YtdjnneflpkllmaaDoor.Q
set_option linter.unusedVariables false
set_option linter.unusedSimpArgs false
abbrev WaS : Type := Value × Value × Value × Value × Value × Value × Nat × Nat
abbrev WaI : Type := Nat × Bool × Bool
def WaMu (i : WaI) : Nat := 12 - i.1 - (if i.1 = 5 then 3 else 0) - i.2.1.toNat - i.2.2.toNat
def WaL (i : WaI) : Array Bool := (bb20 (317 + (if 0 < i.1 then 2 else 0) + (if 1 < i.1 then 64 else 0) + (if 2 < i.1 then 128 else 0) + (if 3 < i.1 then 512 else 0) + (if 4 < i.1 then 15360 else 0) + (if i.2.1 = true then 16384 else 0) + (if i.2.2 = true then 32768 else 0))).extract 0 18
def WaR (i : WaI) : List Nat := (if i.1 = 0 then [1] else []) ++ (if i.1 = 1 then [6] else []) ++ (if i.1 = 2 then [7] else []) ++ (if i.1 = 3 then [9] else []) ++ (if i.1 = 4 then [10] else []) ++ (if i.2.1 = true then [] else [14]) ++ (if i.2.2 = true then [] else [15])
def WaNs (i : WaI) (s : WaS) : List (Tmp × Value) := (if 0 < i.1 then [(138, s.1)] else []) ++ (if 1 < i.1 then [(143, s.2.1)] else []) ++ (if 2 < i.1 then [(144, s.2.2.1)] else []) ++ (if 3 < i.1 then [(146, s.2.2.2.1)] else []) ++ (if 4 < i.1 then [(147, .tuple #[s.2.2.2.2.1, s.2.2.2.2.2.1]), (136, .tuple #[s.2.2.2.2.1, s.2.2.2.2.2.1]), (148, s.2.2.2.2.1), (149, s.2.2.2.2.2.1)] else []) ++ (if i.2.1 = true then [(14, .pointer (some ⟨s.2.2.2.2.2.2.1, 0, none⟩))] else []) ++ (if i.2.2 = true then [(15, .pointer (some ⟨s.2.2.2.2.2.2.2, 0, none⟩))] else [])
section
variable {P : Program} {md : Region.Mode} {ops : Array Oper} {Q : Exit → Act → World → Prop} {S : World → Prop} {ds : List Nat}
theorem Wa_m {fuel : Nat} {l : Array Bool} {a a' : Act} {w : World} (h : wpAnyLast P md ops Q S ds fuel l a' w) (ha : a = a' := by simp only [WaNs, if_true, if_false, Nat.reduceLT, ↓reduceIte, Bool.false_eq_true, List.cons_append, List.nil_append, List.append_nil, putAll, Act.put, List.setIfInBounds_toArray, List.set_cons_zero, List.set_cons_succ, i64_w, i32_w]; rfl) : wpAnyLast P md ops Q S ds fuel l a w := by
  subst ha
  exact h
theorem Wa_n {fuel fuel' : Nat} {l l' : Array Bool} {a a' : Act} {w : World} (h : wpAnyLast P md ops Q S ds fuel' l' a' w) (hl : (l == l') = true := by kernel_rfl) (hf : fuel = fuel' := by rfl) (ha : a = a' := by simp only [WaNs, if_true, if_false, Nat.reduceLT, ↓reduceIte, Bool.false_eq_true, List.cons_append, List.nil_append, List.append_nil, putAll, Act.put, List.setIfInBounds_toArray, List.set_cons_zero, List.set_cons_succ, i64_w, i32_w]) : wpAnyLast P md ops Q S ds fuel l a w := by
  rw [beq_iff_eq] at hl
  subst hl hf ha
  exact h
theorem Wa_r (i : WaI) {n : Nat} {a : Act} {w : World} (h : AllReadyL P md ops Q S ds n (WaL i) a w (WaR i)) (hr : (Region.ready md ops (WaL i) == WaR i) = true := by kernel_rfl) (hne : (WaR i).isEmpty = false := by kernel_rfl) (hn : WaMu i = n + 1 := by rfl) : wpAnyLast P md ops Q S ds (WaMu i) (WaL i) a w := by
  rw [hn]
  exact wpAnyLast_ready (beq_iff_eq.mp hr) (fun e => by rw [e] at hne; cases hne) h
end
def WaF (wc : World) (N W S : Int) (c : Nat) (t0 t1 : Bool) (s : WaS) (y : World) : Prop :=
  Below wc.heap.size wc y ∧ (0 < c → BigV y 0 s.1 (N) 5) ∧ (1 < c → BigV y 0 s.2.1 (W) 5) ∧ (2 < c → BigV y 0 s.2.2.1 (N * W) (5 + 5)) ∧ (3 < c → BigV y 0 s.2.2.2.1 (S) 5) ∧ (4 < c → BigV y 0 s.2.2.2.2.1 (N * W / S) 110) ∧ (4 < c → BigV y 0 s.2.2.2.2.2.1 (N * W % S) 100) ∧ (t0 = true → y.heap[s.2.2.2.2.2.2.1]? = some (.cells #[.bool false, .slice none 0 0] 31 (0, 0)) ∧ wc.heap.size ≤ s.2.2.2.2.2.2.1) ∧ (t1 = true → y.heap[s.2.2.2.2.2.2.2]? = some (.cells #[.bool false, .slice none 0 0] 31 (0, 0)) ∧ wc.heap.size ≤ s.2.2.2.2.2.2.2) ∧ (t0 = true → t1 = true → s.2.2.2.2.2.2.1 ≠ s.2.2.2.2.2.2.2)
def WaG (wc : World) (N W S : Int) (i : WaI) (s : WaS) (y : World) : Prop := i.1 ≤ 5 ∧ WaF wc N W S i.1 i.2.1 i.2.2 s y
section
variable {wc y z : World} {N W S : Int} {c : Nat} {t0 t1 : Bool} {q0 q1 q2 q3 q4 q5 : Value} {b0 b1 : Nat}
theorem Wa_start {s : WaS} : WaF wc N W S 0 false false s wc.drew := ⟨Below.drew (Below.refl _ _), fun h => absurd h (by decide), fun h => absurd h (by decide), fun h => absurd h (by decide), fun h => absurd h (by decide), fun h => absurd h (by decide), fun h => absurd h (by decide), fun h => absurd h (by decide), fun h => absurd h (by decide), fun h => absurd h (by decide)⟩
theorem Wa_low {s : WaS} (h : WaF wc N W S c t0 t1 s y) (ob : Obj) : Below wc.heap.size wc (y.alloc ob) := h.1.trans ((below_alloc (Below.refl y.heap.size y) ob).mono h.1.size)
theorem Wa_c0 {p0 : Value} (h : WaF wc N W S 0 t0 t1 (q0, q1, q2, q3, q4, q5, b0, b1) y) (hz : Below y.heap.size y z) (hp0 : BigV z y.heap.size p0 (N) 5) : WaF wc N W S 1 t0 t1 (p0, q1, q2, q3, q4, q5, b0, b1) z := by
  obtain ⟨hy, r0, r1, r2, r3, r4, r5, m0, m1, n01⟩ := h
  exact ⟨hy.trans (hz.mono hy.size), fun _ => hp0.lower (Nat.zero_le _), fun h => absurd h (by decide), fun h => absurd h (by decide), fun h => absurd h (by decide), fun h => absurd h (by decide), fun h => absurd h (by decide), fun h => ⟨blk_below (m0 h).1 hz, (m0 h).2⟩, fun h => ⟨blk_below (m1 h).1 hz, (m1 h).2⟩, n01⟩
theorem Wa_c1 {p1 : Value} (h : WaF wc N W S 1 t0 t1 (q0, q1, q2, q3, q4, q5, b0, b1) y) (hz : Below y.heap.size y z) (hp1 : BigV z y.heap.size p1 (W) 5) : WaF wc N W S 2 t0 t1 (q0, p1, q2, q3, q4, q5, b0, b1) z := by
  obtain ⟨hy, r0, r1, r2, r3, r4, r5, m0, m1, n01⟩ := h
  exact ⟨hy.trans (hz.mono hy.size), fun _ => (r0 (by decide)).below hz, fun _ => hp1.lower (Nat.zero_le _), fun h => absurd h (by decide), fun h => absurd h (by decide), fun h => absurd h (by decide), fun h => absurd h (by decide), fun h => ⟨blk_below (m0 h).1 hz, (m0 h).2⟩, fun h => ⟨blk_below (m1 h).1 hz, (m1 h).2⟩, n01⟩
theorem Wa_c2 {p2 : Value} (h : WaF wc N W S 2 t0 t1 (q0, q1, q2, q3, q4, q5, b0, b1) y) (hz : Below y.heap.size y z) (hp2 : BigV z y.heap.size p2 (N * W) (5 + 5)) : WaF wc N W S 3 t0 t1 (q0, q1, p2, q3, q4, q5, b0, b1) z := by
  obtain ⟨hy, r0, r1, r2, r3, r4, r5, m0, m1, n01⟩ := h
  exact ⟨hy.trans (hz.mono hy.size), fun _ => (r0 (by decide)).below hz, fun _ => (r1 (by decide)).below hz, fun _ => hp2.lower (Nat.zero_le _), fun h => absurd h (by decide), fun h => absurd h (by decide), fun h => absurd h (by decide), fun h => ⟨blk_below (m0 h).1 hz, (m0 h).2⟩, fun h => ⟨blk_below (m1 h).1 hz, (m1 h).2⟩, n01⟩
theorem Wa_c3 {p3 : Value} (h : WaF wc N W S 3 t0 t1 (q0, q1, q2, q3, q4, q5, b0, b1) y) (hz : Below y.heap.size y z) (hp3 : BigV z y.heap.size p3 (S) 5) : WaF wc N W S 4 t0 t1 (q0, q1, q2, p3, q4, q5, b0, b1) z := by
  obtain ⟨hy, r0, r1, r2, r3, r4, r5, m0, m1, n01⟩ := h
  exact ⟨hy.trans (hz.mono hy.size), fun _ => (r0 (by decide)).below hz, fun _ => (r1 (by decide)).below hz, fun _ => (r2 (by decide)).below hz, fun _ => hp3.lower (Nat.zero_le _), fun h => absurd h (by decide), fun h => absurd h (by decide), fun h => ⟨blk_below (m0 h).1 hz, (m0 h).2⟩, fun h => ⟨blk_below (m1 h).1 hz, (m1 h).2⟩, n01⟩
theorem Wa_c4 {p4 p5 : Value} (h : WaF wc N W S 4 t0 t1 (q0, q1, q2, q3, q4, q5, b0, b1) y) (hz : Below y.heap.size y z) (hp4 : BigV z y.heap.size p4 (N * W / S) 110) (hp5 : BigV z y.heap.size p5 (N * W % S) 100) : WaF wc N W S 5 t0 t1 (q0, q1, q2, q3, p4, p5, b0, b1) z := by
  obtain ⟨hy, r0, r1, r2, r3, r4, r5, m0, m1, n01⟩ := h
  exact ⟨hy.trans (hz.mono hy.size), fun _ => (r0 (by decide)).below hz, fun _ => (r1 (by decide)).below hz, fun _ => (r2 (by decide)).below hz, fun _ => (r3 (by decide)).below hz, fun _ => hp4.lower (Nat.zero_le _), fun _ => hp5.lower (Nat.zero_le _), fun h => ⟨blk_below (m0 h).1 hz, (m0 h).2⟩, fun h => ⟨blk_below (m1 h).1 hz, (m1 h).2⟩, n01⟩
theorem Wa_b0 (h : WaF wc N W S c false t1 (q0, q1, q2, q3, q4, q5, b0, b1) y) : WaF wc N W S c true t1 (q0, q1, q2, q3, q4, q5, y.heap.size, b1) (y.alloc (.cells #[.bool false, .slice none 0 0] 31 (0, 0))) := by
  have hz := below_alloc (Below.refl y.heap.size y) (.cells #[.bool false, .slice none 0 0] 31 (0, 0))
  obtain ⟨hy, r0, r1, r2, r3, r4, r5, m0, m1, n01⟩ := h
  exact ⟨hy.trans (hz.mono hy.size), fun h => (r0 h).below hz, fun h => (r1 h).below hz, fun h => (r2 h).below hz, fun h => (r3 h).below hz, fun h => (r4 h).below hz, fun h => (r5 h).below hz, fun _ => ⟨blk_new y _, hy.size⟩, fun h => ⟨blk_below (m1 h).1 hz, (m1 h).2⟩, fun _ h => Nat.ne_of_gt (blk_lt (m1 h).1)⟩
theorem Wa_b1 (h : WaF wc N W S c t0 false (q0, q1, q2, q3, q4, q5, b0, b1) y) : WaF wc N W S c t0 true (q0, q1, q2, q3, q4, q5, b0, y.heap.size) (y.alloc (.cells #[.bool false, .slice none 0 0] 31 (0, 0))) := by
  have hz := below_alloc (Below.refl y.heap.size y) (.cells #[.bool false, .slice none 0 0] 31 (0, 0))
  obtain ⟨hy, r0, r1, r2, r3, r4, r5, m0, m1, n01⟩ := h
  exact ⟨hy.trans (hz.mono hy.size), fun h => (r0 h).below hz, fun h => (r1 h).below hz, fun h => (r2 h).below hz, fun h => (r3 h).below hz, fun h => (r4 h).below hz, fun h => (r5 h).below hz, fun h => ⟨blk_below (m0 h).1 hz, (m0 h).2⟩, fun _ => ⟨blk_new y _, hy.size⟩, fun h _ => Nat.ne_of_lt (blk_lt (m0 h).1)⟩
theorem Wa_end (h : WaF wc N W S 5 true true (q0, q1, q2, q3, q4, q5, b0, b1) y) : Below wc.heap.size wc y ∧ BigV y 0 q0 (N) 5 ∧ BigV y 0 q1 (W) 5 ∧ BigV y 0 q2 (N * W) (5 + 5) ∧ BigV y 0 q3 (S) 5 ∧ BigV y 0 q4 (N * W / S) 110 ∧ BigV y 0 q5 (N * W % S) 100 ∧ y.heap[b0]? = some (.cells #[.bool false, .slice none 0 0] 31 (0, 0)) ∧ wc.heap.size ≤ b0 ∧ y.heap[b1]? = some (.cells #[.bool false, .slice none 0 0] 31 (0, 0)) ∧ wc.heap.size ≤ b1 ∧ b0 ≠ b1 := by
  obtain ⟨hy, r0, r1, r2, r3, r4, r5, m0, m1, n01⟩ := h
  exact ⟨hy, r0 (by decide), r1 (by decide), r2 (by decide), r3 (by decide), r4 (by decide), r5 (by decide), (m0 rfl).1, (m0 rfl).2, (m1 rfl).1, (m1 rfl).2, n01 rfl rfl⟩
end
abbrev WbS : Type := Value × Value × Nat
abbrev WbI : Type := Nat × Bool
def WbMu (i : WbI) : Nat := 4 - i.1 - i.2.toNat
def WbL (i : WbI) : Array Bool := (bb20 (47 + (if 0 < i.1 then 16 else 0) + (if 1 < i.1 then 64 else 0) + (if i.2 = true then 128 else 0))).extract 0 9
def WbR (i : WbI) : List Nat := (if i.1 = 0 then [4] else []) ++ (if i.1 = 1 then [6] else []) ++ (if i.2 = true then [] else [7])
def WbNs (i : WbI) (s : WbS) : List (Tmp × Value) := (if 0 < i.1 then [(154, s.1)] else []) ++ (if 1 < i.1 then [(156, s.2.1)] else []) ++ (if i.2 = true then [(16, .pointer (some ⟨s.2.2, 0, none⟩))] else [])
section
variable {P : Program} {md : Region.Mode} {ops : Array Oper} {Q : Exit → Act → World → Prop} {S : World → Prop} {ds : List Nat}
theorem Wb_m {fuel : Nat} {l : Array Bool} {a a' : Act} {w : World} (h : wpAnyLast P md ops Q S ds fuel l a' w) (ha : a = a' := by simp only [WbNs, if_true, if_false, Nat.reduceLT, ↓reduceIte, Bool.false_eq_true, List.cons_append, List.nil_append, List.append_nil, putAll, Act.put, List.setIfInBounds_toArray, List.set_cons_zero, List.set_cons_succ, i64_w, i32_w]; rfl) : wpAnyLast P md ops Q S ds fuel l a w := by
  subst ha
  exact h
theorem Wb_n {fuel fuel' : Nat} {l l' : Array Bool} {a a' : Act} {w : World} (h : wpAnyLast P md ops Q S ds fuel' l' a' w) (hl : (l == l') = true := by kernel_rfl) (hf : fuel = fuel' := by rfl) (ha : a = a' := by simp only [WbNs, if_true, if_false, Nat.reduceLT, ↓reduceIte, Bool.false_eq_true, List.cons_append, List.nil_append, List.append_nil, putAll, Act.put, List.setIfInBounds_toArray, List.set_cons_zero, List.set_cons_succ, i64_w, i32_w]) : wpAnyLast P md ops Q S ds fuel l a w := by
  rw [beq_iff_eq] at hl
  subst hl hf ha
  exact h
theorem Wb_r (i : WbI) {n : Nat} {a : Act} {w : World} (h : AllReadyL P md ops Q S ds n (WbL i) a w (WbR i)) (hr : (Region.ready md ops (WbL i) == WbR i) = true := by kernel_rfl) (hne : (WbR i).isEmpty = false := by kernel_rfl) (hn : WbMu i = n + 1 := by rfl) : wpAnyLast P md ops Q S ds (WbMu i) (WbL i) a w := by
  rw [hn]
  exact wpAnyLast_ready (beq_iff_eq.mp hr) (fun e => by rw [e] at hne; cases hne) h
end
def WbF (wc : World) (V X : Int) (c : Nat) (t0 : Bool) (s : WbS) (y : World) : Prop :=
  Below wc.heap.size wc y ∧ (0 < c → BigV y 0 s.1 (V) 5) ∧ (1 < c → BigV y 0 s.2.1 (V - X) (5 + 110 + 1)) ∧ (t0 = true → y.heap[s.2.2]? = some (.cells #[.bool false, .slice none 0 0] 31 (0, 0)) ∧ wc.heap.size ≤ s.2.2)
def WbG (wc : World) (V X : Int) (i : WbI) (s : WbS) (y : World) : Prop := i.1 ≤ 2 ∧ WbF wc V X i.1 i.2 s y
section
variable {wc y z : World} {V X : Int} {c : Nat} {t0 : Bool} {q0 q1 : Value} {b0 : Nat}
theorem Wb_start {s : WbS} : WbF wc V X 0 false s wc.drew := ⟨Below.drew (Below.refl _ _), fun h => absurd h (by decide), fun h => absurd h (by decide), fun h => absurd h (by decide)⟩
theorem Wb_low {s : WbS} (h : WbF wc V X c t0 s y) (ob : Obj) : Below wc.heap.size wc (y.alloc ob) := h.1.trans ((below_alloc (Below.refl y.heap.size y) ob).mono h.1.size)
theorem Wb_c0 {p0 : Value} (h : WbF wc V X 0 t0 (q0, q1, b0) y) (hz : Below y.heap.size y z) (hp0 : BigV z y.heap.size p0 (V) 5) : WbF wc V X 1 t0 (p0, q1, b0) z := by
  obtain ⟨hy, r0, r1, m0⟩ := h
  exact ⟨hy.trans (hz.mono hy.size), fun _ => hp0.lower (Nat.zero_le _), fun h => absurd h (by decide), fun h => ⟨blk_below (m0 h).1 hz, (m0 h).2⟩⟩
theorem Wb_c1 {p1 : Value} (h : WbF wc V X 1 t0 (q0, q1, b0) y) (hz : Below y.heap.size y z) (hp1 : BigV z y.heap.size p1 (V - X) (5 + 110 + 1)) : WbF wc V X 2 t0 (q0, p1, b0) z := by
  obtain ⟨hy, r0, r1, m0⟩ := h
  exact ⟨hy.trans (hz.mono hy.size), fun _ => (r0 (by decide)).below hz, fun _ => hp1.lower (Nat.zero_le _), fun h => ⟨blk_below (m0 h).1 hz, (m0 h).2⟩⟩
theorem Wb_b0 (h : WbF wc V X c false (q0, q1, b0) y) : WbF wc V X c true (q0, q1, y.heap.size) (y.alloc (.cells #[.bool false, .slice none 0 0] 31 (0, 0))) := by
  have hz := below_alloc (Below.refl y.heap.size y) (.cells #[.bool false, .slice none 0 0] 31 (0, 0))
  obtain ⟨hy, r0, r1, m0⟩ := h
  exact ⟨hy.trans (hz.mono hy.size), fun h => (r0 h).below hz, fun h => (r1 h).below hz, fun _ => ⟨blk_new y _, hy.size⟩⟩
theorem Wb_end (h : WbF wc V X 2 true (q0, q1, b0) y) : Below wc.heap.size wc y ∧ BigV y 0 q0 (V) 5 ∧ BigV y 0 q1 (V - X) (5 + 110 + 1) ∧ y.heap[b0]? = some (.cells #[.bool false, .slice none 0 0] 31 (0, 0)) ∧ wc.heap.size ≤ b0 := by
  obtain ⟨hy, r0, r1, m0⟩ := h
  exact ⟨hy, r0 (by decide), r1 (by decide), (m0 rfl).1, (m0 rfl).2⟩
end
theorem fews_yes {l : List Int} (h : l.length ≤ 300) : merinolaw01_few.f l = some true := by unfold merinolaw01_few.f; rw [decide_eq_true (by omega)]
theorem fews_no {l : List Int} (h : ¬ l.length ≤ 300) : merinolaw01_few.f l = some false := by unfold merinolaw01_few.f; rw [decide_eq_false (by omega)]
theorem row_cell {w wr : World} {A : Option Addr} {l : List Int} {n i : Nat} (hn : l.length = n) (h : Kd.C (Kd.int .i64) w A l.length l) (hb : Below w.heap.size w wr) (hi : i < n) : ∃ ad, A = some ad ∧ wr.cell? (ad.add i) = some (.int .i64 (at_ l i)) ∧ (ad.add i).block < wr.heap.size := by
  obtain ⟨ad, ead, hx⟩ := Kd.at_int h (i : Int) (by omega) (by omega)
  rw [rd_nat, Int.toNat_natCast] at hx
  have lt := World.block_lt_of_cell? w _ hx
  have hx' := (hb.cell lt).trans hx
  exact ⟨ad, ead, hx', Nat.lt_of_lt_of_le lt hb.size⟩
theorem part_le {p : Nat → Int} {n : Nat} {N : Int} (h : ∀ i, i < n → 0 ≤ p i) (e : sumTo p n = N) (i : Nat) (hi : i < n) : 0 ≤ sumTo p i ∧ sumTo p i + p i ≤ N := by
  have a := sumTo_nonneg (p := p) (n := i) (fun j hj => h j (by omega))
  have m : ∀ d, i + 1 + d ≤ n → sumTo p (i + 1) ≤ sumTo p (i + 1 + d) := by
    intro d
    induction d with
    | zero => intro _; exact Int.le_refl _
    | succ d ih =>
      intro hd
      have := ih (by omega)
      have := h (i + 1 + d) (by omega)
      show _ ≤ sumTo p (i + 1 + d) + p (i + 1 + d)
      omega
  have := m (n - (i + 1)) (by omega)
  rw [show i + 1 + (n - (i + 1)) = n by omega, e] at this
  exact ⟨a, this⟩
set_option maxHeartbeats 8000000 in
set_option maxRecDepth 1000000 in
theorem whole_long (N : Int) (A1 : Option Addr) (c1 : Nat) (l : List Int) (w : World) (h0 : ¬ l.length ≤ 300) (hr1 : Kd.C (Kd.int .i64) w A1 l.length l) (hc1 : l.length ≤ c1) :
    Calls Tryd.prog 18 #[.int .i64 N, .slice A1 l.length c1] w fun e w' => e = .returned (.bool true) ∧ Below w.heap.size w w' := by
  have HR1 := Aside0.mk hr1
  have HC1 := Aside0.mk hc1
  have HF := Aside0.mk (fews_no h0)
  clear hr1 hc1 h0
  go_enter Tryd.func18, Tryd.ntmps18
  go_wp2_with (first
    | (go_at_call 35; refine (merinolaw01_few.calls A1 c1 l false _ HR1.out HC1.out HF.out).mono ?_; rintro e y ⟨rfl, hd⟩; have hb1 := Aside0.mk hd.below; clear hd)
    | (go_at_call 21; refine (merinolaw01_alive.calls true _ rfl).mono ?_; rintro e y2 ⟨rfl, hb2⟩; have hb3 := Aside0.mk (below_step hb1.out hb2)))
  go_ret
  exact ⟨rfl, hb3.out⟩
set_option maxHeartbeats 8000000 in
set_option maxRecDepth 1000000 in
theorem whole_err (N : Int) (A1 : Option Addr) (c1 : Nat) (l : List Int) (w : World) (h0 : l.length ≤ 300) (E : Int) (hE : E ≠ 0) (hP : apportion N l = ([], E)) (K : Nat) (hQ : num_Divide.f K N l = some ([], E)) (hr1 : Kd.C (Kd.int .i64) w A1 l.length l) (hc1 : l.length ≤ c1) :
    Calls Tryd.prog 18 #[.int .i64 N, .slice A1 l.length c1] w fun e w' => e = .returned (.bool true) ∧ Below w.heap.size w w' := by
  have HR1 := Aside0.mk hr1
  have HC1 := Aside0.mk hc1
  have HF := Aside0.mk (fews_yes h0)
  have FA : Aside0 (num_Apportion.f 0 N l = some ([], E)) := ⟨congrArg some hP⟩
  have FD := Aside0.mk hQ
  have e1 : (E != 0) = true := by simpa using hE
  have e2 : (E == E) = true := by simp
  clear hr1 hc1 h0 hP hQ hE
  go_enter Tryd.func18, Tryd.ntmps18
  go_upto_region 3 with (first
    | (go_at_call 35; refine (merinolaw01_few.calls A1 c1 l true _ HR1.out HC1.out HF.out).mono ?_; rintro e y0 ⟨rfl, hd⟩; have B0 := Aside0.mk (show Below w.heap.size w y0 from hd.below); clear hd))
  go_upto_region 4 with (first
    | (go_at_call 47; refine (num_Apportion.calls 0 N A1 c1 l [] E _ (Kd.C_below HR1.out B0.out) HC1.out FA.out).mono ?_; rintro e y1 ⟨va, rfl, hR, hb⟩; obtain ⟨Aa, ca, rfl⟩ := Kd.R_slice hR; have B1 := Aside0.mk (below_step B0.out hb); clear hR hb))
  go_upto_region 5 with (first
    | (go_at_call 49; refine (num_Divide.calls K N A1 c1 l [] E _ (Kd.C_below HR1.out B1.out) HC1.out FD.out).mono ?_; rintro e y2 ⟨vc, rfl, hR, hb⟩; obtain ⟨Ad, cd, rfl⟩ := Kd.R_slice hR; have B2 := Aside0.mk (below_step B1.out hb); clear hR hb))
  go_wp2_with (first
    | (go_at_call 21; refine (merinolaw01_alive.calls true _ rfl).mono ?_; rintro e y3 ⟨rfl, hb⟩; have B3 := Aside0.mk (below_step B2.out hb); clear hb))
  go_ret
  exact ⟨rfl, B3.out⟩
set_option maxHeartbeats 16000000 in
set_option maxRecDepth 1000000 in
theorem whole_fine (N S : Int) (A1 : Option Addr) (c1 : Nat) (l P Q : List Int) (w : World) (h0 : l.length ≤ 256) (n0 : 0 ≤ N) (n1 : N ≤ 1125899906842624) (ww : ∀ i, i < l.length → 0 ≤ at_ l i ∧ at_ l i ≤ 1073741824) (hS : S = sumTo (at_ l) l.length)
    (hP : apportion N l = (P, 0)) (pp : Parts N S l P) (K : Nat) (hQ : num_Divide.f K N l = some (Q, 0)) (lQ : Q.length = l.length) (sQ : Stable l.length (at_ Q) (at_ l)) (mQ : sumTo (at_ Q) l.length = N) (hF : num_Fair.f K Q l = some (true, 0))
    (hr1 : Kd.C (Kd.int .i64) w A1 l.length l) (hc1 : l.length ≤ c1) :
    Calls Tryd.prog 18 #[.int .i64 N, .slice A1 l.length c1] w fun e w' => e = .returned (.bool true) ∧ Below w.heap.size w w' := by
  have HR1 := Aside0.mk hr1
  have HC1 := Aside0.mk hc1
  have HF := Aside0.mk (fews_yes (l := l) (by omega))
  have FA : Aside0 (num_Apportion.f 0 N l = some (P, 0)) := ⟨congrArg some hP⟩
  have FD := Aside0.mk hQ
  have FF := Aside0.mk hF
  have LP := Aside0.mk pp.len
  have LQ := Aside0.mk lQ
  have HW := Aside0.mk ww
  have HPP := Aside0.mk pp
  have HQQ := Aside0.mk sQ
  have HMQ := Aside0.mk mQ
  have HS := Aside0.mk hS
  have s0 : 0 ≤ S ∧ S ≤ 274877906944 := by
    have a := sumTo_nonneg (p := at_ l) (n := l.length) (fun i hi => (ww i hi).1)
    have b := sumTo_max (p := at_ l) (c := 1073741824) (n := l.length) (fun i hi => (ww i hi).2)
    omega
  have QN := Aside0.mk (show -9223372036854775808 ≤ N ∧ N ≤ 9223372036854775807 by omega)
  have QS := Aside0.mk (show -9223372036854775808 ≤ S ∧ S ≤ 9223372036854775807 by omega)
  have eN : (N == N) = true := by simp
  have e00 : ((0 : Int) != 0) = false := by decide
  clear hr1 hc1 hP hQ hF pp lQ ww sQ mQ hS
  go_enter Tryd.func18, Tryd.ntmps18
  go_upto_region 3 with (first
    | (go_at_call 35; refine (merinolaw01_few.calls A1 c1 l true _ HR1.out HC1.out HF.out).mono ?_; rintro e y0 ⟨rfl, hd⟩; have B0 := Aside0.mk (show Below w.heap.size w y0 from hd.below); clear hd))
  go_upto_region 4 with (first
    | (go_at_call 47; refine (num_Apportion.calls 0 N A1 c1 l P 0 _ (Kd.C_below HR1.out B0.out) HC1.out FA.out).mono ?_; rintro e y1 ⟨va, rfl, hR, hb⟩; obtain ⟨Aa, ca, ea⟩ := Kd.R_slice hR; rw [ea] at hR; rw [LP.out] at ea; have B1 := Aside0.mk (below_step B0.out hb); have CA := Aside0.mk (Kd.R_reads' hR).2.2; subst ea; clear hR hb))
  go_upto_region 5 with (first
    | (go_at_call 49; refine (num_Divide.calls K N A1 c1 l Q 0 _ (Kd.C_below HR1.out B1.out) HC1.out FD.out).mono ?_; rintro e y2 ⟨vc, rfl, hR, hb⟩; obtain ⟨Ad, cd, ed⟩ := Kd.R_slice hR; rw [ed] at hR; rw [LQ.out] at ed; have B2 := Aside0.mk (below_step B1.out hb); have CQ := Aside0.mk (Kd.R_reads' hR).2.2; have DQ := Aside0.mk (Kd.R_reads' hR).2.1; have CA2 := Aside0.mk (Kd.C_below CA.out hb); have CL := Aside0.mk (Kd.C_below HR1.out B2.out); subst ed; clear hR hb CA))
  go_wp2
  go_loopg [9, 10, 11, 12] l.length (fun kx v9 v10 v11 v12 wr => ∃ (i : Nat), v12 = .int .i64 i ∧ v9 = .int .i64 (sumTo (at_ l) i) ∧ v10 = .int .i64 (sumTo (at_ P) i) ∧ v11 = .int .i64 (sumTo (at_ Q) i) ∧ i ≤ l.length ∧ l.length - i ≤ kx ∧ Aside0 (Below y2.heap.size y2 wr))
  case atStart => exact ⟨0, rfl, rfl, rfl, rfl, Nat.zero_le _, by omega, ⟨by first | exact Below.refl _ _ | exact pw_below_drewN (Below.refl _ _) _⟩⟩
  case round =>
    obtain ⟨i, rfl, rfl, rfl, rfl, hin, hkx, HB⟩ := hrel
    by_cases hlt : i < l.length
    · have hltz : (i : Int) < (l.length : Int) := by omega
      have pz : (0 : Int) ≤ (i : Int) := by omega
      obtain ⟨ad, ead, hw0, -⟩ := row_cell rfl CL.out HB.out hlt
      obtain ⟨aa, eaa, ha0, -⟩ := row_cell LP.out CA2.out HB.out hlt
      obtain ⟨aq, eaq, hq0, -⟩ := row_cell LQ.out CQ.out HB.out hlt
      subst ead eaa eaq
      have wb := HW.out i hlt
      have vb := HPP.out.nn i hlt
      have ub := HQQ.out.nn i hlt
      have vz := HPP.out.zero i hlt
      have uz := HQQ.out.none i hlt
      have t0 := sumTo_nonneg (p := at_ l) (n := i) (fun j hj => (HW.out j (by omega)).1)
      have t1 := sumTo_max (p := at_ l) (c := 1073741824) (n := i) (fun j hj => (HW.out j (by omega)).2)
      have a0 := part_le (p := at_ P) HPP.out.nn HPP.out.sum i hlt
      have q0 := part_le (p := at_ Q) HQQ.out.nn HMQ.out i hlt
      have es : sumTo (at_ l) (i + 1) = sumTo (at_ l) i + at_ l i := rfl
      have ea : sumTo (at_ P) (i + 1) = sumTo (at_ P) i + at_ P i := rfl
      have eq : sumTo (at_ Q) (i + 1) = sumTo (at_ Q) i + at_ Q i := rfl
      obtain ⟨W, hW⟩ : ∃ W, W = at_ l i := ⟨_, rfl⟩
      obtain ⟨V, hV⟩ : ∃ V, V = at_ P i := ⟨_, rfl⟩
      obtain ⟨U, hU⟩ : ∃ U, U = at_ Q i := ⟨_, rfl⟩
      obtain ⟨s, hs⟩ : ∃ s, s = sumTo (at_ l) i := ⟨_, rfl⟩
      obtain ⟨a, ha⟩ : ∃ s, s = sumTo (at_ P) i := ⟨_, rfl⟩
      obtain ⟨q, hq⟩ : ∃ s, s = sumTo (at_ Q) i := ⟨_, rfl⟩
      rw [← hW] at hw0 wb vz uz es
      rw [← hV] at ha0 vb vz ea a0
      rw [← hU] at hq0 ub uz eq q0
      rw [← hs] at t0 t1 es ⊢
      rw [← ha] at ea a0 ⊢
      rw [← hq] at eq q0 ⊢
      have ES := Aside0.mk es
      have EA := Aside0.mk ea
      have EQ := Aside0.mk eq
      have b1 : 0 ≤ s + W ∧ s + W ≤ 1099511627776 := by omega
      have b2 : 0 ≤ a + V ∧ a + V ≤ 1125899906842624 := by omega
      have b3 : 0 ≤ q + U ∧ q + U ≤ 1125899906842624 := by omega
      clear hW hV hU hs ha hq es ea eq t0 t1 a0 q0
      have v0 : decide (V < 0) = false := decide_eq_false (by omega)
      have u0 : decide (U < 0) = false := decide_eq_false (by omega)
      have fin : ∀ wr' : World, Below y2.heap.size y2 wr' → True := fun _ _ => trivial
      by_cases wz : W = 0
      · have v1 := vz wz
        have u1 := uz wz
        subst wz v1 u1
        clear vz uz
        go_wp2
        go_roundg (l.length - (i + 1))
        case measure => omega
        case rel => exact ⟨i + 1, by first | rfl | simp, (by first | (rw [ES.out]; done) | (rw [ES.out]; simp)), (by first | (rw [EA.out]; done) | (rw [EA.out]; simp)), (by first | (rw [EQ.out]; done) | (rw [EQ.out]; simp)), hlt, Nat.le_refl _, HB⟩
      · have wz0 : (W == 0) = false := beq_eq_false_iff_ne.mpr wz
        clear vz uz
        go_wp2
        go_roundg (l.length - (i + 1))
        case measure => omega
        case rel => exact ⟨i + 1, by first | rfl | simp, (by first | (rw [ES.out]; done) | (rw [ES.out]; simp)), (by first | (rw [EA.out]; done) | (rw [EA.out]; simp)), (by first | (rw [EQ.out]; done) | (rw [EQ.out]; simp)), hlt, Nat.le_refl _, HB⟩
    · obtain rfl : i = l.length := by omega
      as_aux_lemma =>
      have hltz : ¬ (l.length : Int) < (l.length : Int) := by omega
      rw [← HS.out, HPP.out.sum, HMQ.out]
      clear hkx hin hlt
      go_wp2
      clear hltz
      go_loopg [13] l.length (fun kx v13 wx => ∃ (i : Nat), v13 = .int .i64 i ∧ i ≤ l.length ∧ l.length - i ≤ kx ∧ Aside0 (Below y2.heap.size y2 wx))
      case atStart => exact ⟨0, rfl, Nat.zero_le _, by omega, HB⟩
      case round =>
        clear HB
        obtain ⟨i, rfl, hin, hkx, HB⟩ := hrel
        by_cases hlt : i < l.length ∧ 0 < S
        · obtain ⟨hlt, hs⟩ := hlt
          have hltz : (i : Int) < (l.length : Int) := by omega
          have pz : (0 : Int) ≤ (i : Int) := by omega
          obtain ⟨ad, ead, hw0, hwl⟩ := row_cell rfl CL.out HB.out hlt
          obtain ⟨aa, eaa, ha0, hal⟩ := row_cell LP.out CA2.out HB.out hlt
          subst ead eaa
          have wb := HW.out i hlt
          have vb := HPP.out.nn i hlt
          have nr := HPP.out.near hs i hlt
          have a0 := (part_le (p := at_ P) HPP.out.nn HPP.out.sum i hlt)
          have QP := Aside0.mk hs
          obtain ⟨W, hW⟩ : ∃ W, W = at_ l i := ⟨_, rfl⟩
          obtain ⟨V, hV⟩ : ∃ V, V = at_ P i := ⟨_, rfl⟩
          rw [← hW] at hw0 wb nr
          rw [← hV] at ha0 vb nr a0
          have NR := Aside0.mk nr
          have QW := Aside0.mk (show -9223372036854775808 ≤ W ∧ W ≤ 9223372036854775807 by omega)
          have QV := Aside0.mk (show -9223372036854775808 ≤ V ∧ V ≤ 9223372036854775807 by omega)
          have LD : Aside0 (∀ w', Below wr.heap.size wr w' → w'.cell? (ad.add i) = some (.int .i64 W)) := ⟨fun w' hb => (hb.cell hwl).trans hw0⟩
          have LA : Aside0 (∀ w', Below wr.heap.size wr w' → w'.cell? (aa.add i) = some (.int .i64 V)) := ⟨fun w' hb => (hb.cell hal).trans ha0⟩
          clear hW hV a0 nr hw0 ha0 hwl hal
          go_upto_region 21 with (fail)
          go_cut [14, 15] (fun v14 v15 wc => ∃ g1 g2 : Nat, v14 = .pointer (some ⟨g1, 0, none⟩) ∧ v15 = .pointer (some ⟨g2, 0, none⟩) ∧ Aside0 (BoxV wc g1 (N * W / S) 110) ∧ Aside0 (BoxV wc g2 (N * W % S) 100) ∧ Aside0 (Below wr.heap.size wr wc))
          case first =>
            as_aux_lemma =>
            refine start_ (n := 18) (S := fun w' => Below wr.heap.size wr w') (ds := []) ((bb20 0).extract 0 18) (by kernel_rfl) rfl rfl (Below.drew (Below.refl _ _)) (fun hHeld => ?_)
            refine pure_ (i := 0) (N := some 137) (v := ?_) (a' := ?_) ((bb20 1).extract 0 18) rfl rfl (by kernel_rfl) (fun _ _ _ h => h) (Or.inl ⟨by rfl, ?_⟩) ?_ ?_
            rotate_left
            · intro w'
              go_simp
              with_reducible rfl
            rotate_left
            · simp only [Act.put, List.setIfInBounds_toArray, List.set_cons_zero, List.set_cons_succ, i64_w, i32_w]
              rfl
            refine pure_ (i := 2) (N := some 139) (v := ?_) (a' := ?_) ((bb20 5).extract 0 18) rfl rfl (by kernel_rfl) (fun _ _ _ h => h) (Or.inl ⟨by rfl, ?_⟩) ?_ ?_
            rotate_left
            · intro w'
              go_simp
              with_reducible rfl
            rotate_left
            · simp only [Act.put, List.setIfInBounds_toArray, List.set_cons_zero, List.set_cons_succ, i64_w, i32_w]
              rfl
            refine pure_ (i := 3) (N := some 140) (v := ?_) (a' := ?_) ((bb20 13).extract 0 18) rfl rfl (by kernel_rfl) (fun _ _ _ h => h) (Or.inl ⟨by rfl, ?_⟩) ?_ ?_
            rotate_left
            · intro w'
              go_simp
              with_reducible rfl
            rotate_left
            · simp only [Act.put, List.setIfInBounds_toArray, List.set_cons_zero, List.set_cons_succ, i64_w, i32_w]
              rfl
            refine pure_ (i := 4) (N := some 141) (v := ?_) (a' := ?_) ((bb20 29).extract 0 18) rfl rfl (by kernel_rfl) (fun _ _ _ h => h) (Or.inl ⟨by rfl, ?_⟩) ?_ ?_
            rotate_left
            · intro w'
              go_simp
              with_reducible rfl
            rotate_left
            · simp only [Act.put, List.setIfInBounds_toArray, List.set_cons_zero, List.set_cons_succ, i64_w, i32_w]
              rfl
            refine pure_ (i := 8) (N := some 145) (v := ?_) (a' := ?_) ((bb20 285).extract 0 18) rfl rfl (by kernel_rfl) (fun _ _ _ h => h) (Or.inl ⟨by rfl, ?_⟩) ?_ ?_
            rotate_left
            · intro w'
              go_simp
              with_reducible rfl
            rotate_left
            · simp only [Act.put, List.setIfInBounds_toArray, List.set_cons_zero, List.set_cons_succ, i64_w, i32_w]
              rfl
            refine take_ (i := 5) (N := some 142) (v := ?_) (a' := ?_) ((bb20 317).extract 0 18) rfl rfl (by kernel_rfl) (fun _ _ _ h => h) (Or.inl ⟨by rfl, ?_⟩) hHeld ?_ ?_
            rotate_left
            · rintro w' hS
              have hld := LD.out w' hS
              go_simp
              with_reducible rfl
            rotate_left
            · simp only [Act.put, List.setIfInBounds_toArray, List.set_cons_zero, List.set_cons_succ, i64_w, i32_w]
              rfl
            obtain ⟨y, hyd⟩ : ∃ y, y = wr.drew := ⟨_, rfl⟩
            rw [← hyd]
            have F : WaG wr N W S (0, false, false) (.bool false, .bool false, .bool false, .bool false, .bool false, .bool false, 0, 0) y := by rw [hyd]; exact ⟨by decide, Wa_start⟩
            clear hyd hHeld
            refine float_ WaMu WaL WaNs (WaG wr N W S) (0, false, false) (5, true, true) _ rfl rfl (by kernel_rfl) F ?_ ?_
            · clear F y
              rintro ⟨c, t0, t1⟩ hne IH ⟨q0, q1, q2, q3, q4, q5, b0, b1⟩ y ⟨hc, F⟩
              dsimp only at hc F
              rcases (show c = 0 ∨ c = 1 ∨ c = 2 ∨ c = 3 ∨ c = 4 ∨ c = 5 by omega) with rfl | rfl | rfl | rfl | rfl | rfl <;> cases t0 <;> cases t1
              all_goals
                first
                | exact absurd rfl hne
                | (refine Wa_m ?_; refine Wa_r _ ?_; (first | (refine flCons_ 1 (some 138) rfl rfl (by decide) (fun K hK => ?_) ?_; focus (refine goes_ Tryd.func24 (by kernel_rfl) rfl #[.int .i64 N] (by rfl) rfl rfl flE_ ?_; refine (of_big _ QN.out.1 QN.out.2 _).mono ?_; rintro e z ⟨p0, rfl, hp0, hz⟩; exact ⟨_, rfl, hK.out _ _ (F.1.trans (hz.mono F.1.size)) (fun hHeld => Wa_n (IH (1, _, _) (by decide) _ _ ⟨by decide, Wa_c0 F hz hp0⟩))⟩)) | (refine flCons_ 6 (some 143) rfl rfl (by decide) (fun K hK => ?_) ?_; focus (refine goes_ Tryd.func24 (by kernel_rfl) rfl #[.int .i64 W] (by rfl) rfl rfl flE_ ?_; refine (of_big _ QW.out.1 QW.out.2 _).mono ?_; rintro e z ⟨p1, rfl, hp1, hz⟩; exact ⟨_, rfl, hK.out _ _ (F.1.trans (hz.mono F.1.size)) (fun hHeld => Wa_n (IH (2, _, _) (by decide) _ _ ⟨by decide, Wa_c1 F hz hp1⟩))⟩)) | (refine flCons_ 7 (some 144) rfl rfl (by decide) (fun K hK => ?_) ?_; focus (refine goes_ Tryd.func22 (by kernel_rfl) rfl #[q0, q1] (by rfl) rfl rfl flE_ ?_; refine (times_big (F.2.1 (by decide)) (F.2.2.1 (by decide)) (by decide)).mono ?_; rintro e z ⟨p2, rfl, hp2, hz⟩; exact ⟨_, rfl, hK.out _ _ (F.1.trans (hz.mono F.1.size)) (fun hHeld => Wa_n (IH (3, _, _) (by decide) _ _ ⟨by decide, Wa_c2 F hz hp2⟩))⟩)) | (refine flCons_ 9 (some 146) rfl rfl (by decide) (fun K hK => ?_) ?_; focus (refine goes_ Tryd.func24 (by kernel_rfl) rfl #[.int .i64 S] (by rfl) rfl rfl flE_ ?_; refine (of_big _ QS.out.1 QS.out.2 _).mono ?_; rintro e z ⟨p3, rfl, hp3, hz⟩; exact ⟨_, rfl, hK.out _ _ (F.1.trans (hz.mono F.1.size)) (fun hHeld => Wa_n (IH (4, _, _) (by decide) _ _ ⟨by decide, Wa_c3 F hz hp3⟩))⟩)) | (refine flCons_ 10 (some 147) rfl rfl (by decide) (fun K hK => ?_) ?_; focus (refine goes_ Tryd.func67 (by kernel_rfl) rfl #[q2, q3] (by rfl) rfl rfl flE_ ?_; refine (over_big (F.2.2.2.1 (by decide)) (F.2.2.2.2.1 (by decide)) QP.out (by decide) (by decide)).mono ?_; rintro e z ⟨p4, p5, rfl, hp4, hp5, hz⟩; refine ⟨_, rfl, hK.out _ _ (F.1.trans (hz.mono F.1.size)) (fun hHeld => ?_)⟩; refine flPure_ (i := 11) (N := some 136) (v := ?_) (a' := ?_) rfl rfl (by kernel_rfl) (fun _ _ _ h => h) (Or.inl ⟨by rfl, ?_⟩) ?_ ?_; rotate_left; (focus (intro w'; go_simp; with_reducible rfl)); rotate_left; (focus (simp only [Act.put, List.setIfInBounds_toArray, List.set_cons_zero, List.set_cons_succ, i64_w, i32_w]; rfl)); refine flPure_ (i := 12) (N := some 148) (v := ?_) (a' := ?_) rfl rfl (by kernel_rfl) (fun _ _ _ h => h) (Or.inl ⟨by rfl, ?_⟩) ?_ ?_; rotate_left; (focus (intro w'; go_simp; with_reducible rfl)); rotate_left; (focus (simp only [Act.put, List.setIfInBounds_toArray, List.set_cons_zero, List.set_cons_succ, i64_w, i32_w]; rfl)); refine flPure_ (i := 13) (N := some 149) (v := ?_) (a' := ?_) rfl rfl (by kernel_rfl) (fun _ _ _ h => h) (Or.inl ⟨by rfl, ?_⟩) ?_ ?_; rotate_left; (focus (intro w'; go_simp; with_reducible rfl)); rotate_left; (focus (simp only [Act.put, List.setIfInBounds_toArray, List.set_cons_zero, List.set_cons_succ, i64_w, i32_w]; rfl)); exact Wa_n (IH (5, _, _) (by decide) _ _ ⟨by decide, Wa_c4 F hz hp4 hp5⟩))) | skip); (try (refine flCons_ 14 (some 14) rfl rfl (by decide) (fun K hK => ?_) ?_; focus (refine value_ (w1 := ?_) (v := ?_) (by rfl) rfl ?_ ?_; rotate_left 2; (focus (go_simp; constructor <;> with_reducible rfl)); exact hK.out _ _ (Wa_low F _) (fun hHeld => Wa_n (IH (_, true, _) (by decide) _ _ ⟨by decide, Wa_b0 F⟩))))); (try (refine flCons_ 15 (some 15) rfl rfl (by decide) (fun K hK => ?_) ?_; focus (refine value_ (w1 := ?_) (v := ?_) (by rfl) rfl ?_ ?_; rotate_left 2; (focus (go_simp; constructor <;> with_reducible rfl)); exact hK.out _ _ (Wa_low F _) (fun hHeld => Wa_n (IH (_, _, true) (by decide) _ _ ⟨by decide, Wa_b1 F⟩))))); exact AllReadyL.nil)
            clear F y
            rintro ⟨q0, q1, q2, q3, q4, q5, b0, b1⟩ y ⟨-, F⟩
            dsimp only at F
            obtain ⟨hy, r0, r1, r2, r3, r4, r5, m0, g0, m1, g1, n01⟩ := Wa_end F
            clear F
            refine Wa_m ?_
            obtain ⟨l4, A4, k4, rfl, ro4, rp4, rl4⟩ := r4
            obtain ⟨l5, A5, k5, rfl, ro5, rp5, rl5⟩ := r5
            have Qhy := Aside0.mk hy
            have Qm0 := Aside0.mk m0
            have Qm1 := Aside0.mk m1
            have Qg0 := Aside0.mk g0
            have Qg1 := Aside0.mk g1
            have Qn01 := Aside0.mk n01
            have Qro4 := Aside0.mk ro4
            have Qro5 := Aside0.mk ro5
            have Qrp4 := Aside0.mk rp4
            have Qrp5 := Aside0.mk rp5
            have Qrl4 := Aside0.mk rl4
            have Qrl5 := Aside0.mk rl5
            clear hy m0 m1 g0 g1 n01 ro4 ro5 rp4 rp5 rl4 rl5
            have x00 := (blk_cell Qm0.out 0).trans rfl
            have x01 := (blk_cell Qm0.out 1).trans rfl
            have f00 := blk_frozen Qm0.out 0
            have f01 := blk_frozen Qm0.out 1
            have x10 := (blk_cell Qm1.out 0).trans rfl
            have x11 := (blk_cell Qm1.out 1).trans rfl
            have f10 := blk_frozen Qm1.out 0
            have f11 := blk_frozen Qm1.out 1
            have e01 := Qn01.out
            have e10 := Ne.symm Qn01.out
            refine one_ (i := 16) (N := none) ((bb20 131071).extract 0 18) rfl rfl (by kernel_rfl) (by decide) (fun K hK => ?_)
            refine skip_ (w1 := ?_) (by rfl) rfl ?_ ?_
            rotate_left
            · go_simp
              with_reducible rfl
            refine hK.out _ _ (put2_below (v0 := .bool (decide (N * W / S < 0))) (v1 := .slice A4 l4.length k4) Qhy.out Qg0.out) (fun hHeld => ?_)
            clear hK K
            refine one_ (i := 17) (N := none) ((bb20 262143).extract 0 18) rfl rfl (by kernel_rfl) (by decide) (fun K hK => ?_)
            refine skip_ (w1 := ?_) (by rfl) rfl ?_ ?_
            rotate_left
            · go_simp
              with_reducible rfl
            refine hK.out _ _ (put2_below (v0 := .bool (decide (N * W % S < 0))) (v1 := .slice A5 l5.length k5) (put2_below (v0 := .bool (decide (N * W / S < 0))) (v1 := .slice A4 l4.length k4) Qhy.out Qg0.out) Qg1.out) (fun hHeld => ?_)
            clear hK K
            refine done_ (by kernel_rfl) ?_
            clear x00 x01 f00 f01 x10 x11 f10 f11 hHeld e01 e10
            go_wp2
            go_meet
            refine ⟨b0, b1, rfl, rfl, ⟨?_⟩, ⟨?_⟩, ⟨put2_below (v0 := .bool (decide (N * W % S < 0))) (v1 := .slice A5 l5.length k5) (put2_below (v0 := .bool (decide (N * W / S < 0))) (v1 := .slice A4 l4.length k4) Qhy.out Qg0.out) Qg1.out⟩⟩
            · exact put2_box (b := b1) ((put2_far (b := b0) b1 (Ne.symm Qn01.out)).trans Qm1.out) Qn01.out ⟨l4, A4, k4, put2_at Qm0.out, put2_R Qm0.out Qro4.out, Qrp4.out, Qrl4.out⟩
            · exact ⟨l5, A5, k5, put2_at ((put2_far (b := b0) b1 (Ne.symm Qn01.out)).trans Qm1.out), put2_R (b := b1) ((put2_far (b := b0) b1 (Ne.symm Qn01.out)).trans Qm1.out) (put2_R Qm0.out Qro5.out), Qrp5.out, Qrl5.out⟩
          case rest =>
            as_aux_lemma =>
            obtain ⟨g1, g2, rfl, rfl, B1, B2, HC⟩ := hcut
            have HBC := Aside0.mk (below_step HB.out HC.out)
            have LD : Aside0 (∀ w', Below wc.heap.size wc w' → w'.cell? (aa.add i) = some (.int .i64 V)) := ⟨fun w' hb => LA.out w' (below_step HC.out hb)⟩
            have nr := NR.out
            obtain ⟨X, hX⟩ : ∃ X, X = N * W / S := ⟨_, rfl⟩
            obtain ⟨R, hR⟩ : ∃ R, R = N * W % S := ⟨_, rfl⟩
            rw [← hX, ← hR] at nr
            rw [← hX] at B1
            rw [← hR] at B2
            have NX := Aside0.mk nr
            clear hX hR nr NR LA HC
            obtain ⟨a1, a2, x10, x11, V1⟩ := B1.out.get
            have VXB := Aside0.mk V1
            have bl := B1.out.lt
            have LD2 : Aside0 (∀ w', Below wc.heap.size wc w' → w'.cell? ⟨g1, 0, none⟩ = some a1 ∧ w'.cell? ⟨g1, 1, none⟩ = some a2) := ⟨fun w' hb => ⟨(hb.cell (p := ⟨g1, 0, none⟩) bl).trans x10, (hb.cell (p := ⟨g1, 1, none⟩) bl).trans x11⟩⟩
            clear x10 x11 V1 bl B1 HB
            go_upto_region 22 with (fail)
            go_cut [16] (fun v16 wd => ∃ g3 : Nat, v16 = .pointer (some ⟨g3, 0, none⟩) ∧ Aside0 (BoxV wd g3 (V - X) (5 + 110 + 1)) ∧ Aside0 (Below wc.heap.size wc wd))
            case first =>
              as_aux_lemma =>
              refine start_ (n := 9) (S := fun w' => Below wc.heap.size wc w') (ds := []) ((bb20 0).extract 0 9) (by kernel_rfl) rfl rfl (Below.drew (Below.refl _ _)) (fun hHeld => ?_)
              refine pure_ (i := 0) (N := some 150) (v := ?_) (a' := ?_) ((bb20 1).extract 0 9) rfl rfl (by kernel_rfl) (fun _ _ _ h => h) (Or.inl ⟨by rfl, ?_⟩) ?_ ?_
              rotate_left
              · intro w'
                go_simp
                with_reducible rfl
              rotate_left
              · simp only [Act.put, List.setIfInBounds_toArray, List.set_cons_zero, List.set_cons_succ, i64_w, i32_w]
                rfl
              refine pure_ (i := 1) (N := some 151) (v := ?_) (a' := ?_) ((bb20 3).extract 0 9) rfl rfl (by kernel_rfl) (fun _ _ _ h => h) (Or.inl ⟨by rfl, ?_⟩) ?_ ?_
              rotate_left
              · intro w'
                go_simp
                with_reducible rfl
              rotate_left
              · simp only [Act.put, List.setIfInBounds_toArray, List.set_cons_zero, List.set_cons_succ, i64_w, i32_w]
                rfl
              refine pure_ (i := 2) (N := some 152) (v := ?_) (a' := ?_) ((bb20 7).extract 0 9) rfl rfl (by kernel_rfl) (fun _ _ _ h => h) (Or.inl ⟨by rfl, ?_⟩) ?_ ?_
              rotate_left
              · intro w'
                go_simp
                with_reducible rfl
              rotate_left
              · simp only [Act.put, List.setIfInBounds_toArray, List.set_cons_zero, List.set_cons_succ, i64_w, i32_w]
                rfl
              refine take_ (i := 3) (N := some 153) (v := ?_) (a' := ?_) ((bb20 15).extract 0 9) rfl rfl (by kernel_rfl) (fun _ _ _ h => h) (Or.inl ⟨by rfl, ?_⟩) hHeld ?_ ?_
              rotate_left
              · rintro w' hS
                have hld := LD.out w' hS
                go_simp
                with_reducible rfl
              rotate_left
              · simp only [Act.put, List.setIfInBounds_toArray, List.set_cons_zero, List.set_cons_succ, i64_w, i32_w]
                rfl
              refine take_ (i := 5) (N := some 155) (v := ?_) (a' := ?_) ((bb20 47).extract 0 9) rfl rfl (by kernel_rfl) (fun _ _ _ h => h) (Or.inl ⟨by rfl, ?_⟩) hHeld ?_ ?_
              rotate_left
              · rintro w' hS
                obtain ⟨hld0, hld1⟩ := LD2.out w' hS
                go_simp
                with_reducible rfl
              rotate_left
              · simp only [Act.put, List.setIfInBounds_toArray, List.set_cons_zero, List.set_cons_succ, i64_w, i32_w]
                rfl
              obtain ⟨y, hyd⟩ : ∃ y, y = wc.drew := ⟨_, rfl⟩
              rw [← hyd]
              have F : WbG wc V X (0, false) (.bool false, .bool false, 0) y := by rw [hyd]; exact ⟨by decide, Wb_start⟩
              clear hyd hHeld
              refine float_ WbMu WbL WbNs (WbG wc V X) (0, false) (2, true) _ rfl rfl (by kernel_rfl) F ?_ ?_
              · clear F y
                rintro ⟨c, t0⟩ hne IH ⟨q0, q1, b0⟩ y ⟨hc, F⟩
                dsimp only at hc F
                rcases (show c = 0 ∨ c = 1 ∨ c = 2 by omega) with rfl | rfl | rfl <;> cases t0
                all_goals
                  first
                  | exact absurd rfl hne
                  | (refine Wb_m ?_; refine Wb_r _ ?_; (first | (refine flCons_ 4 (some 154) rfl rfl (by decide) (fun K hK => ?_) ?_; focus (refine goes_ Tryd.func24 (by kernel_rfl) rfl #[.int .i64 V] (by rfl) rfl rfl flE_ ?_; refine (of_big _ QV.out.1 QV.out.2 _).mono ?_; rintro e z ⟨p0, rfl, hp0, hz⟩; exact ⟨_, rfl, hK.out _ _ (F.1.trans (hz.mono F.1.size)) (fun hHeld => Wb_n (IH (1, _) (by decide) _ _ ⟨by decide, Wb_c0 F hz hp0⟩))⟩)) | (refine flCons_ 6 (some 156) rfl rfl (by decide) (fun K hK => ?_) ?_; focus (refine goes_ Tryd.func68 (by kernel_rfl) rfl #[q0, .agg #[a1, a2]] (by rfl) rfl rfl flE_ ?_; refine (minus_big (F.2.1 (by decide)) (VXB.out.below F.1) (by decide) (by decide)).mono ?_; rintro e z ⟨p1, rfl, hp1, hz⟩; exact ⟨_, rfl, hK.out _ _ (F.1.trans (hz.mono F.1.size)) (fun hHeld => Wb_n (IH (2, _) (by decide) _ _ ⟨by decide, Wb_c1 F hz hp1⟩))⟩)) | skip); (try (refine flCons_ 7 (some 16) rfl rfl (by decide) (fun K hK => ?_) ?_; focus (refine value_ (w1 := ?_) (v := ?_) (by rfl) rfl ?_ ?_; rotate_left 2; (focus (go_simp; constructor <;> with_reducible rfl)); exact hK.out _ _ (Wb_low F _) (fun hHeld => Wb_n (IH (_, true) (by decide) _ _ ⟨by decide, Wb_b0 F⟩))))); exact AllReadyL.nil)
              clear F y
              rintro ⟨q0, q1, b0⟩ y ⟨-, F⟩
              dsimp only at F
              obtain ⟨hy, r0, r1, m0, g0⟩ := Wb_end F
              clear F
              refine Wb_m ?_
              obtain ⟨l1, A1, k1, rfl, ro1, rp1, rl1⟩ := r1
              have Qhy := Aside0.mk hy
              have Qm0 := Aside0.mk m0
              have Qg0 := Aside0.mk g0
              have Qro1 := Aside0.mk ro1
              have Qrp1 := Aside0.mk rp1
              have Qrl1 := Aside0.mk rl1
              clear hy m0 g0 ro1 rp1 rl1
              have x00 := (blk_cell Qm0.out 0).trans rfl
              have x01 := (blk_cell Qm0.out 1).trans rfl
              have f00 := blk_frozen Qm0.out 0
              have f01 := blk_frozen Qm0.out 1
              refine one_ (i := 8) (N := none) ((bb20 511).extract 0 9) rfl rfl (by kernel_rfl) (by decide) (fun K hK => ?_)
              refine skip_ (w1 := ?_) (by rfl) rfl ?_ ?_
              rotate_left
              · go_simp
                with_reducible rfl
              refine hK.out _ _ (put2_below (v0 := .bool (decide (V - X < 0))) (v1 := .slice A1 l1.length k1) Qhy.out Qg0.out) (fun hHeld => ?_)
              clear hK K
              refine done_ (by kernel_rfl) ?_
              clear x00 x01 f00 f01 hHeld
              go_wp2
              go_meet
              exact ⟨b0, rfl, ⟨l1, A1, k1, put2_at Qm0.out, put2_R Qm0.out Qro1.out, Qrp1.out, Qrl1.out⟩, ⟨put2_below (v0 := .bool (decide (V - X < 0))) (v1 := .slice A1 l1.length k1) Qhy.out Qg0.out⟩⟩
            case rest =>
              as_aux_lemma =>
              obtain ⟨g3, rfl, B3, HD⟩ := hcut
              have HBD := Aside0.mk (below_step HBC.out HD.out)
              have C2 := B2.out.below HD.out
              obtain ⟨T, hT⟩ : ∃ T, T = V - X := ⟨_, rfl⟩
              rw [← hT] at B3
              have nx := NX.out
              rw [← hT] at nx
              clear hT NX LD LD2 VXB B2 HD
              obtain ⟨a3, a4, x30, x31, V3⟩ := B3.out.get
              obtain ⟨e1, e2, x20, x21, V2⟩ := C2.get
              obtain ⟨p3, ep⟩ := V3.sign
              have t0 : decide (T < 0) = false := decide_eq_false (by omega)
              rw [t0] at ep
              have ea3 : a3 = .bool false := by injection ep with ep; injection ep with ep; injection ep
              subst ea3
              have b3 := B3.out.lt
              have b2 := C2.lt
              have f0 : ∀ w', Below wc.heap.size wc w' → w'.cell? ⟨g3, 0, none⟩ = some (.bool false) := fun w' hb => (hb.cell (p := ⟨g3, 0, none⟩) b3).trans x30
              have f1 : ∀ w', Below wc.heap.size wc w' → w'.cell? ⟨g3, 1, none⟩ = some a4 := fun w' hb => (hb.cell (p := ⟨g3, 1, none⟩) b3).trans x31
              have f2 : ∀ w', Below wc.heap.size wc w' → w'.cell? ⟨g2, 0, none⟩ = some e1 := fun w' hb => (hb.cell (p := ⟨g2, 0, none⟩) b2).trans x20
              have f3 : ∀ w', Below wc.heap.size wc w' → w'.cell? ⟨g2, 1, none⟩ = some e2 := fun w' hb => (hb.cell (p := ⟨g2, 1, none⟩) b2).trans x21
              obtain ⟨c, hc⟩ : ∃ c, c = cmpI T 1 := ⟨_, rfl⟩
              have c0 : decide (c > 0) = false := by
                refine decide_eq_false ?_
                rw [hc]
                rcases nx with h | ⟨h, -⟩ <;> rw [h] <;> decide
              have KC : Aside0 (∀ (y : World) (q : Value), Below wc.heap.size wc y → BigV y y.heap.size q 1 5 → True) := ⟨fun _ _ _ _ => trivial⟩
              have KV := Aside0.mk V3
              have KW := Aside0.mk V2
              have KM : Aside0 (∀ (y : World) (q : Value), Below wc.heap.size wc y → BigV y 0 q 1 5 → Calls Tryd.prog 25 #[.agg #[.bool false, a4], q] y fun e w' => e = .returned (.int .i64 c) ∧ Below y.heap.size y w') := ⟨fun y q hb hq => by
                have h := compare_big (V3.below hb) hq (by decide)
                rw [← hc] at h
                exact h⟩
              have HNX := Aside0.mk nx
              clear V3 V2 x30 x31 x20 x21 hc ep t0 b2 b3 B3 C2 nx p3
              go_upto_region 23 with (fail)
              by_cases zr : R = 0
              · have z1 : Aside0 (∀ y, Below wc.heap.size wc y → Calls Tryd.prog 69 #[.agg #[e1, e2]] y fun e w' => e = .returned (.bool true) ∧ Below y.heap.size y w') := ⟨fun y hb => by
                  have h := zero_big (KW.out.below hb)
                  rw [decide_eq_true zr] at h
                  exact h⟩
                have tz : T = 0 := by
                  rcases HNX.out with h | ⟨-, h⟩
                  · exact h
                  · exact (h zr).elim
                have z2 : Aside0 (∀ y, Below wc.heap.size wc y → Calls Tryd.prog 69 #[.agg #[.bool false, a4]] y fun e w' => e = .returned (.bool true) ∧ Below y.heap.size y w') := ⟨fun y hb => by
                  have h := zero_big (KV.out.below hb)
                  rw [decide_eq_true tz] at h
                  exact h⟩
                clear zr tz KW KV
                go_region_held3 (fun w' => Below wc.heap.size wc w') (repeat (first | assumption | exact Below.refl _ _ | apply Below.drew)) (first
                  | (go_at_call 24; refine (of_big 1 (by decide) (by decide) _).mono ?_; rintro e w1 ⟨q1, rfl, hq1, hb1⟩; have hk1 : Below wc.heap.size wc w1 := Below.trans (by assumption) (hb1.mono (Below.size (by assumption))); have HQ1 := Aside0.mk hq1; clear hq1)
                  | (go_at_call 25; refine (KM.out _ q1 (by assumption) (HQ1.out.lower (Nat.zero_le _))).mono ?_; rintro e w2 ⟨rfl, hb2⟩; have hk2 : Below wc.heap.size wc w2 := Below.trans hk1 (hb2.mono (Below.size hk1)))
                  | (go_at_call_of 69 e1; refine (z1.out _ (by assumption)).mono ?_; rintro e w3 ⟨rfl, hb3⟩; have hk3 : Below wc.heap.size wc w3 := Below.trans hk2 (hb3.mono (Below.size hk2)))
                  | (go_at_call_of 69 a4; refine (z2.out _ (by assumption)).mono ?_; rintro e w4 ⟨rfl, hb4⟩; have hk4 : Below wc.heap.size wc w4 := Below.trans hk3 (hb4.mono (Below.size hk3))))
                go_wp2
                go_roundg (l.length - (i + 1))
                case measure => omega
                case rel => exact ⟨i + 1, by first | rfl | simp, hlt, Nat.le_refl _, ⟨below_step HBD.out (by assumption)⟩⟩
              · have z1 : Aside0 (∀ y, Below wc.heap.size wc y → Calls Tryd.prog 69 #[.agg #[e1, e2]] y fun e w' => e = .returned (.bool false) ∧ Below y.heap.size y w') := ⟨fun y hb => by
                  have h := zero_big (KW.out.below hb)
                  rw [decide_eq_false zr] at h
                  exact h⟩
                clear zr KW KV
                refine start_ (n := 17) (S := fun w' => Below wc.heap.size wc w') (ds := []) ((bb20 0).extract 0 17) (by kernel_rfl) rfl rfl (Below.drew (Below.refl _ _)) (fun hHeld => ?_)
                refine pure_ (i := 0) (N := some 157) (v := ?_) (a' := ?_) ((bb20 1).extract 0 17) rfl rfl (by kernel_rfl) (fun _ _ _ h => h) (Or.inl ⟨by rfl, ?_⟩) ?_ ?_
                rotate_left
                · intro w'
                  go_simp
                  with_reducible rfl
                rotate_left
                · simp only [Act.put, List.setIfInBounds_toArray, List.set_cons_zero, List.set_cons_succ, i64_w, i32_w]
                  rfl
                refine take_ (i := 1) (N := some 158) (v := ?_) (a' := ?_) ((bb20 3).extract 0 17) rfl rfl (by kernel_rfl) (fun _ _ _ h => h) (Or.inl ⟨by rfl, ?_⟩) hHeld ?_ ?_
                rotate_left
                · rintro w' hS
                  have hl0 := f0 w' hS
                  go_simp
                  with_reducible rfl
                rotate_left
                · simp only [Act.put, List.setIfInBounds_toArray, List.set_cons_zero, List.set_cons_succ, i64_w, i32_w]
                  rfl
                refine pure_ (i := 2) (N := some 159) (v := ?_) (a' := ?_) ((bb20 7).extract 0 17) rfl rfl (by kernel_rfl) (fun _ _ _ h => h) (Or.inl ⟨by rfl, ?_⟩) ?_ ?_
                rotate_left
                · intro w'
                  go_simp
                  with_reducible rfl
                rotate_left
                · simp only [Act.put, List.setIfInBounds_toArray, List.set_cons_zero, List.set_cons_succ, i64_w, i32_w]
                  rfl
                refine take_ (i := 3) (N := some 160) (v := ?_) (a' := ?_) ((bb20 15).extract 0 17) rfl rfl (by kernel_rfl) (fun _ _ _ h => h) (Or.inl ⟨by rfl, ?_⟩) hHeld ?_ ?_
                rotate_left
                · rintro w' hS
                  have hl0 := f0 w' hS
                  have hl1 := f1 w' hS
                  go_simp
                  with_reducible rfl
                rotate_left
                · simp only [Act.put, List.setIfInBounds_toArray, List.set_cons_zero, List.set_cons_succ, i64_w, i32_w]
                  rfl
                refine one_ (i := 4) (N := some 161) ((bb20 31).extract 0 17) rfl rfl (by kernel_rfl) (by decide) (fun K hK => ?_)
                refine goes_ Tryd.func24 (by kernel_rfl) rfl #[.int .i64 1] (by rfl) rfl rfl flE_ ?_
                refine (of_big 1 (by decide) (by decide) _).mono ?_
                rintro e w4 ⟨q1, rfl, hq1, hb4⟩
                have hS4 := below_step hHeld hb4
                have HQ1 := Aside0.mk hq1
                clear hq1
                refine ⟨_, rfl, hK.out _ _ hS4 (fun hHeld => ?_)⟩
                clear hK K
                refine one_ (i := 5) (N := some 162) ((bb20 63).extract 0 17) rfl rfl (by kernel_rfl) (by decide) (fun K hK => ?_)
                refine goes_ Tryd.func25 (by kernel_rfl) rfl #[.agg #[.bool false, a4], q1] (by rfl) rfl rfl flE_ ?_
                refine (KM.out _ q1 hHeld (HQ1.out.lower (Nat.zero_le _))).mono ?_
                rintro e w5 ⟨rfl, hb5⟩
                have hS5 := below_step hHeld hb5
                refine ⟨_, rfl, hK.out _ _ hS5 (fun hHeld => ?_)⟩
                clear hK K
                refine pure_ (i := 6) (N := some 163) (v := ?_) (a' := ?_) ((bb20 127).extract 0 17) rfl rfl (by kernel_rfl) (fun _ _ _ h => h) (Or.inl ⟨by rfl, ?_⟩) ?_ ?_
                rotate_left
                · intro w'
                  go_simp
                  with_reducible rfl
                rotate_left
                · simp only [Act.put, List.setIfInBounds_toArray, List.set_cons_zero, List.set_cons_succ, i64_w, i32_w]
                  rfl
                refine pure_ (i := 7) (N := some 164) (v := ?_) (a' := ?_) ((bb20 255).extract 0 17) rfl rfl (by kernel_rfl) (fun _ _ _ h => h) (Or.inl ⟨by rfl, ?_⟩) ?_ ?_
                rotate_left
                · intro w'
                  go_simp
                  with_reducible rfl
                rotate_left
                · simp only [Act.put, List.setIfInBounds_toArray, List.set_cons_zero, List.set_cons_succ, i64_w, i32_w]
                  rfl
                refine pure_ (i := 8) (N := some 165) (v := ?_) (a' := ?_) ((bb20 511).extract 0 17) rfl rfl (by kernel_rfl) (fun _ _ _ h => h) (Or.inl ⟨by rfl, ?_⟩) ?_ ?_
                rotate_left
                · intro w'
                  go_simp
                  with_reducible rfl
                rotate_left
                · simp only [Act.put, List.setIfInBounds_toArray, List.set_cons_zero, List.set_cons_succ, i64_w, i32_w]
                  rfl
                refine take_ (i := 9) (N := some 166) (v := ?_) (a' := ?_) ((bb20 1023).extract 0 17) rfl rfl (by kernel_rfl) (fun _ _ _ h => h) (Or.inl ⟨by rfl, ?_⟩) hHeld ?_ ?_
                rotate_left
                · rintro w' hS
                  have hl0 := f2 w' hS
                  have hl1 := f3 w' hS
                  go_simp
                  with_reducible rfl
                rotate_left
                · simp only [Act.put, List.setIfInBounds_toArray, List.set_cons_zero, List.set_cons_succ, i64_w, i32_w]
                  rfl
                refine one_ (i := 10) (N := some 167) ((bb20 2047).extract 0 17) rfl rfl (by kernel_rfl) (by decide) (fun K hK => ?_)
                refine goes_ Tryd.func69 (by kernel_rfl) rfl #[.agg #[e1, e2]] (by rfl) rfl rfl flE_ ?_
                refine (z1.out _ hHeld).mono ?_
                rintro e w10 ⟨rfl, hb10⟩
                have hS10 := below_step hHeld hb10
                refine ⟨_, rfl, hK.out _ _ hS10 (fun hHeld => ?_)⟩
                clear hK K
                refine pure_ (i := 11) (N := some 168) (v := ?_) (a' := ?_) ((bb20 4095).extract 0 17) rfl rfl (by kernel_rfl) (fun _ _ _ h => h) (Or.inl ⟨by rfl, ?_⟩) ?_ ?_
                rotate_left
                · intro w'
                  go_simp
                  with_reducible rfl
                rotate_left
                · simp only [Act.put, List.setIfInBounds_toArray, List.set_cons_zero, List.set_cons_succ, i64_w, i32_w]
                  rfl
                refine pure_ (i := 12) (N := some 169) (v := undef) (a' := ?_) ((bb20 8191).extract 0 17) rfl rfl (by kernel_rfl) (fun _ _ _ h => h) (Or.inr ⟨by rfl, rfl⟩) ?_ ?_
                rotate_left
                · simp only [Act.put, List.setIfInBounds_toArray, List.set_cons_zero, List.set_cons_succ, i64_w, i32_w]
                  rfl
                refine pure_ (i := 13) (N := some 170) (v := undef) (a' := ?_) ((bb20 16383).extract 0 17) rfl rfl (by kernel_rfl) (fun _ _ _ h => h) (Or.inr ⟨by rfl, rfl⟩) ?_ ?_
                rotate_left
                · simp only [Act.put, List.setIfInBounds_toArray, List.set_cons_zero, List.set_cons_succ, i64_w, i32_w]
                  rfl
                refine pure_ (i := 14) (N := some 171) (v := undef) (a' := ?_) ((bb20 32767).extract 0 17) rfl rfl (by kernel_rfl) (fun _ _ _ h => h) (Or.inr ⟨by rfl, rfl⟩) ?_ ?_
                rotate_left
                · simp only [Act.put, List.setIfInBounds_toArray, List.set_cons_zero, List.set_cons_succ, i64_w, i32_w]
                  rfl
                refine pure_ (i := 15) (N := some 172) (v := ?_) (a' := ?_) ((bb20 65535).extract 0 17) rfl rfl (by kernel_rfl) (fun _ _ _ h => h) (Or.inl ⟨by rfl, ?_⟩) ?_ ?_
                rotate_left
                · intro w'
                  go_simp
                  with_reducible rfl
                rotate_left
                · simp only [Act.put, List.setIfInBounds_toArray, List.set_cons_zero, List.set_cons_succ, i64_w, i32_w]
                  rfl
                refine pure_ (i := 16) (N := some 173) (v := ?_) (a' := ?_) ((bb20 131071).extract 0 17) rfl rfl (by kernel_rfl) (fun _ _ _ h => h) (Or.inl ⟨by rfl, ?_⟩) ?_ ?_
                rotate_left
                · intro w'
                  go_simp
                  with_reducible rfl
                rotate_left
                · simp only [Act.put, List.setIfInBounds_toArray, List.set_cons_zero, List.set_cons_succ, i64_w, i32_w]
                  rfl
                refine done_ (by kernel_rfl) ?_
                have hlast := hHeld
                clear hHeld
                go_wp2
                go_roundg (l.length - (i + 1))
                case measure => omega
                case rel => exact ⟨i + 1, by first | rfl | simp, hlt, Nat.le_refl _, ⟨below_step HBD.out (by assumption)⟩⟩
        · have kf : ∀ y, Below y2.heap.size y2 y → Calls Tryd.prog 45 #[.slice Ad l.length cd, .slice A1 l.length c1] y fun e w' => e = .returned (.tuple #[.bool true, .int .i64 0]) ∧ Below y.heap.size y w' := by
            intro y hb
            have h := num_Fair.calls K Ad cd Q A1 c1 l true 0 y (Kd.C_below CQ.out hb) (by have := DQ.out; have := LQ.out; omega) (Kd.C_below CL.out hb) HC1.out FF.out
            rw [LQ.out] at h
            exact h
          have KF := Aside0.mk kf
          clear kf
          by_cases hl2 : i < l.length
          · have hltz : (i : Int) < (l.length : Int) := by omega
            have sz : decide (S > 0) = false := decide_eq_false (by omega)
            go_wp2_with (first
              | (go_at_call 45; refine (KF.out _ HB.out).mono ?_; rintro e y3 ⟨rfl, hb⟩; have B3 := Aside0.mk (below_step B2.out (below_step HB.out hb)); clear hb)
              | (go_at_call 21; refine (merinolaw01_alive.calls true _ rfl).mono ?_; rintro e y4 ⟨rfl, hb⟩; have B4 := Aside0.mk (below_step B3.out hb); clear hb))
            go_ret
            exact ⟨rfl, B4.out⟩
          · have hltz : ¬ (i : Int) < (l.length : Int) := by omega
            go_wp2_with (first
              | (go_at_call 45; refine (KF.out _ HB.out).mono ?_; rintro e y3 ⟨rfl, hb⟩; have B3 := Aside0.mk (below_step B2.out (below_step HB.out hb)); clear hb)
              | (go_at_call 21; refine (merinolaw01_alive.calls true _ rfl).mono ?_; rintro e y4 ⟨rfl, hb⟩; have B4 := Aside0.mk (below_step B3.out hb); clear hb))
            go_ret
            exact ⟨rfl, B4.out⟩
theorem walk_NumWhole (N : Int) (A1 : Option Addr) (c1 : Nat) (l : List Int) (w : World) (hr1 : Kd.C (Kd.int .i64) w A1 l.length l) (hc1 : l.length ≤ c1) :
    Calls Tryd.prog 18 #[.int .i64 N, .slice A1 l.length c1] w fun e w' => e = .returned (.bool true) ∧ Below w.heap.size w w' := by
  by_cases h0 : l.length ≤ 300
  · obtain ⟨v, Ed, Dv⟩ := divide_ok N l
    obtain ⟨K1, hK1⟩ := Ed
    obtain ⟨v1, v2⟩ := v
    by_cases hz : (weigh N l).2 = 0
    · rcases Dv with ⟨n, _⟩ | ⟨_, z2, lQ, sQ, mQ⟩
      · exact (n hz).elim
      · have z2 : v2 = 0 := z2
        subst z2
        obtain ⟨few, n0, n1, ww, hS, hn⟩ := weigh_ok hz
        obtain ⟨⟨P, E⟩, hP⟩ : ∃ v, apportion N l = v := ⟨_, rfl⟩
        have hE : E = 0 := by
          unfold apportion at hP
          rw [if_pos hz] at hP
          injection hP with _ h
          exact h.symm
        subst hE
        obtain ⟨K2, hK2⟩ := fair_stable n1 few ww lQ sQ mQ
        exact whole_fine N _ A1 c1 l P v1 w few n0 n1 ww hS hP (parts_ok hz hP) (K1 + K2) (hK1 _ (by omega)) lQ sQ mQ (hK2 _ (by omega)) hr1 hc1
    · rcases Dv with ⟨n, e⟩ | ⟨z, _⟩
      · have hP : apportion N l = ([], (weigh N l).2) := by unfold apportion; rw [if_neg hz]
        rw [e] at hK1
        exact whole_err N A1 c1 l w h0 _ hz hP K1 (hK1 K1 (Nat.le_refl _)) hr1 hc1
      · exact (hz z).elim
  · exact whole_long N A1 c1 l w h0 hr1 hc1
end Go.Proofs.Num
