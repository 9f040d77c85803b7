/- Ranks, places, floors and ceilings: what the reference and the map answer alike. -/
import Derived.Test.YtnhngaadegebfaaQx5
import Derived.Test.YtnhngaadegebfaaDoState
namespace Go.Proofs.MT.II
open Go.RowKit Go.Proofs.Ytnhngaadegebfaa.Q Go.Proofs.YtnhngaadegebfaaW.PrintWords
set_option linter.unusedVariables false
set_option linter.unusedSimpArgs false

theorem Rank_round (l : List (Int × Int)) (hl : l.length ≤ 1099511627776) (s : Int) (d : Nat) : ∀ (k i n : Nat), i ≤ l.length → l.length - i = d → d < k → n ≤ i →
    merinoref02_Rank.l0 k (l.map toS) s n i = some ((n + ((l.drop i).filter fun p => decide (p.1 < s)).length : Nat) : Int) := by
  induction d with
  | zero =>
    intro k i n h1 h2 h3 h4
    obtain ⟨k, rfl⟩ : ∃ m, k = m + 1 := ⟨k - 1, by omega⟩
    obtain rfl : i = l.length := by omega
    simp only [merinoref02_Rank.l0]
    rw [if_neg (by simp)]
    simp
  | succ d ih =>
    intro k i n h1 h2 h3 h4
    obtain ⟨k, rfl⟩ : ∃ m, k = m + 1 := ⟨k - 1, by omega⟩
    have hi : i < l.length := by omega
    have hx : l[i]? = some l[i] := List.getElem?_eq_getElem hi
    have hr : rd_T38 (l.map toS) (i : Int) = toS l[i] := rd_S hx
    have e1 : wrap64 ((i : Int) + 1) = ((i + 1 : Nat) : Int) := by unfold wrap64; push_cast; omega
    have e2 : wrap64 ((n : Int) + 1) = ((n + 1 : Nat) : Int) := by unfold wrap64; push_cast; omega
    simp only [merinoref02_Rank.l0]
    rw [if_pos (by rw [List.length_map]; omega), if_pos (by omega), hr, e1, e2, List.drop_eq_getElem_cons hi, List.filter_cons]
    by_cases h : l[i].1 < s
    · rw [if_pos (show (toS l[i]).f0 < s from h), ih k (i + 1) (n + 1) (by omega) (by omega) (by omega) (by omega), if_pos (by simpa using h)]
      congr 2
      simp
      omega
    · rw [if_neg (show ¬ (toS l[i]).f0 < s from h), ih k (i + 1) n (by omega) (by omega) (by omega) (by omega), if_neg (by simpa using h)]

/-- A sorted list parts at a key. -/
theorem parts (f : Int → Bool) (hf : ∀ a b, a < b → f b = true → f a = true) : ∀ l : List (Int × Int), Sorted l → l = l.filter (fun p => f p.1) ++ l.filter (fun p => !f p.1)
  | [], _ => rfl
  | x :: xs, h => by
    have h' := h
    unfold Sorted at h'
    rw [List.pairwise_cons] at h'
    obtain ⟨h1, h2⟩ := h'
    by_cases hx : f x.1 = true
    · rw [List.filter_cons, if_pos hx, List.filter_cons, if_neg (by rw [hx]; decide), List.cons_append, ← parts f hf xs h2]
    · have hn : xs.filter (fun p => f p.1) = [] := List.filter_eq_nil_iff.2 fun p hp e => hx (hf _ _ (by have := h1 p hp; simpa [KOrd.lt] using this) e)
      have hy : xs.filter (fun p => !f p.1) = xs := List.filter_eq_self.2 fun p hp => by
        cases e : f p.1 with
        | false => rfl
        | true => exact absurd (hf _ _ (by have := h1 p hp; simpa [KOrd.lt] using this) e) hx
      rw [List.filter_cons, if_neg hx, List.filter_cons, if_pos (by simpa using hx), hn, hy]
      rfl
/-- How many keys are less. -/
def lessN (l : List (Int × Int)) (k : Int) : Nat := (l.filter fun p => decide (p.1 < k)).length
theorem ceil_row (l : List (Int × Int)) (h : Sorted l) (k : Int) : (l.filter fun p => !KOrd.lt p.1 k).head? = l[lessN l k]? := by
  have hp := parts (fun x => decide (x < k)) (fun a b hab hb => by simp at *; omega) l h
  refine Eq.trans ?_ (congrArg (fun z : List (Int × Int) => z[lessN l k]?) hp).symm
  show _ = (_ ++ _)[_]?
  rw [List.getElem?_append_right (show (l.filter fun p => decide (p.1 < k)).length ≤ lessN l k from Nat.le_refl _), show lessN l k - (l.filter fun p => decide (p.1 < k)).length = 0 from Nat.sub_self _, List.head?_eq_getElem?]
  rfl
/-- The last that is not greater: before the first that is greater. -/
theorem floor_row (l : List (Int × Int)) (h : Sorted l) (k : Int) (m : Nat) (hm : m = (l.filter fun p => !KOrd.lt k p.1).length) : (l.filter fun p => !KOrd.lt k p.1).getLast? = if 0 < m then l[m - 1]? else none := by
  have hp := parts (fun x => !KOrd.lt k x) (fun a b hab hb => by simp [KOrd.lt] at *; omega) l h
  rw [List.getLast?_eq_getElem?, ← hm]
  by_cases h0 : 0 < m
  · rw [if_pos h0]
    conv => rhs; rw [hp]
    rw [List.getElem?_append_left (by omega)]
  · rw [if_neg h0]
    have : (l.filter fun p => !KOrd.lt k p.1) = [] := List.eq_nil_of_length_eq_zero (by omega)
    rw [this]
    rfl
/-- Those not greater: those less, and the key itself. -/
theorem notGreater (k : Int) : ∀ l : List (Int × Int), Sorted l → (l.filter fun p => !KOrd.lt k p.1).length = lessN l k + (if has l k then 1 else 0)
  | [], _ => by simp [lessN, has]
  | x :: xs, h => by
    have h' := h
    unfold Sorted at h'
    rw [List.pairwise_cons] at h'
    obtain ⟨h1, h2⟩ := h'
    have ih := notGreater k xs h2
    have hh : has (x :: xs) k = true ↔ x.1 = k ∨ has xs k = true := by
      rw [has_iff, has_iff]
      constructor
      · rintro ⟨q, hq, e⟩
        rcases List.mem_cons.1 hq with rfl | hq
        · exact .inl e
        · exact .inr ⟨q, hq, e⟩
      · rintro (e | ⟨q, hq, e⟩)
        · exact ⟨x, List.mem_cons_self .., e⟩
        · exact ⟨q, List.mem_cons_of_mem _ hq, e⟩
    unfold lessN at *
    rw [List.filter_cons, List.filter_cons]
    rcases Int.lt_trichotomy x.1 k with h3 | h3 | h3
    · have e1 : has (x :: xs) k = has xs k := by
        cases e : has xs k with
        | true => exact hh.2 (.inr e)
        | false => cases e2 : has (x :: xs) k with
          | false => rfl
          | true => rcases hh.1 e2 with h | h
                    · omega
                    · rw [h] at e; cases e
      rw [if_pos (by simp [KOrd.lt]; omega), if_pos (by simpa using h3), e1]
      simp
      omega
    · have hno : has xs k = false := by
        cases e : has xs k with
        | false => rfl
        | true =>
          obtain ⟨q, hq, e⟩ := (has_iff xs k).1 e
          have := h1 q hq
          simp [KOrd.lt] at this
          omega
      rw [hno] at ih
      rw [if_pos (by simp [KOrd.lt]; omega), if_neg (by simp; omega), hh.2 (.inl h3)]
      simp at *
      omega
    · have hno : has (x :: xs) k = false := by
        cases e : has (x :: xs) k with
        | false => rfl
        | true =>
          rcases hh.1 e with h | h
          · omega
          · obtain ⟨q, hq, e⟩ := (has_iff xs k).1 h
            have := h1 q hq
            simp [KOrd.lt] at this
            omega
      have hno2 : has xs k = false := by
        cases e : has xs k with
        | false => rfl
        | true => rw [hh.2 (.inr e)] at hno; cases hno
      rw [hno2] at ih
      rw [if_neg (by simp [KOrd.lt]; omega), if_neg (by simp; omega), hno]
      simpa using ih

/-- What a tree tells, as three values. -/
def Told (a x : Int) (b : Bool) (r : Option (Int × Int)) : Prop := (r = none ∧ a = 0 ∧ x = 0 ∧ b = false) ∨ (r = some (a, x) ∧ b = true)
theorem told3 (t : T Int Int) : ∃ a x b, toldV t = .tuple #[.int .i64 a, .int .i64 x, .bool b] ∧ Told a x b t.root := by
  cases t with
  | nil => exact ⟨0, 0, false, rfl, .inl ⟨rfl, rfl, rfl, rfl⟩⟩
  | node l k v r => exact ⟨k, v, true, rfl, .inr ⟨rfl, rfl⟩⟩
theorem get2 (t : T Int Int) : ∃ x b, getV t = .tuple #[.int .i64 x, .bool b] ∧ ((t = .nil ∧ x = 0 ∧ b = false) ∨ (∃ l k r, t = .node l k x r) ∧ b = true) := by
  cases t with
  | nil => exact ⟨0, false, rfl, .inl ⟨rfl, rfl, rfl⟩⟩
  | node l k v r => exact ⟨v, true, rfl, .inr ⟨⟨_, _, _, rfl⟩, rfl⟩⟩

/-- row answers true where the tree told what stands at the place. -/
theorem row_f {l : List (Int × Int)} {a x i : Int} {b : Bool} (h : Told a x b (if 0 ≤ i then l[i.toNat]? else none)) : merinolaw02_row.f a x b (l.map toS) i = some true := by
  unfold merinolaw02_row.f
  by_cases h0 : i < 0
  · rw [if_pos h0]
    rw [if_neg (by omega)] at h
    rcases h with ⟨_, rfl, rfl, rfl⟩ | ⟨h, _⟩
    · simp
    · cases h
  · rw [if_neg h0]
    rw [if_pos (by omega)] at h
    by_cases h1 : i ≥ ((l.map toS).length : Int)
    · rw [if_pos h1]
      rw [List.length_map] at h1
      rw [List.getElem?_eq_none (by omega)] at h
      rcases h with ⟨_, rfl, rfl, rfl⟩ | ⟨h, _⟩
      · simp
      · cases h
    · rw [if_neg h1]
      rw [List.length_map] at h1
      rcases h with ⟨h, _⟩ | ⟨h, rfl⟩
      · rw [List.getElem?_eq_none_iff] at h; omega
      · obtain ⟨m, rfl⟩ : ∃ m : Nat, i = m := ⟨i.toNat, by omega⟩
        have hr := rd_S (l := l) (i := m) (x := (a, x)) (by simpa using h)
        rw [hr]
        simp [toS]
        omega
section
variable {w : World} {bad : Nat → Prop} {A : Option Addr} {n c : Nat} {t : T Int Int}
theorem row_true (h : Holds w bad (.slice A n c) t.toList) {a x i : Int} {b : Bool} (ht : Told a x b (if 0 ≤ i then t.toList[i.toNat]? else none)) :
    Calls Try.prog 85 #[.int .i64 a, .int .i64 x, .bool b, .slice A n c, .int .i64 i] w fun e w' => e = .returned (.bool true) ∧ Below w.heap.size w w' := by
  obtain ⟨rfl, hc, hC⟩ := holds_C h
  have := merinolaw02_row.calls a x b A c _ i true w hC (by rwa [List.length_map]) (row_f ht)
  rw [List.length_map] at this
  exact this.mono fun e w' ⟨h4, m, h5⟩ => ⟨h4, by rw [h5]; exact below_draws (Below.refl _ _) m⟩
theorem refRank (h : Holds w bad (.slice A n c) t.toList) (hs : Sorted t.toList) (hz : t.size ≤ 1099511627776) (k : Int) :
    Calls Try.prog 78 #[.slice A n c, .int .i64 k] w fun e w' => e = .returned (.int .i64 (lessN t.toList k)) ∧ Below w.heap.size w w' := by
  obtain ⟨rfl, hc, hC⟩ := holds_C h
  have hf : merinoref02_Rank.f (t.toList.length + 1) (t.toList.map toS) k = some ((lessN t.toList k : Nat) : Int) := by
    have := Rank_round t.toList (len_le hz) k t.toList.length (t.toList.length + 1) 0 0 (by omega) (by omega) (by omega) (by omega)
    simpa [lessN, merinoref02_Rank.f] using this
  have := merinoref02_Rank.calls _ A c _ k _ w hC (by rwa [List.length_map]) hf
  rw [List.length_map] at this
  exact this.mono fun e w' ⟨h4, m, h5⟩ => ⟨h4, by rw [h5]; exact below_draws (Below.refl _ _) m⟩
end
theorem rank_less (k : Int) (t : T Int Int) (h : Sorted t.toList) : T.rank k t = lessN t.toList k := T.rank_spec k t h
end Go.Proofs.MT.II
