/- The reference's functions, called: what they answer of a map's rows is what the map's functions give. -/
import Derived.Test.YtnhngaadegebfaaWorld
namespace Go.Proofs.MT.II
open Go.RowKit Go.Proofs.Ytnhngaadegebfaa.Q Go.Proofs.YtnhngaadegebfaaW.PrintWords
set_option linter.unusedVariables false

/-- A row with these pairs is returned. -/
def Gives (bad : Nat → Prop) (w : World) (l : List (Int × Int)) (e : Ending) (w' : World) : Prop := ∃ s, e = .returned s ∧ Holds w' bad s l ∧ Below w.heap.size w w'

section
variable {w : World} {bad : Nat → Prop} {A A' : Option Addr} {n n' c c' : Nat} {t u : T Int Int}
theorem gives_R {l : List (Int × Int)} (hb : ∀ k, bad k → k < w.heap.size) {e : Ending} {w' : World} (h : ∃ v : Value, e = .returned v ∧ Kd.R k38 38 w' w.heap.size (fun _ => True) v (l.map toS) ∧ Below w.heap.size w w') : Gives bad w l e w' := by
  obtain ⟨v, h1, h2, h3⟩ := h
  exact ⟨v, h1, Kd.V_mono (Kd.R_V (Kd.R_bound h2)) fun k hk h' => by have := hb k h'; have := hk.2.1; omega, h3⟩
theorem holds_C {l : List (Int × Int)} (h : Holds w bad (.slice A n c) l) : n = l.length ∧ n ≤ c ∧ Kd.C k38 w A (l.map toS).length (l.map toS) := by
  obtain ⟨h1, h2, h3⟩ := Kd.V_reads' h
  exact ⟨by rw [List.length_map] at h1; exact h1, h2, h3⟩
theorem holds_row {l : List (Int × Int)} (h : Holds w bad (.slice A n c) l) : n = l.length ∧ n ≤ c ∧ Row2 ek ev w.heap.size w A l := by
  obtain ⟨h1, h2, h3⟩ := holds_C h
  have := C_row h3
  rw [ofS_toS] at this
  exact ⟨h1, h2, this⟩
theorem len_le (hz : t.size ≤ 1099511627776) : t.toList.length ≤ 1099511627776 := by rw [T.length_toList]; exact hz

theorem refDelete (h : Holds w bad (.slice A n c) t.toList) (hs : Sorted t.toList) (hz : t.size ≤ 1099511627776) (hb : ∀ k, bad k → k < w.heap.size) (K : Int) : Calls Try.prog 104 #[.slice A n c, .int .i64 K] w (Gives bad w (t.remove K).toList) := by
  obtain ⟨rfl, hc, hC⟩ := holds_C h
  have := merinoref02_Delete.calls _ A c _ K _ w hC (by rwa [List.length_map]) (Delete_f t.toList (len_le hz) K)
  rw [List.length_map, ← remove_list K t hs] at this
  exact this.mono fun e w' => gives_R hb
theorem refBelow (h : Holds w bad (.slice A n c) t.toList) (hs : Sorted t.toList) (hz : t.size ≤ 1099511627776) (hb : ∀ k, bad k → k < w.heap.size) (K : Int) : Calls Try.prog 105 #[.slice A n c, .int .i64 K] w (Gives bad w (T.cut K t).1.toList) := by
  obtain ⟨rfl, hc, hC⟩ := holds_C h
  have := merinoref02_Below.calls _ A c _ K _ w hC (by rwa [List.length_map]) (Below_f t.toList (len_le hz) K)
  rw [List.length_map, ← below_list K t hs] at this
  exact this.mono fun e w' => gives_R hb
theorem refAbove (h : Holds w bad (.slice A n c) t.toList) (hs : Sorted t.toList) (hz : t.size ≤ 1099511627776) (hb : ∀ k, bad k → k < w.heap.size) (K : Int) : Calls Try.prog 106 #[.slice A n c, .int .i64 K] w (Gives bad w (T.cut K t).2.2.toList) := by
  obtain ⟨rfl, hc, hC⟩ := holds_C h
  have := merinoref02_Above.calls _ A c _ K _ w hC (by rwa [List.length_map]) (Above_f t.toList (len_le hz) K)
  rw [List.length_map, ← above_list K t hs] at this
  exact this.mono fun e w' => gives_R hb
theorem refRange (h : Holds w bad (.slice A n c) t.toList) (hs : Sorted t.toList) (hz : t.size ≤ 1099511627776) (hb : ∀ k, bad k → k < w.heap.size) (K E : Int) : Calls Try.prog 107 #[.slice A n c, .int .i64 K, .int .i64 E] w (Gives bad w (T.range K E t).toList) := by
  obtain ⟨rfl, hc, hC⟩ := holds_C h
  have := merinoref02_Range.calls _ A c _ K E _ w hC (by rwa [List.length_map]) (Range_f t.toList (len_le hz) K E)
  rw [List.length_map, ← range_list K E t hs] at this
  exact this.mono fun e w' => gives_R hb
theorem refPut (h : Holds w bad (.slice A n c) t.toList) (hs : Sorted t.toList) (hz : t.size ≤ 1099511627776) (hb : ∀ k, bad k → k < w.heap.size) (K X : Int) : Calls Try.prog 111 #[.slice A n c, .int .i64 K, .int .i64 X] w (Gives bad w (t.put K X).toList) := by
  obtain ⟨rfl, hc, hC⟩ := holds_C h
  have := merinoref02_Put.calls _ A c _ K X _ w hC (by rwa [List.length_map]) (Put_f t.toList (len_le hz) K X _ (Nat.lt_succ_self _))
  rw [List.length_map, ← put_list K X t hs] at this
  exact this.mono fun e w' => gives_R hb
theorem refUnion (h : Holds w bad (.slice A n c) t.toList) (h' : Holds w bad (.slice A' n' c') u.toList) (hs : Sorted t.toList) (hs' : Sorted u.toList) (hz : t.size + u.size ≤ 1099511627776) (hb : ∀ k, bad k → k < w.heap.size) : Calls Try.prog 86 #[.slice A n c, .slice A' n' c'] w (Gives bad w (T.union t u).toList) := by
  have h0 := h
  obtain ⟨rfl, hc, hC⟩ := holds_C h
  obtain ⟨rfl, hc', hC'⟩ := holds_C h'
  have h1 : Kd.V k38 38 w w.heap.size (fun k => ¬ bad k) (.slice A (t.toList.map toS).length c) (t.toList.map toS) := by
    rw [List.length_map]; exact Kd.V_map h0 fun _ hf => hf
  have := merinoref02_Union.calls _ (fun k => ¬ bad k) A c _ A' c' _ _ w h1 hC' (by rwa [List.length_map]) (Union_f t.toList u.toList (by rw [T.length_toList, T.length_toList]; exact hz))
  rw [List.length_map, List.length_map, ← union_list t u hs hs'] at this
  refine this.mono fun e w' ⟨v, h1, h2, h3⟩ => ⟨v, h1, Kd.V_mono (Kd.V_map h2 (base' := 0) fun _ hf => hf) ?_, h3⟩
  intro k hk hk'
  rcases hk with hk | hk
  · exact hk hk'
  · have := hb k hk'; omega
theorem refIntersect (h : Holds w bad (.slice A n c) t.toList) (h' : Holds w bad (.slice A' n' c') u.toList) (hs : Sorted t.toList) (hs' : Sorted u.toList) (hz : t.size ≤ 1099511627776) (hz' : u.size ≤ 1099511627776) (hb : ∀ k, bad k → k < w.heap.size) : Calls Try.prog 109 #[.slice A n c, .slice A' n' c'] w (Gives bad w (T.intersect t u).toList) := by
  obtain ⟨rfl, hc, hC⟩ := holds_C h
  obtain ⟨rfl, hc', hC'⟩ := holds_C h'
  have := merinoref02_Intersect.calls _ A c _ A' c' _ _ w hC (by rwa [List.length_map]) hC' (by rwa [List.length_map]) (Intersect_f t.toList u.toList (len_le hz) (len_le hz'))
  rw [List.length_map, List.length_map, ← intersect_list t u hs hs'] at this
  exact this.mono fun e w' => gives_R hb
theorem refSubtract (h : Holds w bad (.slice A n c) t.toList) (h' : Holds w bad (.slice A' n' c') u.toList) (hs : Sorted t.toList) (hs' : Sorted u.toList) (hz : t.size ≤ 1099511627776) (hz' : u.size ≤ 1099511627776) (hb : ∀ k, bad k → k < w.heap.size) : Calls Try.prog 110 #[.slice A n c, .slice A' n' c'] w (Gives bad w (T.subtract t u).toList) := by
  obtain ⟨rfl, hc, hC⟩ := holds_C h
  obtain ⟨rfl, hc', hC'⟩ := holds_C h'
  have := merinoref02_Subtract.calls _ A c _ A' c' _ _ w hC (by rwa [List.length_map]) hC' (by rwa [List.length_map]) (Subtract_f t.toList u.toList (len_le hz) (len_le hz'))
  rw [List.length_map, List.length_map, ← subtract_list t u hs hs'] at this
  exact this.mono fun e w' => gives_R hb
theorem refJoins (h : Holds w bad (.slice A n c) t.toList) (h' : Holds w bad (.slice A' n' c') u.toList) (hz : t.size ≤ 1099511627776) : Calls Try.prog 108 #[.slice A n c, .slice A' n' c'] w fun e w' => e = .returned (.bool (joinsL t.toList u.toList)) ∧ Below w.heap.size w w' := by
  obtain ⟨rfl, hc, hC⟩ := holds_C h
  obtain ⟨rfl, hc', hC'⟩ := holds_C h'
  have := merinoref02_Joins.calls A c _ A' c' _ _ w hC (by rwa [List.length_map]) hC' (by rwa [List.length_map]) (Joins_f t.toList u.toList (len_le hz))
  rw [List.length_map, List.length_map] at this
  exact this.mono fun e w' ⟨h1, m, h2⟩ => ⟨h1, by rw [h2]; exact below_draws (Below.refl _ _) m⟩
/-- Find: the place of the key, or less than 0. -/
theorem refFind (h : Holds w bad (.slice A n c) t.toList) (hz : t.size ≤ 1099511627776) (K : Int) : Calls Try.prog 81 #[.slice A n c, .int .i64 K] w fun e w' => ∃ r : Int, e = .returned (.int .i64 r) ∧ -1 ≤ r ∧ (0 ≤ r → ∃ x, t.toList[r.toNat]? = some x ∧ x.1 = K ∧ r < t.toList.length) ∧ (r < 0 → ∀ p ∈ t.toList, p.1 ≠ K) ∧ Below w.heap.size w w' := by
  obtain ⟨rfl, hc, hC⟩ := holds_C h
  obtain ⟨r, hr, h1, h2, h3⟩ := Find_f t.toList (len_le hz) K _ (Nat.lt_succ_self _)
  have := merinoref02_Find.calls _ A c _ K _ w hC (by rwa [List.length_map]) hr
  rw [List.length_map] at this
  exact this.mono fun e w' ⟨h4, m, h5⟩ => ⟨r, h4, h1, h2, h3, by rw [h5]; exact below_draws (Below.refl _ _) m⟩
end

/-- A key is in the map where the tree has it. -/
theorem find_where {t : T Int Int} {K : Int} (hs : Sorted t.toList) : (T.find K t = .nil ↔ ∀ p ∈ t.toList, p.1 ≠ K) := by
  rcases T.find_spec K t hs with ⟨h1, h2⟩ | ⟨l, v, r, h1, h2⟩
  · exact ⟨fun _ => h2, fun _ => h1⟩
  · exact ⟨fun e => (by rw [h1] at e; cases e), fun e => absurd rfl (e _ h2)⟩
end Go.Proofs.MT.II
