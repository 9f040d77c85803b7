/- world.do: what holds between its steps. -/
import Derived.Test.YtnhngaadegebfaaRefCalls
import Derived.Test.YtnhngaadegebfaaA12
import Derived.Test.YtnhngaadegebfaaDepthLaws
namespace Go.Proofs.MT.II
open Go.RowKit Go.Proofs.YtnhngaadegebfaaW.PrintWords
set_option linter.unusedVariables false

/-- The step's own block. -/
structure OpAt (W : World) (O : Nat) (kind K V : Int) : Prop where
  lt : O < W.heap.size
  c0 : W.cell? ⟨O, 0, none⟩ = some (.int .u8 kind)
  c3 : W.cell? ⟨O, 3, none⟩ = some (.int .i64 K)
  c4 : W.cell? ⟨O, 4, none⟩ = some (.int .i64 V)
theorem OpAt.later {W W' : World} {O : Nat} {kind K V : Int} (h : OpAt W O kind K V) (hb : Below W.heap.size W W') : OpAt W' O kind K V :=
  ⟨Nat.lt_of_lt_of_le h.lt hb.size, ((bcell hb).1 O 0 h.lt).trans h.c0, ((bcell hb).1 O 3 h.lt).trans h.c3, ((bcell hb).1 O 4 h.lt).trans h.c4⟩
theorem OpAt.far {W : World} {O b : Nat} {kind K V : Int} (h : OpAt W O kind K V) (hne : b ≠ O) (v : Value) : OpAt (W.setCell ⟨b, 0, none⟩ v) O kind K V :=
  ⟨by rw [size_set]; exact h.lt, by rw [World.cell?_setCell_far (h := hne)]; exact h.c0, by rw [World.cell?_setCell_far (h := hne)]; exact h.c3, by rw [World.cell?_setCell_far (h := hne)]; exact h.c4⟩
theorem OpAt.new (W : World) (kind a b K V : Int) : OpAt (W.alloc (.cells #[.int .u8 kind, .int .u8 a, .int .u8 b, .int .i64 K, .int .i64 V] 136)) W.heap.size kind K V :=
  ⟨by simp, cell_new _ _ _ _ _ _ rfl, cell_new _ _ _ _ _ _ rfl, cell_new _ _ _ _ _ _ rfl⟩

/-- Two new boxes. -/
theorem two_boxes {n₀ : Nat} {W : World} (hn : n₀ ≤ W.heap.size) :
    Below W.heap.size W (((W.alloc (.cells #[.pointer none] 28)).alloc (.cells #[.pointer none] 28)).drew) ∧ MBox n₀ (((W.alloc (.cells #[.pointer none] 28)).alloc (.cells #[.pointer none] 28)).drew) W.heap.size none .nil ∧
      MBox n₀ (((W.alloc (.cells #[.pointer none] 28)).alloc (.cells #[.pointer none] 28)).drew) (W.heap.size + 1) none .nil := by
  refine ⟨Below.drew (below_two W _ _), ((MBox.new (W := W) (p := none) (t := .nil) hn rfl).below (below_one _ _)).below (Below.drew (Below.refl _ _)), ?_⟩
  have := (MBox.new (n₀ := n₀) (W := W.alloc (.cells #[.pointer none] 28)) (p := none) (t := .nil) (by simp; omega) rfl).below (Below.drew (Below.refl _ _))
  simpa using this

/-- Between the steps: the step's block, the two maps in their boxes, their rows. -/
structure St (W : World) (bad : Nat → Prop) (O b7 b8 : Nat) (kind K V : Int) (p1 p2 : Option Addr) (q1 q2 : Value) (t1 t2 : T Int Int) (x : World) : Prop where
  below : Below W.heap.size W x
  op : OpAt x O kind K V
  m7 : MBox W.heap.size x b7 p1 t1
  m8 : MBox W.heap.size x b8 p2 t2
  r1 : Holds x bad q1 t1.toList
  r2 : Holds x bad q2 t2.toList
  hb : ∀ k, bad k → k < x.heap.size
  b7bad : bad b7

/-- Behind the steps: the new map in its box, and its row. -/
def Rel (W : World) (bad : Nat → Prop) (b7 : Nat) (ks : List Int) (s : Value) (x : World) : Prop :=
  Below W.heap.size W x ∧ ∃ p t, MBox W.heap.size x b7 p t ∧ Holds x bad s t.toList ∧ Sorted t.toList ∧ ∀ q ∈ t.toList, q.1 ∈ ks

section
variable {W x y : World} {bad : Nat → Prop} {O b7 b8 : Nat} {kind K V : Int} {p1 p2 p' : Option Addr} {q1 q2 s' : Value} {t1 t2 t' : T Int Int} {ks : List Int}
theorem St.later (h : St W bad O b7 b8 kind K V p1 p2 q1 q2 t1 t2 x) (hb : Below x.heap.size x y) : St W bad O b7 b8 kind K V p1 p2 q1 q2 t1 t2 y :=
  ⟨h.below.trans (hb.mono h.below.size), h.op.later hb, h.m7.below hb, h.m8.below hb, h.r1.later hb, h.r2.later hb, fun k hk => Nat.lt_of_lt_of_le (h.hb k hk) hb.size, h.b7bad⟩
theorem St.done (h : St W bad O b7 b8 kind K V p1 p2 q1 q2 t1 t2 x) (ht : Tr x.heap.size x p' t') (hr : Holds x bad s' t'.toList) (hs : Sorted t'.toList) (hk : ∀ q ∈ t'.toList, q.1 ∈ ks) :
    Rel W bad b7 ks s' (x.setCell ⟨b7, 0, none⟩ (.pointer p')) :=
  ⟨h.m7.belowSet h.below _, p', t', h.m7.set ht, hr.step fun k hk _ => Below.heap_setCell x ⟨b7, 0, none⟩ _ k fun e => hk (by rw [show k = b7 from e]; exact h.b7bad), hs, hk⟩
end

/-- What Delete leaves, as a list. -/
theorem Deletes.list {t : T Int Int} {k : Int} {w w' : World} {e : Ending} (h : Deletes t k w e w') (hS : Sorted t.toList) :
    ∃ p' b t', e = .returned (.tuple #[.agg #[.pointer p'], .bool b]) ∧ Below w.heap.size w w' ∧ Tr w'.heap.size w' p' t' ∧ t'.toList = (t.remove k).toList ∧ (b = true ↔ ∃ p ∈ t.toList, p.1 = k) := by
  obtain ⟨p', b, rfl, hb, ⟨hf, rfl, ht⟩ | ⟨hf, rfl, ht⟩⟩ := h
  · refine ⟨p', false, t, rfl, hb, ht, ?_, ?_⟩
    · rw [remove_list k t hS]
      exact (List.filter_eq_self.2 fun p hp => by simpa using (find_where hS).1 hf p hp).symm
    · exact ⟨fun h => (by cases h), fun ⟨p, hp, e⟩ => absurd e ((find_where hS).1 hf p hp)⟩
  · refine ⟨p', true, _, rfl, hb, ht, rfl, fun _ => ?_, fun _ => rfl⟩
    rcases T.find_spec k t hS with ⟨h1, _⟩ | ⟨l, v, r, _, h2⟩
    · exact absurd h1 hf
    · exact ⟨_, h2, rfl⟩
/-- Find's answer against a truth. -/
theorem find_bool {l : List (Int × Int)} {K r : Int} (h1 : 0 ≤ r → ∃ x, l[r.toNat]? = some x ∧ x.1 = K ∧ r < l.length) (h2 : r < 0 → ∀ p ∈ l, p.1 ≠ K) {b : Bool} (h : b = true ↔ ∃ p ∈ l, p.1 = K) : b = decide (0 ≤ r) := by
  by_cases hr : 0 ≤ r
  · obtain ⟨x, hx, e, _⟩ := h1 hr
    rw [decide_eq_true hr]
    exact h.2 ⟨x, List.mem_of_getElem? hx, e⟩
  · rw [decide_eq_false hr]
    cases b with
    | false => rfl
    | true =>
      obtain ⟨p, hp, e⟩ := h.1 rfl
      exact absurd e (h2 (by omega) p hp)

/-! The new maps: sorted, with keys told before. -/
section
variable {t u : T Int Int} {K E V : Int} {ks : List Int}
theorem put_ok (hs : Sorted t.toList) (hk : ∀ q ∈ t.toList, q.1 ∈ ks) : Sorted (t.put K V).toList ∧ ∀ q ∈ (t.put K V).toList, q.1 ∈ K :: ks := by
  obtain ⟨h1, h2⟩ := T.put_spec K V t hs
  refine ⟨h1, fun q hq => ?_⟩
  rcases (h2 q).1 hq with rfl | ⟨h, _⟩
  · exact List.mem_cons_self ..
  · exact List.mem_cons_of_mem _ (hk q h)
theorem remove_ok (hs : Sorted t.toList) (hk : ∀ q ∈ t.toList, q.1 ∈ ks) : Sorted (t.remove K).toList ∧ ∀ q ∈ (t.remove K).toList, q.1 ∈ K :: ks := by
  obtain ⟨h1, h2⟩ := T.remove_spec K t hs
  exact ⟨h1, fun q hq => List.mem_cons_of_mem _ (hk q ((h2 q).1 hq).1)⟩
theorem cut_ok (hs : Sorted t.toList) (hk : ∀ q ∈ t.toList, q.1 ∈ ks) : (Sorted (T.cut K t).1.toList ∧ ∀ q ∈ (T.cut K t).1.toList, q.1 ∈ K :: ks) ∧ Sorted (T.cut K t).2.2.toList ∧ ∀ q ∈ (T.cut K t).2.2.toList, q.1 ∈ K :: ks := by
  obtain ⟨h1, h2, h3, h4, _⟩ := T.cut_spec K t hs
  exact ⟨⟨h1, fun q hq => List.mem_cons_of_mem _ (hk q ((h2 q).1 hq).1)⟩, h3, fun q hq => List.mem_cons_of_mem _ (hk q ((h4 q).1 hq).1)⟩
theorem range_ok (hs : Sorted t.toList) (hk : ∀ q ∈ t.toList, q.1 ∈ ks) : Sorted (T.range K E t).toList ∧ ∀ q ∈ (T.range K E t).toList, q.1 ∈ K :: ks := by
  obtain ⟨h1, h2⟩ := T.mem_range K E t hs
  exact ⟨h1, fun q hq => List.mem_cons_of_mem _ (hk q ((h2 q).1 hq).1)⟩
theorem union_ok (hs : Sorted t.toList) (hs' : Sorted u.toList) (hk : ∀ q ∈ t.toList, q.1 ∈ ks) (hk' : ∀ q ∈ u.toList, q.1 ∈ ks) : Sorted (T.union t u).toList ∧ ∀ q ∈ (T.union t u).toList, q.1 ∈ K :: ks := by
  obtain ⟨h1, h2⟩ := T.union_spec u t hs hs'
  refine ⟨h1, fun q hq => List.mem_cons_of_mem _ ?_⟩
  rcases (h2 q).1 hq with h | ⟨h, _⟩
  · exact hk' q h
  · exact hk q h
theorem intersect_ok (hs : Sorted t.toList) (hs' : Sorted u.toList) (hk' : ∀ q ∈ u.toList, q.1 ∈ ks) : Sorted (T.intersect t u).toList ∧ ∀ q ∈ (T.intersect t u).toList, q.1 ∈ K :: ks := by
  obtain ⟨h1, h2⟩ := T.intersect_spec u t hs hs'
  exact ⟨h1, fun q hq => List.mem_cons_of_mem _ (hk' q ((h2 q).1 hq).1)⟩
theorem subtract_ok (hs : Sorted t.toList) (hs' : Sorted u.toList) (hk : ∀ q ∈ t.toList, q.1 ∈ ks) : Sorted (T.subtract t u).toList ∧ ∀ q ∈ (T.subtract t u).toList, q.1 ∈ K :: ks := by
  obtain ⟨h1, h2⟩ := T.subtract_spec u t hs hs'
  exact ⟨h1, fun q hq => List.mem_cons_of_mem _ (hk q ((h2 q).1 hq).1)⟩
theorem merge_ok (hs : Sorted t.toList) (hs' : Sorted u.toList) (hk : ∀ q ∈ t.toList, q.1 ∈ ks) (hk' : ∀ q ∈ u.toList, q.1 ∈ ks) (hj : joinsL t.toList u.toList = true) : Sorted (T.merge t u).toList ∧ (∀ q ∈ (T.merge t u).toList, q.1 ∈ K :: ks) ∧ (T.union t u).toList = (T.merge t u).toList := by
  obtain ⟨h1, h2⟩ := merge_list t u hs hs' hj
  rw [← union_list t u hs hs'] at h2
  refine ⟨h1, ?_, h2.symm⟩
  rw [h2]
  exact (union_ok hs hs' hk hk').2
end
theorem same_true {W : World} {bad : Nat → Prop} {p A : Option Addr} {n c : Nat} {t : T Int Int} (h : Tr W.heap.size W p t) (hs : t.size ≤ 1099511627776) (hr : Holds W bad (.slice A n c) t.toList) :
    Calls Try.prog 19 #[.agg #[.pointer p], .slice A n c] W fun e w' => e = .returned (.bool true) ∧ Below W.heap.size W w' := by
  obtain ⟨rfl, hc, hrow⟩ := holds_row hr
  refine (same_any t p t.toList A c W h hs hrow hc (len_le hs)).mono fun e w' ⟨h1, h2⟩ => ⟨?_, h2⟩
  rw [h1, decide_eq_true rfl]
theorem info28 : (Try.prog.info? 28).map (fun i => (i.zero, i.size, i.bytes)) = some (some (.agg #[.pointer none]), 1, 8) := by kernel_rfl
theorem info22 : (Try.prog.info? 22).map (fun i => (i.zero, i.size, i.bytes)) = some (some (.slice none 0 0), 1, 24) := by kernel_rfl
end Go.Proofs.MT.II
