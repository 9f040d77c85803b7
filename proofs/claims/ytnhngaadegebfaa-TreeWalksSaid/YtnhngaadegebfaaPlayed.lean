/- played: the maps of a script. -/
import Derived.Test.YtnhngaadegebfaaDo
import Derived.Test.YtnhngaadegebfaaScript
namespace Go.Proofs.MT.II
open Go.RowKit Go.Proofs.YtnhngaadegebfaaW.PrintLast Go.Proofs.YtnhngaadegebfaaW.PrintWords
set_option linter.unusedVariables false
set_option linter.unusedSimpArgs false

/-- Two rows of one, made. -/
theorem own_two (w : World) (s t : TypeId) (u v : Value) :
    (((w.alloc (.cells #[u] s)).alloc (.cells #[v] t)).drew).ownsRow w.heap.size s 1 (.slice (some ⟨w.heap.size, 0, none⟩) 1 1) 1 [u] ∧
    (((w.alloc (.cells #[u] s)).alloc (.cells #[v] t)).drew).ownsRow w.heap.size t 1 (.slice (some ⟨w.heap.size + 1, 0, none⟩) 1 1) 1 [v] := by
  have h1 : (((w.alloc (.cells #[u] s)).alloc (.cells #[v] t)).drew).heap[w.heap.size]? = some (.cells #[u] s (0, 0)) := by
    have e := (Below.drew (below_one (w.alloc (.cells #[u] s)) (.cells #[v] t))).block w.heap.size (by simp)
    exact e.trans (heap_new w _)
  have h2 : (((w.alloc (.cells #[u] s)).alloc (.cells #[v] t)).drew).heap[w.heap.size + 1]? = some (.cells #[v] t (0, 0)) := by
    have e := heap_new (w.alloc (.cells #[u] s)) (.cells #[v] t)
    have hs : (w.alloc (.cells #[u] s)).heap.size = w.heap.size + 1 := by simp
    rw [hs] at e
    exact e
  exact ⟨⟨rfl, .inr ⟨_, 1, #[u], rfl, Nat.le_refl _, h1, Nat.le_refl _, by decide, rfl, rfl⟩⟩, ⟨rfl, .inr ⟨_, 1, #[v], rfl, by omega, h2, Nat.le_refl _, by decide, rfl, rfl⟩⟩⟩

/-- The world as it is made. -/
theorem Wd.start {n₀ : Nat} {y : World} {v1 v2 : Value} (h0 : n₀ ≤ y.heap.size) (o1 : y.ownsRow n₀ 28 1 v1 1 [.pointer none]) (o2 : y.ownsRow n₀ 22 1 v2 1 [.slice none 0 0]) :
    Wd n₀ (y.alloc (.cells #[v1, v2] 78)) y.heap.size v1 v2 [] [⟨none, .slice none 0 0, .nil⟩] [⟨none, .slice none 0 0, .nil⟩] := by
  have hb := below_one y (.cells #[v1, v2] 78)
  refine ⟨h0, tag_at _ _ _ _ _ rfl, fun k => by simp [go_sem], cell_new _ _ _ _ _ _ rfl, cell_new _ _ _ _ _ _ rfl, own_step o1 fun k _ hk => hb.block k hk, own_step o2 fun k _ hk => hb.block k hk, fun e he => ?_⟩
  rw [List.mem_singleton.1 he]
  exact ⟨rfl, Kd.V_nil _ _ _ _ _, List.Pairwise.nil, fun q hq => (List.not_mem_nil hq).elim⟩

theorem made_one (v : Value) (cs : Array Value) (h : cs = #[v]) : madeCells cs 1 = #[v] := by
  subst h
  apply Array.ext
  · rw [size_madeCells]; rfl
  · intro i h1 h2
    have : i = 0 := by simp at h2; omega
    subst this
    simp [madeCells]
theorem mk75 (W : World) : Sem.run Try.prog (Instr.makeSlice 75 (.int .i64 1) (.int .i64 1)) W = .ok (.slice (some ⟨W.heap.size, 0, none⟩) 1 1) (W.alloc (.cells #[.pointer none] 28)) := by
  obtain ⟨i0, hi, hz⟩ := Option.map_eq_some_iff.1 info28
  simp only [Prod.mk.injEq] at hz
  have := run_make W 75 28 i0 (.agg #[.pointer none]) Try.underlying75 hi hz.1 .i64 .i64 1 1 (by decide) (by decide) (by rw [hz.2.2]; decide) (by decide)
  rw [hz.2.1, show (Int.toNat 1 * 1) = 1 from rfl, made_one (.pointer none) (Value.cells (.agg #[.pointer none])) rfl] at this
  exact this
theorem mk76 (W : World) : Sem.run Try.prog (Instr.makeSlice 76 (.int .i64 1) (.int .i64 1)) W = .ok (.slice (some ⟨W.heap.size, 0, none⟩) 1 1) (W.alloc (.cells #[.slice none 0 0] 22)) := by
  obtain ⟨i0, hi, hz⟩ := Option.map_eq_some_iff.1 info22
  simp only [Prod.mk.injEq] at hz
  have := run_make W 76 22 i0 (.slice none 0 0) Try.underlying76 hi hz.1 .i64 .i64 1 1 (by decide) (by decide) (by rw [hz.2.2]; decide) (by decide)
  rw [hz.2.1, show (Int.toNat 1 * 1) = 1 from rfl, made_one (.slice none 0 0) (Value.cells (.slice none 0 0)) rfl] at this
  exact this
/-- What played leaves. -/
def Played (w : World) (n : Nat) (e : Ending) (w' : World) : Prop :=
  ∃ B vm vl ks es, e = .returned (.tuple #[.pointer (some ⟨B, 0, none⟩), .bool true]) ∧ Below w.heap.size w w' ∧ Wd w.heap.size w' B vm vl ks es es ∧ es.length = n + 1 ∧ ks.length = n

set_option maxRecDepth 100000 in
set_option maxHeartbeats 1600000 in
theorem played_any (l : List Step) (hl : l.length ≤ 200) (hok : ∀ o ∈ l, o.ok) (A : Option Addr) (c : Nat) (hc : l.length ≤ c) (w : World) (hr : Steps5 w A l) :
    Calls Try.prog 38 #[.slice A l.length c] w (Played w l.length) := by
  go_enter Try.func38, Try.ntmps38
  go_upto_region 1 with fail
  have sOf : ∀ y : World, Below w.heap.size w y → True ∧ True := fun _ _ => ⟨trivial, trivial⟩
  refine start_ (n := 5) (S := fun w' => True ∧ True) (ds := []) #[false, false, false, false, false] (by kernel_rfl) rfl rfl (sOf _ (Below.drew (Below.refl _ _))) (fun hHeld => ?_)
  refine join_ (σ := Nat × Nat) 3 #[true, true, false, false, false] (fun s => [(6, .slice (some ⟨s.1, 0, none⟩) 1 1), (7, .slice (some ⟨s.2, 0, none⟩) 1 1)]) (fun s y => Below w.heap.size w y ∧ y.ownsRow w.heap.size 28 1 (.slice (some ⟨s.1, 0, none⟩) 1 1) 1 [.pointer none] ∧ y.ownsRow w.heap.size 22 1 (.slice (some ⟨s.2, 0, none⟩) 1 1) 1 [.slice none 0 0]) ?_ (fun hJ => ?_)
  rotate_left
  · refine two_ (i := 0) (j := 1) (Ni := some 6) (Nj := some 7) #[true, false, false, false, false] #[false, true, false, false, false] rfl rfl rfl rfl (by kernel_rfl) (by decide) (by decide) (fun K hK => ?_) (fun K hK => ?_)
    · refine value_ (w1 := ?_) (v := ?_) (by rfl) rfl ?_ ?_
      rotate_left 2
      · go_simp
        simp only [mk75, mk76]
        go_simp
        constructor <;> with_reducible rfl
      refine hK.out _ _ (⟨trivial, trivial⟩) (fun hHeld => ?_)
      clear hK K
      refine norm_ (a' := ?_) ?_ ?_
      rotate_left
      · show Act.put _ (some 6) _ = _
        simp only [Act.put, List.setIfInBounds_toArray, List.set_cons_zero, List.set_cons_succ, i64_w, i32_w]
        rfl
      refine one_ (i := 1) (N := some 7) #[true, true, false, false, false] rfl rfl (by kernel_rfl) (by decide) (fun K hK => ?_)
      refine value_ (w1 := ?_) (v := ?_) (by rfl) rfl ?_ ?_
      rotate_left 2
      · go_simp
        simp only [mk75, mk76]
        go_simp
        constructor <;> with_reducible rfl
      refine hK.out _ _ (⟨trivial, trivial⟩) (fun hHeld => ?_)
      clear hK K
      refine norm_ (a' := ?_) ?_ ?_
      rotate_left
      · show Act.put _ (some 7) _ = _
        simp only [Act.put, List.setIfInBounds_toArray, List.set_cons_zero, List.set_cons_succ, i64_w, i32_w]
        rfl
      refine norm_ (a' := putAll _ _) ?_ (hJ (w.heap.size, w.heap.size + 1) _ ⟨Below.drew (below_two w (.cells #[.pointer none] 28) (.cells #[.slice none 0 0] 22)), (own_two w 28 22 (.pointer none) (.slice none 0 0)).1, (own_two w 28 22 (.pointer none) (.slice none 0 0)).2⟩)
      simp only [putAll, Act.put, List.setIfInBounds_toArray, List.set_cons_zero, List.set_cons_succ, i64_w, i32_w]
    · refine value_ (w1 := ?_) (v := ?_) (by rfl) rfl ?_ ?_
      rotate_left 2
      · go_simp
        simp only [mk75, mk76]
        go_simp
        constructor <;> with_reducible rfl
      refine hK.out _ _ (⟨trivial, trivial⟩) (fun hHeld => ?_)
      clear hK K
      refine norm_ (a' := ?_) ?_ ?_
      rotate_left
      · show Act.put _ (some 7) _ = _
        simp only [Act.put, List.setIfInBounds_toArray, List.set_cons_zero, List.set_cons_succ, i64_w, i32_w]
        rfl
      refine one_ (i := 0) (N := some 6) #[true, true, false, false, false] rfl rfl (by kernel_rfl) (by decide) (fun K hK => ?_)
      refine value_ (w1 := ?_) (v := ?_) (by rfl) rfl ?_ ?_
      rotate_left 2
      · go_simp
        simp only [mk75, mk76]
        go_simp
        constructor <;> with_reducible rfl
      refine hK.out _ _ (⟨trivial, trivial⟩) (fun hHeld => ?_)
      clear hK K
      refine norm_ (a' := ?_) ?_ ?_
      rotate_left
      · show Act.put _ (some 6) _ = _
        simp only [Act.put, List.setIfInBounds_toArray, List.set_cons_zero, List.set_cons_succ, i64_w, i32_w]
        rfl
      refine norm_ (a' := putAll _ _) ?_ (hJ (w.heap.size + 1, w.heap.size) _ ⟨Below.drew (below_two w (.cells #[.slice none 0 0] 22) (.cells #[.pointer none] 28)), (own_two w 22 28 (.slice none 0 0) (.pointer none)).2, (own_two w 22 28 (.slice none 0 0) (.pointer none)).1⟩)
      simp only [putAll, Act.put, List.setIfInBounds_toArray, List.set_cons_zero, List.set_cons_succ, i64_w, i32_w]
  rintro ⟨b1, b2⟩ y ⟨hy, o1, o2⟩
  refine norm_ (a' := ?_) ?_ ?_
  rotate_left
  · simp only [putAll, Act.put, List.setIfInBounds_toArray, List.set_cons_zero, List.set_cons_succ, i64_w, i32_w]
    rfl
  refine pure_ (i := 2) (N := some 8) (v := ?_) (a' := ?_) #[true, true, true, false, false] rfl rfl (by kernel_rfl) (fun _ _ _ h => h) (Or.inl ⟨by rfl, ?_⟩) ?_ ?_
  rotate_left
  · intro w'
    go_simp
    with_reducible rfl
  rotate_left
  · simp only [Act.put, List.setIfInBounds_toArray, List.set_cons_zero, List.set_cons_succ, i64_w, i32_w]
    rfl
  refine one_ (i := 3) (N := some 9) #[true, true, true, true, false] rfl rfl (by kernel_rfl) (by decide) (fun K hK => ?_)
  refine value_ (w1 := ?_) (v := ?_) (by rfl) rfl ?_ ?_
  rotate_left 2
  · go_simp
    constructor <;> with_reducible rfl
  refine hK.out _ _ (⟨trivial, trivial⟩) (fun hHeld => ?_)
  clear hK K
  refine norm_ (a' := ?_) ?_ ?_
  rotate_left
  · show Act.put _ (some 9) _ = _
    simp only [Act.put, List.setIfInBounds_toArray, List.set_cons_zero, List.set_cons_succ, i64_w, i32_w]
    rfl
  refine pure_ (i := 4) (N := some 4) (v := ?_) (a' := ?_) #[true, true, true, true, true] rfl rfl (by kernel_rfl) (fun _ _ _ h => h) (Or.inl ⟨by rfl, ?_⟩) ?_ ?_
  rotate_left
  · intro w'
    go_simp
    with_reducible rfl
  rotate_left
  · simp only [Act.put, List.setIfInBounds_toArray, List.set_cons_zero, List.set_cons_succ, i64_w, i32_w]
    rfl
  refine done_ (by kernel_rfl) ?_
  have wd0 := Wd.start hy.size o1 o2
  have hb0 := hy.trans ((below_one y (.cells #[.slice (some ⟨b1, 0, none⟩) 1 1, .slice (some ⟨b2, 0, none⟩) 1 1] 78)).mono hy.size)
  generalize y.alloc (.cells #[.slice (some ⟨b1, 0, none⟩) 1 1, .slice (some ⟨b2, 0, none⟩) 1 1] 78) = W at wd0 hb0 ⊢
  generalize y.heap.size = B at wd0 ⊢
  clear hy o1 o2 sOf
  go_wp2_with fail
  go_loopg [5] l.length (fun k x5 wr => ∃ i : Nat, x5 = .int .i64 i ∧ i ≤ l.length ∧ (∃ vm vl ks es, Wd w.heap.size wr B vm vl ks es es ∧ es.length = i + 1 ∧ ks.length = i) ∧ Below w.heap.size w wr ∧ Hid (l.length - i = k))
  case atStart => exact ⟨0, rfl, by omega, ⟨_, _, _, _, wd0, rfl, rfl⟩, hb0, rfl⟩
  case round =>
    clear wd0 hb0
    obtain ⟨i, rfl, hi, ⟨vm, vl, ks, es, wd, hes, hks⟩, hb, HN⟩ := hrel
    by_cases hlt : i < l.length
    · have a1 : (i : Int) < (l.length : Int) := by omega
      have a2 : (0 : Int) ≤ (i : Int) := by omega
      have a3 : IntKind.i64.wrap ((i : Int) + 1) = ((i + 1 : Nat) : Int) := by rw [IntKind.wrap_i64]; push_cast; omega
      obtain ⟨o, ho⟩ : ∃ o, l[i]? = some o := ⟨_, List.getElem?_eq_getElem hlt⟩
      have oko := hok o (List.mem_of_getElem? ho)
      rcases (hr.later hb) with h0 | ⟨cb, co, rfl, hcb, hcc⟩
      · rw [h0] at hlt; simp at hlt
      obtain ⟨e0, e1, e2, e3, e4⟩ := hcc i o ho
      clear hcc
      go_wp2_with (go_at_call 76; refine (do_any wd (by omega) (by omega) (by omega) o.kind o.a o.b o.K o.V oko.1.1 oko.2.1.1 oko.2.1.2 oko.2.2.1 oko.2.2.2).mono ?_; rintro e y ⟨rfl, hy, vm', vl', en, wd'⟩)
      go_roundg (l.length - (i + 1))
      case measure => have := HN.out; omega
      case rel => exact ⟨i + 1, rfl, by omega, ⟨_, _, _, _, wd', by simp; omega, by simp; omega⟩, hb.trans hy, rfl⟩
    · obtain rfl : i = l.length := by omega
      go_wp2_with fail
      exact bodyPost_ret (v := .tuple #[.pointer (some ⟨B, 0, none⟩), .bool true]) (by simp [results, Try.results38, go_sem]) rfl ⟨B, vm, vl, ks, es, rfl, hb, wd, hes, hks⟩
end Go.Proofs.MT.II
