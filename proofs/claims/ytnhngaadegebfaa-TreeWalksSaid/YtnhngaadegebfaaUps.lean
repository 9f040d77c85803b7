/- The loops over the iterators. -/
import Derived.Test.YtnhngaadegebfaaLooksLaws
import Derived.Test.YtnhngaadegebfaaIters
namespace Go.Proofs.MT.II
open Go.RowKit Go.Shelf
set_option linter.unusedVariables false
set_option linter.unusedSimpArgs false

attribute [local go_sem] Oper.semAt_some

theorem own_boxed {β : Type} (B : Nat) (t : TypeId) (f : β → Value) : Own (fun s W => Boxed W B t (f s)) := by
  intro s X Y row h hg hrow
  refine h.kept hg (fun e' => ?_)
  obtain ⟨o, ho, hc⟩ := hrow B e'.symm
  rw [show X.heap[B]? = _ from h] at ho; cases ho; cases hc
theorem own_const {β : Type} (p : β → Prop) : Own (fun s _ => p s) := fun _ _ _ _ h _ _ => h
theorem own_ex {β : Type} {γ : Type} {I : γ → β → World → Prop} (h : ∀ c, Own (I c)) : Own (fun s W => ∃ c, I c s W) := fun s X Y row ⟨c, hc⟩ hg hr => ⟨c, h c s X Y row hc hg hr⟩
theorem own_and {β : Type} {I J : β → World → Prop} (h : Own I) (k : Own J) : Own (fun s W => I s W ∧ J s W) := fun s X Y row ⟨a, b⟩ hg hr => ⟨h s X Y row a hg hr, k s X Y row b hg hr⟩
theorem Boxed.other {W : World} {B C : Nat} {t : TypeId} {v : Value} (v' : Value) (h : Boxed W B t v) (hne : B ≠ C) : Boxed (W.setCell ⟨C, 0, none⟩ v') B t v :=
  h.kept (grownBy_setCell' W C v') (by simpa using hne)
theorem Boxed.putObj {W : World} {B : Nat} {t : TypeId} {v : Value} (h : Boxed W B t v) {l : Nat} {o : Obj} (o' : Obj) (hl : W.heap[l]? = some o) (ho : o.isCells = false) : Boxed (W.putObj l o') B t v := by
  refine h.kept (grownBy_putObj' W l o') (fun e => ?_)
  obtain rfl : B = l := by simpa using e
  rw [show W.heap[B]? = _ from h] at hl; cases hl; cases ho
theorem results_bool {fn : Func} {p : Tmp} (h : fn.results = #[.cell p 4]) (tmps : Array Value) (w : World) (B : Nat) (b : Bool) (hp : tmps.getD p undef = .pointer (some ⟨B, 0, none⟩)) (hc : w.cell? ⟨B, 0, none⟩ = some (.bool b)) :
    (results fn tmps).run Try.prog w = .ok (.bool b) w := by
  have hp' : tmps[p]?.getD undef = .pointer (some ⟨B, 0, none⟩) := by simpa using hp
  simp [results, h, hp', asAddr, go_sem, hc]

/-- What the rounds have told: so many of the list, in its order. -/
def WalkI (n₀ Bn Br : Nat) (w₀ : World) (L : List (Int × Int)) (off : Nat) (pre : List (Int × Int)) (W : World) : Prop :=
  ((Boxed W Bn 3 (.int .i64 ((off + pre.length : Nat) : Int)) ∧ Boxed W Br 4 (.bool false)) ∧ pre <+: L) ∧ Below n₀ w₀ W
/-- How a round returned. -/
def WalkX (n₀ Br : Nat) (w₀ : World) (L : List (Int × Int)) (c : Code) (pre : List (Int × Int)) (W : World) : Prop :=
  ((∃ b : Bool, Boxed W Br 4 (.bool b) ∧ (b = true ∨ ¬ pre <+: L)) ∧ c = .ret) ∧ Below n₀ w₀ W
theorem WalkI.own {n₀ Bn Br B : Nat} {w₀ : World} {L : List (Int × Int)} {off : Nat} (h : n₀ ≤ w₀.heap.size) (hB : n₀ ≤ B) : OwnFrom B (WalkI n₀ Bn Br w₀ L off) :=
  OwnFrom.and (Own.from (own_and (own_and (own_boxed Bn 3 (fun pre : List (Int × Int) => .int .i64 ((off + pre.length : Nat) : Int))) (own_boxed Br 4 fun _ => .bool false)) (own_const (fun pre => pre <+: L))) _) (ownFrom_below h hB)
theorem WalkX.own {n₀ Br B : Nat} {w₀ : World} {L : List (Int × Int)} (h : n₀ ≤ w₀.heap.size) (hB : n₀ ≤ B) (c : Code) : OwnFrom B (WalkX n₀ Br w₀ L c) :=
  OwnFrom.and (Own.from (own_and (own_ex (γ := Bool) fun b => own_and (own_boxed Br 4 fun _ => .bool b) (own_const fun pre => b = true ∨ ¬ pre <+: L)) (own_const fun _ => c = .ret)) _) (ownFrom_below h hB)
theorem prefix_snoc {L pre : List (Int × Int)} (h : pre <+: L) {x : Int × Int} (hx : L[pre.length]? = some x) : pre ++ [x] <+: L := by
  obtain ⟨r, rfl⟩ := h
  cases r with
  | nil => simp at hx
  | cons y ys =>
    simp at hx
    subst hx
    exact ⟨ys, by simp⟩
theorem prefix_next {L pre : List (Int × Int)} {x : Int × Int} (h : pre ++ [x] <+: L) : L[pre.length]? = some x := by
  obtain ⟨r, rfl⟩ := h
  simp

theorem fromL_filter (q : Int) : ∀ t : T Int Int, Sorted t.toList → fromL q t = t.toList.filter fun p => !decide (p.1 < q)
  | .nil, _ => rfl
  | .node l k v r, h => by
    have h' : Sorted (l.toList ++ (k, v) :: r.toList) := h
    obtain ⟨h1, h2, h3, h4⟩ := sorted_node.1 h'
    have e : (T.node l k v r).toList = l.toList ++ (k, v) :: r.toList := rfl
    rw [e, List.filter_append, List.filter_cons]
    unfold fromL
    by_cases hk : k < q
    · rw [if_pos hk, fromL_filter q r h2]
      have : (l.toList.filter fun p => !decide (p.1 < q)) = [] := by
        rw [List.filter_eq_nil_iff]
        intro p hp
        have := h3 p hp
        simp [KOrd.lt] at this
        simp; omega
      rw [this]
      simp [hk]
    · rw [if_neg hk, fromL_filter q l h1]
      have : (r.toList.filter fun p => !decide (p.1 < q)) = r.toList := by
        rw [List.filter_eq_self]
        intro p hp
        have := h4 p hp
        simp [KOrd.lt] at this
        simp; omega
      rw [this]
      simp [hk]
theorem fromL_drop (q : Int) (t : T Int Int) (h : Sorted t.toList) : fromL q t = t.toList.drop (lessN t.toList q) := by
  rw [fromL_filter q t h]
  have hp := parts (fun x => decide (x < q)) (fun a b hab hb => by simp at *; omega) t.toList h
  have e : t.toList.drop (lessN t.toList q) = ((t.toList.filter fun p => decide (p.1 < q)) ++ t.toList.filter fun p => !decide (p.1 < q)).drop (lessN t.toList q) := congrArg _ hp
  rw [e]
  exact (List.drop_left' rfl).symm
theorem lessN_le (l : List (Int × Int)) (q : Int) : lessN l q ≤ l.length := by unfold lessN; exact List.length_filter_le _ _

set_option maxRecDepth 100000 in
set_option maxHeartbeats 4000000 in
theorem up_in (n : Nat) (hn : 3 ≤ n) (p0 : Option Addr) (t : T Int Int) (hlen : t.size ≤ 1099511627776) (A : Option Addr) (c : Nat) (most : Int) (w : World) (hL : Tr w.heap.size w p0 t) (hR : Row2 ek ev w.heap.size w A t.toList) (hc : t.toList.length ≤ c) :
    CallsIn Fence.wide n Try.prog 41 #[.agg #[.pointer p0], .slice A t.toList.length c, .int .i64 most] w fun e W' => e = .returned (.bool true) ∧ Below w.heap.size w W' := by
  have h1 : 1 ≤ n := by omega
  have hsz : t.toList.length ≤ 1099511627776 := by rw [T.length_toList]; exact hlen
  have HR := Lib.hid hR
  clear hR
  obtain ⟨N, hN⟩ : ∃ N, N = t.toList.length := ⟨_, rfl⟩
  rw [← hN] at hsz hc ⊢
  have HN := Lib.hid hN
  clear hN
  refine callsIn_of_wp_marks Try.func41 rfl trivial ?_ rfl
  simp only [Try.ntmps41, List.size_toArray, List.length_cons, List.length_nil, Nat.reduceAdd, Nat.reduceSub, Array.replicate_succ, Array.replicate_zero, List.push_toArray, List.append_toArray, List.nil_append, List.cons_append]
  gi_wp2_with (refine ⟨trivial, ?_⟩; (try refine ⟨(fun h => (by cases h)), ?_⟩); gi_at_call 55; refine (all_in (n - 1) _ _).mono ?_; rintro e w' ⟨rfl, rfl⟩)
  have bR := ((Boxed.new (((w.alloc (.cells #[.pointer p0] 28)).alloc (.cells #[.slice A N c] 22)).alloc (.cells #[.int .i64 most] 3)) 4 (.bool false)).alloc (.cells #[.int .i64 0] 3)).alloc (.cells #[.pointer p0] 28)
  have bN := (Boxed.new ((((w.alloc (.cells #[.pointer p0] 28)).alloc (.cells #[.slice A N c] 22)).alloc (.cells #[.int .i64 most] 3)).alloc (.cells #[.bool false] 4)) 3 (.int .i64 0)).alloc (.cells #[.pointer p0] 28)
  have bM := Boxed.new (((((w.alloc (.cells #[.pointer p0] 28)).alloc (.cells #[.slice A N c] 22)).alloc (.cells #[.int .i64 most] 3)).alloc (.cells #[.bool false] 4)).alloc (.cells #[.int .i64 0] 3)) 28 (.pointer p0)
  have bL := ((((Boxed.new (w.alloc (.cells #[.pointer p0] 28)) 22 (.slice A N c)).alloc (.cells #[.int .i64 most] 3)).alloc (.cells #[.bool false] 4)).alloc (.cells #[.int .i64 0] 3)).alloc (.cells #[.pointer p0] 28)
  have bK := (((Boxed.new ((w.alloc (.cells #[.pointer p0] 28)).alloc (.cells #[.slice A N c] 22)) 3 (.int .i64 most)).alloc (.cells #[.bool false] 4)).alloc (.cells #[.int .i64 0] 3)).alloc (.cells #[.pointer p0] 28)
  simp only [World.size_alloc] at bR bN bM bL bK
  have hB0 : Below w.heap.size w ((((((w.alloc (.cells #[.pointer p0] 28)).alloc (.cells #[.slice A N c] 22)).alloc (.cells #[.int .i64 most] 3)).alloc (.cells #[.bool false] 4)).alloc (.cells #[.int .i64 0] 3)).alloc (.cells #[.pointer p0] 28)) :=
    (((below_three _ _ _ _).alloc (by simp; omega) _).alloc (by simp; omega) _).alloc (by simp; omega) _
  have hsz6 : ((((((w.alloc (.cells #[.pointer p0] 28)).alloc (.cells #[.slice A N c] 22)).alloc (.cells #[.int .i64 most] 3)).alloc (.cells #[.bool false] 4)).alloc (.cells #[.int .i64 0] 3)).alloc (.cells #[.pointer p0] 28)).heap.size = w.heap.size + 1 + 1 + 1 + 1 + 1 + 1 := by simp
  generalize ((((((w.alloc (.cells #[.pointer p0] 28)).alloc (.cells #[.slice A N c] 22)).alloc (.cells #[.int .i64 most] 3)).alloc (.cells #[.bool false] 4)).alloc (.cells #[.int .i64 0] 3)).alloc (.cells #[.pointer p0] 28)) = w6 at bR bN bM bL bK hB0 hsz6 ⊢
  refine wpIn_rangeFunc_ownG rfl h1 (gf := 92) (lb := #[.pointer (some ⟨w.heap.size + 1 + 1 + 1 + 1 + 1, 0, none⟩)]) rfl trivial (enters_of Try.func92 (by kernel_rfl) rfl)
    (all_stops (n - 1) (w.heap.size + 1 + 1 + 1 + 1 + 1) (w.heap.size + 1 + 1 + 1) p0 t w6 (by omega) (by omega) bM.cell (IsTree.mono (by omega) (hL.below hB0))) belowK_t (belowK_b (by omega)) (Below.refl _ _) (fun _ => rfl)
    (WalkI (w.heap.size + 1 + 1 + 1) (w.heap.size + 1 + 1 + 1 + 1) (w.heap.size + 1 + 1 + 1) w6 (t.toList) 0)
    (WalkX (w.heap.size + 1 + 1 + 1) (w.heap.size + 1 + 1 + 1) w6 (t.toList))
    (WalkI.own (by omega) (by omega)) (WalkX.own (by omega) (by omega))
    ⟨⟨⟨bN, bR⟩, List.nil_prefix⟩, Below.refl _ _⟩
    (fun x => { tmps := #[.agg #[.pointer p0], .slice A N c, .int .i64 most, .pointer (some ⟨w.heap.size, 0, none⟩), .pointer (some ⟨w.heap.size + 1, 0, none⟩), .pointer (some ⟨w.heap.size + 1 + 1, 0, none⟩), .pointer (some ⟨w.heap.size + 1 + 1 + 1, 0, none⟩), .pointer (some ⟨w.heap.size + 1 + 1 + 1 + 1, 0, none⟩), .int .i64 x.1, .int .i64 x.2, .agg #[.pointer p0], .func (.func 92) #[] #[.pointer (some ⟨w.heap.size + 1 + 1 + 1 + 1 + 1, 0, none⟩)], .int .i64 x.1, .int .i64 x.2, undef, undef, undef, undef, undef, undef, undef, undef, undef, undef, undef, undef, undef, undef, undef, undef, undef, undef, undef, undef, undef, undef, undef, undef, undef, undef, undef, undef, undef, undef, undef, undef, undef, undef, undef], defers := [] }) ?assign ?body ?done ?stop
  case assign =>
    intro l x W K hK
    gi_wp2
    exact hK
  case body =>
    rintro l pre ⟨xk, xv⟩ W ⟨⟨⟨hn, hr⟩, hp⟩, hB⟩ hlt
    have hltN : pre.length < N := by rw [HN.out]; exact hlt
    clear hlt
    rw [Nat.zero_add] at hn
    obtain ⟨i, hi⟩ : ∃ i, i = pre.length := ⟨_, rfl⟩
    rw [← hi] at hn hltN
    have HI := Lib.hid hi
    clear hi
    have cn := hn.cell
    have fn := hn.frozen
    have cr := hr.cell
    have fr := hr.frozen
    have cl : W.cell? ⟨w.heap.size + 1, 0, none⟩ = some (.slice A N c) := (hB.cell (p := ⟨w.heap.size + 1, 0, none⟩) (show w.heap.size + 1 < w.heap.size + 1 + 1 + 1 by omega)).trans bL.cell
    have ck : W.cell? ⟨w.heap.size + 1 + 1, 0, none⟩ = some (.int .i64 most) := (hB.cell (p := ⟨w.heap.size + 1 + 1, 0, none⟩) (show w.heap.size + 1 + 1 < w.heap.size + 1 + 1 + 1 by omega)).trans bK.cell
    have hne : w.heap.size + 1 + 1 + 1 ≠ w.heap.size + 1 + 1 + 1 + 1 := by omega
    have hle3 : w.heap.size + 1 + 1 + 1 ≤ w.heap.size + 1 + 1 + 1 + 1 := by omega
    have HB := Lib.hid hB
    have HP := Lib.hid hp
    have HN' := Lib.hid hn
    clear bR bN bM bL bK hB hp hn
    have hr' := Lib.hid hr
    clear hr
    by_cases hm : most ≤ (i : Int)
    · gi_wp2
      exact ⟨(KeepsOthers.setCell _ _ _).from _, ⟨⟨true, Boxed.set _ hr'.out, .inl rfl⟩, rfl⟩, HB.out.setCell (Nat.le_refl _) _⟩
    · obtain ⟨b, o, rfl, hb, hcell⟩ : ∃ b o, A = some ⟨b, o, none⟩ ∧ b < w.heap.size ∧ ∀ j x, t.toList[j]? = some x → w.cell? ⟨b, o + j * 2, none⟩ = some (ek x.1) ∧ w.cell? ⟨b, o + j * 2 + 1, none⟩ = some (ev x.2) := by
        rcases HR.out with h | h
        · have := HN.out; rw [h] at this; simp at this; omega
        · exact h
      obtain ⟨⟨yk, yv⟩, hy⟩ : ∃ y, t.toList[i]? = some y := ⟨_, List.getElem?_eq_getElem (by rw [← HN.out]; omega)⟩
      obtain ⟨e0, e1⟩ := hcell _ _ hy
      have hHB := hB0.trans (HB.out.mono (by omega))
      have ey0 : W.cell? ⟨b, o + (i) * 2, none⟩ = some (.int .i64 yk) := (hHB.cell (p := ⟨b, _, none⟩) hb).trans e0
      have ey1 : W.cell? ⟨b, o + (i) * 2 + 1, none⟩ = some (.int .i64 yv) := (hHB.cell (p := ⟨b, _, none⟩) hb).trans e1
      have hy' : (t.toList)[i]? = some (yk, yv) := by exact hy
      have HY := Lib.hid hy'
      clear hcell e0 e1 hy hy' hHB
      have hHR := HR
      clear HR
      by_cases hk : xk = yk
      · subst hk
        by_cases hv : xv = yv
        · subst hv
          gi_wp2
          refine ⟨(KeepsOthers.setCell _ _ _).from _, (Below.refl _ _).setCell hle3 _, ⟨⟨?_, Boxed.other _ hr'.out hne⟩, prefix_snoc HP.out (by rw [← HI.out]; exact HY.out)⟩, HB.out.setCell hle3 _⟩
          have e : ((0 + (pre ++ [(xk, xv)]).length : Nat) : Int) = (i : Int) + 1 := by rw [List.length_append, ← HI.out]; simp
          rw [e]
          exact Boxed.set _ HN'.out
        · have z2 : (xv != yv) = true := by simpa using hv
          have z3 : ¬ N ≤ i := by omega
          gi_wp2
          exact ⟨(KeepsOthers.setCell _ _ _).from _, ⟨⟨false, Boxed.set _ hr'.out, .inr fun h => by
            have := prefix_next h
            rw [← HI.out, HY.out] at this
            injection this with this
            injection this with _ this
            exact hv this.symm⟩, rfl⟩, HB.out.setCell (Nat.le_refl _) _⟩
      · gi_wp2
        exact ⟨(KeepsOthers.setCell _ _ _).from _, ⟨⟨false, Boxed.set _ hr'.out, .inr fun h => by
            have := prefix_next h
            rw [← HI.out, HY.out] at this
            injection this with this
            injection this with this
            exact hk this.symm⟩, rfl⟩, HB.out.setCell (Nat.le_refl _) _⟩
  case done =>
    rintro D ys W hD rfl ⟨⟨⟨hn, hr⟩, hp⟩, hB⟩ hK
    have cl : W.cell? ⟨w.heap.size + 1, 0, none⟩ = some (.slice A N c) := (hB.cell (p := ⟨w.heap.size + 1, 0, none⟩) (show w.heap.size + 1 < w.heap.size + 1 + 1 + 1 by omega)).trans bL.cell
    have eN : ((0 + (t.toList).length : Nat) : Int) = (N : Int) := by rw [Nat.zero_add]; rw [← HN.out]
    rw [eN] at hn
    have cn := hn.cell
    have cr := hr.cell
    have fr := hr.frozen
    have hr' := Lib.hid hr
    have HB := Lib.hid hB
    clear hB hr bR bN bM bL bK hn hp
    have HK := Lib.hid hK
    clear hK
    gi_wp2
    refine ⟨by simp, .inl ⟨_, _, rfl, run_takeDeferred (by rw [Below.heap_setCell _ _ _ _ (by simp; omega)]; exact HK.out), ?_⟩⟩
    refine ⟨_, results_bool rfl _ _ _ true rfl ((Boxed.putObj (Boxed.set _ hr'.out) _ (by rw [Below.heap_setCell _ _ _ _ (by simp; omega)]; exact HK.out) rfl).cell), rfl, ?_⟩
    exact (hB0.trans ((HB.out.setCell (Nat.le_refl _) _).mono (by omega))).trans ((belowK_b (w := w6) (n₀ := w.heap.size) (by omega) _ D _ _ hD (by rw [Below.heap_setCell _ _ _ _ (by simp; omega)]; exact HK.out) rfl rfl))
  case stop =>
    rintro D cc pre W hD hSp ⟨⟨⟨b, hr, hb⟩, rfl⟩, hB⟩ hK
    obtain rfl : b = true := by
      rcases hb with h | h
      · exact h
      · exact absurd hSp h
    have hr' := Lib.hid hr
    have HB := Lib.hid hB
    have cr := hr.cell
    clear hB hr bR bN bM bL bK
    have HK := Lib.hid hK
    clear hK
    gi_wp2
    refine ⟨by simp, .inl ⟨_, _, rfl, run_takeDeferred HK.out, ?_⟩⟩
    refine ⟨_, results_bool rfl _ _ _ true rfl ((Boxed.putObj hr'.out _ HK.out rfl).cell), rfl, ?_⟩
    exact (hB0.trans (HB.out.mono (by omega))).trans (belowK_b (w := w6) (n₀ := w.heap.size) (by omega) _ D _ _ hD HK.out rfl rfl)

set_option maxRecDepth 100000 in
set_option maxHeartbeats 4000000 in
theorem down_in (n : Nat) (hn : 3 ≤ n) (p0 : Option Addr) (t : T Int Int) (hlen : t.size ≤ 1099511627776) (A : Option Addr) (c : Nat) (most : Int) (w : World) (hL : Tr w.heap.size w p0 t) (hR : Row2 ek ev w.heap.size w A t.toList) (hc : t.toList.length ≤ c) :
    CallsIn Fence.wide n Try.prog 43 #[.agg #[.pointer p0], .slice A t.toList.length c, .int .i64 most] w fun e W' => e = .returned (.bool true) ∧ Below w.heap.size w W' := by
  have h1 : 1 ≤ n := by omega
  have hsz : t.toList.length ≤ 1099511627776 := by rw [T.length_toList]; exact hlen
  have HR := Lib.hid hR
  clear hR
  obtain ⟨N, hN⟩ : ∃ N, N = t.toList.length := ⟨_, rfl⟩
  rw [← hN] at hsz hc ⊢
  have HN := Lib.hid hN
  clear hN
  refine callsIn_of_wp_marks Try.func43 rfl trivial ?_ rfl
  simp only [Try.ntmps43, List.size_toArray, List.length_cons, List.length_nil, Nat.reduceAdd, Nat.reduceSub, Array.replicate_succ, Array.replicate_zero, List.push_toArray, List.append_toArray, List.nil_append, List.cons_append]
  gi_wp2_with (refine ⟨trivial, ?_⟩; (try refine ⟨(fun h => (by cases h)), ?_⟩); gi_at_call 80; refine (back_in (n - 1) _ _).mono ?_; rintro e w' ⟨rfl, rfl⟩)
  have bR := ((Boxed.new (((w.alloc (.cells #[.pointer p0] 28)).alloc (.cells #[.slice A N c] 22)).alloc (.cells #[.int .i64 most] 3)) 4 (.bool false)).alloc (.cells #[.int .i64 0] 3)).alloc (.cells #[.pointer p0] 28)
  have bN := (Boxed.new ((((w.alloc (.cells #[.pointer p0] 28)).alloc (.cells #[.slice A N c] 22)).alloc (.cells #[.int .i64 most] 3)).alloc (.cells #[.bool false] 4)) 3 (.int .i64 0)).alloc (.cells #[.pointer p0] 28)
  have bM := Boxed.new (((((w.alloc (.cells #[.pointer p0] 28)).alloc (.cells #[.slice A N c] 22)).alloc (.cells #[.int .i64 most] 3)).alloc (.cells #[.bool false] 4)).alloc (.cells #[.int .i64 0] 3)) 28 (.pointer p0)
  have bL := ((((Boxed.new (w.alloc (.cells #[.pointer p0] 28)) 22 (.slice A N c)).alloc (.cells #[.int .i64 most] 3)).alloc (.cells #[.bool false] 4)).alloc (.cells #[.int .i64 0] 3)).alloc (.cells #[.pointer p0] 28)
  have bK := (((Boxed.new ((w.alloc (.cells #[.pointer p0] 28)).alloc (.cells #[.slice A N c] 22)) 3 (.int .i64 most)).alloc (.cells #[.bool false] 4)).alloc (.cells #[.int .i64 0] 3)).alloc (.cells #[.pointer p0] 28)
  simp only [World.size_alloc] at bR bN bM bL bK
  have hB0 : Below w.heap.size w ((((((w.alloc (.cells #[.pointer p0] 28)).alloc (.cells #[.slice A N c] 22)).alloc (.cells #[.int .i64 most] 3)).alloc (.cells #[.bool false] 4)).alloc (.cells #[.int .i64 0] 3)).alloc (.cells #[.pointer p0] 28)) :=
    (((below_three _ _ _ _).alloc (by simp; omega) _).alloc (by simp; omega) _).alloc (by simp; omega) _
  have hsz6 : ((((((w.alloc (.cells #[.pointer p0] 28)).alloc (.cells #[.slice A N c] 22)).alloc (.cells #[.int .i64 most] 3)).alloc (.cells #[.bool false] 4)).alloc (.cells #[.int .i64 0] 3)).alloc (.cells #[.pointer p0] 28)).heap.size = w.heap.size + 1 + 1 + 1 + 1 + 1 + 1 := by simp
  generalize ((((((w.alloc (.cells #[.pointer p0] 28)).alloc (.cells #[.slice A N c] 22)).alloc (.cells #[.int .i64 most] 3)).alloc (.cells #[.bool false] 4)).alloc (.cells #[.int .i64 0] 3)).alloc (.cells #[.pointer p0] 28)) = w6 at bR bN bM bL bK hB0 hsz6 ⊢
  refine wpIn_rangeFunc_ownG rfl h1 (gf := 113) (lb := #[.pointer (some ⟨w.heap.size + 1 + 1 + 1 + 1 + 1, 0, none⟩)]) rfl trivial (enters_of Try.func113 (by kernel_rfl) rfl)
    (back_stops (n - 1) (w.heap.size + 1 + 1 + 1 + 1 + 1) (w.heap.size + 1 + 1 + 1) p0 t w6 (by omega) (by omega) bM.cell (IsTree.mono (by omega) (hL.below hB0))) belowK_t (belowK_b (by omega)) (Below.refl _ _) (fun _ => rfl)
    (WalkI (w.heap.size + 1 + 1 + 1) (w.heap.size + 1 + 1 + 1 + 1) (w.heap.size + 1 + 1 + 1) w6 (t.toList.reverse) 0)
    (WalkX (w.heap.size + 1 + 1 + 1) (w.heap.size + 1 + 1 + 1) w6 (t.toList.reverse))
    (WalkI.own (by omega) (by omega)) (WalkX.own (by omega) (by omega))
    ⟨⟨⟨bN, bR⟩, List.nil_prefix⟩, Below.refl _ _⟩
    (fun x => { tmps := #[.agg #[.pointer p0], .slice A N c, .int .i64 most, .pointer (some ⟨w.heap.size, 0, none⟩), .pointer (some ⟨w.heap.size + 1, 0, none⟩), .pointer (some ⟨w.heap.size + 1 + 1, 0, none⟩), .pointer (some ⟨w.heap.size + 1 + 1 + 1, 0, none⟩), .pointer (some ⟨w.heap.size + 1 + 1 + 1 + 1, 0, none⟩), .int .i64 x.1, .int .i64 x.2, .agg #[.pointer p0], .func (.func 113) #[] #[.pointer (some ⟨w.heap.size + 1 + 1 + 1 + 1 + 1, 0, none⟩)], .int .i64 x.1, .int .i64 x.2, undef, undef, undef, undef, undef, undef, undef, undef, undef, undef, undef, undef, undef, undef, undef, undef, undef, undef, undef, undef, undef, undef, undef, undef, undef, undef, undef, undef, undef, undef, undef, undef, undef, undef, undef, undef, undef, undef, undef, undef, undef, undef, undef], defers := [] }) ?assign ?body ?done ?stop
  case assign =>
    intro l x W K hK
    gi_wp2
    exact hK
  case body =>
    rintro l pre ⟨xk, xv⟩ W ⟨⟨⟨hn, hr⟩, hp⟩, hB⟩ hlt
    have hltN : pre.length < N := by rw [HN.out]; exact hlt
    clear hlt
    rw [Nat.zero_add] at hn
    obtain ⟨i, hi⟩ : ∃ i, i = pre.length := ⟨_, rfl⟩
    rw [← hi] at hn hltN
    have HI := Lib.hid hi
    clear hi
    have cn := hn.cell
    have fn := hn.frozen
    have cr := hr.cell
    have fr := hr.frozen
    have cl : W.cell? ⟨w.heap.size + 1, 0, none⟩ = some (.slice A N c) := (hB.cell (p := ⟨w.heap.size + 1, 0, none⟩) (show w.heap.size + 1 < w.heap.size + 1 + 1 + 1 by omega)).trans bL.cell
    have ck : W.cell? ⟨w.heap.size + 1 + 1, 0, none⟩ = some (.int .i64 most) := (hB.cell (p := ⟨w.heap.size + 1 + 1, 0, none⟩) (show w.heap.size + 1 + 1 < w.heap.size + 1 + 1 + 1 by omega)).trans bK.cell
    have hne : w.heap.size + 1 + 1 + 1 ≠ w.heap.size + 1 + 1 + 1 + 1 := by omega
    have hle3 : w.heap.size + 1 + 1 + 1 ≤ w.heap.size + 1 + 1 + 1 + 1 := by omega
    have HB := Lib.hid hB
    have HP := Lib.hid hp
    have HN' := Lib.hid hn
    clear bR bN bM bL bK hB hp hn
    have hr' := Lib.hid hr
    clear hr
    by_cases hm : most ≤ (i : Int)
    · gi_wp2
      exact ⟨(KeepsOthers.setCell _ _ _).from _, ⟨⟨true, Boxed.set _ hr'.out, .inl rfl⟩, rfl⟩, HB.out.setCell (Nat.le_refl _) _⟩
    · obtain ⟨b, o, rfl, hb, hcell⟩ : ∃ b o, A = some ⟨b, o, none⟩ ∧ b < w.heap.size ∧ ∀ j x, t.toList[j]? = some x → w.cell? ⟨b, o + j * 2, none⟩ = some (ek x.1) ∧ w.cell? ⟨b, o + j * 2 + 1, none⟩ = some (ev x.2) := by
        rcases HR.out with h | h
        · have := HN.out; rw [h] at this; simp at this; omega
        · exact h
      obtain ⟨⟨yk, yv⟩, hy⟩ : ∃ y, t.toList[N - 1 - i]? = some y := ⟨_, List.getElem?_eq_getElem (by rw [← HN.out]; omega)⟩
      obtain ⟨e0, e1⟩ := hcell _ _ hy
      have hHB := hB0.trans (HB.out.mono (by omega))
      have ey0 : W.cell? ⟨b, o + (N - 1 - i) * 2, none⟩ = some (.int .i64 yk) := (hHB.cell (p := ⟨b, _, none⟩) hb).trans e0
      have ey1 : W.cell? ⟨b, o + (N - 1 - i) * 2 + 1, none⟩ = some (.int .i64 yv) := (hHB.cell (p := ⟨b, _, none⟩) hb).trans e1
      have hy' : (t.toList.reverse)[i]? = some (yk, yv) := by rw [List.getElem?_reverse (by rw [← HN.out]; omega), ← HN.out]; exact hy
      have HY := Lib.hid hy'
      clear hcell e0 e1 hy hy' hHB
      have z1 : (1 : Int) ≤ (N : Int) := by omega
      have hHR := HR
      clear HR
      by_cases hk : xk = yk
      · subst hk
        by_cases hv : xv = yv
        · subst hv
          gi_wp2
          refine ⟨(KeepsOthers.setCell _ _ _).from _, (Below.refl _ _).setCell hle3 _, ⟨⟨?_, Boxed.other _ hr'.out hne⟩, prefix_snoc HP.out (by rw [← HI.out]; exact HY.out)⟩, HB.out.setCell hle3 _⟩
          have e : ((0 + (pre ++ [(xk, xv)]).length : Nat) : Int) = (i : Int) + 1 := by rw [List.length_append, ← HI.out]; simp
          rw [e]
          exact Boxed.set _ HN'.out
        · have z2 : (xv != yv) = true := by simpa using hv
          have z3 : ¬ N ≤ i := by omega
          gi_wp2
          exact ⟨(KeepsOthers.setCell _ _ _).from _, ⟨⟨false, Boxed.set _ hr'.out, .inr fun h => by
            have := prefix_next h
            rw [← HI.out, HY.out] at this
            injection this with this
            injection this with _ this
            exact hv this.symm⟩, rfl⟩, HB.out.setCell (Nat.le_refl _) _⟩
      · gi_wp2
        exact ⟨(KeepsOthers.setCell _ _ _).from _, ⟨⟨false, Boxed.set _ hr'.out, .inr fun h => by
            have := prefix_next h
            rw [← HI.out, HY.out] at this
            injection this with this
            injection this with this
            exact hk this.symm⟩, rfl⟩, HB.out.setCell (Nat.le_refl _) _⟩
  case done =>
    rintro D ys W hD rfl ⟨⟨⟨hn, hr⟩, hp⟩, hB⟩ hK
    have cl : W.cell? ⟨w.heap.size + 1, 0, none⟩ = some (.slice A N c) := (hB.cell (p := ⟨w.heap.size + 1, 0, none⟩) (show w.heap.size + 1 < w.heap.size + 1 + 1 + 1 by omega)).trans bL.cell
    have eN : ((0 + (t.toList.reverse).length : Nat) : Int) = (N : Int) := by rw [Nat.zero_add]; rw [List.length_reverse, ← HN.out]
    rw [eN] at hn
    have cn := hn.cell
    have cr := hr.cell
    have fr := hr.frozen
    have hr' := Lib.hid hr
    have HB := Lib.hid hB
    clear hB hr bR bN bM bL bK hn hp
    have HK := Lib.hid hK
    clear hK
    gi_wp2
    refine ⟨by simp, .inl ⟨_, _, rfl, run_takeDeferred (by rw [Below.heap_setCell _ _ _ _ (by simp; omega)]; exact HK.out), ?_⟩⟩
    refine ⟨_, results_bool rfl _ _ _ true rfl ((Boxed.putObj (Boxed.set _ hr'.out) _ (by rw [Below.heap_setCell _ _ _ _ (by simp; omega)]; exact HK.out) rfl).cell), rfl, ?_⟩
    exact (hB0.trans ((HB.out.setCell (Nat.le_refl _) _).mono (by omega))).trans ((belowK_b (w := w6) (n₀ := w.heap.size) (by omega) _ D _ _ hD (by rw [Below.heap_setCell _ _ _ _ (by simp; omega)]; exact HK.out) rfl rfl))
  case stop =>
    rintro D cc pre W hD hSp ⟨⟨⟨b, hr, hb⟩, rfl⟩, hB⟩ hK
    obtain rfl : b = true := by
      rcases hb with h | h
      · exact h
      · exact absurd hSp h
    have hr' := Lib.hid hr
    have HB := Lib.hid hB
    have cr := hr.cell
    clear hB hr bR bN bM bL bK
    have HK := Lib.hid hK
    clear hK
    gi_wp2
    refine ⟨by simp, .inl ⟨_, _, rfl, run_takeDeferred HK.out, ?_⟩⟩
    refine ⟨_, results_bool rfl _ _ _ true rfl ((Boxed.putObj hr'.out _ HK.out rfl).cell), rfl, ?_⟩
    exact (hB0.trans (HB.out.mono (by omega))).trans (belowK_b (w := w6) (n₀ := w.heap.size) (by omega) _ D _ _ hD HK.out rfl rfl)

set_option maxRecDepth 100000 in
set_option maxHeartbeats 4000000 in
theorem from_in' (n : Nat) (hn : 3 ≤ n) (p0 : Option Addr) (t : T Int Int) (hlen : t.size ≤ 1099511627776) (hso : Sorted t.toList) (A : Option Addr) (c : Nat) (at_ most : Int) (hm0 : 0 ≤ most) (hm1 : most ≤ 1099511627777) (bad : Nat → Prop) (w : World) (hL : Tr w.heap.size w p0 t) (hH : Holds w bad (.slice A t.toList.length c) t.toList) (hR : Row2 ek ev w.heap.size w A t.toList) (hc : t.toList.length ≤ c) :
    CallsIn Fence.wide n Try.prog 42 #[.agg #[.pointer p0], .slice A t.toList.length c, .int .i64 at_, .int .i64 most] w fun e W' => e = .returned (.bool true) ∧ Below w.heap.size w W' := by
  have h1 : 1 ≤ n := by omega
  have hsz : t.toList.length ≤ 1099511627776 := by rw [T.length_toList]; exact hlen
  have HR := Lib.hid hR
  clear hR
  have HRK : ∀ y, Below w.heap.size w y → CallsIn Fence.wide (n - 1) Try.prog 78 #[.slice A t.toList.length c, .int .i64 at_] y fun e w' => e = .returned (.int .i64 (lessN t.toList at_)) ∧ Below y.heap.size y w' := fun y hy =>
    callsIn_wide.2 (refRank (hH.later hy) hso hlen at_)
  obtain ⟨r, hr⟩ : ∃ r, r = lessN t.toList at_ := ⟨_, rfl⟩
  have hrN : r ≤ t.toList.length := by rw [hr]; exact lessN_le _ _
  have hD := fromL_drop at_ t hso
  rw [← hr] at HRK hD
  clear hr
  obtain ⟨N, hN⟩ : ∃ N, N = t.toList.length := ⟨_, rfl⟩
  rw [← hN] at hsz hc hrN HRK ⊢
  have HN := Lib.hid hN
  clear hN
  have HD := Lib.hid hD
  clear hD
  have HK := Lib.hid HRK
  clear HRK
  have hb3 : Below w.heap.size w (((w.alloc (.cells #[.pointer p0] 28)).alloc (.cells #[.slice A N c] 22)).alloc (.cells #[.bool false] 4)) := below_three _ _ _ _
  have bL0 := (Boxed.new (w.alloc (.cells #[.pointer p0] 28)) 22 (.slice A N c)).alloc (.cells #[.bool false] 4)
  have bQz := ((Boxed.new w 28 (.pointer p0)).alloc (.cells #[.slice A N c] 22)).alloc (.cells #[.bool false] 4)
  have bR0 := Boxed.new ((w.alloc (.cells #[.pointer p0] 28)).alloc (.cells #[.slice A N c] 22)) 4 (.bool false)
  simp only [World.size_alloc] at bL0 bR0
  have hs3 : (((w.alloc (.cells #[.pointer p0] 28)).alloc (.cells #[.slice A N c] 22)).alloc (.cells #[.bool false] 4)).heap.size = w.heap.size + 1 + 1 + 1 := by simp
  refine callsIn_of_wp_marks Try.func42 rfl trivial ?_ rfl
  simp only [Try.ntmps42, List.size_toArray, List.length_cons, List.length_nil, Nat.reduceAdd, Nat.reduceSub, Array.replicate_succ, Array.replicate_zero, List.push_toArray, List.append_toArray, List.nil_append, List.cons_append]
  gi_wp2_with (refine ⟨trivial, ?_⟩; (try refine ⟨(fun h => (by cases h)), ?_⟩); first
    | (gi_at_call 78; refine (HK.out _ hb3).mono ?_; rintro e w4 ⟨rfl, hb4⟩; have cP := (hb4.cell (p := ⟨w.heap.size, 0, none⟩) (show w.heap.size < _ by simp; omega)).trans bQz.cell; have hz4 : w.heap.size + 1 + 1 + 1 ≤ w4.heap.size := (by have := hb4.size; rw [hs3] at this; exact this); have hz0 : w.heap.size < w4.heap.size := (by omega); have hz1 : w.heap.size + 1 < w4.heap.size := (by omega); have hz2 : w.heap.size + 1 + 1 < w4.heap.size := (by omega))
    | (gi_at_call 79; refine (from_in (n - 1) _ _ _).mono ?_; rintro e w' ⟨rfl, rfl⟩))
  have hB46 : Below w4.heap.size w4 ((((w4.alloc (.cells #[.int .i64 (r : Int)] 3)).alloc (.cells #[.int .i64 ((r : Int) + most)] 3)).alloc (.cells #[.pointer p0] 28)).alloc (.cells #[.int .i64 at_] 3)) := (below_three _ _ _ _).alloc (by simp; omega) _
  have bN := (((Boxed.new w4 3 (.int .i64 (r : Int))).alloc (.cells #[.int .i64 ((r : Int) + most)] 3)).alloc (.cells #[.pointer p0] 28)).alloc (.cells #[.int .i64 at_] 3)
  have bE := ((Boxed.new (w4.alloc (.cells #[.int .i64 (r : Int)] 3)) 3 (.int .i64 ((r : Int) + most))).alloc (.cells #[.pointer p0] 28)).alloc (.cells #[.int .i64 at_] 3)
  have bM := (Boxed.new ((w4.alloc (.cells #[.int .i64 (r : Int)] 3)).alloc (.cells #[.int .i64 ((r : Int) + most)] 3)) 28 (.pointer p0)).alloc (.cells #[.int .i64 at_] 3)
  have bQ := Boxed.new (((w4.alloc (.cells #[.int .i64 (r : Int)] 3)).alloc (.cells #[.int .i64 ((r : Int) + most)] 3)).alloc (.cells #[.pointer p0] 28)) 3 (.int .i64 at_)
  simp only [World.size_alloc] at bN bE bM bQ
  have hs6 : ((((w4.alloc (.cells #[.int .i64 (r : Int)] 3)).alloc (.cells #[.int .i64 ((r : Int) + most)] 3)).alloc (.cells #[.pointer p0] 28)).alloc (.cells #[.int .i64 at_] 3)).heap.size = w4.heap.size + 1 + 1 + 1 + 1 := by simp
  generalize ((((w4.alloc (.cells #[.int .i64 (r : Int)] 3)).alloc (.cells #[.int .i64 ((r : Int) + most)] 3)).alloc (.cells #[.pointer p0] 28)).alloc (.cells #[.int .i64 at_] 3)) = w6 at hB46 bN bE bM bQ hs6 ⊢
  have hB36 := hb4.trans (hB46.mono hb4.size)
  have bL : Boxed w6 (w.heap.size + 1) 22 (.slice A N c) := (hB36.block _ bL0.lt).trans bL0
  have bR : Boxed w6 (w.heap.size + 1 + 1) 4 (.bool false) := (hB36.block _ bR0.lt).trans bR0
  have hB0 : Below w.heap.size w w6 := hb3.trans (hB36.mono (by omega))
  clear hb3 hb4 hB46 hB36 bL0 bR0 bQz cP
  refine wpIn_rangeFunc_ownG rfl h1 (gf := 112) (lb := #[.pointer (some ⟨w4.heap.size + 1 + 1, 0, none⟩), .pointer (some ⟨w4.heap.size + 1 + 1 + 1, 0, none⟩)]) rfl trivial (enters_of Try.func112 (by kernel_rfl) rfl)
    (from_stops (n - 1) (w4.heap.size + 1 + 1) (w4.heap.size + 1 + 1 + 1) (w.heap.size + 1 + 1) p0 t at_ w6 (by omega) bQ (by omega) bM.cell (IsTree.mono (by omega) (hL.below hB0))) KB.t (KB.b (by omega) (by omega)) (Below.refl _ _) (fun _ => rfl)
    (fun pre W => WalkI (w.heap.size + 1 + 1) w4.heap.size (w.heap.size + 1 + 1) w6 (fromL at_ t) r pre W ∧ Boxed W (w4.heap.size + 1) 3 (.int .i64 ((r : Int) + most)))
    (WalkX (w.heap.size + 1 + 1) (w.heap.size + 1 + 1) w6 (fromL at_ t))
    (OwnFrom.and (WalkI.own (by omega) (by omega)) (Own.from (own_boxed (w4.heap.size + 1) 3 (fun _ : List (Int × Int) => .int .i64 ((r : Int) + most))) _)) (WalkX.own (by omega) (by omega))
    ⟨⟨⟨⟨bN, bR⟩, List.nil_prefix⟩, Below.refl _ _⟩, bE⟩
    (fun x => { tmps := #[.agg #[.pointer p0], .slice A N c, .int .i64 at_, .int .i64 most, .pointer (some ⟨w.heap.size, 0, none⟩), .pointer (some ⟨w.heap.size + 1, 0, none⟩), undef, undef, .pointer (some ⟨w.heap.size + 1 + 1, 0, none⟩), .pointer (some ⟨w4.heap.size, 0, none⟩), .pointer (some ⟨w4.heap.size + 1, 0, none⟩), .int .i64 x.1, .int .i64 x.2, .slice A N c, .int .i64 at_, .int .i64 (r : Int), .int .i64 (r : Int), .int .i64 most, .int .i64 ((r : Int) + most), .agg #[.pointer p0], .int .i64 at_, .func (.func 112) #[] #[.pointer (some ⟨w4.heap.size + 1 + 1, 0, none⟩), .pointer (some ⟨w4.heap.size + 1 + 1 + 1, 0, none⟩)], .int .i64 x.1, .int .i64 x.2, undef, undef, undef, undef, undef, undef, undef, undef, undef, undef, undef, undef, undef, undef, undef, undef, undef, undef, undef, undef, undef, undef, undef, undef, undef, undef, undef, undef, undef, undef, undef, undef, undef, undef, undef], defers := [] }) ?assign ?body ?done ?stop
  case assign =>
    intro l x W K hK
    gi_wp2
    exact hK
  case body =>
    rintro l pre ⟨xk, xv⟩ W ⟨⟨⟨⟨hn, hr⟩, hp⟩, hB⟩, hE⟩ hlt
    have hlL : (fromL at_ t).length = N - r := by rw [HD.out, List.length_drop, ← HN.out]
    rw [hlL] at hlt
    obtain ⟨i, hi⟩ : ∃ i, i = r + pre.length := ⟨_, rfl⟩
    have hltN : i < N := by omega
    have hri : r ≤ i := by omega
    clear hlt hlL
    rw [← hi] at hn
    have HI := Lib.hid hi
    clear hi
    have cn := hn.cell
    have fn := hn.frozen
    have cr := hr.cell
    have fr := hr.frozen
    have ce := hE.cell
    have cl : W.cell? ⟨w.heap.size + 1, 0, none⟩ = some (.slice A N c) := (hB.cell (p := ⟨w.heap.size + 1, 0, none⟩) (show w.heap.size + 1 < w.heap.size + 1 + 1 by omega)).trans bL.cell
    have hne : w.heap.size + 1 + 1 ≠ w4.heap.size := by omega
    have hneE : w4.heap.size + 1 ≠ w4.heap.size := by omega
    have hle2 : w.heap.size + 1 + 1 ≤ w4.heap.size := by omega
    have hneQ : w4.heap.size + 1 + 1 + 1 ≠ w4.heap.size := by omega
    have hneQ' : w4.heap.size + 1 + 1 + 1 ≠ w.heap.size + 1 + 1 := by omega
    have HB := Lib.hid hB
    have HP := Lib.hid hp
    have HN' := Lib.hid hn
    have HE' := Lib.hid hE
    clear bR bN bM bL bE bQ hB hp hn hE
    have hr' := Lib.hid hr
    clear hr
    by_cases hm : (r : Int) + most ≤ (i : Int)
    · gi_wp2
      exact ⟨(KeepsOthers.setCell _ _ _).from _, ⟨⟨true, Boxed.set _ hr'.out, .inl rfl⟩, rfl⟩, HB.out.setCell (Nat.le_refl _) _⟩
    · obtain ⟨b, o, rfl, hb, hcell⟩ : ∃ b o, A = some ⟨b, o, none⟩ ∧ b < w.heap.size ∧ ∀ j x, t.toList[j]? = some x → w.cell? ⟨b, o + j * 2, none⟩ = some (ek x.1) ∧ w.cell? ⟨b, o + j * 2 + 1, none⟩ = some (ev x.2) := by
        rcases HR.out with h | h
        · have := HN.out; rw [h] at this; simp at this; omega
        · exact h
      obtain ⟨⟨yk, yv⟩, hy⟩ : ∃ y, t.toList[i]? = some y := ⟨_, List.getElem?_eq_getElem (by rw [← HN.out]; omega)⟩
      obtain ⟨e0, e1⟩ := hcell _ _ hy
      have hHB := hB0.trans (HB.out.mono (by omega))
      have ey0 : W.cell? ⟨b, o + i * 2, none⟩ = some (.int .i64 yk) := (hHB.cell (p := ⟨b, _, none⟩) hb).trans e0
      have ey1 : W.cell? ⟨b, o + i * 2 + 1, none⟩ = some (.int .i64 yv) := (hHB.cell (p := ⟨b, _, none⟩) hb).trans e1
      have hy' : (fromL at_ t)[pre.length]? = some (yk, yv) := by rw [HD.out, List.getElem?_drop, ← HI.out]; exact hy
      have HY := Lib.hid hy'
      clear hcell e0 e1 hy hy' hHB
      have hHR := HR
      clear HR
      by_cases hk : xk = yk
      · subst hk
        by_cases hv : xv = yv
        · subst hv
          gi_wp2
          refine ⟨(KeepsOthers.setCell _ _ _).from _, ⟨(Below.refl _ _).setCell hle2 _, Below.heap_setCell _ _ _ _ hneQ⟩, ⟨⟨⟨?_, Boxed.other _ hr'.out hne⟩, prefix_snoc HP.out HY.out⟩, HB.out.setCell hle2 _⟩, Boxed.other _ HE'.out hneE⟩
          have e : ((r + (pre ++ [(xk, xv)]).length : Nat) : Int) = (i : Int) + 1 := by rw [List.length_append, HI.out]; simp; omega
          rw [e]
          exact Boxed.set _ HN'.out
        · have z2 : (xv != yv) = true := by simpa using hv
          have z3 : ¬ N ≤ i := by omega
          gi_wp2
          exact ⟨(KeepsOthers.setCell _ _ _).from _, ⟨⟨false, Boxed.set _ hr'.out, .inr fun h => by
            have := prefix_next h
            rw [HY.out] at this
            injection this with this
            injection this with _ this
            exact hv this.symm⟩, rfl⟩, HB.out.setCell (Nat.le_refl _) _⟩
      · gi_wp2
        exact ⟨(KeepsOthers.setCell _ _ _).from _, ⟨⟨false, Boxed.set _ hr'.out, .inr fun h => by
            have := prefix_next h
            rw [HY.out] at this
            injection this with this
            injection this with this
            exact hk this.symm⟩, rfl⟩, HB.out.setCell (Nat.le_refl _) _⟩
  case done =>
    rintro D ys W hD rfl ⟨⟨⟨⟨hn, hr⟩, hp⟩, hB⟩, hE⟩ hK
    have cl : W.cell? ⟨w.heap.size + 1, 0, none⟩ = some (.slice A N c) := (hB.cell (p := ⟨w.heap.size + 1, 0, none⟩) (show w.heap.size + 1 < w.heap.size + 1 + 1 by omega)).trans bL.cell
    have eN : ((r + (fromL at_ t).length : Nat) : Int) = (N : Int) := by rw [HD.out, List.length_drop, ← HN.out]; omega
    rw [eN] at hn
    have cn := hn.cell
    have cr := hr.cell
    have fr := hr.frozen
    have hr' := Lib.hid hr
    have HB := Lib.hid hB
    clear hB hr bR bN bM bL bE bQ hE hn hp
    have HK := Lib.hid hK
    clear hK
    gi_wp2
    refine ⟨by simp, .inl ⟨_, _, rfl, run_takeDeferred (by rw [Below.heap_setCell _ _ _ _ (by simp; omega)]; exact HK.out), ?_⟩⟩
    refine ⟨_, results_bool rfl _ _ _ true rfl ((Boxed.putObj (Boxed.set _ hr'.out) _ (by rw [Below.heap_setCell _ _ _ _ (by simp; omega)]; exact HK.out) rfl).cell), rfl, ?_⟩
    exact (hB0.trans ((HB.out.setCell (Nat.le_refl _) _).mono (by omega))).trans ((belowK_b (w := w6) (n₀ := w.heap.size) (by omega) _ D _ _ hD (by rw [Below.heap_setCell _ _ _ _ (by simp; omega)]; exact HK.out) rfl rfl))
  case stop =>
    rintro D cc pre W hD hSp ⟨⟨⟨b, hr, hb⟩, rfl⟩, hB⟩ hK
    obtain rfl : b = true := by
      rcases hb with h | h
      · exact h
      · exact absurd hSp h
    have hr' := Lib.hid hr
    have HB := Lib.hid hB
    have cr := hr.cell
    clear hB hr bR bN bM bL bE bQ
    have HK := Lib.hid hK
    clear hK
    gi_wp2
    refine ⟨by simp, .inl ⟨_, _, rfl, run_takeDeferred HK.out, ?_⟩⟩
    refine ⟨_, results_bool rfl _ _ _ true rfl ((Boxed.putObj hr'.out _ HK.out rfl).cell), rfl, ?_⟩
    exact (hB0.trans (HB.out.mono (by omega))).trans (belowK_b (w := w6) (n₀ := w.heap.size) (by omega) _ D _ _ hD HK.out rfl rfl)

end Go.Proofs.MT.II
