/- Diff: two sorted rows of pairs, merged into changes. -/
import Derived.Test.YtnhngaadegebfaaList
import Derived.BigQuiet
import Derived.BigRegion
import Derived.Deep.QuietTactic
namespace Go.Proofs.MT.II
open Go.RowKit Go.Proofs.YtnhngaadegebfaaW.PrintLast Go.Proofs.YtnhngaadegebfaaW.PrintWords
set_option linter.unusedVariables false
set_option linter.unusedSimpArgs false

/-- A change: the key, the value before, the value behind, whether there was one, whether there is one. -/
structure Ch where
  key : Int
  old : Int
  new : Int
  had : Bool
  has : Bool

def diffL (x y : List (Int × Int)) : List Ch :=
  match x, y with
  | [], [] => []
  | p :: x, [] => ⟨p.1, p.2, 0, true, false⟩ :: diffL x []
  | [], q :: y => ⟨q.1, 0, q.2, false, true⟩ :: diffL [] y
  | p :: x, q :: y =>
    if p.1 < q.1 then ⟨p.1, p.2, 0, true, false⟩ :: diffL x (q :: y)
    else if q.1 < p.1 then ⟨q.1, 0, q.2, false, true⟩ :: diffL (p :: x) y
    else (if p.2 = q.2 then [] else [⟨q.1, p.2, q.2, true, true⟩]) ++ diffL x y
termination_by x.length + y.length

def flatC (l : List Ch) : List Value := l.flatMap fun c => [.int .i64 c.key, .int .i64 c.old, .int .i64 c.new, .bool c.had, .bool c.has]
theorem flatC_snoc (l : List Ch) (c : Ch) : flatC (l ++ [c]) = flatC l ++ [.int .i64 c.key, .int .i64 c.old, .int .i64 c.new, .bool c.had, .bool c.has] := by simp [flatC]
theorem info91 : (Try.prog.info? 91).map (fun i => (i.zero, i.size, i.bytes)) = some (some (.agg #[.int .i64 0, .int .i64 0, .int .i64 0, .bool false, .bool false]), 5, 32) := by kernel_rfl

/-- The change that is being made. -/
structure ChBox (W : World) (B : Nat) (c : Ch) : Prop where
  lt : B < W.heap.size
  fr : ∀ k, W.frozen? ⟨B, k, none⟩ = false
  c0 : W.cell? ⟨B, 0, none⟩ = some (.int .i64 c.key)
  c1 : W.cell? ⟨B, 1, none⟩ = some (.int .i64 c.old)
  c2 : W.cell? ⟨B, 2, none⟩ = some (.int .i64 c.new)
  c3 : W.cell? ⟨B, 3, none⟩ = some (.bool c.had)
  c4 : W.cell? ⟨B, 4, none⟩ = some (.bool c.has)
theorem ChBox.new (w : World) : ChBox (w.alloc (.cells #[.int .i64 0, .int .i64 0, .int .i64 0, .bool false, .bool false] 91)) w.heap.size ⟨0, 0, 0, false, false⟩ :=
  ⟨by simp, fun k => by simp [go_sem], cell_new _ _ _ _ _ _ rfl, cell_new _ _ _ _ _ _ rfl, cell_new _ _ _ _ _ _ rfl, cell_new _ _ _ _ _ _ rfl, cell_new _ _ _ _ _ _ rfl⟩
theorem ChBox.later {W W' : World} {B : Nat} {c : Ch} (h : ChBox W B c) (hb : Below W.heap.size W W') : ChBox W' B c :=
  ⟨Nat.lt_of_lt_of_le h.lt hb.size, fun k => ((bcell hb).2 B k h.lt).trans (h.fr k), ((bcell hb).1 B 0 h.lt).trans h.c0, ((bcell hb).1 B 1 h.lt).trans h.c1, ((bcell hb).1 B 2 h.lt).trans h.c2, ((bcell hb).1 B 3 h.lt).trans h.c3, ((bcell hb).1 B 4 h.lt).trans h.c4⟩
theorem other {W : World} {B i j : Nat} (hne : i ≠ j) (v : Value) : (W.setCell ⟨B, i, none⟩ v).cell? ⟨B, j, none⟩ = W.cell? ⟨B, j, none⟩ :=
  World.cell?_setCell_other (h := by intro e; injection e with _ e; exact hne e) ..
theorem ChBox.set0 {W : World} {B : Nat} {c : Ch} (h : ChBox W B c) (k : Int) : ChBox (W.setCell ⟨B, 0, none⟩ (.int .i64 k)) B { c with key := k } :=
  ⟨by rw [size_set]; exact h.lt, fun j => by rw [World.frozen?_setCell]; exact h.fr j, World.cell?_setCell_same (h := h.c0) .., by rw [other (by decide)]; exact h.c1, by rw [other (by decide)]; exact h.c2, by rw [other (by decide)]; exact h.c3, by rw [other (by decide)]; exact h.c4⟩
theorem ChBox.set1 {W : World} {B : Nat} {c : Ch} (h : ChBox W B c) (k : Int) : ChBox (W.setCell ⟨B, 1, none⟩ (.int .i64 k)) B { c with old := k } :=
  ⟨by rw [size_set]; exact h.lt, fun j => by rw [World.frozen?_setCell]; exact h.fr j, by rw [other (by decide)]; exact h.c0, World.cell?_setCell_same (h := h.c1) .., by rw [other (by decide)]; exact h.c2, by rw [other (by decide)]; exact h.c3, by rw [other (by decide)]; exact h.c4⟩
theorem ChBox.set2 {W : World} {B : Nat} {c : Ch} (h : ChBox W B c) (k : Int) : ChBox (W.setCell ⟨B, 2, none⟩ (.int .i64 k)) B { c with new := k } :=
  ⟨by rw [size_set]; exact h.lt, fun j => by rw [World.frozen?_setCell]; exact h.fr j, by rw [other (by decide)]; exact h.c0, by rw [other (by decide)]; exact h.c1, World.cell?_setCell_same (h := h.c2) .., by rw [other (by decide)]; exact h.c3, by rw [other (by decide)]; exact h.c4⟩
theorem ChBox.set3 {W : World} {B : Nat} {c : Ch} (h : ChBox W B c) (b : Bool) : ChBox (W.setCell ⟨B, 3, none⟩ (.bool b)) B { c with had := b } :=
  ⟨by rw [size_set]; exact h.lt, fun j => by rw [World.frozen?_setCell]; exact h.fr j, by rw [other (by decide)]; exact h.c0, by rw [other (by decide)]; exact h.c1, by rw [other (by decide)]; exact h.c2, World.cell?_setCell_same (h := h.c3) .., by rw [other (by decide)]; exact h.c4⟩
theorem ChBox.set4 {W : World} {B : Nat} {c : Ch} (h : ChBox W B c) (b : Bool) : ChBox (W.setCell ⟨B, 4, none⟩ (.bool b)) B { c with has := b } :=
  ⟨by rw [size_set]; exact h.lt, fun j => by rw [World.frozen?_setCell]; exact h.fr j, by rw [other (by decide)]; exact h.c0, by rw [other (by decide)]; exact h.c1, by rw [other (by decide)]; exact h.c2, by rw [other (by decide)]; exact h.c3, World.cell?_setCell_same (h := h.c4) ..⟩

/-- A row without its first pair, as Go slices it. -/
theorem row_tail {n₀ : Nat} {W : World} {b o c : Nat} {x : Int × Int} {xs : List (Int × Int)} (h : Row2 ek ev n₀ W (some ⟨b, o, none⟩) (x :: xs)) (hc : xs.length + 1 ≤ c) :
    Row2 ek ev n₀ W (if c = 1 then some ⟨b, o, none⟩ else some ⟨b, o + 2, none⟩) xs := by
  by_cases h1 : c = 1
  · exact .inl (List.eq_nil_of_length_eq_zero (by omega))
  · rw [if_neg h1]
    rcases h with h | ⟨b', o', e, hlt, hcell⟩
    · cases h
    · injection e with e
      injection e with e1 e2
      subst e1 e2
      refine .inr ⟨b, o + 2, rfl, hlt, fun i y hy => ?_⟩
      have := hcell (i + 1) y hy
      rw [show o + (i + 1) * 2 = o + 2 + i * 2 from by omega] at this
      exact this
theorem row_head {n₀ : Nat} {W W' : World} {A : Option Addr} {x : Int × Int} {xs : List (Int × Int)} (h : Row2 ek ev n₀ W A (x :: xs)) (hb : Below n₀ W W') :
    ∃ b o, A = some ⟨b, o, none⟩ ∧ b < n₀ ∧ ∀ y, Below n₀ W y → y.cell? ⟨b, o, none⟩ = some (.int .i64 x.1) ∧ y.cell? ⟨b, o + 1, none⟩ = some (.int .i64 x.2) := by
  rcases h with h | ⟨b, o, e, hlt, hcell⟩
  · cases h
  · have := hcell 0 x rfl
    exact ⟨b, o, e, hlt, fun y hy => ⟨(hy.cell (p := ⟨b, _, none⟩) hlt).trans this.1, (hy.cell (p := ⟨b, _, none⟩) hlt).trans this.2⟩⟩

set_option maxRecDepth 100000 in
set_option maxHeartbeats 3200000 in
theorem diff_any (a b : T Int Int) (p q : Option Addr) (w : World) (ha : Tr w.heap.size w p a) (hb : Tr w.heap.size w q b) (hza : a.size ≤ 1000000) (hzb : b.size ≤ 1000000) :
    Calls Try.prog 46 #[.agg #[.pointer p], .agg #[.pointer q]] w fun e w' => ∃ v, e = .returned v ∧ w'.ownsRow w.heap.size 91 5 v (diffL a.toList b.toList).length (flatC (diffL a.toList b.toList)) ∧ Below w.heap.size w w' := by
  have hbb := below_two w (.cells #[.pointer p] 28) (.cells #[.pointer q] 28)
  have m1 := (MBox.new (n₀ := 0) (W := w) (Nat.zero_le _) ha).below (below_one _ (.cells #[.pointer q] 28))
  have m2 : MBox 0 ((w.alloc (.cells #[.pointer p] 28)).alloc (.cells #[.pointer q] 28)) (w.heap.size + 1) q b := by
    have := MBox.new (n₀ := 0) (W := w.alloc (.cells #[.pointer p] 28)) (Nat.zero_le _) (hb.later (below_one w (.cells #[.pointer p] 28)))
    simpa using this
  go_enter Try.func46, Try.ntmps46
  go_upto_region 2 with fail
  generalize (w.alloc (.cells #[.pointer p] 28)).alloc (.cells #[.pointer q] 28) = W at hbb m1 m2 ⊢
  have f0 : ∀ y, Below W.heap.size W y → y.cell? ⟨w.heap.size, 0, none⟩ = some (.pointer p) := fun y h => (m1.below h).cell
  have f1 : ∀ y, Below W.heap.size W y → y.cell? ⟨w.heap.size + 1, 0, none⟩ = some (.pointer q) := fun y h => (m2.below h).cell
  go_region_held3 (fun w' => Below W.heap.size W w') (repeat (first | assumption | exact Below.refl _ _ | apply Below.drew)) (first
    | (go_at_call 18; (with_reducible refine (Pairs_any p a (by omega) _ (m1.below (by assumption)).tree).mono ?_); rintro e x1 ⟨v1, rfl, ho1, -, hx1⟩; obtain ⟨X, cx, rfl, hcx, hrx⟩ := own_row ho1; have HX := Lib.hid hrx; have hk1 : Below W.heap.size W x1 := Below.trans (by assumption) (hx1.mono (Below.size (by assumption))); clear ho1 hrx)
    | (go_at_call 18; (with_reducible refine (Pairs_any q b (by omega) _ (m2.below (by assumption)).tree).mono ?_); rintro e x2 ⟨v2, rfl, ho2, -, hx2⟩; obtain ⟨Y, cy, rfl, hcy, hry⟩ := own_row ho2; have HY := Lib.hid hry; have hk2 : Below W.heap.size W x2 := Below.trans (by assumption) (hx2.mono (Below.size (by assumption))); clear ho2 hry))
  have hrx := HX.out.later hx2
  have hry := HY.out
  have hbw := hbb.trans (hk2.mono hbb.size)
  have la : a.toList.length ≤ 1000000 := by rw [T.length_toList]; exact hza
  have lb : b.toList.length ≤ 1000000 := by rw [T.length_toList]; exact hzb
  clear HX HY hx1 hx2 hk1 hk2 m1 m2 f0 f1 hbb
  obtain ⟨Z, hZ⟩ : ∃ Z, Z = x2 := ⟨_, rfl⟩
  rw [← hZ] at hrx hry hbw ⊢
  clear hZ
  go_wp2_with fail
  go_loopg [5, 6, 7] (a.toList.length + b.toList.length) (fun k x5 x6 x7 wr => ∃ xs ys ds A1 c1 A2 c2, x6 = .slice A1 xs.length c1 ∧ x7 = .slice A2 ys.length c2 ∧ xs.length ≤ c1 ∧ ys.length ≤ c2 ∧ Row2 ek ev Z.heap.size Z A1 xs ∧ Row2 ek ev Z.heap.size Z A2 ys ∧ wr.ownsRow Z.heap.size 91 5 x5 ds.length (flatC ds) ∧ Hid (diffL a.toList b.toList = ds ++ diffL xs ys) ∧ Below Z.heap.size Z wr ∧ ds.length + xs.length + ys.length ≤ 2000000 ∧ Hid (xs.length + ys.length = k))
  case atStart => exact ⟨a.toList, b.toList, [], X, cx, Y, cy, rfl, rfl, hcx, hcy, hrx, hry, ⟨by simp [flatC], .inl ⟨rfl, rfl⟩⟩, rfl, Below.refl _ _, by simp; omega, rfl⟩
  case round =>
    clear hrx hry hcx hcy
    obtain ⟨xs, ys, ds, A1, c1, A2, c2, rfl, rfl, hc1, hc2, hr1, hr2, ho, HD, hbz, l3, HN⟩ := hrel
    have hzw : Z.heap.size ≤ wr.heap.size := hbz.size
    have hb0 := hbz.trans ((below_one wr (.cells #[.int .i64 0, .int .i64 0, .int .i64 0, .bool false, .bool false] 91)).mono hzw)
    have hb1 := below_one wr (.cells #[.int .i64 0, .int .i64 0, .int .i64 0, .bool false, .bool false] 91)
    have cb0 := ChBox.new wr
    cases xs with
    | nil =>
      cases ys with
      | nil =>
        go_wp2_with fail
        have hd := HD.out
        rw [show diffL [] [] = [] from by rw [diffL], List.append_nil] at hd
        go_ret
        exact ⟨u5, rfl, by rw [hd]; exact Kd.own_raise ho fun k hk => Nat.le_trans hbw.size (own_tag ho hk).2, hbw.trans (hbz.mono hbw.size)⟩
      | cons y ys =>
        obtain ⟨k1, v1⟩ := y
        obtain ⟨bY, oY, rfl, hly, hcy⟩ := row_head hr2 hb0
        simp only [List.length_cons, List.length_nil] at hc1 hc2 l3 ⊢
        have p1 : (0 : Int) < (ys.length : Int) + 1 := by omega
        have p2 : ((ys.length : Int) + 1 == 0) = false := by simp; omega
        have p3 : ¬ (ys.length : Int) + 1 = 0 := by omega
        have p4 : ¬ (1 : Int) > (ys.length : Int) + 1 := by omega
        have h0 := (hcy _ hb0).1
        have h1 := (hcy _ hb0).2
        go_upto_region 5 with fail
        go_quiet (fail)
        go_upto_region 7 with fail
        have cb0 := cb0.later (below_draws (Below.refl _ _) nq)
        have hb1 := below_draws hb1 nq
        clear h0 h1
        generalize (wr.alloc (.cells #[.int .i64 0, .int .i64 0, .int .i64 0, .bool false, .bool false] 91)).drewN nq = y1 at cb0 hb1 ⊢
        have hb0 := hbz.trans (hb1.mono hzw)
        have h0 := (hcy _ hb0).1
        have h1 := (hcy _ hb0).2
        go_upto_region 7 with fail
        go_quiet (fail)
        go_upto_region 8 with fail
        have cb0 := cb0.later (below_draws (Below.refl _ _) nq)
        have hb1 := below_draws hb1 nq
        clear h0 h1
        generalize y1.drewN nq = y3 at cb0 hb1 ⊢
        have hb0 := hbz.trans (hb1.mono hzw)
        have h0 := (hcy _ hb0).1
        have h1 := (hcy _ hb0).2
        have q0 := cb0.c0
        have q2 := cb0.c2
        have q4 := cb0.c4
        have r0 := cb0.fr 0
        have r2 := cb0.fr 2
        have r4 := cb0.fr 4
        go_region
        clear q0 r0 q2 r2 q4 r4
        have cb0 := ((((cb0.set0 k1).set2 v1).set4 true).later (Below.drew (Below.refl _ _)))
        have hb1 := (Below.drew (((hb1.setCell (p := ⟨wr.heap.size, 0, none⟩) (Nat.le_refl _) (.int .i64 k1)).setCell (p := ⟨wr.heap.size, 2, none⟩) (Nat.le_refl _) (.int .i64 v1)).setCell (p := ⟨wr.heap.size, 4, none⟩) (Nat.le_refl _) (.bool true)))
        clear h0 h1
        generalize ((((y3.setCell ⟨wr.heap.size, 0, none⟩ (.int .i64 k1)).setCell ⟨wr.heap.size, 2, none⟩ (.int .i64 v1)).setCell ⟨wr.heap.size, 4, none⟩ (.bool true)).drew) = y4 at cb0 hb1 ⊢
        have hb0 := hbz.trans (hb1.mono hzw)
        have g0 := cb0.c0
        have g1 := cb0.c1
        have g2 := cb0.c2
        have g3 := cb0.c3
        have g4 := cb0.c4
        go_upto_region 14 with fail
        have hr2 := row_tail hr2 hc2
        obtain ⟨A2', hA2⟩ : ∃ A, (if c2 = 1 then some (⟨bY, oY, none⟩ : Addr) else some ⟨bY, oY + 2, none⟩) = A := ⟨_, rfl⟩
        rw [hA2] at hr2 ⊢
        clear hA2
        have ho := own_step (W' := y4) ho fun k _ hk => hb1.block k hk
        go_wp2_with (at_builtin; refine print_append_cells (w0 := Z) Z.heap.size rfl (.tmp 101) (.tmp 103) 86 91 (.agg #[.int .i64 0, .int .i64 0, .int .i64 0, .bool false, .bool false]) 5 32 rfl Try.underlying86 info91 rfl (by omega) (by omega) u5 ds.length (flatC ds) [.int .i64 k1, .int .i64 0, .int .i64 v1, .bool false, .bool true] rfl rfl rfl (by simp [Value.oneCell']) ho hb0 hb0.size (by omega) ?_; intro v1_ y5 ho5 hb5 hg5 hat5)
        go_roundg (([] : List (Int × Int)).length + ys.length)
        case measure => have := HN.out; simp at this ⊢; omega
        case rel =>
          have hd := HD.out
          rw [show diffL [] ((k1, v1) :: ys) = ⟨k1, 0, v1, false, true⟩ :: diffL [] ys from by rw [diffL]] at hd
          refine ⟨([] : List (Int × Int)), ys, (ds ++ [⟨k1, 0, v1, false, true⟩]), _, _, A2', _, rfl, rfl, by first | omega | (simp; omega), by first | omega | (simp; omega), hr1, hr2, by rw [flatC_snoc, List.length_append]; exact ho5, hd.trans (by simp), hb5, by first | omega | (simp; omega), rfl⟩
    | cons x xs =>
      cases ys with
      | nil =>
        obtain ⟨k0, v0⟩ := x
        obtain ⟨bx, ox, rfl, hlx, hcx⟩ := row_head hr1 hb0
        simp only [List.length_cons, List.length_nil] at hc1 hc2 l3 ⊢
        have n1 : (0 : Int) < (xs.length : Int) + 1 := by omega
        have n2 : ((xs.length : Int) + 1 == 0) = false := by simp; omega
        have n3 : ¬ (xs.length : Int) + 1 = 0 := by omega
        have n4 : ¬ (1 : Int) > (xs.length : Int) + 1 := by omega
        have e0 := (hcx _ hb0).1
        have e1 := (hcx _ hb0).2
        go_upto_region 5 with fail
        go_quiet (fail)
        go_upto_region 6 with fail
        have cb0 := cb0.later (below_draws (Below.refl _ _) nq)
        have hb1 := below_draws hb1 nq
        clear e0 e1
        generalize (wr.alloc (.cells #[.int .i64 0, .int .i64 0, .int .i64 0, .bool false, .bool false] 91)).drewN nq = y1 at cb0 hb1 ⊢
        have hb0 := hbz.trans (hb1.mono hzw)
        have e0 := (hcx _ hb0).1
        have e1 := (hcx _ hb0).2
        have q0 := cb0.c0
        have q1 := cb0.c1
        have q3 := cb0.c3
        have r0 := cb0.fr 0
        have r1 := cb0.fr 1
        have r3 := cb0.fr 3
        go_region
        clear q0 r0 q1 r1 q3 r3
        have cb0 := ((((cb0.set0 k0).set1 v0).set3 true).later (Below.drew (Below.refl _ _)))
        have hb1 := (Below.drew (((hb1.setCell (p := ⟨wr.heap.size, 0, none⟩) (Nat.le_refl _) (.int .i64 k0)).setCell (p := ⟨wr.heap.size, 1, none⟩) (Nat.le_refl _) (.int .i64 v0)).setCell (p := ⟨wr.heap.size, 3, none⟩) (Nat.le_refl _) (.bool true)))
        clear e0 e1
        generalize ((((y1.setCell ⟨wr.heap.size, 0, none⟩ (.int .i64 k0)).setCell ⟨wr.heap.size, 1, none⟩ (.int .i64 v0)).setCell ⟨wr.heap.size, 3, none⟩ (.bool true)).drew) = y2 at cb0 hb1 ⊢
        have hb0 := hbz.trans (hb1.mono hzw)
        have e0 := (hcx _ hb0).1
        have e1 := (hcx _ hb0).2
        go_upto_region 7 with fail
        go_quiet (fail)
        go_upto_region 9 with fail
        have cb0 := cb0.later (below_draws (Below.refl _ _) nq)
        have hb1 := below_draws hb1 nq
        clear e0 e1
        generalize y2.drewN nq = y3 at cb0 hb1 ⊢
        have hb0 := hbz.trans (hb1.mono hzw)
        have g0 := cb0.c0
        have g1 := cb0.c1
        have g2 := cb0.c2
        have g3 := cb0.c3
        have g4 := cb0.c4
        go_upto_region 14 with fail
        have hr1 := row_tail hr1 hc1
        obtain ⟨A1', hA1⟩ : ∃ A, (if c1 = 1 then some (⟨bx, ox, none⟩ : Addr) else some ⟨bx, ox + 2, none⟩) = A := ⟨_, rfl⟩
        rw [hA1] at hr1 ⊢
        clear hA1
        have ho := own_step (W' := y3) ho fun k _ hk => hb1.block k hk
        go_wp2_with (at_builtin; refine print_append_cells (w0 := Z) Z.heap.size rfl (.tmp 101) (.tmp 103) 86 91 (.agg #[.int .i64 0, .int .i64 0, .int .i64 0, .bool false, .bool false]) 5 32 rfl Try.underlying86 info91 rfl (by omega) (by omega) u5 ds.length (flatC ds) [.int .i64 k0, .int .i64 v0, .int .i64 0, .bool true, .bool false] rfl rfl rfl (by simp [Value.oneCell']) ho hb0 hb0.size (by omega) ?_; intro v1_ y5 ho5 hb5 hg5 hat5)
        go_roundg (xs.length + ([] : List (Int × Int)).length)
        case measure => have := HN.out; simp at this ⊢; omega
        case rel =>
          have hd := HD.out
          rw [show diffL ((k0, v0) :: xs) [] = ⟨k0, v0, 0, true, false⟩ :: diffL xs [] from by rw [diffL]] at hd
          refine ⟨xs, ([] : List (Int × Int)), (ds ++ [⟨k0, v0, 0, true, false⟩]), A1', _, _, _, rfl, rfl, by first | omega | (simp; omega), by first | omega | (simp; omega), hr1, hr2, by rw [flatC_snoc, List.length_append]; exact ho5, hd.trans (by simp), hb5, by first | omega | (simp; omega), rfl⟩
      | cons y ys =>
        obtain ⟨k0, v0⟩ := x
        obtain ⟨k1, v1⟩ := y
        obtain ⟨bx, ox, rfl, hlx, hcx⟩ := row_head hr1 hb0
        obtain ⟨bY, oY, rfl, hly, hcy⟩ := row_head hr2 hb0
        simp only [List.length_cons, List.length_nil] at hc1 hc2 l3 ⊢
        by_cases h3 : k0 < k1
        · have h3' := h3
          have o1 : k0 ≤ k1 := by omega
          have o2 : ¬ k1 ≤ k0 := by omega
          have n1 : (0 : Int) < (xs.length : Int) + 1 := by omega
          have n2 : ((xs.length : Int) + 1 == 0) = false := by simp; omega
          have n3 : ¬ (xs.length : Int) + 1 = 0 := by omega
          have n4 : ¬ (1 : Int) > (xs.length : Int) + 1 := by omega
          have p1 : (0 : Int) < (ys.length : Int) + 1 := by omega
          have p2 : ((ys.length : Int) + 1 == 0) = false := by simp; omega
          have p3 : ¬ (ys.length : Int) + 1 = 0 := by omega
          have p4 : ¬ (1 : Int) > (ys.length : Int) + 1 := by omega
          have e0 := (hcx _ hb0).1
          have e1 := (hcx _ hb0).2
          have h0 := (hcy _ hb0).1
          have h1 := (hcy _ hb0).2
          go_upto_region 5 with fail
          go_quiet (fail)
          go_upto_region 6 with fail
          have cb0 := cb0.later (below_draws (Below.refl _ _) nq)
          have hb1 := below_draws hb1 nq
          clear e0 e1 h0 h1
          generalize (wr.alloc (.cells #[.int .i64 0, .int .i64 0, .int .i64 0, .bool false, .bool false] 91)).drewN nq = y1 at cb0 hb1 ⊢
          have hb0 := hbz.trans (hb1.mono hzw)
          have e0 := (hcx _ hb0).1
          have e1 := (hcx _ hb0).2
          have h0 := (hcy _ hb0).1
          have h1 := (hcy _ hb0).2
          have q0 := cb0.c0
          have q1 := cb0.c1
          have q3 := cb0.c3
          have r0 := cb0.fr 0
          have r1 := cb0.fr 1
          have r3 := cb0.fr 3
          go_region
          clear q0 r0 q1 r1 q3 r3
          have cb0 := ((((cb0.set0 k0).set1 v0).set3 true).later (Below.drew (Below.refl _ _)))
          have hb1 := (Below.drew (((hb1.setCell (p := ⟨wr.heap.size, 0, none⟩) (Nat.le_refl _) (.int .i64 k0)).setCell (p := ⟨wr.heap.size, 1, none⟩) (Nat.le_refl _) (.int .i64 v0)).setCell (p := ⟨wr.heap.size, 3, none⟩) (Nat.le_refl _) (.bool true)))
          clear e0 e1 h0 h1
          generalize ((((y1.setCell ⟨wr.heap.size, 0, none⟩ (.int .i64 k0)).setCell ⟨wr.heap.size, 1, none⟩ (.int .i64 v0)).setCell ⟨wr.heap.size, 3, none⟩ (.bool true)).drew) = y2 at cb0 hb1 ⊢
          have hb0 := hbz.trans (hb1.mono hzw)
          have e0 := (hcx _ hb0).1
          have e1 := (hcx _ hb0).2
          have h0 := (hcy _ hb0).1
          have h1 := (hcy _ hb0).2
          go_upto_region 7 with fail
          go_quiet (fail)
          go_upto_region 9 with fail
          have cb0 := cb0.later (below_draws (Below.refl _ _) nq)
          have hb1 := below_draws hb1 nq
          clear e0 e1 h0 h1
          generalize y2.drewN nq = y3 at cb0 hb1 ⊢
          have hb0 := hbz.trans (hb1.mono hzw)
          have g0 := cb0.c0
          have g1 := cb0.c1
          have g2 := cb0.c2
          have g3 := cb0.c3
          have g4 := cb0.c4
          go_upto_region 14 with fail
          have hr1 := row_tail hr1 hc1
          obtain ⟨A1', hA1⟩ : ∃ A, (if c1 = 1 then some (⟨bx, ox, none⟩ : Addr) else some ⟨bx, ox + 2, none⟩) = A := ⟨_, rfl⟩
          rw [hA1] at hr1 ⊢
          clear hA1
          have ho := own_step (W' := y3) ho fun k _ hk => hb1.block k hk
          go_wp2_with (at_builtin; refine print_append_cells (w0 := Z) Z.heap.size rfl (.tmp 101) (.tmp 103) 86 91 (.agg #[.int .i64 0, .int .i64 0, .int .i64 0, .bool false, .bool false]) 5 32 rfl Try.underlying86 info91 rfl (by omega) (by omega) u5 ds.length (flatC ds) [.int .i64 k0, .int .i64 v0, .int .i64 0, .bool true, .bool false] rfl rfl rfl (by simp [Value.oneCell']) ho hb0 hb0.size (by omega) ?_; intro v1_ y5 ho5 hb5 hg5 hat5)
          go_roundg (xs.length + ((k1, v1) :: ys).length)
          case measure => have := HN.out; simp at this ⊢; omega
          case rel =>
            have hd := HD.out
            rw [show diffL ((k0, v0) :: xs) ((k1, v1) :: ys) = ⟨k0, v0, 0, true, false⟩ :: diffL xs ((k1, v1) :: ys) from by rw [diffL, if_pos (by omega)]] at hd
            refine ⟨xs, ((k1, v1) :: ys), (ds ++ [⟨k0, v0, 0, true, false⟩]), A1', _, _, _, rfl, rfl, by first | omega | (simp; omega), by first | omega | (simp; omega), hr1, hr2, by rw [flatC_snoc, List.length_append]; exact ho5, hd.trans (by simp), hb5, by first | omega | (simp; omega), rfl⟩
        · by_cases h4 : k1 < k0
          · have h4' := h4
            have o1 : ¬ k0 ≤ k1 := by omega
            have o2 : k1 ≤ k0 := by omega
            have n1 : (0 : Int) < (xs.length : Int) + 1 := by omega
            have n2 : ((xs.length : Int) + 1 == 0) = false := by simp; omega
            have n3 : ¬ (xs.length : Int) + 1 = 0 := by omega
            have n4 : ¬ (1 : Int) > (xs.length : Int) + 1 := by omega
            have p1 : (0 : Int) < (ys.length : Int) + 1 := by omega
            have p2 : ((ys.length : Int) + 1 == 0) = false := by simp; omega
            have p3 : ¬ (ys.length : Int) + 1 = 0 := by omega
            have p4 : ¬ (1 : Int) > (ys.length : Int) + 1 := by omega
            have e0 := (hcx _ hb0).1
            have e1 := (hcx _ hb0).2
            have h0 := (hcy _ hb0).1
            have h1 := (hcy _ hb0).2
            go_upto_region 5 with fail
            go_quiet (fail)
            go_upto_region 7 with fail
            have cb0 := cb0.later (below_draws (Below.refl _ _) nq)
            have hb1 := below_draws hb1 nq
            clear e0 e1 h0 h1
            generalize (wr.alloc (.cells #[.int .i64 0, .int .i64 0, .int .i64 0, .bool false, .bool false] 91)).drewN nq = y1 at cb0 hb1 ⊢
            have hb0 := hbz.trans (hb1.mono hzw)
            have e0 := (hcx _ hb0).1
            have e1 := (hcx _ hb0).2
            have h0 := (hcy _ hb0).1
            have h1 := (hcy _ hb0).2
            go_upto_region 7 with fail
            go_quiet (fail)
            go_upto_region 8 with fail
            have cb0 := cb0.later (below_draws (Below.refl _ _) nq)
            have hb1 := below_draws hb1 nq
            clear e0 e1 h0 h1
            generalize y1.drewN nq = y3 at cb0 hb1 ⊢
            have hb0 := hbz.trans (hb1.mono hzw)
            have e0 := (hcx _ hb0).1
            have e1 := (hcx _ hb0).2
            have h0 := (hcy _ hb0).1
            have h1 := (hcy _ hb0).2
            have q0 := cb0.c0
            have q2 := cb0.c2
            have q4 := cb0.c4
            have r0 := cb0.fr 0
            have r2 := cb0.fr 2
            have r4 := cb0.fr 4
            go_region
            clear q0 r0 q2 r2 q4 r4
            have cb0 := ((((cb0.set0 k1).set2 v1).set4 true).later (Below.drew (Below.refl _ _)))
            have hb1 := (Below.drew (((hb1.setCell (p := ⟨wr.heap.size, 0, none⟩) (Nat.le_refl _) (.int .i64 k1)).setCell (p := ⟨wr.heap.size, 2, none⟩) (Nat.le_refl _) (.int .i64 v1)).setCell (p := ⟨wr.heap.size, 4, none⟩) (Nat.le_refl _) (.bool true)))
            clear e0 e1 h0 h1
            generalize ((((y3.setCell ⟨wr.heap.size, 0, none⟩ (.int .i64 k1)).setCell ⟨wr.heap.size, 2, none⟩ (.int .i64 v1)).setCell ⟨wr.heap.size, 4, none⟩ (.bool true)).drew) = y4 at cb0 hb1 ⊢
            have hb0 := hbz.trans (hb1.mono hzw)
            have g0 := cb0.c0
            have g1 := cb0.c1
            have g2 := cb0.c2
            have g3 := cb0.c3
            have g4 := cb0.c4
            go_upto_region 14 with fail
            have hr2 := row_tail hr2 hc2
            obtain ⟨A2', hA2⟩ : ∃ A, (if c2 = 1 then some (⟨bY, oY, none⟩ : Addr) else some ⟨bY, oY + 2, none⟩) = A := ⟨_, rfl⟩
            rw [hA2] at hr2 ⊢
            clear hA2
            have ho := own_step (W' := y4) ho fun k _ hk => hb1.block k hk
            go_wp2_with (at_builtin; refine print_append_cells (w0 := Z) Z.heap.size rfl (.tmp 101) (.tmp 103) 86 91 (.agg #[.int .i64 0, .int .i64 0, .int .i64 0, .bool false, .bool false]) 5 32 rfl Try.underlying86 info91 rfl (by omega) (by omega) u5 ds.length (flatC ds) [.int .i64 k1, .int .i64 0, .int .i64 v1, .bool false, .bool true] rfl rfl rfl (by simp [Value.oneCell']) ho hb0 hb0.size (by omega) ?_; intro v1_ y5 ho5 hb5 hg5 hat5)
            go_roundg (((k0, v0) :: xs).length + ys.length)
            case measure => have := HN.out; simp at this ⊢; omega
            case rel =>
              have hd := HD.out
              rw [show diffL ((k0, v0) :: xs) ((k1, v1) :: ys) = ⟨k1, 0, v1, false, true⟩ :: diffL ((k0, v0) :: xs) ys from by rw [diffL, if_neg (by omega), if_pos (by omega)]] at hd
              refine ⟨((k0, v0) :: xs), ys, (ds ++ [⟨k1, 0, v1, false, true⟩]), _, _, A2', _, rfl, rfl, by first | omega | (simp; omega), by first | omega | (simp; omega), hr1, hr2, by rw [flatC_snoc, List.length_append]; exact ho5, hd.trans (by simp), hb5, by first | omega | (simp; omega), rfl⟩
          · have h5 : k0 = k1 := by omega
            by_cases h6 : v0 = v1
            · have h6' := h6
              have o1 : k0 ≤ k1 := by omega
              have o2 : k1 ≤ k0 := by omega
              have o3 : (v0 != v1) = false := by simp [h6]
              have H6 := Lib.hid h6
              clear h6 h6'
              clear h5
              have n1 : (0 : Int) < (xs.length : Int) + 1 := by omega
              have n2 : ((xs.length : Int) + 1 == 0) = false := by simp; omega
              have n3 : ¬ (xs.length : Int) + 1 = 0 := by omega
              have n4 : ¬ (1 : Int) > (xs.length : Int) + 1 := by omega
              have p1 : (0 : Int) < (ys.length : Int) + 1 := by omega
              have p2 : ((ys.length : Int) + 1 == 0) = false := by simp; omega
              have p3 : ¬ (ys.length : Int) + 1 = 0 := by omega
              have p4 : ¬ (1 : Int) > (ys.length : Int) + 1 := by omega
              have e0 := (hcx _ hb0).1
              have e1 := (hcx _ hb0).2
              have h0 := (hcy _ hb0).1
              have h1 := (hcy _ hb0).2
              go_upto_region 5 with fail
              go_quiet (fail)
              go_upto_region 6 with fail
              have cb0 := cb0.later (below_draws (Below.refl _ _) nq)
              have hb1 := below_draws hb1 nq
              clear e0 e1 h0 h1
              generalize (wr.alloc (.cells #[.int .i64 0, .int .i64 0, .int .i64 0, .bool false, .bool false] 91)).drewN nq = y1 at cb0 hb1 ⊢
              have hb0 := hbz.trans (hb1.mono hzw)
              have e0 := (hcx _ hb0).1
              have e1 := (hcx _ hb0).2
              have h0 := (hcy _ hb0).1
              have h1 := (hcy _ hb0).2
              have q0 := cb0.c0
              have q1 := cb0.c1
              have q3 := cb0.c3
              have r0 := cb0.fr 0
              have r1 := cb0.fr 1
              have r3 := cb0.fr 3
              go_region
              clear q0 r0 q1 r1 q3 r3
              have cb0 := ((((cb0.set0 k0).set1 v0).set3 true).later (Below.drew (Below.refl _ _)))
              have hb1 := (Below.drew (((hb1.setCell (p := ⟨wr.heap.size, 0, none⟩) (Nat.le_refl _) (.int .i64 k0)).setCell (p := ⟨wr.heap.size, 1, none⟩) (Nat.le_refl _) (.int .i64 v0)).setCell (p := ⟨wr.heap.size, 3, none⟩) (Nat.le_refl _) (.bool true)))
              clear e0 e1 h0 h1
              generalize ((((y1.setCell ⟨wr.heap.size, 0, none⟩ (.int .i64 k0)).setCell ⟨wr.heap.size, 1, none⟩ (.int .i64 v0)).setCell ⟨wr.heap.size, 3, none⟩ (.bool true)).drew) = y2 at cb0 hb1 ⊢
              have hb0 := hbz.trans (hb1.mono hzw)
              have e0 := (hcx _ hb0).1
              have e1 := (hcx _ hb0).2
              have h0 := (hcy _ hb0).1
              have h1 := (hcy _ hb0).2
              go_upto_region 7 with fail
              go_quiet (fail)
              go_upto_region 8 with fail
              have cb0 := cb0.later (below_draws (Below.refl _ _) nq)
              have hb1 := below_draws hb1 nq
              clear e0 e1 h0 h1
              generalize y2.drewN nq = y3 at cb0 hb1 ⊢
              have hb0 := hbz.trans (hb1.mono hzw)
              have e0 := (hcx _ hb0).1
              have e1 := (hcx _ hb0).2
              have h0 := (hcy _ hb0).1
              have h1 := (hcy _ hb0).2
              have q0 := cb0.c0
              have q2 := cb0.c2
              have q4 := cb0.c4
              have r0 := cb0.fr 0
              have r2 := cb0.fr 2
              have r4 := cb0.fr 4
              go_region
              clear q0 r0 q2 r2 q4 r4
              have cb0 := ((((cb0.set0 k1).set2 v1).set4 true).later (Below.drew (Below.refl _ _)))
              have hb1 := (Below.drew (((hb1.setCell (p := ⟨wr.heap.size, 0, none⟩) (Nat.le_refl _) (.int .i64 k1)).setCell (p := ⟨wr.heap.size, 2, none⟩) (Nat.le_refl _) (.int .i64 v1)).setCell (p := ⟨wr.heap.size, 4, none⟩) (Nat.le_refl _) (.bool true)))
              clear e0 e1 h0 h1
              generalize ((((y3.setCell ⟨wr.heap.size, 0, none⟩ (.int .i64 k1)).setCell ⟨wr.heap.size, 2, none⟩ (.int .i64 v1)).setCell ⟨wr.heap.size, 4, none⟩ (.bool true)).drew) = y4 at cb0 hb1 ⊢
              have hb0 := hbz.trans (hb1.mono hzw)
              have g0 := cb0.c0
              have g1 := cb0.c1
              have g2 := cb0.c2
              have g3 := cb0.c3
              have g4 := cb0.c4
              go_upto_region 13 with fail
              have hr1 := row_tail hr1 hc1
              obtain ⟨A1', hA1⟩ : ∃ A, (if c1 = 1 then some (⟨bx, ox, none⟩ : Addr) else some ⟨bx, ox + 2, none⟩) = A := ⟨_, rfl⟩
              rw [hA1] at hr1 ⊢
              clear hA1
              have hr2 := row_tail hr2 hc2
              obtain ⟨A2', hA2⟩ : ∃ A, (if c2 = 1 then some (⟨bY, oY, none⟩ : Addr) else some ⟨bY, oY + 2, none⟩) = A := ⟨_, rfl⟩
              rw [hA2] at hr2 ⊢
              clear hA2
              go_wp2_with fail
              go_roundg (xs.length + ys.length)
              case measure => have := HN.out; simp at this ⊢; omega
              case rel =>
                have hd := HD.out
                rw [show diffL ((k0, v0) :: xs) ((k1, v1) :: ys) = diffL xs ys from by rw [diffL, if_neg (by omega), if_neg (by omega), if_pos H6.out]; rfl] at hd
                refine ⟨xs, ys, ds, A1', _, A2', _, rfl, rfl, by first | omega | (simp; omega), by first | omega | (simp; omega), hr1, hr2, own_step ho fun k _ hk => hb1.block k hk, hd.trans (by simp), hb0, by first | omega | (simp; omega), rfl⟩
            · have h6' := h6
              have o1 : k0 ≤ k1 := by omega
              have o2 : k1 ≤ k0 := by omega
              have o3 : (v0 != v1) = true := by simp [h6]
              clear h5
              have n1 : (0 : Int) < (xs.length : Int) + 1 := by omega
              have n2 : ((xs.length : Int) + 1 == 0) = false := by simp; omega
              have n3 : ¬ (xs.length : Int) + 1 = 0 := by omega
              have n4 : ¬ (1 : Int) > (xs.length : Int) + 1 := by omega
              have p1 : (0 : Int) < (ys.length : Int) + 1 := by omega
              have p2 : ((ys.length : Int) + 1 == 0) = false := by simp; omega
              have p3 : ¬ (ys.length : Int) + 1 = 0 := by omega
              have p4 : ¬ (1 : Int) > (ys.length : Int) + 1 := by omega
              have e0 := (hcx _ hb0).1
              have e1 := (hcx _ hb0).2
              have h0 := (hcy _ hb0).1
              have h1 := (hcy _ hb0).2
              go_upto_region 5 with fail
              go_quiet (fail)
              go_upto_region 6 with fail
              have cb0 := cb0.later (below_draws (Below.refl _ _) nq)
              have hb1 := below_draws hb1 nq
              clear e0 e1 h0 h1
              generalize (wr.alloc (.cells #[.int .i64 0, .int .i64 0, .int .i64 0, .bool false, .bool false] 91)).drewN nq = y1 at cb0 hb1 ⊢
              have hb0 := hbz.trans (hb1.mono hzw)
              have e0 := (hcx _ hb0).1
              have e1 := (hcx _ hb0).2
              have h0 := (hcy _ hb0).1
              have h1 := (hcy _ hb0).2
              have q0 := cb0.c0
              have q1 := cb0.c1
              have q3 := cb0.c3
              have r0 := cb0.fr 0
              have r1 := cb0.fr 1
              have r3 := cb0.fr 3
              go_region
              clear q0 r0 q1 r1 q3 r3
              have cb0 := ((((cb0.set0 k0).set1 v0).set3 true).later (Below.drew (Below.refl _ _)))
              have hb1 := (Below.drew (((hb1.setCell (p := ⟨wr.heap.size, 0, none⟩) (Nat.le_refl _) (.int .i64 k0)).setCell (p := ⟨wr.heap.size, 1, none⟩) (Nat.le_refl _) (.int .i64 v0)).setCell (p := ⟨wr.heap.size, 3, none⟩) (Nat.le_refl _) (.bool true)))
              clear e0 e1 h0 h1
              generalize ((((y1.setCell ⟨wr.heap.size, 0, none⟩ (.int .i64 k0)).setCell ⟨wr.heap.size, 1, none⟩ (.int .i64 v0)).setCell ⟨wr.heap.size, 3, none⟩ (.bool true)).drew) = y2 at cb0 hb1 ⊢
              have hb0 := hbz.trans (hb1.mono hzw)
              have e0 := (hcx _ hb0).1
              have e1 := (hcx _ hb0).2
              have h0 := (hcy _ hb0).1
              have h1 := (hcy _ hb0).2
              go_upto_region 7 with fail
              go_quiet (fail)
              go_upto_region 8 with fail
              have cb0 := cb0.later (below_draws (Below.refl _ _) nq)
              have hb1 := below_draws hb1 nq
              clear e0 e1 h0 h1
              generalize y2.drewN nq = y3 at cb0 hb1 ⊢
              have hb0 := hbz.trans (hb1.mono hzw)
              have e0 := (hcx _ hb0).1
              have e1 := (hcx _ hb0).2
              have h0 := (hcy _ hb0).1
              have h1 := (hcy _ hb0).2
              have q0 := cb0.c0
              have q2 := cb0.c2
              have q4 := cb0.c4
              have r0 := cb0.fr 0
              have r2 := cb0.fr 2
              have r4 := cb0.fr 4
              go_region
              clear q0 r0 q2 r2 q4 r4
              have cb0 := ((((cb0.set0 k1).set2 v1).set4 true).later (Below.drew (Below.refl _ _)))
              have hb1 := (Below.drew (((hb1.setCell (p := ⟨wr.heap.size, 0, none⟩) (Nat.le_refl _) (.int .i64 k1)).setCell (p := ⟨wr.heap.size, 2, none⟩) (Nat.le_refl _) (.int .i64 v1)).setCell (p := ⟨wr.heap.size, 4, none⟩) (Nat.le_refl _) (.bool true)))
              clear e0 e1 h0 h1
              generalize ((((y3.setCell ⟨wr.heap.size, 0, none⟩ (.int .i64 k1)).setCell ⟨wr.heap.size, 2, none⟩ (.int .i64 v1)).setCell ⟨wr.heap.size, 4, none⟩ (.bool true)).drew) = y4 at cb0 hb1 ⊢
              have hb0 := hbz.trans (hb1.mono hzw)
              have g0 := cb0.c0
              have g1 := cb0.c1
              have g2 := cb0.c2
              have g3 := cb0.c3
              have g4 := cb0.c4
              go_upto_region 14 with fail
              have hr1 := row_tail hr1 hc1
              obtain ⟨A1', hA1⟩ : ∃ A, (if c1 = 1 then some (⟨bx, ox, none⟩ : Addr) else some ⟨bx, ox + 2, none⟩) = A := ⟨_, rfl⟩
              rw [hA1] at hr1 ⊢
              clear hA1
              have hr2 := row_tail hr2 hc2
              obtain ⟨A2', hA2⟩ : ∃ A, (if c2 = 1 then some (⟨bY, oY, none⟩ : Addr) else some ⟨bY, oY + 2, none⟩) = A := ⟨_, rfl⟩
              rw [hA2] at hr2 ⊢
              clear hA2
              have ho := own_step (W' := y4) ho fun k _ hk => hb1.block k hk
              go_wp2_with (at_builtin; refine print_append_cells (w0 := Z) Z.heap.size rfl (.tmp 101) (.tmp 103) 86 91 (.agg #[.int .i64 0, .int .i64 0, .int .i64 0, .bool false, .bool false]) 5 32 rfl Try.underlying86 info91 rfl (by omega) (by omega) u5 ds.length (flatC ds) [.int .i64 k1, .int .i64 v0, .int .i64 v1, .bool true, .bool true] rfl rfl rfl (by simp [Value.oneCell']) ho hb0 hb0.size (by omega) ?_; intro v1_ y5 ho5 hb5 hg5 hat5)
              go_roundg (xs.length + ys.length)
              case measure => have := HN.out; simp at this ⊢; omega
              case rel =>
                have hd := HD.out
                rw [show diffL ((k0, v0) :: xs) ((k1, v1) :: ys) = ⟨k1, v0, v1, true, true⟩ :: diffL xs ys from by rw [diffL, if_neg (by omega), if_neg (by omega), if_neg h6]; rfl] at hd
                refine ⟨xs, ys, (ds ++ [⟨k1, v0, v1, true, true⟩]), A1', _, A2', _, rfl, rfl, by first | omega | (simp; omega), by first | omega | (simp; omega), hr1, hr2, by rw [flatC_snoc, List.length_append]; exact ho5, hd.trans (by simp), hb5, by first | omega | (simp; omega), rfl⟩
end Go.Proofs.MT.II
