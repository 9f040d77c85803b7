/- The stable sort of at most twenty pairs: the insertion sort of a row where it lies. -/
import Derived.Test.YtdjnneflpkllmaaGreatDoorRx0
import Derived.Deep.QuietTactic
import Derived.BigQuiet
import Derived.BigRegion
import Derived.WalkKit
import Derived.Below
import Derived.LoopN
import Derived.Deep.LoopGhost
import Derived.Deep.RegionHeld3
import Derived.Lib.Hide
namespace Go.Proofs.Num
open Go.RowKit Go.Proofs.YtdjnneflpkllmaaGreatDoorW.PrintLast Go.Proofs.YtdjnneflpkllmaaGreatDoorW.PrintWords
set_option linter.unusedVariables false
set_option linter.unusedSimpArgs false
theorem below_draws {B : Nat} {a w : World} (h : Below B a w) (n : Nat) : Below B a (w.drewN n) := h.trans ⟨rfl, rfl, rfl, Nat.le_refl _, fun _ _ => rfl⟩
def cmpv (b1 b2 : Int) : Int := if b2 < b1 then -1 else if b1 < b2 then 1 else 0
theorem cmp_rest0 (a1 b1 a2 b2 : Int) (w : World) : Calls Tryz.prog 39 #[.agg #[.int .i64 a1, .int .i64 b1], .agg #[.int .i64 a2, .int .i64 b2]] w fun e w' => e = .returned (.int .i64 (if b2 < b1 then -1 else if b1 < b2 then 1 else 0)) ∧ Below w.heap.size w w' := by
  have hb := ((Below.refl w.heap.size w).alloc (Nat.le_refl _) (.cells #[.int .i64 a1, .int .i64 b1] 69)).alloc (by simp) (.cells #[.int .i64 a2, .int .i64 b2] 69)
  go_enter Tryz.func39, Tryz.ntmps39
  go_wp2
  all_goals go_ret
  all_goals refine ⟨?_, hb⟩
  all_goals first | rfl | (simp [*]; done) | (rw [if_neg (by omega), if_neg (by omega)])

theorem cmp_rest (a1 b1 a2 b2 : Int) (w : World) : Calls Tryz.prog 39 #[.agg #[.int .i64 a1, .int .i64 b1], .agg #[.int .i64 a2, .int .i64 b2]] w fun e w' => e = .returned (.int .i64 (cmpv b1 b2)) ∧ Below w.heap.size w w' := cmp_rest0 a1 b1 a2 b2 w
theorem cmpv_neg (b1 b2 : Int) : cmpv b1 b2 < 0 ↔ b2 < b1 := by unfold cmpv; split <;> (try split) <;> omega

/-- A row of pairs that is sorted where it lies. -/
def Rst (W : World) (g : Nat) (l : List (Int × Int)) : Prop :=
  ∃ cs ty, W.heap[g]? = some (.cells cs ty (0, 0)) ∧ 2 * l.length ≤ cs.size ∧ ∀ i x, l[i]? = some x → cs[i * 2]? = some (.int .i64 x.1) ∧ cs[i * 2 + 1]? = some (.int .i64 x.2)
theorem Rst.cell {W : World} {g : Nat} {l : List (Int × Int)} (h : Rst W g l) {i : Nat} {x : Int × Int} (hx : l[i]? = some x) : W.cell? ⟨g, i * 2, none⟩ = some (.int .i64 x.1) ∧ W.cell? ⟨g, i * 2 + 1, none⟩ = some (.int .i64 x.2) := by
  obtain ⟨cs, ty, hh, hn, hc⟩ := h
  obtain ⟨h1, h2⟩ := hc i x hx
  exact ⟨by simpa [World.cell?, hh] using h1, by simpa [World.cell?, hh] using h2⟩
theorem Rst.frozen {W : World} {g : Nat} {l : List (Int × Int)} (h : Rst W g l) (k : Nat) : W.frozen? ⟨g, k, none⟩ = false := by
  obtain ⟨cs, ty, hh, -⟩ := h
  simp [World.frozen?, hh]
theorem Rst.later {W W' : World} {g : Nat} {l : List (Int × Int)} (h : Rst W g l) (hg : g < W.heap.size) (hb : Below W.heap.size W W') : Rst W' g l := by
  obtain ⟨cs, ty, hh, r⟩ := h
  exact ⟨cs, ty, (hb.block g hg).trans hh, r⟩
theorem Rst.lt {W : World} {g : Nat} {l : List (Int × Int)} (h : Rst W g l) : g < W.heap.size := by
  obtain ⟨cs, ty, hh, r⟩ := h
  exact (Array.getElem?_eq_some_iff.1 hh).1
/-- Two neighbours change places. -/
def swpR (l : List (Int × Int)) (m : Nat) : List (Int × Int) := match l[m]?, l[m + 1]? with
  | some x, some y => (l.set (m + 1) x).set m y
  | _, _ => l
theorem swpR_length (l : List (Int × Int)) (m : Nat) : (swpR l m).length = l.length := by
  unfold swpR
  split <;> simp
/-- The inner loop. -/
def ins (a : Nat) : Nat → List (Int × Int) → List (Int × Int)
  | 0, l => l
  | m + 1, l => if a < m + 1 then
      match l[m]?, l[m + 1]? with
      | some x, some y => if x.2 < y.2 then ins a m (swpR l m) else l
      | _, _ => l
    else l
theorem ins_go {a m : Nat} {l : List (Int × Int)} {x y : Int × Int} (h : a < m + 1) (hx : l[m]? = some x) (hy : l[m + 1]? = some y) (hxy : x.2 < y.2) : ins a (m + 1) l = ins a m (swpR l m) := by
  simp [ins, h, hx, hy, hxy]
theorem ins_stop {a m : Nat} {l : List (Int × Int)} {x y : Int × Int} (hx : l[m]? = some x) (hy : l[m + 1]? = some y) (hxy : ¬ x.2 < y.2) : ins a (m + 1) l = l := by
  simp [ins, hx, hy, hxy]
/-- The outer loop: d steps from i on. -/
def outer (a : Nat) : Nat → Nat → List (Int × Int) → List (Int × Int)
  | 0, _, l => l
  | d + 1, i, l => outer a d (i + 1) (ins a i l)
theorem ins_length (a : Nat) : ∀ m l, (ins a m l).length = l.length
  | 0, _ => rfl
  | m + 1, l => by
    unfold ins
    split
    · split
      · split
        · rw [ins_length a m, swpR_length]
        · rfl
      · rfl
    · rfl
theorem grown_below {W W' : World} {g : Nat} (h : Below W.heap.size W W') : W.grownBy W' (some g) := ⟨h.os, h.tape, h.output, h.size, fun k hk _ => h.block k hk⟩
theorem grown_trans {A B C : World} {g : Nat} (h : A.grownBy B (some g)) (k : B.grownBy C (some g)) : A.grownBy C (some g) :=
  ⟨k.os.trans h.os, k.tape.trans h.tape, k.output.trans h.output, Nat.le_trans h.size k.size, fun i hi hn => (k.block i (Nat.lt_of_lt_of_le hi h.size) hn).trans (h.block i hi hn)⟩
theorem grown_set (W : World) (g o : Nat) (v : Value) : W.grownBy (W.setCell ⟨g, o, none⟩ v) (some g) :=
  ⟨rfl, rfl, rfl, by simp [World.setCell], fun k _ hk => Below.heap_setCell _ _ _ k (fun e => hk (by rw [e]))⟩

theorem Rst.put {W : World} {g : Nat} {l : List (Int × Int)} (h : Rst W g l) (i : Nat) (x : Int × Int) : Rst ((W.setCell ⟨g, i * 2, none⟩ (.int .i64 x.1)).setCell ⟨g, i * 2 + 1, none⟩ (.int .i64 x.2)) g (l.set i x) := by
  obtain ⟨cs, ty, hh, hn, hc⟩ := h
  refine ⟨(cs.setIfInBounds (i * 2) (.int .i64 x.1)).setIfInBounds (i * 2 + 1) (.int .i64 x.2), ty, ?_, by simpa using hn, ?_⟩
  · simp [World.setCell, Array.getElem?_modify, hh]
  · intro j z hz
    have hj : j < l.length := by
      rcases Nat.lt_or_ge j l.length with h | h
      · exact h
      · rw [List.getElem?_eq_none (by simpa using h)] at hz; cases hz
    rw [List.getElem?_set] at hz
    simp only [Array.getElem?_setIfInBounds, Array.size_setIfInBounds]
    by_cases e : i = j
    · subst e
      rw [if_pos rfl, if_pos hj] at hz
      injection hz with hz
      subst hz
      exact ⟨by rw [if_neg (by omega), if_pos rfl, if_pos (by omega)], by rw [if_pos rfl, if_pos (by omega)]⟩
    · rw [if_neg e] at hz
      obtain ⟨h1, h2⟩ := hc j z hz
      exact ⟨by rw [if_neg (by omega), if_neg (by omega)]; exact h1, by rw [if_neg (by omega), if_neg (by omega)]; exact h2⟩
theorem Rst.drew {W : World} {g : Nat} {l : List (Int × Int)} (h : Rst W g l) : Rst W.drew g l := h

set_option maxRecDepth 100000 in
set_option maxHeartbeats 3200000 in
theorem insertion (g a b c : Nat) (l : List (Int × Int)) (W : World) (hR : Rst W g l) (ha : a ≤ b) (hb : b ≤ l.length) (hc : l.length ≤ c) (hl : l.length ≤ 1099511627776) :
    Calls Tryz.prog 81 #[.slice (some ⟨g, 0, none⟩) l.length c, .int .i64 a, .int .i64 b, .func (.func 39) #[] #[]] W fun e w' => e = .returned (.tuple #[]) ∧ W.grownBy w' (some g) ∧ Rst w' g (outer a (b - (a + 1)) (a + 1) l) := by
  obtain ⟨n, hn⟩ : ∃ n, n = l.length := ⟨_, rfl⟩
  rw [← hn] at hb hc hl ⊢
  have HN := Lib.hid hn
  clear hn
  have e0 : IntKind.i64.wrap ((a : Int) + 1) = ((a + 1 : Nat) : Int) := by rw [IntKind.wrap_i64]; omega
  go_enter Tryz.func81, Tryz.ntmps81
  go_wp2
  clear e0
  go_loopg [8] (b - a) (fun k x8 wr => ∃ (i : Nat) (l' : List (Int × Int)), x8 = .int .i64 i ∧ a + 1 ≤ i ∧ Rst wr g l' ∧ l'.length = n ∧ W.grownBy wr (some g) ∧ Hid (outer a (b - i) i l' = outer a (b - (a + 1)) (a + 1) l) ∧ Hid (b + 1 - i = k))
  case atStart => exact ⟨a + 1, l, rfl, Nat.le_refl _, hR, HN.out.symm, ⟨rfl, rfl, rfl, Nat.le_refl _, fun _ _ _ => rfl⟩, rfl, (show b + 1 - (a + 1) = b - a by omega)⟩
  case round =>
    obtain ⟨i, l', rfl, hi, hR', hl', hg', HO, HK⟩ := hrel
    by_cases hlt : i < b
    · have z0 : (i : Int) < (b : Int) := by omega
      go_wp2
      go_loopg [9] i (fun k x9 wx => ∃ (j : Nat) (l'' : List (Int × Int)), x9 = .int .i64 j ∧ j ≤ i ∧ Rst wx g l'' ∧ l''.length = n ∧ W.grownBy wx (some g) ∧ Hid (ins a j l'' = ins a i l') ∧ Hid (j = k))
      case atStart => exact ⟨i, l', rfl, Nat.le_refl _, hR', hl', hg', rfl, rfl⟩
      case round =>
        obtain ⟨j, l'', rfl, hji, hRx, hlx, hgx, HI, HJ⟩ := hrel
        by_cases hj : a < j
        · obtain ⟨m, rfl⟩ : ∃ m, j = m + 1 := ⟨j - 1, by omega⟩
          have y0 : decide ((a : Int) < (m : Int) + 1) = true := decide_eq_true (by omega)
          have e1 : IntKind.i64.wrap ((m : Int) + 1 - 1) = (m : Int) := by rw [IntKind.wrap_i64]; omega
          have e2 : ((m : Int) + 1).toNat = m + 1 := by omega
          obtain ⟨⟨xk, xv⟩, hx⟩ : ∃ x, l''[m]? = some x := ⟨_, List.getElem?_eq_getElem (by omega)⟩
          obtain ⟨⟨yk, yv⟩, hy⟩ : ∃ y, l''[m + 1]? = some y := ⟨_, List.getElem?_eq_getElem (by omega)⟩
          have hglt := hRx.lt
          have f0 : ∀ y, Below wr.heap.size wr y → y.cell? ⟨g, m * 2, none⟩ = some (.int .i64 xk) := fun y h => ((hRx.later hglt h).cell hx).1
          have f1 : ∀ y, Below wr.heap.size wr y → y.cell? ⟨g, m * 2 + 1, none⟩ = some (.int .i64 xv) := fun y h => ((hRx.later hglt h).cell hx).2
          have f2 : ∀ y, Below wr.heap.size wr y → y.cell? ⟨g, (m + 1) * 2, none⟩ = some (.int .i64 yk) := fun y h => ((hRx.later hglt h).cell hy).1
          have f3 : ∀ y, Below wr.heap.size wr y → y.cell? ⟨g, (m + 1) * 2 + 1, none⟩ = some (.int .i64 yv) := fun y h => ((hRx.later hglt h).cell hy).2
          have i0 : (m : Int) < (n : Int) := by omega
          have i1 : (m : Int) + 1 < (n : Int) := by omega
          have i2 : (0 : Int) ≤ (m : Int) + 1 := by omega
          have i3 : m < n := by omega
          have i4 : m + 1 < n := by omega
          have i5 : (0 : Int) ≤ (m : Int) := by omega
          have e3 : IntKind.i64.wrap (m : Int) = (m : Int) := by rw [IntKind.wrap_i64]; omega
          by_cases hxy : xv < yv
          · have y1 : decide (cmpv yv xv < 0) = true := decide_eq_true ((cmpv_neg yv xv).2 hxy)
            go_upto_region 4 with fail
            go_region_held3 (fun w' => Below wr.heap.size wr w') (repeat (first | assumption | exact Below.refl _ _ | apply Below.drew)) (first
              | (go_at_call 39; refine (cmp_rest _ _ _ _ _).mono ?_; rintro e y ⟨rfl, hy1⟩; have hk1 : Below wr.heap.size wr y := Below.trans (by assumption) (hy1.mono (Below.size (by assumption)))))
            clear f0 f1 f2 f3
            go_upto_region 6 with fail
            have hRy := hRx.later hglt hk1
            have c0 := (hRy.cell hx).1
            have c1 := (hRy.cell hx).2
            have c2 := (hRy.cell hy).1
            have c3 := (hRy.cell hy).2
            have d0 := hRy.frozen (m * 2)
            have d1 := hRy.frozen (m * 2 + 1)
            have d2 := hRy.frozen ((m + 1) * 2)
            have d3 := hRy.frozen ((m + 1) * 2 + 1)
            simp only at c0 c1 c2 c3
            refine start_ (n := 18) (S := fun w' => w' = y.drew) (ds := [15, 17]) #[false, false, false, false, false, false, false, false, false, false, false, false, false, false, false, false, false, false] (by kernel_rfl) rfl rfl rfl (fun hHeld => ?_)
            refine pure_ (i := 0) (N := some 37) (v := ?_) (a' := ?_) #[true, false, false, false, false, false, false, false, false, false, false, false, false, false, false, false, false, false] rfl rfl (by kernel_rfl) (fun _ _ _ h => h) (Or.inl ⟨by rfl, ?_⟩) ?_ ?_
            rotate_left
            · intro w'
              go_simp
              with_reducible rfl
            rotate_left
            · simp only [Act.put, List.setIfInBounds_toArray, List.set_cons_zero, List.set_cons_succ, i64_w, i32_w]
              rfl
            refine pure_ (i := 1) (N := some 38) (v := ?_) (a' := ?_) #[true, true, false, false, false, false, false, false, false, false, false, false, false, false, false, false, false, false] rfl rfl (by kernel_rfl) (fun _ _ _ h => h) (Or.inl ⟨by rfl, ?_⟩) ?_ ?_
            rotate_left
            · intro w'
              go_simp
              with_reducible rfl
            rotate_left
            · simp only [Act.put, List.setIfInBounds_toArray, List.set_cons_zero, List.set_cons_succ, i64_w, i32_w]
              rfl
            refine pure_ (i := 2) (N := some 39) (v := ?_) (a' := ?_) #[true, true, true, false, false, false, false, false, false, false, false, false, false, false, false, false, false, false] rfl rfl (by kernel_rfl) (fun _ _ _ h => h) (Or.inl ⟨by rfl, ?_⟩) ?_ ?_
            rotate_left
            · intro w'
              go_simp
              with_reducible rfl
            rotate_left
            · simp only [Act.put, List.setIfInBounds_toArray, List.set_cons_zero, List.set_cons_succ, i64_w, i32_w]
              rfl
            refine pure_ (i := 3) (N := some 40) (v := ?_) (a' := ?_) #[true, true, true, true, false, false, false, false, false, false, false, false, false, false, false, false, false, false] rfl rfl (by kernel_rfl) (fun _ _ _ h => h) (Or.inl ⟨by rfl, ?_⟩) ?_ ?_
            rotate_left
            · intro w'
              go_simp
              with_reducible rfl
            rotate_left
            · simp only [Act.put, List.setIfInBounds_toArray, List.set_cons_zero, List.set_cons_succ, i64_w, i32_w]
              rfl
            refine pure_ (i := 4) (N := some 41) (v := ?_) (a' := ?_) #[true, true, true, true, true, false, false, false, false, false, false, false, false, false, false, false, false, false] rfl rfl (by kernel_rfl) (fun _ _ _ h => h) (Or.inl ⟨by rfl, ?_⟩) ?_ ?_
            rotate_left
            · intro w'
              go_simp
              with_reducible rfl
            rotate_left
            · simp only [Act.put, List.setIfInBounds_toArray, List.set_cons_zero, List.set_cons_succ, i64_w, i32_w]
              rfl
            refine pure_ (i := 5) (N := some 42) (v := ?_) (a' := ?_) #[true, true, true, true, true, true, false, false, false, false, false, false, false, false, false, false, false, false] rfl rfl (by kernel_rfl) (fun _ _ _ h => h) (Or.inl ⟨by rfl, ?_⟩) ?_ ?_
            rotate_left
            · intro w'
              go_simp
              with_reducible rfl
            rotate_left
            · simp only [Act.put, List.setIfInBounds_toArray, List.set_cons_zero, List.set_cons_succ, i64_w, i32_w]
              rfl
            refine pure_ (i := 6) (N := some 43) (v := ?_) (a' := ?_) #[true, true, true, true, true, true, true, false, false, false, false, false, false, false, false, false, false, false] rfl rfl (by kernel_rfl) (fun _ _ _ h => h) (Or.inl ⟨by rfl, ?_⟩) ?_ ?_
            rotate_left
            · intro w'
              go_simp
              with_reducible rfl
            rotate_left
            · simp only [Act.put, List.setIfInBounds_toArray, List.set_cons_zero, List.set_cons_succ, i64_w, i32_w]
              rfl
            refine pure_ (i := 7) (N := some 44) (v := ?_) (a' := ?_) #[true, true, true, true, true, true, true, true, false, false, false, false, false, false, false, false, false, false] rfl rfl (by kernel_rfl) (fun _ _ _ h => h) (Or.inl ⟨by rfl, ?_⟩) ?_ ?_
            rotate_left
            · intro w'
              go_simp
              with_reducible rfl
            rotate_left
            · simp only [Act.put, List.setIfInBounds_toArray, List.set_cons_zero, List.set_cons_succ, i64_w, i32_w]
              rfl
            refine pure_ (i := 8) (N := some 45) (v := ?_) (a' := ?_) #[true, true, true, true, true, true, true, true, true, false, false, false, false, false, false, false, false, false] rfl rfl (by kernel_rfl) (fun _ _ _ h => h) (Or.inl ⟨by rfl, ?_⟩) ?_ ?_
            rotate_left
            · intro w'
              go_simp
              with_reducible rfl
            rotate_left
            · simp only [Act.put, List.setIfInBounds_toArray, List.set_cons_zero, List.set_cons_succ, i64_w, i32_w]
              rfl
            refine take_ (i := 9) (N := some 46) (v := ?_) (a' := ?_) #[true, true, true, true, true, true, true, true, true, true, false, false, false, false, false, false, false, false] rfl rfl (by kernel_rfl) (fun _ _ _ h => h) (Or.inl ⟨by rfl, ?_⟩) hHeld ?_ ?_
            rotate_left
            · rintro w' rfl
              go_simp
              with_reducible rfl
            rotate_left
            · simp only [Act.put, List.setIfInBounds_toArray, List.set_cons_zero, List.set_cons_succ, i64_w, i32_w]
              rfl
            refine pure_ (i := 10) (N := some 47) (v := ?_) (a' := ?_) #[true, true, true, true, true, true, true, true, true, true, true, false, false, false, false, false, false, false] rfl rfl (by kernel_rfl) (fun _ _ _ h => h) (Or.inl ⟨by rfl, ?_⟩) ?_ ?_
            rotate_left
            · intro w'
              go_simp
              with_reducible rfl
            rotate_left
            · simp only [Act.put, List.setIfInBounds_toArray, List.set_cons_zero, List.set_cons_succ, i64_w, i32_w]
              rfl
            refine pure_ (i := 11) (N := some 48) (v := ?_) (a' := ?_) #[true, true, true, true, true, true, true, true, true, true, true, true, false, false, false, false, false, false] rfl rfl (by kernel_rfl) (fun _ _ _ h => h) (Or.inl ⟨by rfl, ?_⟩) ?_ ?_
            rotate_left
            · intro w'
              go_simp
              with_reducible rfl
            rotate_left
            · simp only [Act.put, List.setIfInBounds_toArray, List.set_cons_zero, List.set_cons_succ, i64_w, i32_w]
              rfl
            refine pure_ (i := 12) (N := some 49) (v := ?_) (a' := ?_) #[true, true, true, true, true, true, true, true, true, true, true, true, true, false, false, false, false, false] rfl rfl (by kernel_rfl) (fun _ _ _ h => h) (Or.inl ⟨by rfl, ?_⟩) ?_ ?_
            rotate_left
            · intro w'
              go_simp
              with_reducible rfl
            rotate_left
            · simp only [Act.put, List.setIfInBounds_toArray, List.set_cons_zero, List.set_cons_succ, i64_w, i32_w]
              rfl
            refine take_ (i := 13) (N := some 50) (v := ?_) (a' := ?_) #[true, true, true, true, true, true, true, true, true, true, true, true, true, true, false, false, false, false] rfl rfl (by kernel_rfl) (fun _ _ _ h => h) (Or.inl ⟨by rfl, ?_⟩) hHeld ?_ ?_
            rotate_left
            · rintro w' rfl
              go_simp
              with_reducible rfl
            rotate_left
            · simp only [Act.put, List.setIfInBounds_toArray, List.set_cons_zero, List.set_cons_succ, i64_w, i32_w]
              rfl
            refine pure_ (i := 14) (N := some 51) (v := ?_) (a' := ?_) #[true, true, true, true, true, true, true, true, true, true, true, true, true, true, true, false, false, false] rfl rfl (by kernel_rfl) (fun _ _ _ h => h) (Or.inl ⟨by rfl, ?_⟩) ?_ ?_
            rotate_left
            · intro w'
              go_simp
              with_reducible rfl
            rotate_left
            · simp only [Act.put, List.setIfInBounds_toArray, List.set_cons_zero, List.set_cons_succ, i64_w, i32_w]
              rfl
            refine last_ (i := 15) (N := none) #[true, true, true, true, true, true, true, true, true, true, true, true, true, true, true, true, false, false] rfl rfl (by kernel_rfl) (by decide) (fun K hK => ?_)
            refine skip_ (w1 := ?_) (by rfl) rfl ?_ ?_
            rotate_left
            · go_simp
              with_reducible rfl
            refine hK.out _ _ ?_
            clear hK K
            refine pure_ (i := 16) (N := some 52) (v := ?_) (a' := ?_) #[true, true, true, true, true, true, true, true, true, true, true, true, true, true, true, true, true, false] rfl rfl (by kernel_rfl) (fun _ _ _ h => h) (Or.inl ⟨by rfl, ?_⟩) ?_ ?_
            rotate_left
            · intro w'
              go_simp
              with_reducible rfl
            rotate_left
            · simp only [Act.put, List.setIfInBounds_toArray, List.set_cons_zero, List.set_cons_succ, i64_w, i32_w]
              rfl
            refine last_ (i := 17) (N := none) #[true, true, true, true, true, true, true, true, true, true, true, true, true, true, true, true, true, true] rfl rfl (by kernel_rfl) (by decide) (fun K hK => ?_)
            refine skip_ (w1 := ?_) (by rfl) rfl ?_ ?_
            rotate_left
            · go_simp
              with_reducible rfl
            refine hK.out _ _ ?_
            clear hK K
            refine done_ (by kernel_rfl) ?_
            go_wp2
            go_roundg m
            case measure => have := HJ.out; omega
            case rel => exact ⟨m, _, rfl, by omega, (hRy.drew.put (m + 1) (xk, xv)).put m (yk, yv), by simp; exact hlx, grown_trans hgx (grown_trans (grown_below hk1) (grown_trans (B := y.drew) ⟨rfl, rfl, rfl, Nat.le_refl _, fun _ _ _ => rfl⟩ (grown_trans (grown_set _ _ _ _) (grown_trans (grown_set _ _ _ _) (grown_trans (grown_set _ _ _ _) (grown_set _ _ _ _)))))), (by
              have := HI.out
              rw [ins_go hj hx hy hxy] at this
              simp only [swpR, hx, hy] at this
              exact this), rfl⟩
          · have y1 : decide (cmpv yv xv < 0) = false := decide_eq_false (fun h => hxy ((cmpv_neg yv xv).1 h))
            go_upto_region 4 with fail
            go_region_held3 (fun w' => Below wr.heap.size wr w') (repeat (first | assumption | exact Below.refl _ _ | apply Below.drew)) (first
              | (go_at_call 39; refine (cmp_rest _ _ _ _ _).mono ?_; rintro e y ⟨rfl, hy1⟩; have hk1 : Below wr.heap.size wr y := Below.trans (by assumption) (hy1.mono (Below.size (by assumption)))))
            go_wp2
            go_roundg (b - i)
            case measure => have := HK.out; omega
            case rel => exact ⟨i + 1, l'', by go_num, by omega, hRx.later hglt hk1, hlx, grown_trans hgx (grown_below hk1), (by
              have h1 := HO.out
              have h2 := HI.out
              rw [ins_stop hx hy (show ¬ xv < yv by omega)] at h2
              rw [show b - i = (b - (i + 1)) + 1 from by omega, outer, ← h2] at h1
              exact h1), (show b + 1 - (i + 1) = b - i by omega)⟩
        · have y0 : decide ((a : Int) < (j : Int)) = false := decide_eq_false (by omega)
          go_upto_region 4 with fail
          go_quiet (fail)
          go_wp2
          go_roundg (b - i)
          case measure => have := HK.out; omega
          case rel => exact ⟨i + 1, l'', by go_num, by omega, hRx, hlx, grown_trans hgx ⟨rfl, rfl, rfl, Nat.le_refl _, fun _ _ _ => rfl⟩, (by
              have h1 := HO.out
              have h2 := HI.out
              have h3 : ins a j l'' = l'' := by
                cases j with
                | zero => rfl
                | succ m => unfold ins; rw [if_neg (by omega)]
              rw [h3] at h2
              rw [show b - i = (b - (i + 1)) + 1 from by omega, outer, ← h2] at h1
              exact h1), (show b + 1 - (i + 1) = b - i by omega)⟩
    · have z0 : ¬ (i : Int) < (b : Int) := by omega
      go_wp2
      go_end0
      refine ⟨rfl, hg', ?_⟩
      have := HO.out
      rw [show b - i = 0 from by omega] at this
      rw [← this]
      exact hR'
end Go.Proofs.Num
