/- Apportion of 10 by the weights 3, 3, 1 is 4, 4, 2: the walk at these numbers; two lists of three compared. -/
import Derived.Test.YtdjnneflpkllmaaGreatDoorIns
import Derived.Deep.DeepAppendWide
import Derived.RangeFuncBox
namespace Go.Proofs.Num
open Go.RowKit Go.Proofs.YtdjnneflpkllmaaGreatDoorW.PrintLast Go.Proofs.YtdjnneflpkllmaaGreatDoorW.PrintWords
set_option linter.unusedVariables false
set_option linter.unusedSimpArgs false
set_option maxRecDepth 100000 in
theorem div4 (w : World) : Calls Tryz.prog 59 #[.int .u64 0, .int .u64 30, .int .u64 7] w fun e w' => e = .returned (.tuple #[.int .u64 4, .int .u64 2]) ∧ ∃ n, w' = w.drewN n := by
  go_enter Tryz.func59, Tryz.ntmps59
  go_wp2
  go_quiet (fail)
  go_wp2
  go_ret2
  exact ⟨by rfl, _, rfl⟩
set_option maxRecDepth 100000 in
theorem div1 (w : World) : Calls Tryz.prog 59 #[.int .u64 0, .int .u64 10, .int .u64 7] w fun e w' => e = .returned (.tuple #[.int .u64 1, .int .u64 3]) ∧ ∃ n, w' = w.drewN n := by
  go_enter Tryz.func59, Tryz.ntmps59
  go_wp2
  go_quiet (fail)
  go_wp2
  go_ret2
  exact ⟨by rfl, _, rfl⟩
set_option maxRecDepth 100000 in
theorem mul3 (w : World) : Calls Tryz.prog 58 #[.int .u64 10, .int .u64 3] w fun e w' => e = .returned (.tuple #[.int .u64 0, .int .u64 30]) ∧ w' = w := by
  go_enter Tryz.func58, Tryz.ntmps58
  go_wp2
  go_ret2
  exact ⟨by rfl, rfl⟩
set_option maxRecDepth 100000 in
theorem mul1 (w : World) : Calls Tryz.prog 58 #[.int .u64 10, .int .u64 1] w fun e w' => e = .returned (.tuple #[.int .u64 0, .int .u64 10]) ∧ w' = w := by
  go_enter Tryz.func58, Tryz.ntmps58
  go_wp2
  go_ret2
  exact ⟨by rfl, rfl⟩
theorem share4 (w : World) : Calls Tryz.prog 37 #[.int .i64 10, .int .i64 3, .int .i64 7] w fun e w' => e = .returned (.tuple #[.int .i64 4, .int .i64 2]) ∧ ∃ n, w' = w.drewN n := by
  go_enter Tryz.func37, Tryz.ntmps37
  go_wp2_with (first
    | (go_at_call 58; refine (mul3 _).mono ?_; rintro e w1 ⟨rfl, rfl⟩)
    | (go_at_call 59; refine (div4 _).mono ?_; rintro e w1 ⟨rfl, n, rfl⟩))
  go_ret2
  exact ⟨by rfl, _, rfl⟩
theorem share1 (w : World) : Calls Tryz.prog 37 #[.int .i64 10, .int .i64 1, .int .i64 7] w fun e w' => e = .returned (.tuple #[.int .i64 1, .int .i64 3]) ∧ ∃ n, w' = w.drewN n := by
  go_enter Tryz.func37, Tryz.ntmps37
  go_wp2_with (first
    | (go_at_call 58; refine (mul1 _).mono ?_; rintro e w1 ⟨rfl, rfl⟩)
    | (go_at_call 59; refine (div1 _).mono ?_; rintro e w1 ⟨rfl, n, rfl⟩))
  go_ret2
  exact ⟨by rfl, _, rfl⟩
theorem stable_small (g c : Nat) (l : List (Int × Int)) (W : World) (hR : Rst W g l) (hl : l.length < 20) (hc : l.length ≤ c) :
    Calls Tryz.prog 60 #[.slice (some ⟨g, 0, none⟩) l.length c, .int .i64 l.length, .func (.func 39) #[] #[]] W fun e w' => e = .returned (.tuple #[]) ∧ W.grownBy w' (some g) ∧ Rst w' g (outer 0 (l.length - 1) 1 l) := by
  have hi := insertion g 0 l.length c l W hR (Nat.zero_le _) (Nat.le_refl _) hc (by omega)
  obtain ⟨n, hn⟩ : ∃ n, n = l.length := ⟨_, rfl⟩
  rw [← hn] at hl hc hi ⊢
  have HI := Lib.hid hi
  clear hi hn hR
  have z0 : ¬ (20 : Int) ≤ (n : Int) := by omega
  have z1 : ¬ (20 : Int) < (n : Int) := by omega
  go_enter Tryz.func60, Tryz.ntmps60
  go_wp2
  refine wp_loop_once ?_
  go_wp2_with (go_at_call 81; refine HI.out.mono ?_; rintro e w1 ⟨rfl, hg, hR1⟩)
  refine wp_loop_once ?_
  go_wp2
  go_end0
  exact ⟨rfl, hg, hR1⟩
theorem weighed_alive (b : Nat) (w : World) (c0 : w.cell? ⟨b, 0, none⟩ = some (.int .i64 3)) (c1 : w.cell? ⟨b, 1, none⟩ = some (.int .i64 3)) (c2 : w.cell? ⟨b, 2, none⟩ = some (.int .i64 1)) :
    Calls Tryz.prog 36 #[.int .i64 10, .slice (some ⟨b, 0, none⟩) 3 3] w fun e w' => e = .returned (.tuple #[.int .i64 7, .int .i64 0]) ∧ ∃ n, w' = w.drewN n := by
  go_enter Tryz.func36, Tryz.ntmps36
  go_wp2
  refine wp_loop_rounds 4 ?_
  change Code.wp _ _ _ _ _
  go_wp2
  change Code.wp _ _ _ _ _
  go_wp2
  change Code.wp _ _ _ _ _
  go_wp2
  change Code.wp _ _ _ _ _
  go_wp2
  go_ret2
  exact ⟨rfl, 0, rfl⟩
theorem cell_two (w : World) (a b : Value) (t : TypeId) : ∀ j u, ([a, b] : List Value)[j]? = some u → (w.alloc (.cells #[a, b] t)).cell? ((⟨w.heap.size, 0, none⟩ : Addr).add j) = some u := by
  intro j u h
  have hh : (w.alloc (.cells #[a, b] t)).heap[w.heap.size]? = some (.cells #[a, b] t) := by show (w.heap.push _)[w.heap.size]? = _; simp
  match j, h with
  | 0, h => injection h with h; subst h; rw [show (⟨w.heap.size, 0, none⟩ : Addr).add 0 = ⟨w.heap.size, 0, none⟩ from rfl]; simp only [World.cell?, hh]; rfl
  | 1, h => injection h with h; subst h; rw [show (⟨w.heap.size, 0, none⟩ : Addr).add 1 = ⟨w.heap.size, 1, none⟩ from rfl]; simp only [World.cell?, hh]; rfl
  | n + 2, h => simp at h
theorem cell_two' (w : World) (s : Nat) (hs : w.heap.size = s) (a b : Value) (t : TypeId) : ∀ j u, ([a, b] : List Value)[j]? = some u → (w.alloc (.cells #[a, b] t)).cell? ((⟨s, 0, none⟩ : Addr).add j) = some u := by
  subst hs
  exact cell_two w a b t
theorem size_set' (W : World) (m p o : Nat) (v : Value) : ((W.drewN m).setCell ⟨p, o, none⟩ v).heap.size = W.heap.size := by simp [World.setCell, World.drewN]
theorem info101 : (Tryz.prog.info? 69).map (fun i => (i.zero, i.size, i.bytes)) = some (some (.agg #[.int .i64 0, .int .i64 0]), 2, 16) := by kernel_rfl

theorem sort3 (g c : Nat) (x y z : Int × Int) (W : World) (hR : Rst W g [x, y, z]) (hc : 3 ≤ c) :
    Calls Tryz.prog 38 #[.slice (some ⟨g, 0, none⟩) 3 c, .func (.func 39) #[] #[]] W fun e w' => e = .returned (.tuple #[]) ∧ W.grownBy w' (some g) ∧ Rst w' g (outer 0 2 1 [x, y, z]) := by
  have hs : Calls Tryz.prog 60 #[.slice (some ⟨g, 0, none⟩) 3 c, .int .i64 3, .func (.func 39) #[] #[]] W fun e w' => e = .returned (.tuple #[]) ∧ W.grownBy w' (some g) ∧ Rst w' g (outer 0 2 1 [x, y, z]) :=
    stable_small g c [x, y, z] W hR (show 3 < 20 by decide) hc
  go_enter Tryz.func38, Tryz.ntmps38
  go_wp2_with (go_at_call 60; refine hs.mono ?_; rintro e w1 ⟨rfl, hg, hR1⟩)
  go_end0
  exact ⟨rfl, hg, hR1⟩
theorem rst_own {W : World} {base e n c g : Nat} {l : List (Int × Int)} (h : W.ownsRow base e 2 (.slice (some ⟨g, 0, none⟩) n c) n (l.flatMap fun x => [.int .i64 x.1, .int .i64 x.2])) (hn : l.length = n) : Rst W g l ∧ n ≤ c ∧ base ≤ g := by
  obtain ⟨_, ⟨h0, _⟩ | ⟨g', cap, cur, e', hg, hh, hc, hm, hs, ht⟩⟩ := h
  · cases h0
  · injection e' with e1 _ e2
    injection e1 with e1
    injection e1 with e1
    subst e1 e2
    refine ⟨⟨cur, e, hh, by rw [hs]; omega, ?_⟩, hc, hg⟩
    have fl : ∀ (l : List (Int × Int)) (i : Nat) (x : Int × Int), l[i]? = some x → (l.flatMap fun x => [Value.int .i64 x.1, .int .i64 x.2])[i * 2]? = some (.int .i64 x.1) ∧ (l.flatMap fun x => [Value.int .i64 x.1, .int .i64 x.2])[i * 2 + 1]? = some (.int .i64 x.2) := by
      intro l
      induction l with
      | nil => intro i x h; cases h
      | cons y ys ih =>
        intro i x h
        cases i with
        | zero => injection h with h; subst h; exact ⟨rfl, rfl⟩
        | succ i =>
          have := ih i x h
          rw [show (i + 1) * 2 = i * 2 + 1 + 1 from by omega]
          exact this
    intro i x hx
    have hi : i < n := by
      rcases Nat.lt_or_ge i l.length with h | h
      · omega
      · rw [List.getElem?_eq_none h] at hx; cases hx
    obtain ⟨h0, h1⟩ := fl l i x hx
    rw [← ht, List.getElem?_take, if_pos (by omega), Array.getElem?_toList] at h0 h1
    exact ⟨h0, h1⟩

/-- The state between two rounds. -/
structure Ap (w W : World) (q0 q1 q2 : Int) (v : Value) (k : Nat) (xs : List Value) : Prop where
  below : Below w.heap.size w W
  parts : W.heap[w.heap.size]? = some (.cells #[.int .i64 q0, .int .i64 q1, .int .i64 q2] 3 (0, 0))
  rests : W.ownsRow (w.heap.size + 1) 69 2 v k xs
  size : w.heap.size + 1 ≤ W.heap.size
theorem Ap.cell {w W : World} {q0 q1 q2 : Int} {v : Value} {k : Nat} {xs : List Value} (h : Ap w W q0 q1 q2 v k xs) :
    W.cell? ⟨w.heap.size, 0, none⟩ = some (.int .i64 q0) ∧ W.cell? ⟨w.heap.size, 1, none⟩ = some (.int .i64 q1) ∧ W.cell? ⟨w.heap.size, 2, none⟩ = some (.int .i64 q2) ∧ ∀ i, W.frozen? ⟨w.heap.size, i, none⟩ = false := by
  have hh := h.parts
  exact ⟨by simp [World.cell?, hh], by simp [World.cell?, hh], by simp [World.cell?, hh], fun i => by simp [World.frozen?, hh]⟩
theorem own_ne {W : World} {base e size n p : Nat} {v : Value} {xs : List Value} (h : W.ownsRow base e size v n xs) (hp : p < base) : v.ownBlock ≠ some p := by
  rcases h.2 with ⟨rfl, _⟩ | ⟨g, cap, cur, rfl, hg, _⟩
  · simp [Value.ownBlock]
  · simp [Value.ownBlock]; omega
theorem Ap.set {w W : World} {q0 q1 q2 : Int} {v : Value} {k : Nat} {xs : List Value} (h : Ap w W q0 q1 q2 v k xs) (m o : Nat) (x : Int) :
    ((W.drewN m).setCell ⟨w.heap.size, o, none⟩ (.int .i64 x)).ownsRow (w.heap.size + 1) 69 2 v k xs :=
  h.rests.kept (row := some w.heap.size) ⟨rfl, rfl, rfl, by simp [World.setCell, World.drewN], fun j _ hj => Below.heap_setCell _ _ _ _ (fun e => hj (by rw [e]))⟩ (.inr (own_ne h.rests (by omega)))
theorem Ap.next {w W w2 : World} {q0 q1 q2 : Int} {v v' : Value} {k k' : Nat} {xs xs' : List Value} (h : Ap w W q0 q1 q2 v k xs) (m o : Nat) (x : Int) (ob : Obj) (r0 r1 r2 : Int)
    (hq : (#[.int .i64 q0, .int .i64 q1, .int .i64 q2] : Array Value).setIfInBounds o (.int .i64 x) = #[.int .i64 r0, .int .i64 r1, .int .i64 r2])
    (ho : w2.ownsRow (w.heap.size + 1) 69 2 v' k' xs') (hg : (((W.drewN m).setCell ⟨w.heap.size, o, none⟩ (.int .i64 x)).alloc ob).grownBy w2 v.ownBlock) : Ap w w2 r0 r1 r2 v' k' xs' := by
  have hs := h.size
  have hs1 : (((W.drewN m).setCell ⟨w.heap.size, o, none⟩ (.int .i64 x)).alloc ob).heap.size = W.heap.size + 1 := by simp [World.setCell, World.drewN, World.alloc]
  have hb : Below w.heap.size w (((W.drewN m).setCell ⟨w.heap.size, o, none⟩ (.int .i64 x)).alloc ob) := ((below_draws h.below m).setCell (Nat.le_refl _) _).alloc (by simp [World.setCell, World.drewN]; omega) _
  refine ⟨hb.grown hg (by rw [hs1]; omega) (fun j e => ?_), ?_, ho, ?_⟩
  · rcases h.rests.2 with ⟨rfl, _⟩ | ⟨g, cap, cur, rfl, hgg, _⟩
    · cases e
    · simp [Value.ownBlock] at e; omega
  · have e : (((W.drewN m).setCell ⟨w.heap.size, o, none⟩ (.int .i64 x)).alloc ob).heap[w.heap.size]? = some (.cells #[.int .i64 r0, .int .i64 r1, .int .i64 r2] 3 (0, 0)) := by
      rw [Below.heap_alloc _ _ _ (by simp [World.setCell, World.drewN]; omega)]
      simp only [World.setCell]
      rw [Array.getElem?_modify, if_pos rfl, show (W.drewN m).heap[w.heap.size]? = _ from h.parts]
      simp [hq]
    rw [← e]
    exact hg.block _ (by rw [hs1]; omega) (own_ne h.rests (by omega)).symm
  · have := hg.size
    rw [hs1] at this
    omega

set_option maxRecDepth 100000 in
set_option maxHeartbeats 3200000 in
theorem apportion_alive (b : Nat) (w : World) (hb : b < w.heap.size) (c0 : w.cell? ⟨b, 0, none⟩ = some (.int .i64 3)) (c1 : w.cell? ⟨b, 1, none⟩ = some (.int .i64 3)) (c2 : w.cell? ⟨b, 2, none⟩ = some (.int .i64 1)) :
    Calls Tryz.prog 19 #[.int .i64 10, .slice (some ⟨b, 0, none⟩) 3 3] w fun e w' => ∃ p, e = .returned (.tuple #[.slice (some ⟨p, 0, none⟩) 3 3, .int .i64 0]) ∧ p < w'.heap.size ∧ w'.cell? ⟨p, 0, none⟩ = some (.int .i64 4) ∧ w'.cell? ⟨p, 1, none⟩ = some (.int .i64 4) ∧ w'.cell? ⟨p, 2, none⟩ = some (.int .i64 2) ∧ Below w.heap.size w w' := by
  obtain ⟨i0, hi, hz0, hz1, hz2⟩ := info_parts info101
  have C0 := Lib.hid c0
  have C1 := Lib.hid c1
  have C2 := Lib.hid c2
  have hmk : ∀ w, (Instr.makeSlice 34 (.int .i64 3) (.int .i64 3)).run Tryz.prog w = .ok (.slice (some ⟨w.heap.size, 0, none⟩) 3 3) (w.alloc (.cells #[.int .i64 0, .int .i64 0, .int .i64 0] 3)) := fun _ => by kernel_rfl
  go_enter Tryz.func19, Tryz.ntmps19
  go_wp2_with (first
    | (go_at_call 36; refine (weighed_alive b _ C0.out C1.out C2.out).mono ?_; rintro e w1 ⟨rfl, n, rfl⟩))
  clear hmk
  have hb1 : Below w.heap.size w ((w.drewN n).alloc (.cells #[.int .i64 0, .int .i64 0, .int .i64 0] 3)) := (below_draws (Below.refl _ _) n).alloc (Nat.le_refl _) _
  have hp1 : ((w.drewN n).alloc (.cells #[.int .i64 0, .int .i64 0, .int .i64 0] 3)).heap[w.heap.size]? = some (.cells #[.int .i64 0, .int .i64 0, .int .i64 0] 3 (0, 0)) := by simp [World.alloc]
  have hs1 : w.heap.size < ((w.drewN n).alloc (.cells #[.int .i64 0, .int .i64 0, .int .i64 0] 3)).heap.size := by simp
  generalize ((w.drewN n).alloc (.cells #[.int .i64 0, .int .i64 0, .int .i64 0] 3)) = W1 at hb1 hp1 hs1 ⊢
  have HB1 := Lib.hid hb1
  have HS1 := Lib.hid hs1
  have b0 : W1.cell? ⟨b, 0, none⟩ = some (.int .i64 3) := (hb1.cell (p := ⟨b, 0, none⟩) hb).trans c0
  have q0 : W1.cell? ⟨w.heap.size, 0, none⟩ = some (.int .i64 0) := by simp [World.cell?, hp1]
  have q1 : W1.frozen? ⟨w.heap.size, 0, none⟩ = false := by simp [World.frozen?, hp1]
  have A0 : Ap w W1 0 0 0 (.slice none 0 0) 0 [] := ⟨hb1, hp1, World.ownsRow_nil _ _ _ _, hs1⟩
  clear hb1 hp1 hs1 HB1 HS1 b0 q0 q1 c0 c1 c2
  refine wp_loop_rounds 4 ?_
  change Code.wp _ _ _ _ _
  obtain ⟨p0, p1, p2, pf⟩ := A0.cell
  have pf0 := pf 0
  have b0 : W1.cell? ⟨b, 0, none⟩ = some (.int .i64 3) := (A0.below.cell (p := ⟨b, 0, none⟩) hb).trans C0.out
  clear pf
  have hA0 := Lib.hid A0
  clear A0
  go_wp2_with (first
    | (go_at_call 37; refine (share4 _).mono ?_; rintro e w1 ⟨rfl, n1, rfl⟩)
    | (at_builtin; refine wpList_append_own _ rfl _ _ 66 rfl (w.heap.size + 1) 69 i0 (.agg #[.int .i64 0, .int .i64 0]) 2 16 Tryz.underlying66 hi hz0 hz1 hz2 rfl (by decide) _ _ _ rfl ((hA0.out.set n1 0 4).alloc _) ⟨W1.heap.size, 0, none⟩ 1 1 [.int .i64 0, .int .i64 2] rfl rfl (cell_two' _ _ (size_set' _ _ _ _ _) _ _ _) (by simp [Value.oneCell']) (by unfold maxLen; omega) (by omega) (by have := hA0.out.size; simp; omega) ?_; intro v1 W2 hown1 hgrow1 _; have A1 := hA0.out.next n1 0 4 _ 4 0 0 rfl hown1 hgrow1))
  clear b0 pf0 p0 p1 p2
  change Code.wp _ _ _ _ _
  obtain ⟨g1, k1, rfl⟩ := ownsRow_succ hown1
  obtain ⟨p0, p1, p2, pf⟩ := A1.cell
  have pf0 := pf 1
  have b0 : W2.cell? ⟨b, 1, none⟩ = some (.int .i64 3) := (A1.below.cell (p := ⟨b, 1, none⟩) hb).trans C1.out
  clear pf hown1 hgrow1
  have hA1 := Lib.hid A1
  clear A1
  go_wp2_with (first
    | (go_at_call 37; refine (share4 _).mono ?_; rintro e w1 ⟨rfl, n2, rfl⟩)
    | (at_builtin; refine wpList_append_own _ rfl _ _ 66 rfl (w.heap.size + 1) 69 i0 (.agg #[.int .i64 0, .int .i64 0]) 2 16 Tryz.underlying66 hi hz0 hz1 hz2 rfl (by decide) _ _ _ rfl ((hA1.out.set n2 1 4).alloc _) ⟨W2.heap.size, 0, none⟩ 1 1 [.int .i64 1, .int .i64 2] rfl rfl (cell_two' _ _ (size_set' _ _ _ _ _) _ _ _) (by simp [Value.oneCell']) (by unfold maxLen; omega) (by omega) (by have := hA1.out.size; simp; omega) ?_; intro v2 W3 hown2 hgrow2 _; have A2 := hA1.out.next n2 1 4 _ 4 4 0 rfl hown2 hgrow2))
  clear b0 pf0 p0 p1 p2
  change Code.wp _ _ _ _ _
  obtain ⟨g2, k2, rfl⟩ := ownsRow_succ hown2
  obtain ⟨p0, p1, p2, pf⟩ := A2.cell
  have pf0 := pf 2
  have b0 : W3.cell? ⟨b, 2, none⟩ = some (.int .i64 1) := (A2.below.cell (p := ⟨b, 2, none⟩) hb).trans C2.out
  clear pf hown2 hgrow2
  have hA2 := Lib.hid A2
  clear A2
  go_wp2_with (first
    | (go_at_call 37; refine (share1 _).mono ?_; rintro e w1 ⟨rfl, n3, rfl⟩)
    | (at_builtin; refine wpList_append_own _ rfl _ _ 66 rfl (w.heap.size + 1) 69 i0 (.agg #[.int .i64 0, .int .i64 0]) 2 16 Tryz.underlying66 hi hz0 hz1 hz2 rfl (by decide) _ _ _ rfl ((hA2.out.set n3 2 1).alloc _) ⟨W3.heap.size, 0, none⟩ 1 1 [.int .i64 2, .int .i64 3] rfl rfl (cell_two' _ _ (size_set' _ _ _ _ _) _ _ _) (by simp [Value.oneCell']) (by unfold maxLen; omega) (by omega) (by have := hA2.out.size; simp; omega) ?_; intro v3 W4 hown3 hgrow3 _; have A3 := hA2.out.next n3 2 1 _ 4 4 1 rfl hown3 hgrow3))
  clear b0 pf0 p0 p1 p2
  obtain ⟨g3, k3, rfl⟩ := ownsRow_succ hown3
  obtain ⟨hR, hk3, hg3⟩ := rst_own (l := [(0, 2), (1, 2), (2, 3)]) hown3 rfl
  have hR' := Lib.hid hR
  have hA3 := Lib.hid A3
  have hglt := hR.lt
  clear hown3 hgrow3 A3 hR
  change Code.wp _ _ _ _ _
  go_upto_region 18 with (first
    | (go_at_call 38; refine (sort3 g3 k3 _ _ _ _ hR'.out hk3).mono ?_; rintro e W5 ⟨rfl, hg5, hR5⟩))
  obtain ⟨p0, p1, p2, pf⟩ := hA3.out.cell
  have ne3 : w.heap.size ≠ g3 := by omega
  have eP : W5.heap[w.heap.size]? = W4.heap[w.heap.size]? := hg5.block _ (by have := hA3.out.size; omega) (by simpa using ne3)
  have P := eP.trans hA3.out.parts
  have hb5 : Below w.heap.size w W5 := hA3.out.below.grown hg5 (by have := hA3.out.size; omega) (fun k e => by cases e; omega)
  have hR5' : Rst W5 g3 [(2, 3), (0, 2), (1, 2)] := hR5
  have z0 := (hR5'.cell (i := 0) rfl).1
  have z1 := (hR5'.cell (i := 0) rfl).2
  have hs5 := hR5'.lt
  simp only [Nat.zero_mul, Nat.zero_add] at z0 z1
  have y2 : W5.cell? ⟨w.heap.size, 2, none⟩ = some (.int .i64 1) := by simp [World.cell?, P]
  have y3 : W5.frozen? ⟨w.heap.size, 2, none⟩ = false := by simp [World.frozen?, P]
  have P' := Lib.hid P
  have hb5' := Lib.hid hb5
  have hs5p : w.heap.size < W5.heap.size := by omega
  clear P eP hR5 hR5' hb5 p0 p1 p2 pf hg5 hA0 hA1 hA2 hA3 hR'
  go_wp2
  refine wp_loop_rounds 2 ?_
  change Code.wp _ _ _ _ _
  go_wp2
  change Code.wp _ _ _ _ _
  go_wp2
  have F : ((W5.setCell ⟨w.heap.size, 2, none⟩ (.int .i64 2)).alloc (.cells #[.int .i64 2, .int .i64 3] 69)).heap[w.heap.size]? = some (.cells #[.int .i64 4, .int .i64 4, .int .i64 2] 3 (0, 0)) := by
    rw [Below.heap_alloc _ _ _ (by simp [World.setCell]; omega)]
    simp only [World.setCell]
    rw [Array.getElem?_modify, if_pos rfl, P'.out]
    rfl
  have hbF : Below w.heap.size w ((W5.setCell ⟨w.heap.size, 2, none⟩ (.int .i64 2)).alloc (.cells #[.int .i64 2, .int .i64 3] 69)) := (hb5'.out.setCell (Nat.le_refl _) _).alloc (by simp [World.setCell]; omega) _
  have F' := Lib.hid F
  clear F
  go_ret2
  have F := F'.out
  exact ⟨w.heap.size, rfl, (Array.getElem?_eq_some_iff.1 F).1, by simp [World.cell?, F], by simp [World.cell?, F], by simp [World.cell?, F], hbF⟩

/-- Two lists of three are the same. -/
theorem same_alive (b p : Nat) (w : World) (c0 : w.cell? ⟨p, 0, none⟩ = some (.int .i64 4)) (c1 : w.cell? ⟨p, 1, none⟩ = some (.int .i64 4)) (c2 : w.cell? ⟨p, 2, none⟩ = some (.int .i64 2))
    (d0 : w.cell? ⟨b, 0, none⟩ = some (.int .i64 4)) (d1 : w.cell? ⟨b, 1, none⟩ = some (.int .i64 4)) (d2 : w.cell? ⟨b, 2, none⟩ = some (.int .i64 2)) :
    Calls Tryz.prog 18 #[.slice (some ⟨p, 0, none⟩) 3 3, .slice (some ⟨b, 0, none⟩) 3 3] w fun e w' => e = .returned (.bool true) ∧ ∃ n, w' = w.drewN n := by
  go_enter Tryz.func18, Tryz.ntmps18
  go_wp2
  refine wp_loop_rounds 4 ?_
  change Code.wp _ _ _ _ _
  go_wp2
  go_quiet (fail)
  go_wp2
  change Code.wp _ _ _ _ _
  go_wp2
  go_quiet (fail)
  go_wp2
  change Code.wp _ _ _ _ _
  go_wp2
  go_quiet (fail)
  go_wp2
  change Code.wp _ _ _ _ _
  go_wp2
  go_ret
  exact ⟨rfl, _, rfl⟩
end Go.Proofs.Num
