/- Part 8 of the proof of NumDivides. -/
import Derived.Test.YtdjnneflpkllmaaDoorMNumDivides7

namespace Go.Proofs.Num
open Go.RowKit Go.Proofs.YtdjnneflpkllmaaDoorW.PrintWords Go.Proofs.YtdjnneflpkllmaaDoorW.PrintLast Go.Proofs.YtdjnneflpkllmaaDoorW.PrintMore Go.Proofs.YtdjnneflpkllmaaDoor.Q
set_option linter.unusedVariables false
set_option linter.unusedSimpArgs false
set_option maxHeartbeats 4000000 in
set_option maxRecDepth 1000000 in
theorem refdiv_none (N : Int) (l : List Int) (A1 : Option Addr) (c1 : Nat) (w : World) (hn : (weigh N l).2 ≠ 0) (hr1 : Kd.C (Kd.int .i64) w A1 l.length l) (hc1 : l.length ≤ c1) :
  Calls Tryd.prog 50 #[.int .i64 N, .slice A1 l.length c1] w fun e w' => e = .returned (.tuple #[.slice none 0 0, .int .i64 (weigh N l).2]) ∧ ∃ n, w' = w.drewN n := by
 obtain ⟨kw, hkw⟩ := (sums_ok N l).rounds
 generalize weigh N l = we at hn hkw ⊢
 obtain ⟨S, E⟩ := we
 replace hn : E ≠ 0 := hn
 show Calls _ _ _ _ fun e w' => e = .returned (.tuple #[.slice none 0 0, .int .i64 E]) ∧ _
 have HR1 := Aside0.mk hr1
 have HC1 := Aside0.mk hc1
 have HW := Aside0.mk hkw
 have hz : (E == 0) = false := beq_eq_false_iff_ne.mpr hn
 have hz2 : (E != 0) = true := bne_iff_ne.mpr hn
 clear hr1 hc1 hkw hn
 go_enter Tryd.func50, Tryd.ntmps50
 go_wp2_with (first
  | (go_at_call 97; refine (merinoref01_sums.calls kw N A1 c1 l S E _ HR1.out HC1.out HW.out).mono ?_; rintro e w' ⟨rfl, ⟨nd, rfl⟩⟩))
 go_ret2
 exact ⟨rfl, nd, rfl⟩
set_option maxHeartbeats 4000000 in
set_option maxRecDepth 1000000 in
theorem refdiv_zero (l : List Int) (A1 : Option Addr) (c1 : Nat) (w : World) (hfew : l.length ≤ 256) (hw : weigh 0 l = (0, 0)) (hr1 : Kd.C (Kd.int .i64) w A1 l.length l) (hc1 : l.length ≤ c1) :
  Calls Tryd.prog 50 #[.int .i64 0, .slice A1 l.length c1] w fun e w' => ∃ v0_ : Value, e = .returned (.tuple #[v0_, .int .i64 0]) ∧ Kd.R (Kd.int .i64) 3 w' w.heap.size (fun _ => True) v0_ (List.replicate l.length (0 : Int)) ∧ Below w.heap.size w w' := by
 obtain ⟨kw, hkw⟩ := (sums_ok 0 l).rounds
 rw [hw] at hkw
 have HR1 := Aside0.mk hr1
 have HC1 := Aside0.mk hc1
 have HW := Aside0.mk hkw
 have HB := Aside0.mk (Below.refl w.heap.size w)
 clear hr1 hc1 hkw hw
 have p0 : (0 : Int) ≤ (l.length : Int) := by omega
 have p1 : ((l.length : Int)).toNat ≤ 35184372088832 := by omega
 have P0 := Aside0.mk p0
 have P1 := Aside0.mk p1
 clear p0 p1
 go_enter Tryd.func50, Tryd.ntmps50
 go_wp2_with (first
  | (go_at_call 97; refine (merinoref01_sums.calls kw 0 A1 c1 l 0 0 _ HR1.out HC1.out HW.out).mono ?_; rintro e w' ⟨rfl, ⟨nd, rfl⟩⟩)
  | ((with_reducible refine gate_dst (N := 28) rfl ?_); refine Kd.R_make (Kd.int .i64) _ 3 rfl (N := 28) rfl 29 _ _ rfl (l.length : Int) rfl rfl Tryd.underlying29 (.int .i64 0) 8 info3 rfl (by decide) (by omega) 0 (ok := fun _ => True) (okp := fun _ => True) rfl (fun _ hk => hk) trivial P0.out (Nat.le_trans (Nat.mul_le_mul_right _ P1.out) (by omega)) (Below.refl _ _) (Nat.le_refl _) ?_; intro v8 w8 ho9 hb hg_ hnew_))
 clear hg_ hnew_
 have ho8 : Kd.R (Kd.int .i64) 3 w8 w.heap.size (fun _ => True) v8 (List.replicate l.length (0 : Int)) := by
  rw [Int.toNat_natCast] at ho9
  exact Kd.R_lower ho9 (below_size (pw_below_drewN HB.out _))
 have hB8 : Below w.heap.size w w8 := below_step (pw_below_drewN HB.out _) hb
 clear ho9 hb HB
 go_ret2
 exact ⟨_, rfl, ho8, hB8⟩
theorem Divided.uniq {N : Int} {l : List Int} {u v : List Int × Int} (hu : Divided N l u) (hv : Divided N l v) : u = v := by
 rcases hu with ⟨a, rfl⟩ | ⟨a, b, c, d, e⟩
 ·rcases hv with ⟨_, rfl⟩ | ⟨a', _⟩
  ·rfl
  ·exact absurd a' a
 ·rcases hv with ⟨a', _⟩ | ⟨a', b', c', d', e'⟩
  ·exact absurd a a'
  ·refine Prod.ext ?_ (b.trans b'.symm)
   have := d.uniq d' (by omega)
   rw [← tab_at (l := u.1), ← tab_at (l := v.1), c, c']
   exact tab_congr this
noncomputable def dividedV (N : Int) (l : List Int) : List Int × Int := Classical.choose (divide_ok N l)
theorem dividedV_ok (N : Int) (l : List Int) : Divided N l (dividedV N l) := (Classical.choose_spec (divide_ok N l)).2
end Go.Proofs.Num
namespace Go.Proofs.YtdjnneflpkllmaaDoor.Q
open Go.RowKit Go.Proofs.YtdjnneflpkllmaaDoorW.PrintWords Go.Proofs.YtdjnneflpkllmaaDoorW.PrintLast Go.Proofs.YtdjnneflpkllmaaDoorW.PrintMore Go.Proofs.Num
noncomputable def merinoref01_Divide.f (_k : Nat) (a0 : Int) (l1 : List Int) : Option (List Int × Int) := some (dividedV a0 l1)
theorem merinoref01_Divide.calls (k : Nat) (a0 : Int) (A1 : Option Addr) (c1 : Nat) (l1 : List Int) (r1 : List Int) (r2 : Int) (w : World) (hr1 : Kd.C (Kd.int .i64) w A1 l1.length l1) (hc1 : l1.length ≤ c1) (h : merinoref01_Divide.f k a0 l1 = some (r1, r2)) :
  Calls Tryd.prog 50 #[.int .i64 a0, .slice A1 l1.length c1] w fun e w' => ∃ v0_ : Value, e = .returned (.tuple #[v0_, .int .i64 r2]) ∧ Kd.R (Kd.int .i64) 3 w' w.heap.size (fun _ => True) v0_ r1 ∧ Below w.heap.size w w' := by
 have h' : dividedV a0 l1 = (r1, r2) := by injection h
 have D := dividedV_ok a0 l1
 rw [h'] at D
 clear h h'
 by_cases c : (weigh a0 l1).2 = 0
 ·obtain ⟨few, n0, n1, ww, hS, hz⟩ := weigh_ok c
  have hp : weigh a0 l1 = (sumTo (at_ l1) l1.length, 0) := Prod.ext hS c
  by_cases s0 : sumTo (at_ l1) l1.length = 0
  ·obtain rfl := hz s0
   rw [s0] at hp
   have Z : Divided 0 l1 (List.replicate l1.length 0, 0) := Or.inr ⟨c, rfl, by simp, ⟨fun i hi => by rw [at_replicate0]; omega, fun i hi => (ww i hi).1, fun i hi _ => at_replicate0 _ _, fun i j hi hj h1 => by rw [at_replicate0] at h1; omega⟩, by
    have a := sumTo_nonneg (p := at_ (List.replicate l1.length 0)) (n := l1.length) (fun i hi => by rw [at_replicate0]; omega)
    have b := sumTo_max (p := at_ (List.replicate l1.length 0)) (c := 0) (n := l1.length) (fun i hi => by rw [at_replicate0]; omega)
    show sumTo (at_ (List.replicate l1.length 0)) l1.length = 0
    omega⟩
   have e := D.uniq Z
   injection e with e1 e2
   subst e1 e2
   exact refdiv_zero l1 A1 c1 w few hp hr1 hc1
  ·have sp := sumTo_nonneg (p := at_ l1) (n := l1.length) (fun i hi => (ww i hi).1)
   refine (refdiv_main a0 _ l1 A1 c1 w ⟨n0, n1, few, ww, rfl, by omega⟩ hp hr1 hc1).mono ?_
   rintro e w' ⟨v, p, rfl, hR, hP, hs, hb⟩
   have e := D.uniq (Or.inr ⟨c, rfl, hP.len, hP.st, hs⟩ : Divided a0 l1 (p, 0))
   injection e with e1 e2
   subst e1 e2
   exact ⟨v, rfl, hR, hb⟩
 ·have e := D.uniq (Or.inl ⟨c, rfl⟩ : Divided a0 l1 ([], (weigh a0 l1).2))
  injection e with e1 e2
  subst e1 e2
  refine (refdiv_none a0 l1 A1 c1 w c hr1 hc1).mono ?_
  rintro e w' ⟨rfl, n, rfl⟩
  exact ⟨_, rfl, Kd.R_nil _ _ _ _ _, pw_below_drewN (Below.refl _ _) n⟩
end Go.Proofs.YtdjnneflpkllmaaDoor.Q

namespace Go.Proofs.Num
open Go.RowKit Go.Proofs.YtdjnneflpkllmaaDoorW.PrintWords Go.Proofs.YtdjnneflpkllmaaDoorW.PrintLast Go.Proofs.YtdjnneflpkllmaaDoorW.PrintMore Go.Proofs.YtdjnneflpkllmaaDoor.Q
set_option linter.unusedVariables false
set_option linter.unusedSimpArgs false
theorem spoilt_l1 : ∀ (c : Nat) (p : List Int) (i : Nat), 20 - i = c → i ≤ 20 → p.length + c ≤ 1000 → Ev (fun k => merinolaw01_spoilt.l1 k p (i : Int)) ((p.length + c : Nat) : Int) := by
  intro c
  induction c with
  | zero =>
    intro p i hc hi hp
    exact Ev.step (f := fun _ => some ((p.length : Nat) : Int)) (fun k => by rw [merinolaw01_spoilt.l1, if_neg (by omega)]) (Ev.now _)
  | succ c ih =>
    intro p i hc hi hp
    have E := ih (p ++ [5]) (i + 1) (by omega) (by omega) (by simp; omega)
    have e : (p ++ [5]).length + c = p.length + (c + 1) := by simp; omega
    rw [e] at E
    refine Ev.step (f := fun k => merinolaw01_spoilt.l1 k (p ++ [5]) ((i + 1 : Nat) : Int)) (fun k => ?_) E
    rw [merinolaw01_spoilt.l1, if_pos (by omega), if_pos (by omega), wd64 (x := (i : Int) + 1) (by omega) (by omega)]
    rfl
theorem spoilt_l0 : ∀ (c : Nat) (p : List Int) (i : Nat), p.length - i = c → i ≤ p.length → p.length ≤ 500 → Ev (fun k => merinolaw01_spoilt.l0 k p (i : Int)) ((p.length + 20 : Nat) : Int) := by
  intro c
  induction c with
  | zero =>
    intro p i hc hi hp
    exact Ev.step (f := fun k => merinolaw01_spoilt.l1 k p ((0 : Nat) : Int)) (fun k => by rw [merinolaw01_spoilt.l0, if_neg (by omega)]; rfl) (spoilt_l1 20 p 0 rfl (by omega) (by omega))
  | succ c ih =>
    intro p i hc hi hp
    have E := ih (p.set i (wrap64 (rd p (i : Int) - 1))) (i + 1) (by rw [List.length_set]; omega) (by rw [List.length_set]; omega) (by rw [List.length_set]; omega)
    rw [List.length_set] at E
    refine Ev.step (f := fun k => merinolaw01_spoilt.l0 k (p.set i (wrap64 (rd p (i : Int) - 1))) ((i + 1 : Nat) : Int)) (fun k => ?_) E
    rw [merinolaw01_spoilt.l0, if_pos (by omega), if_pos (by omega), wd64 (x := (i : Int) + 1) (by omega) (by omega), Int.toNat_natCast]
    rfl
theorem spoilt_ok {p : List Int} (hp : p.length ≤ 500) : Ev (fun k => merinolaw01_spoilt.f k p) ((p.length + 20 : Nat) : Int) := spoilt_l0 p.length p 0 (by omega) (by omega) hp
theorem R_rng {W W' : World} {base : Nat} {ok : Nat → Prop} {v : Value} {xs : List Int} (h : Kd.R (Kd.int .i64) 3 W' W.heap.size ok v xs) (hb : base ≤ W.heap.size) : Kd.R (Kd.int .i64) 3 W' base (fun k => W.heap.size ≤ k ∧ k < W'.heap.size) v xs :=
  Kd.R_of_own (own_weaken (Kd.own_of_R h) hb) (fun k hk => ⟨Kd.R_base h k hk, Kd.R_lt h k hk⟩)
theorem apportion_len {N : Int} {l P : List Int} {E : Int} (h : apportion N l = (P, E)) : P.length ≤ 256 := by
  unfold apportion at h
  by_cases z : (weigh N l).2 = 0
  · rw [if_pos z] at h
    injection h with h1 h2
    rw [← h1, tab_length]
    exact (weigh_ok z).1
  · rw [if_neg z] at h
    injection h with h1 h2
    rw [← h1]; simp
theorem divided_len {N : Int} {l Q : List Int} {E : Int} (h : dividedV N l = (Q, E)) : Q.length ≤ 256 := by
  have D := dividedV_ok N l
  rw [h] at D
  rcases D with ⟨_, e⟩ | ⟨z, _, hl, _⟩
  · injection e with e1 e2
    rw [e1]; simp
  · have := (weigh_ok z).1
    have hl' : Q.length = l.length := hl
    omega
theorem fewd_yes {l : List Int} (h : l.length ≤ 300) : merinolaw01_few.f l = some true := by unfold merinolaw01_few.f; rw [decide_eq_true (by omega)]
theorem fewd_no {l : List Int} (h : ¬ l.length ≤ 300) : merinolaw01_few.f l = some false := by unfold merinolaw01_few.f; rw [decide_eq_false (by omega)]
set_option maxHeartbeats 8000000 in
set_option maxRecDepth 1000000 in
theorem divides_long (N : Int) (A1 : Option Addr) (c1 : Nat) (l : List Int) (w : World) (h0 : ¬ l.length ≤ 300) (hr1 : Kd.C (Kd.int .i64) w A1 l.length l) (hc1 : l.length ≤ c1) :
    Calls Tryd.prog 11 #[.int .i64 N, .slice A1 l.length c1] w fun e w' => e = .returned (.bool true) ∧ Below w.heap.size w w' := by
  have HR1 := Aside0.mk hr1
  have HC1 := Aside0.mk hc1
  have HF := Aside0.mk (fewd_no h0)
  clear hr1 hc1 h0
  go_enter Tryd.func11, Tryd.ntmps11
  go_wp2_with (first
    | (go_at_call 35; refine (merinolaw01_few.calls A1 c1 l false _ HR1.out HC1.out HF.out).mono ?_; rintro e y ⟨rfl, hd⟩; have hb1 := Aside0.mk hd.below; clear hd)
    | (go_at_call 21; refine (merinolaw01_alive.calls true _ rfl).mono ?_; rintro e y2 ⟨rfl, hb2⟩; have hb3 := Aside0.mk (below_step hb1.out hb2)))
  go_ret
  exact ⟨rfl, hb3.out⟩
set_option maxHeartbeats 16000000 in
set_option maxRecDepth 1000000 in
theorem divides_few (N : Int) (A1 : Option Addr) (c1 : Nat) (l : List Int) (w : World) (h0 : l.length ≤ 300) (hr1 : Kd.C (Kd.int .i64) w A1 l.length l) (hc1 : l.length ≤ c1) :
    Calls Tryd.prog 11 #[.int .i64 N, .slice A1 l.length c1] w fun e w' => e = .returned (.bool true) ∧ Below w.heap.size w w' := by
  have HR1 := Aside0.mk hr1
  have HC1 := Aside0.mk hc1
  have HF := Aside0.mk (fewd_yes h0)
  obtain ⟨⟨P, E⟩, hP⟩ : ∃ v, apportion N l = v := ⟨_, rfl⟩
  obtain ⟨⟨Q, G⟩, hQ⟩ : ∃ v, dividedV N l = v := ⟨_, rfl⟩
  have lP := apportion_len hP
  have lQ := divided_len hQ
  obtain ⟨v, ⟨K1, E1⟩, D1⟩ := divide_ok N l
  have ev : v = (Q, G) := (D1.uniq (dividedV_ok N l)).trans hQ
  subst ev
  obtain ⟨K2, E2⟩ := full_ok (l := l) (by omega)
  obtain ⟨K3, E3⟩ := same_ok (l := l) (by omega)
  obtain ⟨K4, E4⟩ := same_ok (l := P) (by omega)
  obtain ⟨K5, E5⟩ := same_ok (l := Q) (by omega)
  obtain ⟨K6, E6⟩ := spoilt_ok (p := P) (by omega)
  obtain ⟨K7, E7⟩ := spoilt_ok (p := Q) (by omega)
  obtain ⟨K, hK⟩ : ∃ K, K = K1 + K2 + K3 + K4 + K5 + K6 + K7 := ⟨_, rfl⟩
  have FD := Aside0.mk (E1 K (by omega))
  have FF := Aside0.mk (E2 K (by omega))
  have FS := Aside0.mk (E3 K (by omega))
  have FP := Aside0.mk (E4 K (by omega))
  have FQ := Aside0.mk (E5 K (by omega))
  have SP := Aside0.mk (E6 K (by omega))
  have SQ := Aside0.mk (E7 K (by omega))
  have FA : Aside0 (num_Apportion.f K N l = some (P, E)) := ⟨congrArg some hP⟩
  have FB : Aside0 (merinoref01_Apportion.f K N l = some (P, E)) := ⟨congrArg some hP⟩
  have FE : Aside0 (merinoref01_Divide.f K N l = some (Q, G)) := ⟨congrArg some hQ⟩
  have L0 := Aside0.mk h0
  have LP := Aside0.mk lP
  have LQ := Aside0.mk lQ
  clear hr1 hc1 h0 hP hQ lP lQ E1 E2 E3 E4 E5 E6 E7 D1 hK
  have eE : (E != E) = false := by simp
  have eG : (G != G) = false := by simp
  obtain ⟨X, hX⟩ : ∃ X, ((P.length + 20 : Nat) : Int) = X := ⟨_, rfl⟩
  obtain ⟨Y, hY⟩ : ∃ Y, ((Q.length + 20 : Nat) : Int) = Y := ⟨_, rfl⟩
  have bXY : IntKind.i64.wrap (X + Y) = X + Y := by have := LP.out; have := LQ.out; rw [IntKind.wrap_i64]; omega
  have gXY : decide (40 ≤ X + Y) = true := decide_eq_true (by omega)
  rw [hX] at SP
  rw [hY] at SQ
  clear hX hY
  go_enter Tryd.func11, Tryd.ntmps11
  go_upto_region 4 with (first
    | (go_at_call 35; refine (merinolaw01_few.calls A1 c1 l true _ HR1.out HC1.out HF.out).mono ?_; rintro e y0 ⟨rfl, hd⟩; have B0 := Aside0.mk (show Below w.heap.size w y0 from hd.below); clear hd)
    | (go_at_call 36; refine (merinolaw01_fullc.calls K A1 c1 l _ _ (Kd.C_below HR1.out B0.out) HC1.out FF.out).mono ?_; rintro e y1 ⟨Ac, cc, rfl, hR, hb⟩; have Z1 := Aside0.mk (show y0.heap.size ≤ y1.heap.size from hb.size); have B1 := Aside0.mk (below_step B0.out hb); have RF := Aside0.mk (R_rng hR B0.out.size); clear hR hb))
  go_upto_region 5 with (first
    | (go_at_call 47; refine (num_Apportion.calls K N Ac cc l P E _ (full_take (Kd.R_reads' RF.out).2.2 (Kd.R_reads' RF.out).2.1 rfl) (full_cap (Kd.R_reads' RF.out).2.1 rfl) FA.out).mono ?_; rintro e y2 ⟨va, rfl, hR, hb⟩; obtain ⟨Aa, ca, rfl⟩ := Kd.R_slice hR; have Z2 := Aside0.mk (show y1.heap.size ≤ y2.heap.size from hb.size); have B2 := Aside0.mk (below_step B1.out hb); have RA := Aside0.mk (R_rng hR B1.out.size); have RF2 := Aside0.mk (Kd.R_below RF.out hb); clear hR hb))
  go_upto_region 6 with (first
    | (go_at_call 48; refine (merinoref01_Apportion.calls K N A1 c1 l P E _ (Kd.C_below HR1.out B2.out) HC1.out FB.out).mono ?_; rintro e y3 ⟨vb, rfl, hR, hb⟩; obtain ⟨Ab, cb, rfl⟩ := Kd.R_slice hR; have Z3 := Aside0.mk (show y2.heap.size ≤ y3.heap.size from hb.size); have B3 := Aside0.mk (below_step B2.out hb); have RB := Aside0.mk (R_rng hR B2.out.size); have RF3 := Aside0.mk (Kd.R_below RF2.out hb); have RA3 := Aside0.mk (Kd.R_below RA.out hb); clear hR hb))
  go_upto_region 7 with (first
    | (go_at_call 49; refine (num_Divide.calls K N Ac cc l Q G _ (full_take (Kd.R_reads' RF3.out).2.2 (Kd.R_reads' RF3.out).2.1 rfl) (full_cap (Kd.R_reads' RF3.out).2.1 rfl) FD.out).mono ?_; rintro e y4 ⟨vc, rfl, hR, hb⟩; obtain ⟨Ad, cd, rfl⟩ := Kd.R_slice hR; have Z4 := Aside0.mk (show y3.heap.size ≤ y4.heap.size from hb.size); have B4 := Aside0.mk (below_step B3.out hb); have RC := Aside0.mk (R_rng hR B3.out.size); have RF4 := Aside0.mk (Kd.R_below RF3.out hb); have RA4 := Aside0.mk (Kd.R_below RA3.out hb); have RB4 := Aside0.mk (Kd.R_below RB.out hb); clear hR hb))
  go_upto_region 8 with (first
    | (go_at_call 50; refine (merinoref01_Divide.calls K N A1 c1 l Q G _ (Kd.C_below HR1.out B4.out) HC1.out FE.out).mono ?_; rintro e y5 ⟨vd, rfl, hR, hb⟩; obtain ⟨Ae, ce, rfl⟩ := Kd.R_slice hR; have Z5 := Aside0.mk (show y4.heap.size ≤ y5.heap.size from hb.size); have B5 := Aside0.mk (below_step B4.out hb); have RD := Aside0.mk (R_rng hR B4.out.size); have RF5 := Aside0.mk (Kd.R_below RF4.out hb); have RA5 := Aside0.mk (Kd.R_below RA4.out hb); have RB5 := Aside0.mk (Kd.R_below RB4.out hb); have RC5 := Aside0.mk (Kd.R_below RC.out hb); clear hR hb))
  go_upto_region 10 with (first
    | (go_at_call 41; with_reducible refine (merinolaw01_same.calls K Aa ca P Ab cb P true _ (Kd.R_reads' RA5.out).2.2 (Kd.R_reads' RA5.out).2.1 (Kd.R_reads' RB5.out).2.2 (Kd.R_reads' RB5.out).2.1 FP.out).mono ?_; rintro e y6 ⟨rfl, hd⟩; have Z6 := Aside0.mk (show y5.heap.size ≤ y6.heap.size from hd.below.size); have B6 := Aside0.mk (below_step B5.out hd.below); have RF6 := Aside0.mk (Kd.R_below RF5.out hd.below); have RA6 := Aside0.mk (Kd.R_below RA5.out hd.below); have RB6 := Aside0.mk (Kd.R_below RB5.out hd.below); have RC6 := Aside0.mk (Kd.R_below RC5.out hd.below); have RD6 := Aside0.mk (Kd.R_below RD.out hd.below);  clear hd)
    | (go_at_call 41; with_reducible refine (merinolaw01_same.calls K Ad cd Q Ae ce Q true _ (Kd.R_reads' RC6.out).2.2 (Kd.R_reads' RC6.out).2.1 (Kd.R_reads' RD6.out).2.2 (Kd.R_reads' RD6.out).2.1 FQ.out).mono ?_; rintro e y7 ⟨rfl, hd⟩; have Z7 := Aside0.mk (show y6.heap.size ≤ y7.heap.size from hd.below.size); have B7 := Aside0.mk (below_step B6.out hd.below); have RF7 := Aside0.mk (Kd.R_below RF6.out hd.below); have RA7 := Aside0.mk (Kd.R_below RA6.out hd.below); have RB7 := Aside0.mk (Kd.R_below RB6.out hd.below); have RC7 := Aside0.mk (Kd.R_below RC6.out hd.below); have RD7 := Aside0.mk (Kd.R_below RD6.out hd.below);  clear hd)
    | (go_at_call 42; with_reducible refine (kept_whole K Ac cc (l ++ [77, 77]) A1 c1 l _ (Kd.R_reads' RF7.out).2.2 (Kd.R_reads' RF7.out).2.1 (Kd.C_below HR1.out B7.out) HC1.out ⟨rfl, by have := L0.out; omega, FS.out⟩).mono ?_; rintro e y8 ⟨rfl, hd⟩; have Z8 := Aside0.mk (show y7.heap.size ≤ y8.heap.size from hd.below.size); have B8 := Aside0.mk (below_step B7.out hd.below); have RF8 := Aside0.mk (Kd.R_below RF7.out hd.below); have RA8 := Aside0.mk (Kd.R_below RA7.out hd.below); have RB8 := Aside0.mk (Kd.R_below RB7.out hd.below); have RC8 := Aside0.mk (Kd.R_below RC7.out hd.below); have RD8 := Aside0.mk (Kd.R_below RD7.out hd.below); clear hd))
  go_upto_region 11 with (first
    | (go_at_call 51; with_reducible refine (merinolaw01_spoilt.calls K _ (.slice Aa P.length ca) P _ w _ B8.out RA8.out SP.out).mono ?_; rintro e y9 ⟨rfl, hb, hk⟩; have B9 := Aside0.mk (show Below w.heap.size w y9 from hb); have RF9 := Aside0.mk (Kd.R_kept RF8.out hk (fun k hk1 hk2 => by have := Z1.out; have := Z2.out; have := Z3.out; have := Z4.out; have := Z5.out; omega)); have RB9 := Aside0.mk (Kd.R_kept RB8.out hk (fun k hk1 hk2 => by have := Z1.out; have := Z2.out; have := Z3.out; have := Z4.out; have := Z5.out; omega)); have RC9 := Aside0.mk (Kd.R_kept RC8.out hk (fun k hk1 hk2 => by have := Z1.out; have := Z2.out; have := Z3.out; have := Z4.out; have := Z5.out; omega)); have RD9 := Aside0.mk (Kd.R_kept RD8.out hk (fun k hk1 hk2 => by have := Z1.out; have := Z2.out; have := Z3.out; have := Z4.out; have := Z5.out; omega)); clear hb hk)
    | (go_at_call 51; with_reducible refine (merinolaw01_spoilt.calls K _ (.slice Ad Q.length cd) Q _ w _ B9.out RC9.out SQ.out).mono ?_; rintro e y10 ⟨rfl, hb, hk⟩; have B10 := Aside0.mk (show Below w.heap.size w y10 from hb); have RF10 := Aside0.mk (Kd.R_kept RF9.out hk (fun k hk1 hk2 => by have := Z1.out; have := Z2.out; have := Z3.out; have := Z4.out; have := Z5.out; omega)); have RB10 := Aside0.mk (Kd.R_kept RB9.out hk (fun k hk1 hk2 => by have := Z1.out; have := Z2.out; have := Z3.out; have := Z4.out; have := Z5.out; omega)); have RD10 := Aside0.mk (Kd.R_kept RD9.out hk (fun k hk1 hk2 => by have := Z1.out; have := Z2.out; have := Z3.out; have := Z4.out; have := Z5.out; omega)); clear hb hk))
  go_upto_region 12 with (first
    | (go_at_call 47; refine (num_Apportion.calls K N Ac cc l P E _ (full_take (Kd.R_reads' RF10.out).2.2 (Kd.R_reads' RF10.out).2.1 rfl) (full_cap (Kd.R_reads' RF10.out).2.1 rfl) FA.out).mono ?_; rintro e y11 ⟨va, rfl, hR, hb⟩; obtain ⟨Af, cf, rfl⟩ := Kd.R_slice hR; have B11 := Aside0.mk (below_step B10.out hb); have RA11 := Aside0.mk (R_rng hR B10.out.size); have RF11 := Aside0.mk (Kd.R_below RF10.out hb); have RB11 := Aside0.mk (Kd.R_below RB10.out hb); have RD11 := Aside0.mk (Kd.R_below RD10.out hb); clear hR hb))
  go_upto_region 13 with (first
    | (go_at_call 49; refine (num_Divide.calls K N Ac cc l Q G _ (full_take (Kd.R_reads' RF11.out).2.2 (Kd.R_reads' RF11.out).2.1 rfl) (full_cap (Kd.R_reads' RF11.out).2.1 rfl) FD.out).mono ?_; rintro e y12 ⟨vc, rfl, hR, hb⟩; obtain ⟨Ag, cg, rfl⟩ := Kd.R_slice hR; have B12 := Aside0.mk (below_step B11.out hb); have RC12 := Aside0.mk (R_rng hR B11.out.size); have RA12 := Aside0.mk (Kd.R_below RA11.out hb); have RB12 := Aside0.mk (Kd.R_below RB11.out hb); have RD12 := Aside0.mk (Kd.R_below RD11.out hb); clear hR hb))
  go_wp2_with (first
    | (go_at_call 41; with_reducible refine (merinolaw01_same.calls K Af cf P Ab cb P true _ (Kd.R_reads' RA12.out).2.2 (Kd.R_reads' RA12.out).2.1 (Kd.R_reads' RB12.out).2.2 (Kd.R_reads' RB12.out).2.1 FP.out).mono ?_; rintro e y13 ⟨rfl, hd⟩; have B13 := Aside0.mk (below_step B12.out hd.below); have RC13 := Aside0.mk (Kd.R_below RC12.out hd.below); have RD13 := Aside0.mk (Kd.R_below RD12.out hd.below); clear hd)
    | (go_at_call 41; with_reducible refine (merinolaw01_same.calls K Ag cg Q Ae ce Q true _ (Kd.R_reads' RC13.out).2.2 (Kd.R_reads' RC13.out).2.1 (Kd.R_reads' RD13.out).2.2 (Kd.R_reads' RD13.out).2.1 FQ.out).mono ?_; rintro e y14 ⟨rfl, hd⟩; have B14 := Aside0.mk (below_step B13.out hd.below); clear hd)
    | (go_at_call 21; refine (merinolaw01_alive.calls true _ rfl).mono ?_; rintro e y15 ⟨rfl, hb⟩; have B15 := Aside0.mk (below_step B14.out hb); clear hb))
  go_ret
  exact ⟨rfl, B15.out⟩
theorem walk_NumDivides (N : Int) (A1 : Option Addr) (c1 : Nat) (l : List Int) (w : World) (hr1 : Kd.C (Kd.int .i64) w A1 l.length l) (hc1 : l.length ≤ c1) :
    Calls Tryd.prog 11 #[.int .i64 N, .slice A1 l.length c1] w fun e w' => e = .returned (.bool true) ∧ Below w.heap.size w w' := by
  by_cases h0 : l.length ≤ 300
  · exact divides_few N A1 c1 l w h0 hr1 hc1
  · exact divides_long N A1 c1 l w h0 hr1 hc1
end Go.Proofs.Num
