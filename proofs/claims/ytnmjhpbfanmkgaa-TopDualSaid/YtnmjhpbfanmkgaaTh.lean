/- press.things, walked. -/
import Derived.Test.YtnmjhpbfanmkgaaBase
namespace Go.Proofs.Bins
open Go.RowKit Go.Lib Go.Proofs.YtnmjhpbfanmkgaaW.PrintWords Go.Proofs.YtnmjhpbfanmkgaaW.PrintLast Go.Proofs.YtnmjhpbfanmkgaaW.PrintMore Go.Proofs.Ytnmjhpbfanmkgaa.Q
set_option linter.unusedVariables false
set_option linter.unusedSimpArgs false
def outB (x : Int) : Bool := decide (x < 1) || decide (1073741824 < x)
def overB (most x : Int) : Bool := decide (most < x)
def thingsP (l : List Int) (most : Int) : Int :=
  if 12 < l.length then 3 else if most < 1 ∨ 1073741824 < most then 2 else if l.any outB then 2 else if l.any (overB most) then 13 else 0
theorem over_run (x most : Int) (a : Addr) (w : World) (hc : w.cell? a = some (.int .i64 most)) :
    Calls Try.prog 16 #[.int .i64 x, .pointer (some a)] w fun e w' => e = .returned (.bool (overB most x)) ∧ w' = w := by
  by_cases h : most < x
  · have d : decide (x > most) = true := decide_eq_true h
    have r : overB most x = true := decide_eq_true h
    rw [r]
    go_enter Try.func16, Try.ntmps16
    go_wp2
    go_ret
    exact ⟨rfl, rfl⟩
  · have d : decide (x > most) = false := decide_eq_false h
    have r : overB most x = false := decide_eq_false h
    rw [r]
    go_enter Try.func16, Try.ntmps16
    go_wp2
    go_ret
    exact ⟨rfl, rfl⟩
def IX (b : Bool) (w : World) (e : Ending) (w' : World) : Prop := ∃ r : Int, e = .returned (.int .i64 r) ∧ (if b then 0 ≤ r else r = -1) ∧ w' = w
set_option maxHeartbeats 1600000 in
theorem index_run (A : Option Addr) (c : Nat) (l : List Int) (most : Int) (a : Addr) (w : World) (HL : Held w A c l) (hl : l.length ≤ 12) (hc : w.cell? a = some (.int .i64 most)) :
    Calls Try.prog 22 #[.slice A l.length c, .func (.func 16) #[] #[.pointer (some a)]] w (IX (l.any (overB most)) w) := by
  have HLL := Aside0.mk HL
  have HC := Aside0.mk hc
  clear HL hc
  go_enter Try.func22, Try.ntmps22
  go_wp2
  go_loopg [8] l.length (fun kx s8 wr => ∃ k : Nat, s8 = .int .i64 k ∧ k ≤ l.length ∧ l.length - k ≤ kx ∧ wr = w ∧ Hid (l.any (overB most) = (l.drop k).any (overB most)))
  case atStart => exact ⟨0, rfl, Nat.zero_le _, Nat.le_refl _, rfl, rfl⟩
  case round =>
    obtain ⟨k, rfl, hk, hx, rfl, HA⟩ := hrel
    by_cases hlt : k < l.length
    · obtain ⟨ad, hA, hcell⟩ := HLL.out.cell (by omega)
      subst hA
      have hce := hcell k hlt
      obtain ⟨x, hxe⟩ : ∃ x, x = at_ l k := ⟨_, rfl⟩
      rw [← hxe] at hce
      have HD : Hid (l.drop k = x :: l.drop (k + 1)) := by show _ = _; rw [drop_at hlt, hxe]
      have HO := Aside0.mk (over_run x most a wr HC.out)
      clear hcell hxe
      cases hov : overB most x with
      | true =>
        rw [hov] at HO
        have HB : Hid (l.any (overB most) = true) := by show _ = _; rw [HA.out, HD.out, List.any_cons, hov, Bool.true_or]
        clear HA HD hov
        have h0 : (0 : Int) ≤ (k : Int) := by omega
        go_wp2_with (go_at_call 16; refine HO.out.mono ?_; rintro e w1 ⟨rfl, rfl⟩)
        go_ret
        exact ⟨(k : Int), rfl, by rw [HB.out]; exact h0, rfl⟩
      | false =>
        rw [hov] at HO
        have HB : Hid (l.any (overB most) = (l.drop (k + 1)).any (overB most)) := by show _ = _; rw [HA.out, HD.out, List.any_cons, hov, Bool.false_or]
        clear HA HD hov
        go_wp2_with (go_at_call 16; refine HO.out.mono ?_; rintro e w1 ⟨rfl, rfl⟩)
        go_roundg (l.length - (k + 1))
        case measure => omega
        case rel => exact ⟨k + 1, by go_num, by omega, Nat.le_refl _, rfl, HB⟩
    · have HB : Hid (l.any (overB most) = false) := by
        show _ = _
        rw [HA.out, List.drop_of_length_le (by omega)]
        rfl
      clear HA
      go_wp2
      go_ret
      exact ⟨-1, rfl, by rw [HB.out]; rfl, rfl⟩
theorem contains_run (A : Option Addr) (c : Nat) (l : List Int) (most : Int) (a : Addr) (w : World) (HL : Held w A c l) (hl : l.length ≤ 12) (hc : w.cell? a = some (.int .i64 most)) :
    Calls Try.prog 15 #[.slice A l.length c, .func (.func 16) #[] #[.pointer (some a)]] w fun e w' => e = .returned (.bool (l.any (overB most))) ∧ w' = w := by
  have H := Aside0.mk (index_run A c l most a w HL hl hc)
  clear HL hc
  cases hb : l.any (overB most) with
  | true =>
    rw [hb] at H
    clear hb
    go_enter Try.func15, Try.ntmps15
    go_wp2_with fail
    refine H.out.mono ?_
    rintro e w1 ⟨r, rfl, hr, rfl⟩
    have hr2 : 0 ≤ r := hr
    have d : decide (r ≥ 0) = true := decide_eq_true hr2
    clear hr
    go_wp2
    go_ret
    exact ⟨rfl, rfl⟩
  | false =>
    rw [hb] at H
    clear hb
    go_enter Try.func15, Try.ntmps15
    go_wp2_with fail
    refine H.out.mono ?_
    rintro e w1 ⟨r, rfl, hr, rfl⟩
    obtain rfl : r = -1 := hr
    go_wp2
    go_ret
    exact ⟨rfl, rfl⟩
set_option maxHeartbeats 1600000 in
theorem things_run (A : Option Addr) (c : Nat) (l : List Int) (most : Int) (w : World) (HL : Held w A c l) (hl63 : l.length ≤ 9223372036854775807) :
    Calls Try.prog 8 #[.slice A l.length c, .int .i64 most, .int .i64 12] w fun e w' => e = .returned (.int .i64 (thingsP l most)) ∧ Below w.heap.size w w' := by
  unfold thingsP
  by_cases h12 : 12 < l.length
  · rw [if_pos h12]
    have d : decide ((l.length : Int) > 12) = true := decide_eq_true (by omega)
    have d2 : (12 : Int) < (l.length : Int) := by omega
    clear HL
    go_enter Try.func8, Try.ntmps8
    go_wp2
    go_ret
    exact ⟨rfl, below_alloc (Below.refl _ _) _⟩
  rw [if_neg h12]
  have d12 : ¬ (12 : Int) < (l.length : Int) := by omega
  by_cases hm : most < 1
  · rw [if_pos (Or.inl hm)]
    have d : decide (most < 1) = true := decide_eq_true hm
    clear HL
    go_enter Try.func8, Try.ntmps8
    go_wp2
    go_ret
    exact ⟨rfl, below_alloc (Below.refl _ _) _⟩
  by_cases hm2 : 1073741824 < most
  · rw [if_pos (Or.inr hm2)]
    have d : decide (most < 1) = false := decide_eq_false hm
    have d2 : decide (most > 1073741824) = true := decide_eq_true hm2
    clear HL
    go_enter Try.func8, Try.ntmps8
    go_wp2
    go_ret
    exact ⟨rfl, below_alloc (Below.refl _ _) _⟩
  rw [if_neg (by omega)]
  have d : decide (most < 1) = false := decide_eq_false hm
  have d2 : decide (most > 1073741824) = false := decide_eq_false hm2
  have HW := Aside0.mk (below_alloc (Below.refl w.heap.size w) (.cells #[.int .i64 most] 3))
  have HG := Aside0.mk (blk_new w (.cells #[.int .i64 most] 3))
  have HLL := Aside0.mk (HL.below HW.out)
  have HPost : Hid ((if l.any outB = true then (2 : Int) else if l.any (overB most) = true then 13 else 0) = (if (l.drop 0).any outB = true then (2 : Int) else if l.any (overB most) = true then 13 else 0)) := rfl
  generalize hR : (if l.any outB = true then (2 : Int) else if l.any (overB most) = true then 13 else 0) = R at HPost ⊢
  have HR := Lib.hid hR
  clear HL hR
  go_enter Try.func8, Try.ntmps8
  go_upto_region 3 with (fail)
  generalize w.alloc (.cells #[.int .i64 most] 3) = w1 at HW HG HLL ⊢
  generalize hB : w.heap.size = B at HW HG ⊢
  have HBB := Lib.hid hB
  clear hB
  have xb := (blk_cell HG.out 0).trans rfl
  go_wp2
  go_loopg [28] l.length (fun kx s28 wr => ∃ k : Nat, s28 = .int .i64 k ∧ k ≤ l.length ∧ l.length - k ≤ kx ∧ wr = w1 ∧ Hid (l.any outB = (l.drop k).any outB))
  case atStart => exact ⟨0, rfl, Nat.zero_le _, Nat.le_refl _, rfl, rfl⟩
  case round =>
    obtain ⟨k, rfl, hk, hx, rfl, HA⟩ := hrel
    by_cases hlt : k < l.length
    · obtain ⟨ad, hA, hcell⟩ := HLL.out.cell (by omega)
      subst hA
      have hce := hcell k hlt
      obtain ⟨x, hxe⟩ : ∃ x, x = at_ l k := ⟨_, rfl⟩
      rw [← hxe] at hce
      have HD : Hid (l.drop k = x :: l.drop (k + 1)) := by show _ = _; rw [drop_at hlt, hxe]
      clear hcell hxe
      have klz : (k : Int) < (l.length : Int) := by omega
      by_cases o1 : x < 1
      · have HB : Hid (R = 2) := by
          show _ = _
          rw [← HR.out, if_pos (by rw [HA.out, HD.out, List.any_cons]; unfold outB; rw [decide_eq_true o1]; rfl)]
        have o1' : decide (x < 1) = true := decide_eq_true o1
        go_wp2
        go_ret
        exact ⟨by rw [HB.out]; rfl, by rw [HBB.out]; exact HW.out⟩
      · have o1' : decide (x < 1) = false := decide_eq_false o1
        by_cases o2 : 1073741824 < x
        · have HB : Hid (R = 2) := by
            show _ = _
            rw [← HR.out, if_pos (by rw [HA.out, HD.out, List.any_cons]; unfold outB; rw [decide_eq_true o2, Bool.or_true]; rfl)]
          have o2' : decide (x > 1073741824) = true := decide_eq_true o2
          go_wp2
          go_ret
          exact ⟨by rw [HB.out]; rfl, by rw [HBB.out]; exact HW.out⟩
        · have o2' : decide (x > 1073741824) = false := decide_eq_false o2
          have HB : Hid (l.any outB = (l.drop (k + 1)).any outB) := by
            show _ = _
            rw [HA.out, HD.out, List.any_cons]
            have : outB x = false := by unfold outB; rw [o1', show decide (1073741824 < x) = false from o2']; rfl
            rw [this, Bool.false_or]
          go_wp2
          go_roundg (l.length - (k + 1))
          case measure => omega
          case rel => exact ⟨k + 1, by go_num, by omega, Nat.le_refl _, rfl, HB⟩
    · have hlz : ¬ (k : Int) < (l.length : Int) := by omega
      have HC := Aside0.mk (contains_run A c l most ⟨B, 0, none⟩ wr HLL.out (by omega) xb)
      have HO : Hid (l.any outB = false) := by
        show _ = _
        rw [HA.out, List.drop_of_length_le (by omega)]
        rfl
      clear HA
      cases hov : l.any (overB most) with
      | true =>
        rw [hov] at HC
        have HB : Hid (R = 13) := by
          show _ = _
          rw [← HR.out, if_neg (by rw [HO.out]; decide), if_pos hov]
        clear HO HR hov
        go_wp2_with (go_at_call 15; refine HC.out.mono ?_; rintro e w1 ⟨rfl, rfl⟩)
        go_ret
        exact ⟨by rw [HB.out]; rfl, by rw [HBB.out]; exact HW.out⟩
      | false =>
        rw [hov] at HC
        have HB : Hid (R = 0) := by
          show _ = _
          rw [← HR.out, if_neg (by rw [HO.out]; decide), if_neg (by rw [hov]; decide)]
        clear HO HR hov
        go_wp2_with (go_at_call 15; refine HC.out.mono ?_; rintro e w1 ⟨rfl, rfl⟩)
        go_ret
        exact ⟨by rw [HB.out]; rfl, by rw [HBB.out]; exact HW.out⟩
end Go.Proofs.Bins
