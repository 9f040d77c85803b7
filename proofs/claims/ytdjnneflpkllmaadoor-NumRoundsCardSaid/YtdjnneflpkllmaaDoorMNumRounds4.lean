/- Part 4 of the proof of NumRounds. -/
import Derived.Test.YtdjnneflpkllmaaDoorMNumRounds3

namespace Go.Proofs.Num
open Go.RowKit Go.Proofs.YtdjnneflpkllmaaDoorW.PrintWords Go.Proofs.YtdjnneflpkllmaaDoorW.PrintMore Go.Proofs.YtdjnneflpkllmaaDoor.Q
set_option linter.unusedVariables false
set_option linter.unusedSimpArgs false
/-- The lengths of the numbers below 256. -/
def lenTab : ByteArray := ⟨#[0, 1, 2, 2, 3, 3, 3, 3, 4, 4, 4, 4, 4, 4, 4, 4, 5, 5, 5, 5, 5, 5, 5, 5, 5, 5, 5, 5, 5, 5, 5, 5, 6, 6, 6, 6, 6, 6, 6, 6, 6, 6, 6, 6, 6, 6, 6, 6, 6, 6, 6, 6, 6, 6, 6, 6, 6, 6, 6, 6, 6, 6, 6, 6, 7, 7, 7, 7, 7, 7, 7, 7, 7, 7, 7, 7, 7, 7, 7, 7, 7, 7, 7, 7, 7, 7, 7, 7, 7, 7, 7, 7, 7, 7, 7, 7, 7, 7, 7, 7, 7, 7, 7, 7, 7, 7, 7, 7, 7, 7, 7, 7, 7, 7, 7, 7, 7, 7, 7, 7, 7, 7, 7, 7, 7, 7, 7, 7, 8, 8, 8, 8, 8, 8, 8, 8, 8, 8, 8, 8, 8, 8, 8, 8, 8, 8, 8, 8, 8, 8, 8, 8, 8, 8, 8, 8, 8, 8, 8, 8, 8, 8, 8, 8, 8, 8, 8, 8, 8, 8, 8, 8, 8, 8, 8, 8, 8, 8, 8, 8, 8, 8, 8, 8, 8, 8, 8, 8, 8, 8, 8, 8, 8, 8, 8, 8, 8, 8, 8, 8, 8, 8, 8, 8, 8, 8, 8, 8, 8, 8, 8, 8, 8, 8, 8, 8, 8, 8, 8, 8, 8, 8, 8, 8, 8, 8, 8, 8, 8, 8, 8, 8, 8, 8, 8, 8, 8, 8, 8, 8, 8, 8, 8, 8, 8, 8, 8, 8, 8, 8, 8, 8, 8, 8, 8, 8]⟩
/-- How long a number is. -/
def IsLen (x : Int) (r : Nat) : Prop := x < 2 ^ r ∧ (0 < x → 1 ≤ r ∧ 2 ^ (r - 1) ≤ x)
instance (x : Int) (r : Nat) : Decidable (IsLen x r) := inferInstanceAs (Decidable (_ ∧ _))
theorem lenTab_all : ∀ n : Fin 256, (bt lenTab ((n.val : Nat) : Int)).toNat ≤ 8 ∧ ((bt lenTab ((n.val : Nat) : Int)).toNat : Int) = bt lenTab ((n.val : Nat) : Int) ∧ IsLen ((n.val : Nat) : Int) (bt lenTab ((n.val : Nat) : Int)).toNat := by decide +kernel
theorem lenTab_ok {x : Int} (h0 : 0 ≤ x) (h1 : x < 256) : ∃ r : Nat, bt lenTab x = r ∧ r ≤ 8 ∧ IsLen x r := by
  have h := lenTab_all ⟨x.toNat, by omega⟩
  have e : (((⟨x.toNat, by omega⟩ : Fin 256).val : Nat) : Int) = x := by show ((x.toNat : Nat) : Int) = x; omega
  rw [e] at h
  exact ⟨_, h.2.1.symm, h.1, h.2.2⟩
theorem isLen_up {x : Int} {r : Nat} (c : Nat) (x0 : 0 ≤ x) (h : IsLen (x / 2 ^ c) r) (hp : 0 < x / 2 ^ c) : IsLen x (c + r) := by
  obtain ⟨h1, h2⟩ := h
  obtain ⟨h3, h4⟩ := h2 hp
  have C : (0 : Int) < 2 ^ c := Int.pow_pos (by omega)
  have e := Int.mul_ediv_add_emod x (2 ^ c)
  have e1 := Int.emod_nonneg x (show (2 : Int) ^ c ≠ 0 by omega)
  have e2 := Int.emod_lt_of_pos x C
  refine ⟨?_, fun _ => ⟨by omega, ?_⟩⟩
  · rw [Int.pow_add]
    have := Int.mul_le_mul_of_nonneg_left (show x / 2 ^ c + 1 ≤ 2 ^ r by omega) (show (0 : Int) ≤ 2 ^ c by omega)
    rw [Int.mul_add] at this
    omega
  · rw [show c + r - 1 = c + (r - 1) by omega, Int.pow_add]
    have := Int.mul_le_mul_of_nonneg_left h4 (show (0 : Int) ≤ 2 ^ c by omega)
    omega
set_option maxRecDepth 100000 in
theorem len_j0 {x : Int} (x0 : 0 ≤ x) (x1 : x < 4294967296) (n : Int) (n0 : 0 ≤ n) (n1 : n ≤ 32) : ∃ r : Nat, r ≤ 32 ∧ IsLen x r ∧ ∀ k, bits_Len64.j0 (k + 1) x n = some (n + r) := by
  by_cases a : x ≥ 65536
  · by_cases b : x / 65536 ≥ 256
    · obtain ⟨r, e, h8, h⟩ := lenTab_ok (x := x / 65536 / 256 % 256) (by omega) (by omega)
      refine ⟨24 + r, by omega, isLen_up 24 x0 ?_ ?_, fun k => ?_⟩
      · rw [show x / 2 ^ 24 = x / 65536 / 256 % 256 by omega]; exact h
      · omega
      · rw [bits_Len64.j0, if_pos a, if_pos b, if_pos (by omega), if_pos (by omega)]
        show some (wrap64 (wrap64 (wrap64 (n + 16) + 8) + wrap64 (bt lenTab (x / 65536 / 256 % 256)))) = _
        rw [e]
        unfold wrap64
        congr 1; omega
    · obtain ⟨r, e, h8, h⟩ := lenTab_ok (x := x / 65536 % 256) (by omega) (by omega)
      refine ⟨16 + r, by omega, isLen_up 16 x0 ?_ ?_, fun k => ?_⟩
      · rw [show x / 2 ^ 16 = x / 65536 % 256 by omega]; exact h
      · omega
      · rw [bits_Len64.j0, if_pos a, if_neg b, if_pos (by omega), if_pos (by omega)]
        show some (wrap64 (wrap64 (n + 16) + wrap64 (bt lenTab (x / 65536 % 256)))) = _
        rw [e]
        unfold wrap64
        congr 1; omega
  · by_cases b : x ≥ 256
    · obtain ⟨r, e, h8, h⟩ := lenTab_ok (x := x / 256 % 256) (by omega) (by omega)
      refine ⟨8 + r, by omega, isLen_up 8 x0 ?_ ?_, fun k => ?_⟩
      · rw [show x / 2 ^ 8 = x / 256 % 256 by omega]; exact h
      · omega
      · rw [bits_Len64.j0, if_neg a, if_pos b, if_pos (by omega), if_pos (by omega)]
        show some (wrap64 (wrap64 (n + 8) + wrap64 (bt lenTab (x / 256 % 256)))) = _
        rw [e]
        unfold wrap64
        congr 1; omega
    · obtain ⟨r, e, h8, h⟩ := lenTab_ok (x := x % 256) (by omega) (by omega)
      refine ⟨r, by omega, ?_, fun k => ?_⟩
      · rw [show x % 256 = x by omega] at h; exact h
      · rw [bits_Len64.j0, if_neg a, if_neg b, if_pos (by omega), if_pos (by omega)]
        show some (wrap64 (n + wrap64 (bt lenTab (x % 256)))) = _
        rw [e]
        unfold wrap64
        congr 1; omega
theorem len64_ok {x : Int} (x0 : 0 ≤ x) (x1 : x < 18446744073709551616) : ∃ r : Nat, r ≤ 64 ∧ IsLen x r ∧ Ev (fun k => bits_Len64.f k x) (r : Int) := by
  by_cases a : x ≥ 4294967296
  · obtain ⟨r, h1, h2, h3⟩ := len_j0 (x := x / 4294967296) (by omega) (by omega) 32 (by omega) (by omega)
    refine ⟨32 + r, by omega, isLen_up 32 x0 ?_ ?_, ?_⟩
    · rw [show x / 2 ^ 32 = x / 4294967296 by omega]; exact h2
    · omega
    · unfold bits_Len64.f
      simp only [if_pos a]
      exact Ev.step (f := fun _ => some ((32 + r : Nat) : Int)) (fun k => by rw [h3]; rfl) (Ev.now _)
  · obtain ⟨r, h1, h2, h3⟩ := len_j0 (x := x) (by omega) (by omega) 0 (by omega) (by omega)
    refine ⟨r, by omega, h2, ?_⟩
    unfold bits_Len64.f
    simp only [if_neg a]
    exact Ev.step (f := fun _ => some ((r : Nat) : Int)) (fun k => by rw [h3, Int.zero_add]) (Ev.now _)
theorem zeros_ok {y : Int} (y0 : 0 < y) (y1 : y < 18446744073709551616) : ∃ s : Nat, s ≤ 63 ∧ Ev (fun k => bits_LeadingZeros64.f k y) (s : Int) ∧ 9223372036854775808 ≤ y * 2 ^ s ∧ y * 2 ^ s < 18446744073709551616 := by
  obtain ⟨r, h1, ⟨h2, h3⟩, E⟩ := len64_ok (x := y) (by omega) y1
  obtain ⟨h4, h5⟩ := h3 y0
  refine ⟨64 - r, by omega, ?_, ?_, ?_⟩
  · unfold bits_LeadingZeros64.f
    refine Ev.bind E ?_
    simp only [show wrap64 (64 - (r : Int)) = ((64 - r : Nat) : Int) by unfold wrap64; omega]
    exact Ev.now _
  · have := Int.mul_le_mul_of_nonneg_right h5 (show (0 : Int) ≤ 2 ^ (64 - r) by exact Int.le_of_lt (Int.pow_pos (by omega)))
    rw [← Int.pow_add, show r - 1 + (64 - r) = 63 by omega] at this
    exact this
  · have := Int.mul_lt_mul_of_pos_right h2 (show (0 : Int) < 2 ^ (64 - r) by exact Int.pow_pos (by omega))
    rw [← Int.pow_add, show r + (64 - r) = 64 by omega] at this
    exact this
theorem or_words {a b : Int} {s : Nat} (a0 : 0 ≤ a) (b0 : 0 ≤ b) (hb : b < 2 ^ s) (h : a * 2 ^ s + b < 18446744073709551616) : Go.bits .or .u64 (a * 2 ^ s) b = a * 2 ^ s + b := by
  obtain ⟨x, rfl⟩ := Int.eq_ofNat_of_zero_le a0
  obtain ⟨y, rfl⟩ := Int.eq_ofNat_of_zero_le b0
  have hy : y < 2 ^ s := by exact_mod_cast hb
  have e : (x : Int) * 2 ^ s = ((x * 2 ^ s : Nat) : Int) := by simp
  rw [e] at h ⊢
  rw [Go.bits_or_u64_nat _ _ (by omega) (by omega)]
  have := Nat.shiftLeft_add_eq_or_of_lt hy x
  rw [Nat.shiftLeft_eq] at this
  rw [← this]
  omega
/-- Div64. -/
theorem div64_ok {hi lo y : Int} (h0 : 0 ≤ hi) (hy : hi < y) (y1 : y < 18446744073709551616) (l0 : 0 ≤ lo) (l1 : lo < 18446744073709551616) :
    Ev (fun k => bits_Div64.f k hi lo y) ((hi * 18446744073709551616 + lo) / y, (hi * 18446744073709551616 + lo) % y) := by
  unfold bits_Div64.f
  simp only [if_neg (show ¬ y = 0 by omega), if_neg (show ¬ y ≤ hi by omega)]
  unfold bits_Div64_g.f
  by_cases hz : hi = 0
  · subst hz
    have q0 : 0 ≤ lo / y := Int.ediv_nonneg l0 (by omega)
    have q1 : lo / y ≤ lo := Int.ediv_le_self _ l0
    simp only [if_true, if_neg (show ¬ y = 0 by omega), Int.tdiv_eq_ediv_of_nonneg l0, Int.tmod_eq_emod_of_nonneg l0, uw_in (x := lo / y) q0 (by omega), Int.zero_mul, Int.zero_add]
    exact Ev.now _
  simp only [if_neg hz]
  obtain ⟨s, hs, Es, Y0, Y1⟩ := zeros_ok (y := y) (by omega) y1
  refine Ev.bind Es ?_
  have S0 : (0 : Int) < 2 ^ s := Int.pow_pos (by omega)
  have D0 : (0 : Int) < 2 ^ (64 - s) := Int.pow_pos (by omega)
  have SD : (2 : Int) ^ s * 2 ^ (64 - s) = 18446744073709551616 := by rw [← Int.pow_add, show s + (64 - s) = 64 by omega]; rfl
  have ws : IntKind.u64.wrap (s : Int) = (s : Int) := uw_in (by omega) (by omega)
  have ws2 : IntKind.u64.wrap (64 - (s : Int)) = ((64 - s : Nat) : Int) := by rw [uw]; omega
  have bb : IntKind.u64.bits = 64 := rfl
  have sh : ∀ x : Int, shl .u64 x (s : Int) = IntKind.u64.wrap (x * 2 ^ s) := fun x => by unfold shl; rw [bb, Int.toNat_natCast, Nat.min_eq_left (by omega)]
  have sr : ∀ x : Int, shr .u64 x (s : Int) = x / 2 ^ s := fun x => by unfold shr; rw [bb, Int.toNat_natCast, Nat.min_eq_left (by omega)]
  have sr2 : ∀ x : Int, shr .u64 x ((64 - s : Nat) : Int) = x / 2 ^ (64 - s) := fun x => by unfold shr; rw [bb, Int.toNat_natCast, Nat.min_eq_left (by omega)]
  have m1 : hi * 2 ^ s < y * 2 ^ s := Int.mul_lt_mul_of_pos_right hy S0
  have m0 : 0 ≤ hi * 2 ^ s := Int.mul_nonneg h0 (by omega)
  have m2 : (hi + 1) * 2 ^ s ≤ y * 2 ^ s := Int.mul_le_mul_of_nonneg_right (by omega) (by omega)
  rw [Int.add_mul] at m2
  -- what the low word gives
  have L0 := Int.mul_ediv_add_emod lo (2 ^ (64 - s))
  have L1 := Int.emod_nonneg lo (show (2 : Int) ^ (64 - s) ≠ 0 by omega)
  have L2 := Int.emod_lt_of_pos lo D0
  have L3 : 0 ≤ lo / 2 ^ (64 - s) := Int.ediv_nonneg l0 (by omega)
  have L4 : lo / 2 ^ (64 - s) < 2 ^ s := by
    refine Int.ediv_lt_of_lt_mul D0 ?_
    rw [SD]; exact l1
  have V0 : 0 ≤ lo % 2 ^ (64 - s) * 2 ^ s := Int.mul_nonneg L1 (by omega)
  have V1 : lo % 2 ^ (64 - s) * 2 ^ s < 18446744073709551616 := by
    have := Int.mul_lt_mul_of_pos_right L2 S0
    rw [Int.mul_comm (2 ^ (64 - s)) (2 ^ s), SD] at this
    exact this
  have lS : lo * 2 ^ s = lo / 2 ^ (64 - s) * 18446744073709551616 + lo % 2 ^ (64 - s) * 2 ^ s := by
    conv => lhs; rw [← L0]
    rw [← SD]; grind
  have orr : Go.bits .or .u64 (IntKind.u64.wrap (hi * 2 ^ s)) (lo / 2 ^ (64 - s)) = hi * 2 ^ s + lo / 2 ^ (64 - s) := by
    rw [uw_in (x := hi * 2 ^ s) m0 (by omega)]
    exact or_words h0 L3 L4 (by omega)
  have wl : IntKind.u64.wrap (lo * 2 ^ s) = lo % 2 ^ (64 - s) * 2 ^ s := by rw [uw, lS]; omega
  have wy : IntKind.u64.wrap (y * 2 ^ s) = y * 2 ^ s := uw_in (by omega) (by omega)
  simp only [ws, ws2, sh, sr, sr2, orr, wl, wy, and32 (x := y * 2 ^ s) (by omega) (by omega), and32 V0 V1, if_pos (show 0 ≤ (s : Int) by omega), if_pos (show 0 ≤ ((64 - s : Nat) : Int) by omega), if_neg (show ¬ y * 2 ^ s / 4294967296 = 0 by omega)]
  obtain ⟨N, hN⟩ : ∃ N : Int, N = hi * 18446744073709551616 + lo := ⟨_, rfl⟩
  have NS : N * 2 ^ s = (hi * 2 ^ s + lo / 2 ^ (64 - s)) * 18446744073709551616 + lo % 2 ^ (64 - s) * 2 ^ s := by
    rw [hN, Int.add_mul, lS]; grind
  rw [← hN]
  have U1 : hi * 2 ^ s + lo / 2 ^ (64 - s) < y * 2 ^ s := by omega
  have U0 : 0 ≤ hi * 2 ^ s + lo / 2 ^ (64 - s) := by omega
  have Yy : y * 2 ^ s / 4294967296 * 4294967296 + y * 2 ^ s % 4294967296 = y * 2 ^ s := by omega
  clear L0 L1 L2 L3 L4 m0 m1 m2 lS orr wl wy hN Es sh sr sr2
  have sr : ∀ x : Int, shr .u64 x (s : Int) = x / 2 ^ s := fun x => by unfold shr; rw [bb, Int.toNat_natCast, Nat.min_eq_left (by omega)]
  generalize hU : hi * 2 ^ s + lo / 2 ^ (64 - s) = U at *
  generalize hV : lo % 2 ^ (64 - s) * 2 ^ s = V at *
  generalize hY : y * 2 ^ s = Y at *
  have R1 := div_of (N := U * 4294967296 + V / 4294967296) (y := Y) (q := (U * 4294967296 + V / 4294967296) / Y) (by omega)
  obtain ⟨A, hA⟩ : ∃ A : Int, A = U * 4294967296 + V / 4294967296 := ⟨_, rfl⟩
  have a1 := Int.mul_ediv_add_emod A Y
  have a2 := Int.emod_nonneg A (show Y ≠ 0 by omega)
  have a3 := Int.emod_lt_of_pos A (show 0 < Y by omega)
  have a4 : 0 ≤ A / Y := Int.ediv_nonneg (by omega) (by omega)
  have a5 : A / Y < 4294967296 := Int.ediv_lt_of_lt_mul (by omega) (by omega)
  obtain ⟨C, hC⟩ : ∃ C : Int, C = A % Y * 4294967296 + V % 4294967296 := ⟨_, rfl⟩
  have c1 := Int.mul_ediv_add_emod C Y
  have c2 := Int.emod_nonneg C (show Y ≠ 0 by omega)
  have c3 := Int.emod_lt_of_pos C (show 0 < Y by omega)
  have c4 : 0 ≤ C / Y := Int.ediv_nonneg (by omega) (by omega)
  have c5 : C / Y < 4294967296 := Int.ediv_lt_of_lt_mul (by omega) (by omega)
  -- the result
  have key : N * 2 ^ s = (A / Y * 4294967296 + C / Y) * y * 2 ^ s + C % Y := by
    have e : (A / Y * 4294967296 + C / Y) * y * 2 ^ s = A / Y * 4294967296 * Y + C / Y * Y := by rw [← hY]; grind
    have e2 : A / Y * 4294967296 * Y = Y * (A / Y) * 4294967296 := by grind
    have e3 : C / Y * Y = Y * (C / Y) := Int.mul_comm _ _
    rw [NS, e, e2, e3]
    omega
  obtain ⟨T, hT⟩ : ∃ T : Int, T = N - (A / Y * 4294967296 + C / Y) * y := ⟨_, rfl⟩
  have TS : T * 2 ^ s = C % Y := by rw [hT, Int.sub_mul]; omega
  have T0 : 0 ≤ T := by
    refine Int.le_of_mul_le_mul_right (a := 2 ^ s) ?_ S0
    omega
  have T1 : T < y := by
    refine Int.lt_of_mul_lt_mul_right (a := 2 ^ s) ?_ (by omega)
    omega
  have res := div_of (N := N) (y := y) (q := A / Y * 4294967296 + C / Y) (by omega) (by omega) (by rw [Int.add_mul, Int.one_mul]; omega)
  have CT : C % Y / 2 ^ s = T := by rw [← TS]; exact Int.mul_ediv_cancel _ (by omega)
  rw [← res.1, ← res.2, ← hT, ← CT]
  have q0 : 0 ≤ U / (Y / 4294967296) := Int.ediv_nonneg U0 (by omega)
  have qm := Int.mul_ediv_add_emod U (Y / 4294967296)
  have qr := Int.emod_nonneg U (show Y / 4294967296 ≠ 0 by omega)
  have qr2 := Int.emod_lt_of_pos U (show 0 < Y / 4294967296 by omega)
  have small : ∀ W : Int, 0 ≤ W → W < Y → W / (Y / 4294967296) ≤ 4294967297 := fun W w0 w1 => by
    have : W / (Y / 4294967296) < 4294967298 := by
      refine Int.ediv_lt_of_lt_mul (by omega) ?_
      omega
    omega
  have q1 := small U U0 U1
  have wq : IntKind.u64.wrap (Int.tdiv U (Y / 4294967296)) = U / (Y / 4294967296) := by
    rw [Int.tdiv_eq_ediv_of_nonneg U0]; exact uw_in q0 (by omega)
  have wr : IntKind.u64.wrap (U - IntKind.u64.wrap (U / (Y / 4294967296) * (Y / 4294967296))) = U % (Y / 4294967296) := by
    have : U / (Y / 4294967296) * (Y / 4294967296) = Y / 4294967296 * (U / (Y / 4294967296)) := Int.mul_comm _ _
    have m0 : 0 ≤ Y / 4294967296 * (U / (Y / 4294967296)) := Int.mul_nonneg (by omega) q0
    rw [this, uw, uw]; omega
  simp only [wq, wr]
  have G := guess_start (y1 := Y / 4294967296) (y0 := Y % 4294967296) (U := U) (u := V / 4294967296) (by omega) (by omega) U0 (by omega)
  refine guess_loop (y1 := Y / 4294967296) (y0 := Y % 4294967296) (U := U) (u := V / 4294967296) (by omega) (by omega) (by omega) (by omega) U0 (by omega) (by omega) (by omega)
    (fun k q r => bits_Div64_g.l0 k Y s (Y / 4294967296) (Y % 4294967296) U (V / 4294967296) (V % 4294967296) q r)
    (fun k q _ => bits_Div64_g.j2 k Y s (Y / 4294967296) (Y % 4294967296) U (V / 4294967296) (V % 4294967296) q)
    (fun k q r b => bits_Div64_g.j1 k Y s (Y / 4294967296) (Y % 4294967296) U (V / 4294967296) (V % 4294967296) q r b)
    (fun k q r => by rw [bits_Div64_g.l0]) (fun k q r b => by rw [bits_Div64_g.j1]) (fun r => ?_) _ _ _ rfl G q1 (by omega)
  rw [Yy, ← hA]
  have w21 : IntKind.u64.wrap (IntKind.u64.wrap (IntKind.u64.wrap (U * 4294967296) + V / 4294967296) - IntKind.u64.wrap (A / Y * Y)) = A % Y := by
    have : A / Y * Y = Y * (A / Y) := Int.mul_comm _ _
    rw [this, uw, uw, uw, uw]
    omega
  have p0 : 0 ≤ A % Y / (Y / 4294967296) := Int.ediv_nonneg a2 (by omega)
  have p1 := small (A % Y) a2 a3
  have pm := Int.mul_ediv_add_emod (A % Y) (Y / 4294967296)
  have pr := Int.emod_nonneg (A % Y) (show Y / 4294967296 ≠ 0 by omega)
  have pr2 := Int.emod_lt_of_pos (A % Y) (show 0 < Y / 4294967296 by omega)
  have wp : IntKind.u64.wrap (Int.tdiv (A % Y) (Y / 4294967296)) = A % Y / (Y / 4294967296) := by
    rw [Int.tdiv_eq_ediv_of_nonneg a2]; exact uw_in p0 (by omega)
  have wpr : IntKind.u64.wrap (A % Y - IntKind.u64.wrap (A % Y / (Y / 4294967296) * (Y / 4294967296))) = A % Y % (Y / 4294967296) := by
    have : A % Y / (Y / 4294967296) * (Y / 4294967296) = Y / 4294967296 * (A % Y / (Y / 4294967296)) := Int.mul_comm _ _
    have m0 : 0 ≤ Y / 4294967296 * (A % Y / (Y / 4294967296)) := Int.mul_nonneg (by omega) p0
    rw [this, uw, uw]; omega
  refine Ev.step (f := fun k => bits_Div64_g.l1 k Y s (Y / 4294967296) (Y % 4294967296) (V % 4294967296) (A / Y) (A % Y % (Y / 4294967296)) (A % Y) (A % Y / (Y / 4294967296))) (fun k => by
    rw [bits_Div64_g.j2, if_neg (by omega), w21, wp, wpr]) ?_
  have G2 := guess_start (y1 := Y / 4294967296) (y0 := Y % 4294967296) (U := A % Y) (u := V % 4294967296) (by omega) (by omega) a2 (by omega)
  refine guess_loop (y1 := Y / 4294967296) (y0 := Y % 4294967296) (U := A % Y) (u := V % 4294967296) (by omega) (by omega) (by omega) (by omega) a2 (by omega) (by omega) (by omega)
    (fun k q r => bits_Div64_g.l1 k Y s (Y / 4294967296) (Y % 4294967296) (V % 4294967296) (A / Y) r (A % Y) q)
    (fun k q _ => if 0 ≤ (s : Int) then some (IntKind.u64.wrap (IntKind.u64.wrap (A / Y * 4294967296) + q), shr .u64 (IntKind.u64.wrap (IntKind.u64.wrap (IntKind.u64.wrap (A % Y * 4294967296) + V % 4294967296) - IntKind.u64.wrap (q * Y))) s) else none)
    (fun k q r b => bits_Div64_g.j4 k Y s (Y / 4294967296) (Y % 4294967296) (V % 4294967296) (A / Y) r (A % Y) q b)
    (fun k q r => by rw [bits_Div64_g.l1]) (fun k q r b => by rw [bits_Div64_g.j4]) (fun r => ?_) _ _ _ rfl G2 p1 (by omega)
  rw [Yy, ← hC]
  have w0 : IntKind.u64.wrap (IntKind.u64.wrap (A / Y * 4294967296) + C / Y) = A / Y * 4294967296 + C / Y := by rw [uw_in (x := A / Y * 4294967296) (by omega) (by omega), uw_in (by omega) (by omega)]
  have w1 : IntKind.u64.wrap (IntKind.u64.wrap (IntKind.u64.wrap (A % Y * 4294967296) + V % 4294967296) - IntKind.u64.wrap (C / Y * Y)) = C % Y := by
    have : C / Y * Y = Y * (C / Y) := Int.mul_comm _ _
    rw [this, uw, uw, uw, uw]
    omega
  simp only [if_pos (show 0 ≤ (s : Int) by omega), w0, w1, sr]
  exact Ev.now _
end Go.Proofs.Num

namespace Go.Proofs.YtdjnneflpkllmaaDoor.Q
open Go.RowKit Go.Proofs.YtdjnneflpkllmaaDoorW.PrintWords Go.Proofs.YtdjnneflpkllmaaDoorW.PrintLast Go.Proofs.YtdjnneflpkllmaaDoorW.PrintMore
attribute [local go_sem] max2_int min2_int max_two min_two max_three min_three max_four min_four   -- for this text's walks alone
set_option linter.unusedVariables false
set_option linter.unusedSimpArgs false
def num_size.f (a0 : Int) : Option (Int) := if a0 < 0 then (some (IntKind.u64.wrap (-(IntKind.u64.wrap (a0))))) else (some (IntKind.u64.wrap (a0)))
set_option maxHeartbeats 8000000 in
set_option maxRecDepth 100000 in
theorem num_size.calls (a0 : Int) (r : Int) (w : World) (h : num_size.f a0 = some r) :
    Calls Tryd.prog 78 #[.int .i64 a0] w fun e w' => e = .returned (.int .u64 r) ∧ Drawn0 w w' := by
  have H : (if a0 < 0 then (some (IntKind.u64.wrap (-(IntKind.u64.wrap (a0))))) else (some (IntKind.u64.wrap (a0)))) = some r := h
  clear h
  by_cases c2 : a0 < 0
  · rw [if_pos c2] at H
    have c2b0 : decide (a0 < 0) = true := decide_eq_true c2
    clear c2
    obtain rfl := Option.some.inj H
    go_enter Tryd.func78, Tryd.ntmps78
    go_wp2
    go_ret
    exact ⟨by first | rfl | (simp; done) | (simp [*]; done), by repeat (first | exact Drawn0.refl _ | apply Drawn0.step)⟩
  · rw [if_neg c2] at H
    have c2b0 : decide (a0 < 0) = false := decide_eq_false c2
    clear c2
    obtain rfl := Option.some.inj H
    go_enter Tryd.func78, Tryd.ntmps78
    go_wp2
    go_ret
    exact ⟨by first | rfl | (simp; done) | (simp [*]; done), by repeat (first | exact Drawn0.refl _ | apply Drawn0.step)⟩
end Go.Proofs.YtdjnneflpkllmaaDoor.Q

namespace Go.Proofs.YtdjnneflpkllmaaDoor.Q
open Go.RowKit Go.Proofs.YtdjnneflpkllmaaDoorW.PrintWords Go.Proofs.YtdjnneflpkllmaaDoorW.PrintLast Go.Proofs.YtdjnneflpkllmaaDoorW.PrintMore
attribute [local go_sem] max2_int min2_int max_two min_two max_three min_three max_four min_four   -- for this text's walks alone
set_option linter.unusedVariables false
set_option linter.unusedSimpArgs false
def num_gcd.l0 : Nat → Int → Int → Option (Int)
  | 0, _, _ => none
  | k + 1, x0, x1 => if x1 = 0 then (some x0) else (num_gcd.l0 k x1 (Int.tmod x0 x1))
def num_gcd.f (k : Nat) (a0 : Int) (a1 : Int) : Option (Int) := num_gcd.l0 k a0 a1
theorem num_gcd.mono_l : ∀ k, (∀ y0 y1, LeO (num_gcd.l0 k y0 y1) (num_gcd.l0 (k + 1) y0 y1))
  | 0 => fun _ _ r h => by simp [num_gcd.l0] at h
  | k + 1 => by
    have ih0 := num_gcd.mono_l k
    · intro y0 y1
      unfold num_gcd.l0
      repeat' first
      | (with_reducible exact ih0 _ _)
      | (with_reducible exact LeO.refl _)
      | (with_reducible exact LeO.none _)
      | (with_reducible refine LeO.ite ?_ ?_)
      | (with_reducible refine LeO.bind ?_ (fun _ => ?_))
      | exact ih0 _ _
      | exact LeO.none _
      | refine LeO.ite ?_ ?_
      | refine LeO.bind ?_ (fun _ => ?_)
theorem num_gcd.mono : ∀ a0 a1 k, LeO (num_gcd.f k a0 a1) (num_gcd.f (k + 1) a0 a1) := by
  intro a0 a1 k
  have ih0 := num_gcd.mono_l k
  unfold num_gcd.f
  repeat' first
      | (with_reducible exact ih0 _ _)
      | (with_reducible exact LeO.refl _)
      | (with_reducible exact LeO.none _)
      | (with_reducible refine LeO.ite ?_ ?_)
      | (with_reducible refine LeO.bind ?_ (fun _ => ?_))
      | exact ih0 _ _
      | exact LeO.none _
      | refine LeO.ite ?_ ?_
      | refine LeO.bind ?_ (fun _ => ?_)
set_option maxHeartbeats 8000000 in
set_option maxRecDepth 100000 in
theorem num_gcd.calls (k : Nat) (a0 : Int) (a1 : Int) (r : Int) (w : World) (h : num_gcd.f k a0 a1 = some r) :
    Calls Tryd.prog 77 #[.int .u64 a0, .int .u64 a1] w fun e w' => e = .returned (.int .u64 r) ∧ Drawn0 w w' := by
  have H : (num_gcd.l0 k a0 a1) = some r := h
  clear h
  have H' := Aside0.mk H
  clear H
  go_enter Tryd.func77, Tryd.ntmps77
  go_wp2
  repeat (go_quiet (fail); try go_wp2)
  go_loopg [0, 1] k (fun kq v0 v1 w' => ∃ (x0_1 : Int) (x1_1 : Int), v0 = .int .u64 x0_1 ∧ v1 = .int .u64 x1_1 ∧ Aside0 (num_gcd.l0 kq x0_1 x1_1 = some r) ∧ Aside0 (kq ≤ k) ∧ Drawn0 w w')
  case atStart => exact ⟨(a0), (a1), (by first | rfl | (simp; done) | (simp [*]; done)), (by first | rfl | (simp; done) | (simp [*]; done)), H', ⟨Nat.le_refl _⟩, by repeat (first | exact Drawn0.refl _ | apply Drawn0.step)⟩
  case round =>
    clear H'
    try clear p2
    obtain ⟨x0_1, x1_1, rfl, rfl, HA, HK1, ⟨m1, rfl⟩⟩ := hrel
    cases gk with
    | zero => exact absurd HA.out (by simp [num_gcd.l0])
    | succ k1 =>
      have H := HA.out
      clear HA
      simp only [num_gcd.l0] at H
      by_cases c3 : x1_1 = 0
      · rw [if_pos c3] at H
        have c3b0 : (x1_1 == 0) = true := beq_iff_eq.mpr c3
        have c3b1 : (x1_1 != 0) = false := bne_eq_false_iff_eq.mpr c3
        clear c3
        obtain rfl := Option.some.inj H
        go_wp2
        repeat (go_quiet (fail); try go_wp2)
        go_ret
        exact ⟨by first | rfl | (simp; done) | (simp [*]; done), by repeat (first | exact Drawn0.refl _ | apply Drawn0.step)⟩
      · rw [if_neg c3] at H
        have c3b0 : (x1_1 == 0) = false := beq_eq_false_iff_ne.mpr c3
        have c3b1 : (x1_1 != 0) = true := bne_iff_ne.mpr c3
        have H' := Aside0.mk H
        clear H
        go_wp2
        repeat (go_quiet (fail); try go_wp2)
        go_roundg k1
        case measure => have := HK1.out; omega
        case rel => exact ⟨(x1_1), (Int.tmod x0_1 x1_1), (by first | rfl | (simp; done) | (simp [*]; done)), (by first | rfl | (simp; done) | (simp [*]; done)), H', ⟨by have := HK1.out; omega⟩, by repeat (first | exact Drawn0.refl _ | apply Drawn0.step)⟩
def num_Valid.f (k : Nat) (a0_0 : Int) (a0_1 : Int) : Option (Bool) := if a0_1 ≥ 1 then (if a0_1 ≤ 1048576 then (if a0_0 ≥ (-1099511627776) then (if a0_0 ≤ 1099511627776 then ((num_size.f a0_0).bind fun t116 => ((num_gcd.f k t116 (IntKind.u64.wrap (a0_1))).bind fun t117 => (some (t117 == 1)))) else (some false)) else (some false)) else (some false)) else (some false)
theorem num_Valid.mono : ∀ a0 a1 k, LeO (num_Valid.f k a0 a1) (num_Valid.f (k + 1) a0 a1) := by
  intro a0 a1 k
  unfold num_Valid.f
  repeat' first
      | (with_reducible exact num_gcd.mono _ _ _)
      | (with_reducible exact LeO.refl _)
      | (with_reducible exact LeO.none _)
      | (with_reducible refine LeO.ite ?_ ?_)
      | (with_reducible refine LeO.bind ?_ (fun _ => ?_))
      | exact num_gcd.mono _ _ _
      | exact LeO.none _
      | refine LeO.ite ?_ ?_
      | refine LeO.bind ?_ (fun _ => ?_)
set_option maxHeartbeats 8000000 in
set_option maxRecDepth 100000 in
theorem num_Valid.calls (k : Nat) (a0_0 : Int) (a0_1 : Int) (r : Bool) (w : World) (h : num_Valid.f k a0_0 a0_1 = some r) :
    Calls Tryd.prog 26 #[.agg #[.int .i64 a0_0, .int .i64 a0_1]] w fun e w' => e = .returned (.bool r) ∧ Below w.heap.size w w' := by
  have hu23 := Tryd.underlying23
  have HB := Aside0.mk (Below.refl w.heap.size w)
  have H : (if a0_1 ≥ 1 then (if a0_1 ≤ 1048576 then (if a0_0 ≥ (-1099511627776) then (if a0_0 ≤ 1099511627776 then ((num_size.f a0_0).bind fun t116 => ((num_gcd.f k t116 (IntKind.u64.wrap (a0_1))).bind fun t117 => (some (t117 == 1)))) else (some false)) else (some false)) else (some false)) else (some false)) = some r := h
  clear h
  by_cases c2 : a0_1 ≥ 1
  · rw [if_pos c2] at H
    have c2b0 : decide (1 ≤ a0_1) = true := decide_eq_true c2
    clear c2
    by_cases c3 : a0_1 ≤ 1048576
    · rw [if_pos c3] at H
      have c3b0 : decide (a0_1 ≤ 1048576) = true := decide_eq_true c3
      clear c3
      by_cases c4 : a0_0 ≥ (-1099511627776)
      · rw [if_pos c4] at H
        have c4b0 : decide ((-1099511627776) ≤ a0_0) = true := decide_eq_true c4
        clear c4
        by_cases c5 : a0_0 ≤ 1099511627776
        · rw [if_pos c5] at H
          have c5b0 : decide (a0_0 ≤ 1099511627776) = true := decide_eq_true c5
          clear c5
          replace H := Option.bind_eq_some_iff.mp H
          obtain ⟨t116, A60, H⟩ := H
          replace H : ((num_gcd.f k t116 (IntKind.u64.wrap (a0_1))).bind fun t117 => (some (t117 == 1))) = some r := H
          have A6 := Aside0.mk A60
          clear A60
          replace H := Option.bind_eq_some_iff.mp H
          obtain ⟨t117, A70, H⟩ := H
          replace H : (some (t117 == 1)) = some r := H
          have A7 := Aside0.mk A70
          clear A70
          obtain rfl := Option.some.inj H
          go_enter Tryd.func26, Tryd.ntmps26
          go_wp2_with (first | ((with_reducible refine gate_dst (N := 1) rfl ?_); refine box_event ?hg (N := 1) ?hd (cs := #[.int .i64 a0_0, .int .i64 a0_1]) (t := 23) ?hr ?_; (case hd => rfl); (case hg => rfl); (case hr => first | (go_simp; done) | (go_simp; rfl)); intro gb115 hg w8 hbox hb; have n0_ := Aside0.mk (below_step (q0_ HB.out) hb); have n1_ := Aside0.mk (hbox); have n2_ := Aside0.mk ((by rw [hg]; exact (below_size (q0_ HB.out)) : w.heap.size ≤ gb115)); have n3_ := Aside0.mk ((by rw [hg]; exact (below_size (q0_ HB.out)) : w.heap.size ≤ gb115)); clear HB; have HB := n0_; have BK115 := n1_; have GW115 := n2_; have GE115 := n3_; clear n0_ n1_ n2_ n3_; clear hb hbox hg; have hcz9_0 : w8.cell? ⟨gb115, 0, none⟩ = some (.int .i64 a0_0) := (blk_cell BK115.out 0).trans rfl; have hcz9_1 : w8.cell? ⟨gb115, 1, none⟩ = some (.int .i64 a0_1) := (blk_cell BK115.out 1).trans rfl; have hfz9_0 := blk_frozen BK115.out 0; have hfz9_1 := blk_frozen BK115.out 1) | (go_at_call 78; (with_reducible refine (num_size.calls a0_0 t116 _ A6.out).mono ?_); rintro e w' ⟨rfl, ⟨nd, rfl⟩⟩; (try first | exact ⟨rfl, _, World.drewN_drewN _ _ _⟩ | exact ⟨rfl, _, Eq.trans (World.drewN_drewN _ _ _) (congrArg (World.drewN _) (Nat.add_assoc _ _ _))⟩)) | (go_at_call 77; (with_reducible refine (num_gcd.calls k t116 (IntKind.u64.wrap (a0_1)) t117 _ A7.out).mono ?_); rintro e w' ⟨rfl, ⟨nd, rfl⟩⟩; (try first | exact ⟨rfl, _, World.drewN_drewN _ _ _⟩ | exact ⟨rfl, _, Eq.trans (World.drewN_drewN _ _ _) (congrArg (World.drewN _) (Nat.add_assoc _ _ _))⟩)))
          repeat (go_quiet (first | ((with_reducible refine gate_dst (N := 1) rfl ?_); refine box_event ?hg (N := 1) ?hd (cs := #[.int .i64 a0_0, .int .i64 a0_1]) (t := 23) ?hr ?_; (case hd => rfl); (case hg => rfl); (case hr => first | (go_simp; done) | (go_simp; rfl)); intro gb115 hg w8 hbox hb; have n0_ := Aside0.mk (below_step (q0_ HB.out) hb); have n1_ := Aside0.mk (hbox); have n2_ := Aside0.mk ((by rw [hg]; exact (below_size (q0_ HB.out)) : w.heap.size ≤ gb115)); have n3_ := Aside0.mk ((by rw [hg]; exact (below_size (q0_ HB.out)) : w.heap.size ≤ gb115)); clear HB; have HB := n0_; have BK115 := n1_; have GW115 := n2_; have GE115 := n3_; clear n0_ n1_ n2_ n3_; clear hb hbox hg; have hcz9_0 : w8.cell? ⟨gb115, 0, none⟩ = some (.int .i64 a0_0) := (blk_cell BK115.out 0).trans rfl; have hcz9_1 : w8.cell? ⟨gb115, 1, none⟩ = some (.int .i64 a0_1) := (blk_cell BK115.out 1).trans rfl; have hfz9_0 := blk_frozen BK115.out 0; have hfz9_1 := blk_frozen BK115.out 1) | (go_at_call 78; (with_reducible refine (num_size.calls a0_0 t116 _ A6.out).mono ?_); rintro e w' ⟨rfl, ⟨nd, rfl⟩⟩; (try first | exact ⟨rfl, _, World.drewN_drewN _ _ _⟩ | exact ⟨rfl, _, Eq.trans (World.drewN_drewN _ _ _) (congrArg (World.drewN _) (Nat.add_assoc _ _ _))⟩)) | (go_at_call 77; (with_reducible refine (num_gcd.calls k t116 (IntKind.u64.wrap (a0_1)) t117 _ A7.out).mono ?_); rintro e w' ⟨rfl, ⟨nd, rfl⟩⟩; (try first | exact ⟨rfl, _, World.drewN_drewN _ _ _⟩ | exact ⟨rfl, _, Eq.trans (World.drewN_drewN _ _ _) (congrArg (World.drewN _) (Nat.add_assoc _ _ _))⟩))); try go_wp2_with (first | ((with_reducible refine gate_dst (N := 1) rfl ?_); refine box_event ?hg (N := 1) ?hd (cs := #[.int .i64 a0_0, .int .i64 a0_1]) (t := 23) ?hr ?_; (case hd => rfl); (case hg => rfl); (case hr => first | (go_simp; done) | (go_simp; rfl)); intro gb115 hg w8 hbox hb; have n0_ := Aside0.mk (below_step (q0_ HB.out) hb); have n1_ := Aside0.mk (hbox); have n2_ := Aside0.mk ((by rw [hg]; exact (below_size (q0_ HB.out)) : w.heap.size ≤ gb115)); have n3_ := Aside0.mk ((by rw [hg]; exact (below_size (q0_ HB.out)) : w.heap.size ≤ gb115)); clear HB; have HB := n0_; have BK115 := n1_; have GW115 := n2_; have GE115 := n3_; clear n0_ n1_ n2_ n3_; clear hb hbox hg; have hcz9_0 : w8.cell? ⟨gb115, 0, none⟩ = some (.int .i64 a0_0) := (blk_cell BK115.out 0).trans rfl; have hcz9_1 : w8.cell? ⟨gb115, 1, none⟩ = some (.int .i64 a0_1) := (blk_cell BK115.out 1).trans rfl; have hfz9_0 := blk_frozen BK115.out 0; have hfz9_1 := blk_frozen BK115.out 1) | (go_at_call 78; (with_reducible refine (num_size.calls a0_0 t116 _ A6.out).mono ?_); rintro e w' ⟨rfl, ⟨nd, rfl⟩⟩; (try first | exact ⟨rfl, _, World.drewN_drewN _ _ _⟩ | exact ⟨rfl, _, Eq.trans (World.drewN_drewN _ _ _) (congrArg (World.drewN _) (Nat.add_assoc _ _ _))⟩)) | (go_at_call 77; (with_reducible refine (num_gcd.calls k t116 (IntKind.u64.wrap (a0_1)) t117 _ A7.out).mono ?_); rintro e w' ⟨rfl, ⟨nd, rfl⟩⟩; (try first | exact ⟨rfl, _, World.drewN_drewN _ _ _⟩ | exact ⟨rfl, _, Eq.trans (World.drewN_drewN _ _ _) (congrArg (World.drewN _) (Nat.add_assoc _ _ _))⟩))))
          go_ret
          exact ⟨by first | rfl | (simp [errW_none, errW_some] <;> rfl) | (simp [*, errW_none, errW_some] <;> rfl), (q1_ HB.out GE115.out)⟩
        · rw [if_neg c5] at H
          have c5b0 : decide (a0_0 ≤ 1099511627776) = false := decide_eq_false c5
          clear c5
          obtain rfl := Option.some.inj H
          go_enter Tryd.func26, Tryd.ntmps26
          go_wp2_with (first | ((with_reducible refine gate_dst (N := 1) rfl ?_); refine box_event ?hg (N := 1) ?hd (cs := #[.int .i64 a0_0, .int .i64 a0_1]) (t := 23) ?hr ?_; (case hd => rfl); (case hg => rfl); (case hr => first | (go_simp; done) | (go_simp; rfl)); intro gb115 hg w10 hbox hb; have n0_ := Aside0.mk (below_step (q0_ HB.out) hb); have n1_ := Aside0.mk (hbox); have n2_ := Aside0.mk ((by rw [hg]; exact (below_size (q0_ HB.out)) : w.heap.size ≤ gb115)); have n3_ := Aside0.mk ((by rw [hg]; exact (below_size (q0_ HB.out)) : w.heap.size ≤ gb115)); clear HB; have HB := n0_; have BK115 := n1_; have GW115 := n2_; have GE115 := n3_; clear n0_ n1_ n2_ n3_; clear hb hbox hg; have hcz11_0 : w10.cell? ⟨gb115, 0, none⟩ = some (.int .i64 a0_0) := (blk_cell BK115.out 0).trans rfl; have hcz11_1 : w10.cell? ⟨gb115, 1, none⟩ = some (.int .i64 a0_1) := (blk_cell BK115.out 1).trans rfl; have hfz11_0 := blk_frozen BK115.out 0; have hfz11_1 := blk_frozen BK115.out 1))
          repeat (go_quiet (first | ((with_reducible refine gate_dst (N := 1) rfl ?_); refine box_event ?hg (N := 1) ?hd (cs := #[.int .i64 a0_0, .int .i64 a0_1]) (t := 23) ?hr ?_; (case hd => rfl); (case hg => rfl); (case hr => first | (go_simp; done) | (go_simp; rfl)); intro gb115 hg w10 hbox hb; have n0_ := Aside0.mk (below_step (q0_ HB.out) hb); have n1_ := Aside0.mk (hbox); have n2_ := Aside0.mk ((by rw [hg]; exact (below_size (q0_ HB.out)) : w.heap.size ≤ gb115)); have n3_ := Aside0.mk ((by rw [hg]; exact (below_size (q0_ HB.out)) : w.heap.size ≤ gb115)); clear HB; have HB := n0_; have BK115 := n1_; have GW115 := n2_; have GE115 := n3_; clear n0_ n1_ n2_ n3_; clear hb hbox hg; have hcz11_0 : w10.cell? ⟨gb115, 0, none⟩ = some (.int .i64 a0_0) := (blk_cell BK115.out 0).trans rfl; have hcz11_1 : w10.cell? ⟨gb115, 1, none⟩ = some (.int .i64 a0_1) := (blk_cell BK115.out 1).trans rfl; have hfz11_0 := blk_frozen BK115.out 0; have hfz11_1 := blk_frozen BK115.out 1)); try go_wp2_with (first | ((with_reducible refine gate_dst (N := 1) rfl ?_); refine box_event ?hg (N := 1) ?hd (cs := #[.int .i64 a0_0, .int .i64 a0_1]) (t := 23) ?hr ?_; (case hd => rfl); (case hg => rfl); (case hr => first | (go_simp; done) | (go_simp; rfl)); intro gb115 hg w10 hbox hb; have n0_ := Aside0.mk (below_step (q0_ HB.out) hb); have n1_ := Aside0.mk (hbox); have n2_ := Aside0.mk ((by rw [hg]; exact (below_size (q0_ HB.out)) : w.heap.size ≤ gb115)); have n3_ := Aside0.mk ((by rw [hg]; exact (below_size (q0_ HB.out)) : w.heap.size ≤ gb115)); clear HB; have HB := n0_; have BK115 := n1_; have GW115 := n2_; have GE115 := n3_; clear n0_ n1_ n2_ n3_; clear hb hbox hg; have hcz11_0 : w10.cell? ⟨gb115, 0, none⟩ = some (.int .i64 a0_0) := (blk_cell BK115.out 0).trans rfl; have hcz11_1 : w10.cell? ⟨gb115, 1, none⟩ = some (.int .i64 a0_1) := (blk_cell BK115.out 1).trans rfl; have hfz11_0 := blk_frozen BK115.out 0; have hfz11_1 := blk_frozen BK115.out 1)))
          go_ret
          exact ⟨by first | rfl | (simp [errW_none, errW_some] <;> rfl) | (simp [*, errW_none, errW_some] <;> rfl), (q1_ HB.out GE115.out)⟩
      · rw [if_neg c4] at H
        have c4b0 : decide ((-1099511627776) ≤ a0_0) = false := decide_eq_false c4
        clear c4
        obtain rfl := Option.some.inj H
        go_enter Tryd.func26, Tryd.ntmps26
        go_wp2_with (first | ((with_reducible refine gate_dst (N := 1) rfl ?_); refine box_event ?hg (N := 1) ?hd (cs := #[.int .i64 a0_0, .int .i64 a0_1]) (t := 23) ?hr ?_; (case hd => rfl); (case hg => rfl); (case hr => first | (go_simp; done) | (go_simp; rfl)); intro gb115 hg w12 hbox hb; have n0_ := Aside0.mk (below_step (q0_ HB.out) hb); have n1_ := Aside0.mk (hbox); have n2_ := Aside0.mk ((by rw [hg]; exact (below_size (q0_ HB.out)) : w.heap.size ≤ gb115)); have n3_ := Aside0.mk ((by rw [hg]; exact (below_size (q0_ HB.out)) : w.heap.size ≤ gb115)); clear HB; have HB := n0_; have BK115 := n1_; have GW115 := n2_; have GE115 := n3_; clear n0_ n1_ n2_ n3_; clear hb hbox hg; have hcz13_0 : w12.cell? ⟨gb115, 0, none⟩ = some (.int .i64 a0_0) := (blk_cell BK115.out 0).trans rfl; have hcz13_1 : w12.cell? ⟨gb115, 1, none⟩ = some (.int .i64 a0_1) := (blk_cell BK115.out 1).trans rfl; have hfz13_0 := blk_frozen BK115.out 0; have hfz13_1 := blk_frozen BK115.out 1))
        repeat (go_quiet (first | ((with_reducible refine gate_dst (N := 1) rfl ?_); refine box_event ?hg (N := 1) ?hd (cs := #[.int .i64 a0_0, .int .i64 a0_1]) (t := 23) ?hr ?_; (case hd => rfl); (case hg => rfl); (case hr => first | (go_simp; done) | (go_simp; rfl)); intro gb115 hg w12 hbox hb; have n0_ := Aside0.mk (below_step (q0_ HB.out) hb); have n1_ := Aside0.mk (hbox); have n2_ := Aside0.mk ((by rw [hg]; exact (below_size (q0_ HB.out)) : w.heap.size ≤ gb115)); have n3_ := Aside0.mk ((by rw [hg]; exact (below_size (q0_ HB.out)) : w.heap.size ≤ gb115)); clear HB; have HB := n0_; have BK115 := n1_; have GW115 := n2_; have GE115 := n3_; clear n0_ n1_ n2_ n3_; clear hb hbox hg; have hcz13_0 : w12.cell? ⟨gb115, 0, none⟩ = some (.int .i64 a0_0) := (blk_cell BK115.out 0).trans rfl; have hcz13_1 : w12.cell? ⟨gb115, 1, none⟩ = some (.int .i64 a0_1) := (blk_cell BK115.out 1).trans rfl; have hfz13_0 := blk_frozen BK115.out 0; have hfz13_1 := blk_frozen BK115.out 1)); try go_wp2_with (first | ((with_reducible refine gate_dst (N := 1) rfl ?_); refine box_event ?hg (N := 1) ?hd (cs := #[.int .i64 a0_0, .int .i64 a0_1]) (t := 23) ?hr ?_; (case hd => rfl); (case hg => rfl); (case hr => first | (go_simp; done) | (go_simp; rfl)); intro gb115 hg w12 hbox hb; have n0_ := Aside0.mk (below_step (q0_ HB.out) hb); have n1_ := Aside0.mk (hbox); have n2_ := Aside0.mk ((by rw [hg]; exact (below_size (q0_ HB.out)) : w.heap.size ≤ gb115)); have n3_ := Aside0.mk ((by rw [hg]; exact (below_size (q0_ HB.out)) : w.heap.size ≤ gb115)); clear HB; have HB := n0_; have BK115 := n1_; have GW115 := n2_; have GE115 := n3_; clear n0_ n1_ n2_ n3_; clear hb hbox hg; have hcz13_0 : w12.cell? ⟨gb115, 0, none⟩ = some (.int .i64 a0_0) := (blk_cell BK115.out 0).trans rfl; have hcz13_1 : w12.cell? ⟨gb115, 1, none⟩ = some (.int .i64 a0_1) := (blk_cell BK115.out 1).trans rfl; have hfz13_0 := blk_frozen BK115.out 0; have hfz13_1 := blk_frozen BK115.out 1)))
        go_ret
        exact ⟨by first | rfl | (simp [errW_none, errW_some] <;> rfl) | (simp [*, errW_none, errW_some] <;> rfl), (q1_ HB.out GE115.out)⟩
    · rw [if_neg c3] at H
      have c3b0 : decide (a0_1 ≤ 1048576) = false := decide_eq_false c3
      clear c3
      obtain rfl := Option.some.inj H
      go_enter Tryd.func26, Tryd.ntmps26
      go_wp2_with (first | ((with_reducible refine gate_dst (N := 1) rfl ?_); refine box_event ?hg (N := 1) ?hd (cs := #[.int .i64 a0_0, .int .i64 a0_1]) (t := 23) ?hr ?_; (case hd => rfl); (case hg => rfl); (case hr => first | (go_simp; done) | (go_simp; rfl)); intro gb115 hg w14 hbox hb; have n0_ := Aside0.mk (below_step (q0_ HB.out) hb); have n1_ := Aside0.mk (hbox); have n2_ := Aside0.mk ((by rw [hg]; exact (below_size (q0_ HB.out)) : w.heap.size ≤ gb115)); have n3_ := Aside0.mk ((by rw [hg]; exact (below_size (q0_ HB.out)) : w.heap.size ≤ gb115)); clear HB; have HB := n0_; have BK115 := n1_; have GW115 := n2_; have GE115 := n3_; clear n0_ n1_ n2_ n3_; clear hb hbox hg; have hcz15_0 : w14.cell? ⟨gb115, 0, none⟩ = some (.int .i64 a0_0) := (blk_cell BK115.out 0).trans rfl; have hcz15_1 : w14.cell? ⟨gb115, 1, none⟩ = some (.int .i64 a0_1) := (blk_cell BK115.out 1).trans rfl; have hfz15_0 := blk_frozen BK115.out 0; have hfz15_1 := blk_frozen BK115.out 1))
      repeat (go_quiet (first | ((with_reducible refine gate_dst (N := 1) rfl ?_); refine box_event ?hg (N := 1) ?hd (cs := #[.int .i64 a0_0, .int .i64 a0_1]) (t := 23) ?hr ?_; (case hd => rfl); (case hg => rfl); (case hr => first | (go_simp; done) | (go_simp; rfl)); intro gb115 hg w14 hbox hb; have n0_ := Aside0.mk (below_step (q0_ HB.out) hb); have n1_ := Aside0.mk (hbox); have n2_ := Aside0.mk ((by rw [hg]; exact (below_size (q0_ HB.out)) : w.heap.size ≤ gb115)); have n3_ := Aside0.mk ((by rw [hg]; exact (below_size (q0_ HB.out)) : w.heap.size ≤ gb115)); clear HB; have HB := n0_; have BK115 := n1_; have GW115 := n2_; have GE115 := n3_; clear n0_ n1_ n2_ n3_; clear hb hbox hg; have hcz15_0 : w14.cell? ⟨gb115, 0, none⟩ = some (.int .i64 a0_0) := (blk_cell BK115.out 0).trans rfl; have hcz15_1 : w14.cell? ⟨gb115, 1, none⟩ = some (.int .i64 a0_1) := (blk_cell BK115.out 1).trans rfl; have hfz15_0 := blk_frozen BK115.out 0; have hfz15_1 := blk_frozen BK115.out 1)); try go_wp2_with (first | ((with_reducible refine gate_dst (N := 1) rfl ?_); refine box_event ?hg (N := 1) ?hd (cs := #[.int .i64 a0_0, .int .i64 a0_1]) (t := 23) ?hr ?_; (case hd => rfl); (case hg => rfl); (case hr => first | (go_simp; done) | (go_simp; rfl)); intro gb115 hg w14 hbox hb; have n0_ := Aside0.mk (below_step (q0_ HB.out) hb); have n1_ := Aside0.mk (hbox); have n2_ := Aside0.mk ((by rw [hg]; exact (below_size (q0_ HB.out)) : w.heap.size ≤ gb115)); have n3_ := Aside0.mk ((by rw [hg]; exact (below_size (q0_ HB.out)) : w.heap.size ≤ gb115)); clear HB; have HB := n0_; have BK115 := n1_; have GW115 := n2_; have GE115 := n3_; clear n0_ n1_ n2_ n3_; clear hb hbox hg; have hcz15_0 : w14.cell? ⟨gb115, 0, none⟩ = some (.int .i64 a0_0) := (blk_cell BK115.out 0).trans rfl; have hcz15_1 : w14.cell? ⟨gb115, 1, none⟩ = some (.int .i64 a0_1) := (blk_cell BK115.out 1).trans rfl; have hfz15_0 := blk_frozen BK115.out 0; have hfz15_1 := blk_frozen BK115.out 1)))
      go_ret
      exact ⟨by first | rfl | (simp [errW_none, errW_some] <;> rfl) | (simp [*, errW_none, errW_some] <;> rfl), (q1_ HB.out GE115.out)⟩
  · rw [if_neg c2] at H
    have c2b0 : decide (1 ≤ a0_1) = false := decide_eq_false c2
    clear c2
    obtain rfl := Option.some.inj H
    go_enter Tryd.func26, Tryd.ntmps26
    go_wp2_with (first | ((with_reducible refine gate_dst (N := 1) rfl ?_); refine box_event ?hg (N := 1) ?hd (cs := #[.int .i64 a0_0, .int .i64 a0_1]) (t := 23) ?hr ?_; (case hd => rfl); (case hg => rfl); (case hr => first | (go_simp; done) | (go_simp; rfl)); intro gb115 hg w16 hbox hb; have n0_ := Aside0.mk (below_step (q0_ HB.out) hb); have n1_ := Aside0.mk (hbox); have n2_ := Aside0.mk ((by rw [hg]; exact (below_size (q0_ HB.out)) : w.heap.size ≤ gb115)); have n3_ := Aside0.mk ((by rw [hg]; exact (below_size (q0_ HB.out)) : w.heap.size ≤ gb115)); clear HB; have HB := n0_; have BK115 := n1_; have GW115 := n2_; have GE115 := n3_; clear n0_ n1_ n2_ n3_; clear hb hbox hg; have hcz17_0 : w16.cell? ⟨gb115, 0, none⟩ = some (.int .i64 a0_0) := (blk_cell BK115.out 0).trans rfl; have hcz17_1 : w16.cell? ⟨gb115, 1, none⟩ = some (.int .i64 a0_1) := (blk_cell BK115.out 1).trans rfl; have hfz17_0 := blk_frozen BK115.out 0; have hfz17_1 := blk_frozen BK115.out 1))
    repeat (go_quiet (first | ((with_reducible refine gate_dst (N := 1) rfl ?_); refine box_event ?hg (N := 1) ?hd (cs := #[.int .i64 a0_0, .int .i64 a0_1]) (t := 23) ?hr ?_; (case hd => rfl); (case hg => rfl); (case hr => first | (go_simp; done) | (go_simp; rfl)); intro gb115 hg w16 hbox hb; have n0_ := Aside0.mk (below_step (q0_ HB.out) hb); have n1_ := Aside0.mk (hbox); have n2_ := Aside0.mk ((by rw [hg]; exact (below_size (q0_ HB.out)) : w.heap.size ≤ gb115)); have n3_ := Aside0.mk ((by rw [hg]; exact (below_size (q0_ HB.out)) : w.heap.size ≤ gb115)); clear HB; have HB := n0_; have BK115 := n1_; have GW115 := n2_; have GE115 := n3_; clear n0_ n1_ n2_ n3_; clear hb hbox hg; have hcz17_0 : w16.cell? ⟨gb115, 0, none⟩ = some (.int .i64 a0_0) := (blk_cell BK115.out 0).trans rfl; have hcz17_1 : w16.cell? ⟨gb115, 1, none⟩ = some (.int .i64 a0_1) := (blk_cell BK115.out 1).trans rfl; have hfz17_0 := blk_frozen BK115.out 0; have hfz17_1 := blk_frozen BK115.out 1)); try go_wp2_with (first | ((with_reducible refine gate_dst (N := 1) rfl ?_); refine box_event ?hg (N := 1) ?hd (cs := #[.int .i64 a0_0, .int .i64 a0_1]) (t := 23) ?hr ?_; (case hd => rfl); (case hg => rfl); (case hr => first | (go_simp; done) | (go_simp; rfl)); intro gb115 hg w16 hbox hb; have n0_ := Aside0.mk (below_step (q0_ HB.out) hb); have n1_ := Aside0.mk (hbox); have n2_ := Aside0.mk ((by rw [hg]; exact (below_size (q0_ HB.out)) : w.heap.size ≤ gb115)); have n3_ := Aside0.mk ((by rw [hg]; exact (below_size (q0_ HB.out)) : w.heap.size ≤ gb115)); clear HB; have HB := n0_; have BK115 := n1_; have GW115 := n2_; have GE115 := n3_; clear n0_ n1_ n2_ n3_; clear hb hbox hg; have hcz17_0 : w16.cell? ⟨gb115, 0, none⟩ = some (.int .i64 a0_0) := (blk_cell BK115.out 0).trans rfl; have hcz17_1 : w16.cell? ⟨gb115, 1, none⟩ = some (.int .i64 a0_1) := (blk_cell BK115.out 1).trans rfl; have hfz17_0 := blk_frozen BK115.out 0; have hfz17_1 := blk_frozen BK115.out 1)))
    go_ret
    exact ⟨by first | rfl | (simp [errW_none, errW_some] <;> rfl) | (simp [*, errW_none, errW_some] <;> rfl), (q1_ HB.out GE115.out)⟩
end Go.Proofs.YtdjnneflpkllmaaDoor.Q

namespace Go.Proofs.YtdjnneflpkllmaaDoor.Q
open Go.RowKit Go.Proofs.YtdjnneflpkllmaaDoorW.PrintWords Go.Proofs.YtdjnneflpkllmaaDoorW.PrintLast Go.Proofs.YtdjnneflpkllmaaDoorW.PrintMore
attribute [local go_sem] max2_int min2_int max_two min_two max_three min_three max_four min_four   -- for this text's walks alone
set_option linter.unusedVariables false
set_option linter.unusedSimpArgs false
def num_mode.f (a0 : Int) : Option (Bool) := if a0 ≥ 0 then (some (decide (a0 ≤ 4))) else (some false)
set_option maxHeartbeats 8000000 in
set_option maxRecDepth 100000 in
theorem num_mode.calls (a0 : Int) (r : Bool) (w : World) (h : num_mode.f a0 = some r) :
    Calls Tryd.prog 85 #[.int .i64 a0] w fun e w' => e = .returned (.bool r) ∧ Drawn0 w w' := by
  have H : (if a0 ≥ 0 then (some (decide (a0 ≤ 4))) else (some false)) = some r := h
  clear h
  by_cases c2 : a0 ≥ 0
  · rw [if_pos c2] at H
    have c2b0 : decide (0 ≤ a0) = true := decide_eq_true c2
    clear c2
    obtain rfl := Option.some.inj H
    go_enter Tryd.func85, Tryd.ntmps85
    go_wp2
    go_ret
    exact ⟨by first | rfl | (simp; done) | (simp [*]; done), by repeat (first | exact Drawn0.refl _ | apply Drawn0.step)⟩
  · rw [if_neg c2] at H
    have c2b0 : decide (0 ≤ a0) = false := decide_eq_false c2
    clear c2
    obtain rfl := Option.some.inj H
    go_enter Tryd.func85, Tryd.ntmps85
    go_wp2
    go_ret
    exact ⟨by first | rfl | (simp; done) | (simp [*]; done), by repeat (first | exact Drawn0.refl _ | apply Drawn0.step)⟩
def num_away.f (a0 : Bool) (a1 : Int) (a2 : Int) (a3 : Int) (a4 : Int) : Option (Bool) := if a2 = 0 then (some false) else (if a4 = 0 then (some a0) else (if a4 = 1 then (some (!a0)) else (if a4 = 2 then (some false) else (if a2 > (IntKind.u64.wrap (a3 - a2)) then (some true) else (if a2 < (IntKind.u64.wrap (a3 - a2)) then (some false) else (if a4 = 3 then (some (!a0)) else (some ((Int.tmod a1 2) == 1))))))))
set_option maxHeartbeats 8000000 in
set_option maxRecDepth 100000 in
theorem num_away.calls (a0 : Bool) (a1 : Int) (a2 : Int) (a3 : Int) (a4 : Int) (r : Bool) (w : World) (h : num_away.f a0 a1 a2 a3 a4 = some r) :
    Calls Tryd.prog 113 #[.bool a0, .int .u64 a1, .int .u64 a2, .int .u64 a3, .int .i64 a4] w fun e w' => e = .returned (.bool r) ∧ Drawn0 w w' := by
  have H : (if a2 = 0 then (some false) else (if a4 = 0 then (some a0) else (if a4 = 1 then (some (!a0)) else (if a4 = 2 then (some false) else (if a2 > (IntKind.u64.wrap (a3 - a2)) then (some true) else (if a2 < (IntKind.u64.wrap (a3 - a2)) then (some false) else (if a4 = 3 then (some (!a0)) else (some ((Int.tmod a1 2) == 1))))))))) = some r := h
  clear h
  by_cases c6 : a2 = 0
  · rw [if_pos c6] at H
    have c6b0 : (a2 == 0) = true := beq_iff_eq.mpr c6
    have c6b1 : (a2 != 0) = false := bne_eq_false_iff_eq.mpr c6
    clear c6
    obtain rfl := Option.some.inj H
    go_enter Tryd.func113, Tryd.ntmps113
    go_wp2
    go_ret
    exact ⟨by first | rfl | (simp; done) | (simp [*]; done), by repeat (first | exact Drawn0.refl _ | apply Drawn0.step)⟩
  · rw [if_neg c6] at H
    have c6b0 : (a2 == 0) = false := beq_eq_false_iff_ne.mpr c6
    have c6b1 : (a2 != 0) = true := bne_iff_ne.mpr c6
    by_cases c7 : a4 = 0
    · rw [if_pos c7] at H
      have c7b0 : (a4 == 0) = true := beq_iff_eq.mpr c7
      have c7b1 : (a4 != 0) = false := bne_eq_false_iff_eq.mpr c7
      clear c7
      obtain rfl := Option.some.inj H
      go_enter Tryd.func113, Tryd.ntmps113
      go_wp2
      go_ret
      exact ⟨by first | rfl | (simp; done) | (simp [*]; done), by repeat (first | exact Drawn0.refl _ | apply Drawn0.step)⟩
    · rw [if_neg c7] at H
      have c7b0 : (a4 == 0) = false := beq_eq_false_iff_ne.mpr c7
      have c7b1 : (a4 != 0) = true := bne_iff_ne.mpr c7
      by_cases c8 : a4 = 1
      · rw [if_pos c8] at H
        have c8b0 : (a4 == 1) = true := beq_iff_eq.mpr c8
        have c8b1 : (a4 != 1) = false := bne_eq_false_iff_eq.mpr c8
        clear c8
        obtain rfl := Option.some.inj H
        go_enter Tryd.func113, Tryd.ntmps113
        go_wp2
        go_ret
        exact ⟨by first | rfl | (simp; done) | (simp [*]; done), by repeat (first | exact Drawn0.refl _ | apply Drawn0.step)⟩
      · rw [if_neg c8] at H
        have c8b0 : (a4 == 1) = false := beq_eq_false_iff_ne.mpr c8
        have c8b1 : (a4 != 1) = true := bne_iff_ne.mpr c8
        by_cases c9 : a4 = 2
        · rw [if_pos c9] at H
          have c9b0 : (a4 == 2) = true := beq_iff_eq.mpr c9
          have c9b1 : (a4 != 2) = false := bne_eq_false_iff_eq.mpr c9
          clear c9
          obtain rfl := Option.some.inj H
          go_enter Tryd.func113, Tryd.ntmps113
          go_wp2
          go_ret
          exact ⟨by first | rfl | (simp; done) | (simp [*]; done), by repeat (first | exact Drawn0.refl _ | apply Drawn0.step)⟩
        · rw [if_neg c9] at H
          have c9b0 : (a4 == 2) = false := beq_eq_false_iff_ne.mpr c9
          have c9b1 : (a4 != 2) = true := bne_iff_ne.mpr c9
          by_cases c10 : a2 > (IntKind.u64.wrap (a3 - a2))
          · rw [if_pos c10] at H
            have c10b0 : decide ((IntKind.u64.wrap (a3 - a2)) < a2) = true := decide_eq_true c10
            clear c10
            obtain rfl := Option.some.inj H
            go_enter Tryd.func113, Tryd.ntmps113
            go_wp2
            go_ret
            exact ⟨by first | rfl | (simp; done) | (simp [*]; done), by repeat (first | exact Drawn0.refl _ | apply Drawn0.step)⟩
          · rw [if_neg c10] at H
            have c10b0 : decide ((IntKind.u64.wrap (a3 - a2)) < a2) = false := decide_eq_false c10
            clear c10
            by_cases c11 : a2 < (IntKind.u64.wrap (a3 - a2))
            · rw [if_pos c11] at H
              have c11b0 : decide (a2 < (IntKind.u64.wrap (a3 - a2))) = true := decide_eq_true c11
              clear c11
              obtain rfl := Option.some.inj H
              go_enter Tryd.func113, Tryd.ntmps113
              go_wp2
              go_ret
              exact ⟨by first | rfl | (simp; done) | (simp [*]; done), by repeat (first | exact Drawn0.refl _ | apply Drawn0.step)⟩
            · rw [if_neg c11] at H
              have c11b0 : decide (a2 < (IntKind.u64.wrap (a3 - a2))) = false := decide_eq_false c11
              clear c11
              by_cases c12 : a4 = 3
              · rw [if_pos c12] at H
                have c12b0 : (a4 == 3) = true := beq_iff_eq.mpr c12
                have c12b1 : (a4 != 3) = false := bne_eq_false_iff_eq.mpr c12
                clear c12
                obtain rfl := Option.some.inj H
                go_enter Tryd.func113, Tryd.ntmps113
                go_wp2
                go_ret
                exact ⟨by first | rfl | (simp; done) | (simp [*]; done), by repeat (first | exact Drawn0.refl _ | apply Drawn0.step)⟩
              · rw [if_neg c12] at H
                have c12b0 : (a4 == 3) = false := beq_eq_false_iff_ne.mpr c12
                have c12b1 : (a4 != 3) = true := bne_iff_ne.mpr c12
                obtain rfl := Option.some.inj H
                go_enter Tryd.func113, Tryd.ntmps113
                go_wp2
                go_ret
                exact ⟨by first | rfl | (simp; done) | (simp [*]; done), by repeat (first | exact Drawn0.refl _ | apply Drawn0.step)⟩
def num_rounded.f (k : Nat) (a0 : Bool) (a1 : Int) (a2 : Int) (a3 : Int) (a4 : Int) : Option (Int × Bool) := if a1 ≥ a3 then (some (0, false)) else ((bits_Div64.f k a1 a2 a3).bind fun bt700 => (if bt700.1 > 4611686018427387904 then (some (0, false)) else ((num_away.f a0 bt700.1 bt700.2 a3 a4).bind fun t702 => (if t702 = true then (if a0 = true then (some (wrap64 (-(wrap64 (IntKind.u64.wrap (bt700.1 + 1)))), true)) else (some (wrap64 (IntKind.u64.wrap (bt700.1 + 1)), true))) else (if a0 = true then (some (wrap64 (-(wrap64 (bt700.1))), true)) else (some (wrap64 (bt700.1), true)))))))
theorem num_rounded.mono : ∀ a0 a1 a2 a3 a4 k, LeO (num_rounded.f k a0 a1 a2 a3 a4) (num_rounded.f (k + 1) a0 a1 a2 a3 a4) := by
  intro a0 a1 a2 a3 a4 k
  unfold num_rounded.f
  repeat' first
      | (with_reducible exact bits_Div64.mono _ _ _ _)
      | (with_reducible exact LeO.refl _)
      | (with_reducible exact LeO.none _)
      | (with_reducible refine LeO.ite ?_ ?_)
      | (with_reducible refine LeO.bind ?_ (fun _ => ?_))
      | exact bits_Div64.mono _ _ _ _
      | exact LeO.none _
      | refine LeO.ite ?_ ?_
      | refine LeO.bind ?_ (fun _ => ?_)
set_option maxHeartbeats 8000000 in
set_option maxRecDepth 100000 in
theorem num_rounded.calls (k : Nat) (a0 : Bool) (a1 : Int) (a2 : Int) (a3 : Int) (a4 : Int) (r1 : Int) (r2 : Bool) (w : World) (h : num_rounded.f k a0 a1 a2 a3 a4 = some (r1, r2)) :
    Calls Tryd.prog 86 #[.bool a0, .int .u64 a1, .int .u64 a2, .int .u64 a3, .int .i64 a4] w fun e w' => e = .returned (.tuple #[.int .i64 r1, .bool r2]) ∧ Drawn0 w w' := by
  have H : (if a1 ≥ a3 then (some (0, false)) else ((bits_Div64.f k a1 a2 a3).bind fun bt700 => (if bt700.1 > 4611686018427387904 then (some (0, false)) else ((num_away.f a0 bt700.1 bt700.2 a3 a4).bind fun t702 => (if t702 = true then (if a0 = true then (some (wrap64 (-(wrap64 (IntKind.u64.wrap (bt700.1 + 1)))), true)) else (some (wrap64 (IntKind.u64.wrap (bt700.1 + 1)), true))) else (if a0 = true then (some (wrap64 (-(wrap64 (bt700.1))), true)) else (some (wrap64 (bt700.1), true)))))))) = some (r1, r2) := h
  clear h
  by_cases c6 : a1 ≥ a3
  · rw [if_pos c6] at H
    have c6b0 : decide (a3 ≤ a1) = true := decide_eq_true c6
    clear c6
    simp only [Option.some.injEq, Prod.mk.injEq] at H
    obtain ⟨rfl, rfl⟩ := H
    go_enter Tryd.func86, Tryd.ntmps86
    go_wp2
    go_ret2
    exact ⟨by first | rfl | (simp; done) | (simp [*]; done), by repeat (first | exact Drawn0.refl _ | apply Drawn0.step)⟩
  · rw [if_neg c6] at H
    have c6b0 : decide (a3 ≤ a1) = false := decide_eq_false c6
    clear c6
    replace H := Option.bind_eq_some_iff.mp H
    obtain ⟨⟨t700, t701⟩, A70, H⟩ := H
    replace H : (if t700 > 4611686018427387904 then (some (0, false)) else ((num_away.f a0 t700 t701 a3 a4).bind fun t702 => (if t702 = true then (if a0 = true then (some (wrap64 (-(wrap64 (IntKind.u64.wrap (t700 + 1)))), true)) else (some (wrap64 (IntKind.u64.wrap (t700 + 1)), true))) else (if a0 = true then (some (wrap64 (-(wrap64 (t700))), true)) else (some (wrap64 (t700), true)))))) = some (r1, r2) := H
    have A7 := Aside0.mk A70
    clear A70
    by_cases c8 : t700 > 4611686018427387904
    · rw [if_pos c8] at H
      have c8b0 : decide (4611686018427387904 < t700) = true := decide_eq_true c8
      clear c8
      simp only [Option.some.injEq, Prod.mk.injEq] at H
      obtain ⟨rfl, rfl⟩ := H
      go_enter Tryd.func86, Tryd.ntmps86
      go_wp2_with (first | ((with_reducible refine gate_callee (f := 112) rfl ?_); refine goesL_ (some 21) rfl rfl Tryd.func112 (by kernel_rfl) rfl #[.int .u64 a1, .int .u64 a2, .int .u64 a3] rfl qe_ ?_; (with_reducible refine (bits_Div64.calls k a1 a2 a3 t700 t701 _ A7.out).mono ?_); rintro e w' ⟨rfl, ⟨nd, rfl⟩⟩; refine ⟨_, rfl, ?_⟩))
      go_ret2
      exact ⟨by first | rfl | (simp; done) | (simp [*]; done), by repeat (first | exact Drawn0.refl _ | apply Drawn0.step)⟩
    · rw [if_neg c8] at H
      have c8b0 : decide (4611686018427387904 < t700) = false := decide_eq_false c8
      clear c8
      replace H := Option.bind_eq_some_iff.mp H
      obtain ⟨t702, A90, H⟩ := H
      replace H : (if t702 = true then (if a0 = true then (some (wrap64 (-(wrap64 (IntKind.u64.wrap (t700 + 1)))), true)) else (some (wrap64 (IntKind.u64.wrap (t700 + 1)), true))) else (if a0 = true then (some (wrap64 (-(wrap64 (t700))), true)) else (some (wrap64 (t700), true)))) = some (r1, r2) := H
      have A9 := Aside0.mk A90
      clear A90
      by_cases c10 : t702 = true
      · subst c10
        have H1 : (if a0 = true then (some (wrap64 (-(wrap64 (IntKind.u64.wrap (t700 + 1)))), true)) else (some (wrap64 (IntKind.u64.wrap (t700 + 1)), true))) = some (r1, r2) := by rw [if_pos rfl] at H; exact H
        clear H
        have H := H1
        clear H1
        by_cases c11 : a0 = true
        · subst c11
          have H1 : (some (wrap64 (-(wrap64 (IntKind.u64.wrap (t700 + 1)))), true)) = some (r1, r2) := by rw [if_pos rfl] at H; exact H
          clear H
          have H := H1
          clear H1
          simp only [Option.some.injEq, Prod.mk.injEq] at H
          obtain ⟨rfl, rfl⟩ := H
          go_enter Tryd.func86, Tryd.ntmps86
          go_wp2_with (first | ((with_reducible refine gate_callee (f := 112) rfl ?_); refine goesL_ (some 21) rfl rfl Tryd.func112 (by kernel_rfl) rfl #[.int .u64 a1, .int .u64 a2, .int .u64 a3] rfl qe_ ?_; (with_reducible refine (bits_Div64.calls k a1 a2 a3 t700 t701 _ A7.out).mono ?_); rintro e w' ⟨rfl, ⟨nd, rfl⟩⟩; refine ⟨_, rfl, ?_⟩) | ((with_reducible refine gate_callee (f := 113) rfl ?_); refine goesL_ (some 31) rfl rfl Tryd.func113 (by kernel_rfl) rfl #[.bool true, .int .u64 t700, .int .u64 t701, .int .u64 a3, .int .i64 a4] rfl qe_ ?_; (with_reducible refine (num_away.calls true t700 t701 a3 a4 true _ A9.out).mono ?_); rintro e w' ⟨rfl, ⟨nd, rfl⟩⟩; refine ⟨_, rfl, ?_⟩))
          go_ret2
          exact ⟨by first | rfl | (simp; done) | (simp [*]; done), by repeat (first | exact Drawn0.refl _ | apply Drawn0.step)⟩
        · replace c11 := Bool.eq_false_iff.mpr c11
          subst c11
          have H1 : (some (wrap64 (IntKind.u64.wrap (t700 + 1)), true)) = some (r1, r2) := by rw [if_neg (show ¬ (false = true) by decide)] at H; exact H
          clear H
          have H := H1
          clear H1
          simp only [Option.some.injEq, Prod.mk.injEq] at H
          obtain ⟨rfl, rfl⟩ := H
          go_enter Tryd.func86, Tryd.ntmps86
          go_wp2_with (first | ((with_reducible refine gate_callee (f := 112) rfl ?_); refine goesL_ (some 21) rfl rfl Tryd.func112 (by kernel_rfl) rfl #[.int .u64 a1, .int .u64 a2, .int .u64 a3] rfl qe_ ?_; (with_reducible refine (bits_Div64.calls k a1 a2 a3 t700 t701 _ A7.out).mono ?_); rintro e w' ⟨rfl, ⟨nd, rfl⟩⟩; refine ⟨_, rfl, ?_⟩) | ((with_reducible refine gate_callee (f := 113) rfl ?_); refine goesL_ (some 31) rfl rfl Tryd.func113 (by kernel_rfl) rfl #[.bool false, .int .u64 t700, .int .u64 t701, .int .u64 a3, .int .i64 a4] rfl qe_ ?_; (with_reducible refine (num_away.calls false t700 t701 a3 a4 true _ A9.out).mono ?_); rintro e w' ⟨rfl, ⟨nd, rfl⟩⟩; refine ⟨_, rfl, ?_⟩))
          go_ret2
          exact ⟨by first | rfl | (simp; done) | (simp [*]; done), by repeat (first | exact Drawn0.refl _ | apply Drawn0.step)⟩
      · replace c10 := Bool.eq_false_iff.mpr c10
        subst c10
        have H1 : (if a0 = true then (some (wrap64 (-(wrap64 (t700))), true)) else (some (wrap64 (t700), true))) = some (r1, r2) := by rw [if_neg (show ¬ (false = true) by decide)] at H; exact H
        clear H
        have H := H1
        clear H1
        by_cases c12 : a0 = true
        · subst c12
          have H1 : (some (wrap64 (-(wrap64 (t700))), true)) = some (r1, r2) := by rw [if_pos rfl] at H; exact H
          clear H
          have H := H1
          clear H1
          simp only [Option.some.injEq, Prod.mk.injEq] at H
          obtain ⟨rfl, rfl⟩ := H
          go_enter Tryd.func86, Tryd.ntmps86
          go_wp2_with (first | ((with_reducible refine gate_callee (f := 112) rfl ?_); refine goesL_ (some 21) rfl rfl Tryd.func112 (by kernel_rfl) rfl #[.int .u64 a1, .int .u64 a2, .int .u64 a3] rfl qe_ ?_; (with_reducible refine (bits_Div64.calls k a1 a2 a3 t700 t701 _ A7.out).mono ?_); rintro e w' ⟨rfl, ⟨nd, rfl⟩⟩; refine ⟨_, rfl, ?_⟩) | ((with_reducible refine gate_callee (f := 113) rfl ?_); refine goesL_ (some 31) rfl rfl Tryd.func113 (by kernel_rfl) rfl #[.bool true, .int .u64 t700, .int .u64 t701, .int .u64 a3, .int .i64 a4] rfl qe_ ?_; (with_reducible refine (num_away.calls true t700 t701 a3 a4 false _ A9.out).mono ?_); rintro e w' ⟨rfl, ⟨nd, rfl⟩⟩; refine ⟨_, rfl, ?_⟩))
          go_ret2
          exact ⟨by first | rfl | (simp; done) | (simp [*]; done), by repeat (first | exact Drawn0.refl _ | apply Drawn0.step)⟩
        · replace c12 := Bool.eq_false_iff.mpr c12
          subst c12
          have H1 : (some (wrap64 (t700), true)) = some (r1, r2) := by rw [if_neg (show ¬ (false = true) by decide)] at H; exact H
          clear H
          have H := H1
          clear H1
          simp only [Option.some.injEq, Prod.mk.injEq] at H
          obtain ⟨rfl, rfl⟩ := H
          go_enter Tryd.func86, Tryd.ntmps86
          go_wp2_with (first | ((with_reducible refine gate_callee (f := 112) rfl ?_); refine goesL_ (some 21) rfl rfl Tryd.func112 (by kernel_rfl) rfl #[.int .u64 a1, .int .u64 a2, .int .u64 a3] rfl qe_ ?_; (with_reducible refine (bits_Div64.calls k a1 a2 a3 t700 t701 _ A7.out).mono ?_); rintro e w' ⟨rfl, ⟨nd, rfl⟩⟩; refine ⟨_, rfl, ?_⟩) | ((with_reducible refine gate_callee (f := 113) rfl ?_); refine goesL_ (some 31) rfl rfl Tryd.func113 (by kernel_rfl) rfl #[.bool false, .int .u64 t700, .int .u64 t701, .int .u64 a3, .int .i64 a4] rfl qe_ ?_; (with_reducible refine (num_away.calls false t700 t701 a3 a4 false _ A9.out).mono ?_); rintro e w' ⟨rfl, ⟨nd, rfl⟩⟩; refine ⟨_, rfl, ?_⟩))
          go_ret2
          exact ⟨by first | rfl | (simp; done) | (simp [*]; done), by repeat (first | exact Drawn0.refl _ | apply Drawn0.step)⟩
end Go.Proofs.YtdjnneflpkllmaaDoor.Q

namespace Go.Proofs.YtdjnneflpkllmaaDoor.Q
open Go.RowKit Go.Proofs.YtdjnneflpkllmaaDoorW.PrintWords Go.Proofs.YtdjnneflpkllmaaDoorW.PrintLast Go.Proofs.YtdjnneflpkllmaaDoorW.PrintMore
attribute [local go_sem] max2_int min2_int max_two min_two max_three min_three max_four min_four   -- for this text's walks alone
set_option linter.unusedVariables false
set_option linter.unusedSimpArgs false
def num_Round.j0 : Nat → Int → Bool → Int → Int → Option (Int × Int)
  | 0, _, _, _, _ => none
  | k + 1, x1, x15, x704000, x704001 => if x15 = true then (some (0, 2)) else ((num_size.f x704000).bind fun t706 => ((num_rounded.f k (decide (x704000 < 0)) 0 t706 (IntKind.u64.wrap (x704001)) x1).bind fun bt707 => (some (bt707.1, 0))))
def num_Round.f (k : Nat) (a0_0 : Int) (a0_1 : Int) (a1 : Int) : Option (Int × Int) := (num_Valid.f k a0_0 a0_1).bind fun t704 => (if t704 = true then ((num_mode.f a1).bind fun t705 => (num_Round.j0 k a1 (!t705) a0_0 a0_1)) else (num_Round.j0 k a1 true a0_0 a0_1))
theorem num_Round.mono_l : ∀ k, (∀ y0 y1 y2 y3, LeO (num_Round.j0 k y0 y1 y2 y3) (num_Round.j0 (k + 1) y0 y1 y2 y3))
  | 0 => fun _ _ _ _ r h => by simp [num_Round.j0] at h
  | k + 1 => by
    have ih0 := num_Round.mono_l k
    · intro y0 y1 y2 y3
      unfold num_Round.j0
      repeat' first
      | (with_reducible exact ih0 _ _ _ _)
      | (with_reducible exact num_Valid.mono _ _ _)
      | (with_reducible exact num_rounded.mono _ _ _ _ _ _)
      | (with_reducible exact LeO.refl _)
      | (with_reducible exact LeO.none _)
      | (with_reducible refine LeO.ite ?_ ?_)
      | (with_reducible refine LeO.bind ?_ (fun _ => ?_))
      | exact ih0 _ _ _ _
      | exact num_Valid.mono _ _ _
      | exact num_rounded.mono _ _ _ _ _ _
      | exact LeO.none _
      | refine LeO.ite ?_ ?_
      | refine LeO.bind ?_ (fun _ => ?_)
theorem num_Round.mono : ∀ a0 a1 a2 k, LeO (num_Round.f k a0 a1 a2) (num_Round.f (k + 1) a0 a1 a2) := by
  intro a0 a1 a2 k
  have ih0 := num_Round.mono_l k
  unfold num_Round.f
  repeat' first
      | (with_reducible exact ih0 _ _ _ _)
      | (with_reducible exact num_Valid.mono _ _ _)
      | (with_reducible exact num_rounded.mono _ _ _ _ _ _)
      | (with_reducible exact LeO.refl _)
      | (with_reducible exact LeO.none _)
      | (with_reducible refine LeO.ite ?_ ?_)
      | (with_reducible refine LeO.bind ?_ (fun _ => ?_))
      | exact ih0 _ _ _ _
      | exact num_Valid.mono _ _ _
      | exact num_rounded.mono _ _ _ _ _ _
      | exact LeO.none _
      | refine LeO.ite ?_ ?_
      | refine LeO.bind ?_ (fun _ => ?_)
set_option maxHeartbeats 8000000 in
set_option maxRecDepth 100000 in
theorem num_Round.calls (k : Nat) (a0_0 : Int) (a0_1 : Int) (a1 : Int) (r1 : Int) (r2 : Int) (w : World) (h : num_Round.f k a0_0 a0_1 a1 = some (r1, r2)) :
    Calls Tryd.prog 43 #[.agg #[.int .i64 a0_0, .int .i64 a0_1], .int .i64 a1] w fun e w' => e = .returned (.tuple #[.int .i64 r1, .int .i64 r2]) ∧ Below w.heap.size w w' := by
  have hu23 := Tryd.underlying23
  have HB := Aside0.mk (Below.refl w.heap.size w)
  have H : ((num_Valid.f k a0_0 a0_1).bind fun t704 => (if t704 = true then ((num_mode.f a1).bind fun t705 => (num_Round.j0 k a1 (!t705) a0_0 a0_1)) else (num_Round.j0 k a1 true a0_0 a0_1))) = some (r1, r2) := h
  clear h
  have HC3 := Aside0.mk H
  clear H
  go_enter Tryd.func43, Tryd.ntmps43
  go_upto_region 1 with (first | ((with_reducible refine gate_dst (N := 2) rfl ?_); refine box_event ?hg (N := 2) ?hd (cs := #[.int .i64 a0_0, .int .i64 a0_1]) (t := 23) ?hr ?_; (case hd => rfl); (case hg => rfl); (case hr => first | (go_simp; done) | (go_simp; rfl)); intro gb703 hg w4 hbox hb; have n0_ := Aside0.mk (below_step (q0_ HB.out) hb); have n1_ := Aside0.mk (hbox); have n2_ := Aside0.mk ((by rw [hg]; exact (below_size (q0_ HB.out)) : w.heap.size ≤ gb703)); have n3_ := Aside0.mk ((by rw [hg]; exact (below_size (q0_ HB.out)) : w.heap.size ≤ gb703)); clear HB; have HB := n0_; have BK703 := n1_; have GW703 := n2_; have GE703 := n3_; clear n0_ n1_ n2_ n3_; clear hb hbox hg))
  repeat (go_quiet (first | ((with_reducible refine gate_dst (N := 2) rfl ?_); refine box_event ?hg (N := 2) ?hd (cs := #[.int .i64 a0_0, .int .i64 a0_1]) (t := 23) ?hr ?_; (case hd => rfl); (case hg => rfl); (case hr => first | (go_simp; done) | (go_simp; rfl)); intro gb703 hg w4 hbox hb; have n0_ := Aside0.mk (below_step (q0_ HB.out) hb); have n1_ := Aside0.mk (hbox); have n2_ := Aside0.mk ((by rw [hg]; exact (below_size (q0_ HB.out)) : w.heap.size ≤ gb703)); have n3_ := Aside0.mk ((by rw [hg]; exact (below_size (q0_ HB.out)) : w.heap.size ≤ gb703)); clear HB; have HB := n0_; have BK703 := n1_; have GW703 := n2_; have GE703 := n3_; clear n0_ n1_ n2_ n3_; clear hb hbox hg)); go_upto_region 1 with (first | ((with_reducible refine gate_dst (N := 2) rfl ?_); refine box_event ?hg (N := 2) ?hd (cs := #[.int .i64 a0_0, .int .i64 a0_1]) (t := 23) ?hr ?_; (case hd => rfl); (case hg => rfl); (case hr => first | (go_simp; done) | (go_simp; rfl)); intro gb703 hg w4 hbox hb; have n0_ := Aside0.mk (below_step (q0_ HB.out) hb); have n1_ := Aside0.mk (hbox); have n2_ := Aside0.mk ((by rw [hg]; exact (below_size (q0_ HB.out)) : w.heap.size ≤ gb703)); have n3_ := Aside0.mk ((by rw [hg]; exact (below_size (q0_ HB.out)) : w.heap.size ≤ gb703)); clear HB; have HB := n0_; have BK703 := n1_; have GW703 := n2_; have GE703 := n3_; clear n0_ n1_ n2_ n3_; clear hb hbox hg)))
  (try simp only [Act.put, List.setIfInBounds_toArray, List.set_cons_zero, List.set_cons_succ])
  go_cut [15] (fun v15 wc => ∃ (kq : Nat) (x15_2 : Bool), v15 = .bool x15_2 ∧ Aside0 (num_Round.j0 kq a1 x15_2 a0_0 a0_1 = some (r1, r2)) ∧ Aside0 (kq ≤ k) ∧ Aside0 (wc.heap[gb703]? = some (.cells #[.int .i64 a0_0, .int .i64 a0_1] 23 (0, 0))) ∧ Aside0 (Below w.heap.size w wc))
  case first =>
    have H := HC3.out
    clear HC3
    replace H := Option.bind_eq_some_iff.mp H
    obtain ⟨t704, A50, H⟩ := H
    replace H : (if t704 = true then ((num_mode.f a1).bind fun t705 => (num_Round.j0 k a1 (!t705) a0_0 a0_1)) else (num_Round.j0 k a1 true a0_0 a0_1)) = some (r1, r2) := H
    have A5 := Aside0.mk A50
    clear A50
    by_cases c6 : t704 = true
    · subst c6
      have H1 : ((num_mode.f a1).bind fun t705 => (num_Round.j0 k a1 (!t705) a0_0 a0_1)) = some (r1, r2) := by rw [if_pos rfl] at H; exact H
      clear H
      have H := H1
      clear H1
      replace H := Option.bind_eq_some_iff.mp H
      obtain ⟨t705, A70, H⟩ := H
      replace H : (num_Round.j0 k a1 (!t705) a0_0 a0_1) = some (r1, r2) := H
      have A7 := Aside0.mk A70
      clear A70
      have H' := Aside0.mk H
      clear H
      have hcz8_0 : w4.cell? ⟨gb703, 0, none⟩ = some (.int .i64 a0_0) := (blk_cell BK703.out 0).trans rfl
      have hcz8_1 : w4.cell? ⟨gb703, 1, none⟩ = some (.int .i64 a0_1) := (blk_cell BK703.out 1).trans rfl
      have hfz8_0 := blk_frozen BK703.out 0
      have hfz8_1 := blk_frozen BK703.out 1
      go_wp2_with (first | (go_at_call 26; (with_reducible refine (num_Valid.calls k a0_0 a0_1 true _ A5.out).mono ?_); rintro e w9 ⟨rfl, hb⟩; have n0_ := Aside0.mk (blk_below (g := gb703) (o := .cells #[.int .i64 a0_0, .int .i64 a0_1] 23 (0, 0)) (qb_ BK703.out) hb); have n1_ := Aside0.mk (below_step (q1_ HB.out GE703.out) hb); clear BK703; clear HB; have BK703 := n0_; have HB := n1_; clear n0_ n1_; (try clear hb); (try clear hb2); (try clear hk); (try clear hi)) | (go_at_call 85; (with_reducible refine (num_mode.calls a1 t705 _ A7.out).mono ?_); rintro e w' ⟨rfl, ⟨nd, rfl⟩⟩; (try first | exact ⟨rfl, _, World.drewN_drewN _ _ _⟩ | exact ⟨rfl, _, Eq.trans (World.drewN_drewN _ _ _) (congrArg (World.drewN _) (Nat.add_assoc _ _ _))⟩)))
      repeat (go_quiet (first | (go_at_call 26; (with_reducible refine (num_Valid.calls k a0_0 a0_1 true _ A5.out).mono ?_); rintro e w9 ⟨rfl, hb⟩; have n0_ := Aside0.mk (blk_below (g := gb703) (o := .cells #[.int .i64 a0_0, .int .i64 a0_1] 23 (0, 0)) (qb_ BK703.out) hb); have n1_ := Aside0.mk (below_step (q1_ HB.out GE703.out) hb); clear BK703; clear HB; have BK703 := n0_; have HB := n1_; clear n0_ n1_; (try clear hb); (try clear hb2); (try clear hk); (try clear hi)) | (go_at_call 85; (with_reducible refine (num_mode.calls a1 t705 _ A7.out).mono ?_); rintro e w' ⟨rfl, ⟨nd, rfl⟩⟩; (try first | exact ⟨rfl, _, World.drewN_drewN _ _ _⟩ | exact ⟨rfl, _, Eq.trans (World.drewN_drewN _ _ _) (congrArg (World.drewN _) (Nat.add_assoc _ _ _))⟩))); try go_wp2_with (first | (go_at_call 26; (with_reducible refine (num_Valid.calls k a0_0 a0_1 true _ A5.out).mono ?_); rintro e w9 ⟨rfl, hb⟩; have n0_ := Aside0.mk (blk_below (g := gb703) (o := .cells #[.int .i64 a0_0, .int .i64 a0_1] 23 (0, 0)) (qb_ BK703.out) hb); have n1_ := Aside0.mk (below_step (q1_ HB.out GE703.out) hb); clear BK703; clear HB; have BK703 := n0_; have HB := n1_; clear n0_ n1_; (try clear hb); (try clear hb2); (try clear hk); (try clear hi)) | (go_at_call 85; (with_reducible refine (num_mode.calls a1 t705 _ A7.out).mono ?_); rintro e w' ⟨rfl, ⟨nd, rfl⟩⟩; (try first | exact ⟨rfl, _, World.drewN_drewN _ _ _⟩ | exact ⟨rfl, _, Eq.trans (World.drewN_drewN _ _ _) (congrArg (World.drewN _) (Nat.add_assoc _ _ _))⟩))))
      go_meet
      case rel => exact ⟨_, (!t705), (by first | rfl | (simp; done) | (simp [*]; done)), H', ⟨by first | omega | exact Nat.le_refl _⟩, ⟨by (with_reducible repeat (first | refine blk_drewN ?_ _ | refine blk_drew ?_ | refine blk_alloc ?_ _)); exact BK703.out⟩, ⟨(q1_ HB.out GE703.out)⟩⟩
    · replace c6 := Bool.eq_false_iff.mpr c6
      subst c6
      have H1 : (num_Round.j0 k a1 true a0_0 a0_1) = some (r1, r2) := by rw [if_neg (show ¬ (false = true) by decide)] at H; exact H
      clear H
      have H := H1
      clear H1
      have H' := Aside0.mk H
      clear H
      have hcz10_0 : w4.cell? ⟨gb703, 0, none⟩ = some (.int .i64 a0_0) := (blk_cell BK703.out 0).trans rfl
      have hcz10_1 : w4.cell? ⟨gb703, 1, none⟩ = some (.int .i64 a0_1) := (blk_cell BK703.out 1).trans rfl
      have hfz10_0 := blk_frozen BK703.out 0
      have hfz10_1 := blk_frozen BK703.out 1
      go_wp2_with (first | (go_at_call 26; (with_reducible refine (num_Valid.calls k a0_0 a0_1 false _ A5.out).mono ?_); rintro e w11 ⟨rfl, hb⟩; have n0_ := Aside0.mk (blk_below (g := gb703) (o := .cells #[.int .i64 a0_0, .int .i64 a0_1] 23 (0, 0)) (qb_ BK703.out) hb); have n1_ := Aside0.mk (below_step (q1_ HB.out GE703.out) hb); clear BK703; clear HB; have BK703 := n0_; have HB := n1_; clear n0_ n1_; (try clear hb); (try clear hb2); (try clear hk); (try clear hi)))
      repeat (go_quiet (first | (go_at_call 26; (with_reducible refine (num_Valid.calls k a0_0 a0_1 false _ A5.out).mono ?_); rintro e w11 ⟨rfl, hb⟩; have n0_ := Aside0.mk (blk_below (g := gb703) (o := .cells #[.int .i64 a0_0, .int .i64 a0_1] 23 (0, 0)) (qb_ BK703.out) hb); have n1_ := Aside0.mk (below_step (q1_ HB.out GE703.out) hb); clear BK703; clear HB; have BK703 := n0_; have HB := n1_; clear n0_ n1_; (try clear hb); (try clear hb2); (try clear hk); (try clear hi))); try go_wp2_with (first | (go_at_call 26; (with_reducible refine (num_Valid.calls k a0_0 a0_1 false _ A5.out).mono ?_); rintro e w11 ⟨rfl, hb⟩; have n0_ := Aside0.mk (blk_below (g := gb703) (o := .cells #[.int .i64 a0_0, .int .i64 a0_1] 23 (0, 0)) (qb_ BK703.out) hb); have n1_ := Aside0.mk (below_step (q1_ HB.out GE703.out) hb); clear BK703; clear HB; have BK703 := n0_; have HB := n1_; clear n0_ n1_; (try clear hb); (try clear hb2); (try clear hk); (try clear hi))))
      go_meet
      case rel => exact ⟨_, (true), (by first | rfl | (simp; done) | (simp [*]; done)), H', ⟨by first | omega | exact Nat.le_refl _⟩, ⟨by (with_reducible repeat (first | refine blk_drewN ?_ _ | refine blk_drew ?_ | refine blk_alloc ?_ _)); exact BK703.out⟩, ⟨(q1_ HB.out GE703.out)⟩⟩
  case rest =>
    clear HC3
    try clear p2
    try clear c4
    try clear c6
    try clear hcz10_0
    try clear hcz10_1
    try clear hcz8_0
    try clear hcz8_1
    try clear hfz10_0
    try clear hfz10_1
    try clear hfz8_0
    try clear hfz8_1
    obtain ⟨kq, x15_2, rfl, HA, HJ2, BK703, HB⟩ := hcut
    cases kq with
    | zero => exact absurd HA.out (by simp [num_Round.j0])
    | succ kj2 =>
      have H := HA.out
      clear HA
      simp only [num_Round.j0] at H
      by_cases c12 : x15_2 = true
      · subst c12
        have H1 : (some (0, 2)) = some (r1, r2) := by rw [if_pos rfl] at H; exact H
        clear H
        have H := H1
        clear H1
        simp only [Option.some.injEq, Prod.mk.injEq] at H
        obtain ⟨rfl, rfl⟩ := H
        go_wp2
        repeat (go_quiet (fail); try go_wp2)
        go_ret2
        exact ⟨by first | rfl | (simp [errW_none, errW_some] <;> rfl) | (simp [*, errW_none, errW_some] <;> rfl), (q1_ HB.out GE703.out)⟩
      · replace c12 := Bool.eq_false_iff.mpr c12
        subst c12
        have H1 : ((num_size.f a0_0).bind fun t706 => ((num_rounded.f kj2 (decide (a0_0 < 0)) 0 t706 (IntKind.u64.wrap (a0_1)) a1).bind fun bt707 => (some (bt707.1, 0)))) = some (r1, r2) := by rw [if_neg (show ¬ (false = true) by decide)] at H; exact H
        clear H
        have H := H1
        clear H1
        replace H := Option.bind_eq_some_iff.mp H
        obtain ⟨t706, A130, H⟩ := H
        replace H : ((num_rounded.f kj2 (decide (a0_0 < 0)) 0 t706 (IntKind.u64.wrap (a0_1)) a1).bind fun bt707 => (some (bt707.1, 0))) = some (r1, r2) := H
        have A13 := Aside0.mk A130
        clear A130
        replace H := Option.bind_eq_some_iff.mp H
        obtain ⟨⟨t707, t708⟩, A140, H⟩ := H
        replace H : (some (t707, 0)) = some (r1, r2) := H
        have A14 := Aside0.mk A140
        clear A140
        simp only [Option.some.injEq, Prod.mk.injEq] at H
        obtain ⟨rfl, rfl⟩ := H
        have hcz15_0 : wc.cell? ⟨gb703, 0, none⟩ = some (.int .i64 a0_0) := (blk_cell BK703.out 0).trans rfl
        have hcz15_1 : wc.cell? ⟨gb703, 1, none⟩ = some (.int .i64 a0_1) := (blk_cell BK703.out 1).trans rfl
        have hfz15_0 := blk_frozen BK703.out 0
        have hfz15_1 := blk_frozen BK703.out 1
        go_wp2_with (first | (go_at_call 78; (with_reducible refine (num_size.calls a0_0 t706 _ A13.out).mono ?_); rintro e w' ⟨rfl, ⟨nd, rfl⟩⟩; (try first | exact ⟨rfl, _, World.drewN_drewN _ _ _⟩ | exact ⟨rfl, _, Eq.trans (World.drewN_drewN _ _ _) (congrArg (World.drewN _) (Nat.add_assoc _ _ _))⟩)) | (go_at_call 86; (with_reducible refine (num_rounded.calls kj2 (decide (a0_0 < 0)) 0 t706 (IntKind.u64.wrap (a0_1)) a1 t707 t708 _ A14.out).mono ?_); rintro e w' ⟨rfl, ⟨nd, rfl⟩⟩; (try first | exact ⟨rfl, _, World.drewN_drewN _ _ _⟩ | exact ⟨rfl, _, Eq.trans (World.drewN_drewN _ _ _) (congrArg (World.drewN _) (Nat.add_assoc _ _ _))⟩)))
        repeat (go_quiet (first | (go_at_call 78; (with_reducible refine (num_size.calls a0_0 t706 _ A13.out).mono ?_); rintro e w' ⟨rfl, ⟨nd, rfl⟩⟩; (try first | exact ⟨rfl, _, World.drewN_drewN _ _ _⟩ | exact ⟨rfl, _, Eq.trans (World.drewN_drewN _ _ _) (congrArg (World.drewN _) (Nat.add_assoc _ _ _))⟩)) | (go_at_call 86; (with_reducible refine (num_rounded.calls kj2 (decide (a0_0 < 0)) 0 t706 (IntKind.u64.wrap (a0_1)) a1 t707 t708 _ A14.out).mono ?_); rintro e w' ⟨rfl, ⟨nd, rfl⟩⟩; (try first | exact ⟨rfl, _, World.drewN_drewN _ _ _⟩ | exact ⟨rfl, _, Eq.trans (World.drewN_drewN _ _ _) (congrArg (World.drewN _) (Nat.add_assoc _ _ _))⟩))); try go_wp2_with (first | (go_at_call 78; (with_reducible refine (num_size.calls a0_0 t706 _ A13.out).mono ?_); rintro e w' ⟨rfl, ⟨nd, rfl⟩⟩; (try first | exact ⟨rfl, _, World.drewN_drewN _ _ _⟩ | exact ⟨rfl, _, Eq.trans (World.drewN_drewN _ _ _) (congrArg (World.drewN _) (Nat.add_assoc _ _ _))⟩)) | (go_at_call 86; (with_reducible refine (num_rounded.calls kj2 (decide (a0_0 < 0)) 0 t706 (IntKind.u64.wrap (a0_1)) a1 t707 t708 _ A14.out).mono ?_); rintro e w' ⟨rfl, ⟨nd, rfl⟩⟩; (try first | exact ⟨rfl, _, World.drewN_drewN _ _ _⟩ | exact ⟨rfl, _, Eq.trans (World.drewN_drewN _ _ _) (congrArg (World.drewN _) (Nat.add_assoc _ _ _))⟩))))
        go_ret2
        exact ⟨by first | rfl | (simp [errW_none, errW_some] <;> rfl) | (simp [*, errW_none, errW_some] <;> rfl), (q1_ HB.out GE703.out)⟩
end Go.Proofs.YtdjnneflpkllmaaDoor.Q

namespace Go.Proofs.YtdjnneflpkllmaaDoor.Q
open Go.RowKit Go.Proofs.YtdjnneflpkllmaaDoorW.PrintWords Go.Proofs.YtdjnneflpkllmaaDoorW.PrintLast Go.Proofs.YtdjnneflpkllmaaDoorW.PrintMore
attribute [local go_sem] max2_int min2_int max_two min_two max_three min_three max_four min_four   -- for this text's walks alone
set_option linter.unusedVariables false
set_option linter.unusedSimpArgs false
def num_Neg.f (k : Nat) (a0_0 : Int) (a0_1 : Int) : Option (Int × Int × Int) := (num_Valid.f k a0_0 a0_1).bind fun t711 => (if t711 = true then (some (wrap64 (-a0_0), a0_1, 0)) else (some (0, 0, 2)))
theorem num_Neg.mono : ∀ a0 a1 k, LeO (num_Neg.f k a0 a1) (num_Neg.f (k + 1) a0 a1) := by
  intro a0 a1 k
  unfold num_Neg.f
  repeat' first
      | (with_reducible exact num_Valid.mono _ _ _)
      | (with_reducible exact LeO.refl _)
      | (with_reducible exact LeO.none _)
      | (with_reducible refine LeO.ite ?_ ?_)
      | (with_reducible refine LeO.bind ?_ (fun _ => ?_))
      | exact num_Valid.mono _ _ _
      | exact LeO.none _
      | refine LeO.ite ?_ ?_
      | refine LeO.bind ?_ (fun _ => ?_)
end Go.Proofs.YtdjnneflpkllmaaDoor.Q

namespace Go.Proofs.Num
open Go.RowKit Go.Proofs.YtdjnneflpkllmaaDoorW.PrintWords Go.Proofs.YtdjnneflpkllmaaDoor.Q
set_option linter.unusedVariables false
set_option linter.unusedSimpArgs false
theorem w64 {x : Int} (h0 : -9223372036854775808 ≤ x) (h1 : x ≤ 9223372036854775807) : wrap64 x = x := by unfold wrap64; omega
theorem wu {x : Int} (h0 : 0 ≤ x) (h1 : x ≤ 18446744073709551615) : IntKind.u64.wrap x = x := by
  simp [IntKind.wrap, IntKind.bits, IntKind.signed]
  omega
theorem size_ok {a : Int} (h0 : -9223372036854775808 ≤ a) (h1 : a ≤ 9223372036854775807) : num_size.f a = some (a.natAbs : Int) := by
  unfold num_size.f
  by_cases h : a < 0
  · rw [if_pos h]
    congr 1
    simp [IntKind.wrap, IntKind.bits, IntKind.signed]
    omega
  · rw [if_neg h, wu (by omega) (by omega)]
    congr 1
    omega
theorem tmod_nat (a b : Nat) : Int.tmod (a : Int) (b : Int) = ((a % b : Nat) : Int) := by
  exact Int.ofNat_tmod a b
theorem gcd_l0 : ∀ (b a : Nat), Ev (fun k => num_gcd.l0 k (a : Int) (b : Int)) (Nat.gcd a b : Int) := by
  intro b
  induction b using Nat.strongRecOn with
  | ind b ih =>
    intro a
    by_cases h : b = 0
    · subst h
      refine Ev.step (f := fun _ => some (a : Int)) (fun k => by simp [num_gcd.l0]) ?_
      rw [Nat.gcd_zero_right]
      exact Ev.now _
    · refine Ev.step (f := fun k => num_gcd.l0 k (b : Int) ((a % b : Nat) : Int)) (fun k => by rw [num_gcd.l0, if_neg (by omega), tmod_nat]) ?_
      have := ih (a % b) (Nat.mod_lt _ (by omega)) b
      rw [Nat.gcd_comm b, ← Nat.gcd_rec, Nat.gcd_comm] at this
      exact this
theorem gcd_ok (a b : Nat) : Ev (fun k => num_gcd.f k (a : Int) (b : Int)) (Nat.gcd a b : Int) := gcd_l0 b a
/-- A valid fraction. -/
def valid (n d : Int) : Prop := 1 ≤ d ∧ d ≤ 1048576 ∧ -1099511627776 ≤ n ∧ n ≤ 1099511627776 ∧ Nat.gcd n.natAbs d.natAbs = 1
instance (n d : Int) : Decidable (valid n d) := by unfold valid; infer_instance
theorem valid_ok (n d : Int) : Ev (fun k => num_Valid.f k n d) (decide (valid n d)) := by
  unfold num_Valid.f
  by_cases h1 : d ≥ 1
  · by_cases h2 : d ≤ 1048576
    · by_cases h3 : n ≥ -1099511627776
      · by_cases h4 : n ≤ 1099511627776
        · simp only [if_pos h1, if_pos h2, if_pos h3, if_pos h4, size_ok (by omega : -9223372036854775808 ≤ n) (by omega), Option.bind_some]
          have e : IntKind.u64.wrap d = (d.natAbs : Int) := by rw [wu (by omega) (by omega)]; omega
          rw [e]
          refine Ev.bind (gcd_ok _ _) ?_
          have : ((Nat.gcd n.natAbs d.natAbs : Int) == 1) = decide (valid n d) := by
            by_cases hg : Nat.gcd n.natAbs d.natAbs = 1
            · rw [decide_eq_true (show valid n d from ⟨h1, h2, h3, h4, hg⟩), hg]; rfl
            · rw [decide_eq_false (fun h : valid n d => hg h.2.2.2.2)]
              exact beq_eq_false_iff_ne.mpr (by omega)
          rw [this]
          exact Ev.now _
        · simp only [if_pos h1, if_pos h2, if_pos h3, if_neg h4]
          rw [decide_eq_false (fun h => h4 h.2.2.2.1)]
          exact Ev.now _
      · simp only [if_pos h1, if_pos h2, if_neg h3]
        rw [decide_eq_false (fun h => h3 h.2.2.1)]
        exact Ev.now _
    · simp only [if_pos h1, if_neg h2]
      rw [decide_eq_false (fun h => h2 h.2.1)]
      exact Ev.now _
  · simp only [if_neg h1]
    rw [decide_eq_false (fun h => h1 h.1)]
    exact Ev.now _
end Go.Proofs.Num

namespace Go.Proofs.Num
open Go.RowKit Go.Proofs.YtdjnneflpkllmaaDoorW.PrintWords Go.Proofs.YtdjnneflpkllmaaDoor.Q
set_option linter.unusedVariables false
set_option linter.unusedSimpArgs false
/-- Div64 of a number of 64 bits. -/
theorem div64_low (k : Nat) {a b : Int} (ha : 0 ≤ a) (ha' : a ≤ 18446744073709551615) (hb : 0 < b) : bits_Div64.f k 0 a b = some (a / b, a % b) := by
  unfold bits_Div64.f bits_Div64_g.f
  rw [if_neg (by omega), if_neg (by omega), if_pos rfl, if_neg (by omega), Int.tdiv_eq_ediv_of_nonneg ha, Int.tmod_eq_emod_of_nonneg ha]
  have h1 : 0 ≤ a / b := Int.ediv_nonneg ha (by omega)
  have h2 : a / b ≤ a := Int.ediv_le_self _ ha
  rw [wu h1 (by omega)]
/-- How far a quotient of sizes is rounded. -/
def rnd (neg : Bool) (q r d m : Int) : Int :=
  let t := if r = 0 then q else if m = 0 then (if neg then q + 1 else q) else if m = 1 then (if neg then q else q + 1) else if m = 2 then q else if d < 2 * r then q + 1 else if 2 * r < d then q else if m = 3 then (if neg then q else q + 1) else if q % 2 = 1 then q + 1 else q
  if neg then -t else t
theorem away_ok (neg : Bool) {q r d m : Int} (hq : 0 ≤ q) (hr : 0 ≤ r) (hrd : r < d) (hd : d ≤ 9223372036854775807) :
    num_away.f neg q r d m = some (if r = 0 then false else if m = 0 then neg else if m = 1 then !neg else if m = 2 then false else if d < 2 * r then true else if 2 * r < d then false else if m = 3 then !neg else decide (q % 2 = 1)) := by
  unfold num_away.f
  rw [wu (by omega) (by omega), Int.tmod_eq_emod_of_nonneg hq]
  by_cases h0 : r = 0
  · simp [h0]
  · by_cases h1 : m = 0
    · simp [h0, h1]
    · by_cases h2 : m = 1
      · simp [h0, h2]
      · by_cases h3 : m = 2
        · simp [h0, h3]
        · by_cases h4 : d < 2 * r
          · simp [h0, h1, h2, h3, h4, show d - r < r by omega]
          · by_cases h5 : 2 * r < d
            · simp [h0, h1, h2, h3, h4, h5, show ¬ d - r < r by omega, show r < d - r by omega]
            · by_cases h6 : m = 3
              · simp [h0, h6, h4, h5, show ¬ d - r < r by omega, show ¬ r < d - r by omega]
              · simp [h0, h1, h2, h3, h4, h5, h6, show ¬ d - r < r by omega, show ¬ r < d - r by omega]
                rw [Bool.eq_iff_iff]; simp
theorem rounded_low (k : Nat) (neg : Bool) {a d m : Int} (ha : 0 ≤ a) (ha' : a ≤ 4611686018427387904) (hd : 0 < d) (hd' : d ≤ 9223372036854775807) :
    num_rounded.f k neg 0 a d m = some (rnd neg (a / d) (a % d) d m, true) := by
  unfold num_rounded.f
  have h1 : 0 ≤ a / d := Int.ediv_nonneg ha (by omega)
  have h2 : a / d ≤ a := Int.ediv_le_self _ ha
  have h3 : 0 ≤ a % d := Int.emod_nonneg _ (by omega)
  have h4 : a % d < d := Int.emod_lt_of_pos _ hd
  rw [if_neg (by omega), div64_low k ha (by omega) hd]
  simp only [Option.bind_some]
  rw [if_neg (by omega), away_ok neg h1 h3 h4 hd']
  simp only [Option.bind_some]
  generalize a / d = q at *
  generalize a % d = r at *
  rw [wu (by omega) (by omega), w64 (x := q + 1) (by omega) (by omega), w64 (x := q) (by omega) (by omega), w64 (x := -(q + 1)) (by omega) (by omega), w64 (x := -q) (by omega) (by omega)]
  unfold rnd
  cases neg <;> simp only [Bool.false_eq_true, if_false, if_true, Bool.not_true, Bool.not_false, decide_eq_true_eq] <;> (repeat' split) <;> simp_all
theorem mode_ok {m : Int} : num_mode.f m = some (decide (0 ≤ m ∧ m ≤ 4)) := by
  unfold num_mode.f
  by_cases h : m ≥ 0
  · rw [if_pos h]; congr 1; rw [Bool.eq_iff_iff]; simp; omega
  · rw [if_neg h]; congr 1; symm; rw [decide_eq_false_iff_not]; omega
/-- Round of a fraction. -/
theorem round_ok (n d m : Int) : Ev (fun k => num_Round.f k n d m) (if valid n d ∧ 0 ≤ m ∧ m ≤ 4 then (rnd (decide (n < 0)) (n.natAbs / d) (n.natAbs % d) d m, 0) else (0, 2)) := by
  unfold num_Round.f
  refine Ev.bind (valid_ok n d) ?_
  by_cases hv : valid n d
  · have hv' := hv
    obtain ⟨v1, v2, v3, v4, v5⟩ := hv'
    simp only [hv, decide_true, if_true, mode_ok, Option.bind_some, true_and]
    refine Ev.step (f := fun k => if (!decide (0 ≤ m ∧ m ≤ 4)) = true then some (0, 2) else some (rnd (decide (n < 0)) (n.natAbs / d) (n.natAbs % d) d m, 0)) (fun k => ?_) ?_
    · rw [num_Round.j0, size_ok (by omega) (by omega)]
      simp only [Option.bind_some]
      rw [wu (x := d) (by omega) (by omega), rounded_low k _ (by omega) (by omega) (by omega) (by omega)]
      rfl
    · by_cases hm : 0 ≤ m ∧ m ≤ 4
      · simp only [hm, decide_true, Bool.not_true, Bool.false_eq_true, if_false, and_self, if_true]
        exact Ev.now _
      · simp only [hm, decide_false, Bool.not_false, if_true, if_false]
        exact Ev.now _
  · simp only [hv, decide_false, Bool.false_eq_true, if_false, false_and]
    refine Ev.step (f := fun k => some (0, 2)) (fun k => by simp [num_Round.j0]) (Ev.now _)
end Go.Proofs.Num

namespace Go.Proofs.YtdjnneflpkllmaaDoor.Q
open Go.RowKit Go.Proofs.YtdjnneflpkllmaaDoorW.PrintWords Go.Proofs.YtdjnneflpkllmaaDoorW.PrintLast Go.Proofs.YtdjnneflpkllmaaDoorW.PrintMore
attribute [local go_sem] max2_int min2_int max_two min_two max_three min_three max_four min_four   -- for this text's walks alone
set_option linter.unusedVariables false
set_option linter.unusedSimpArgs false
mutual
def merinoref01_Valid.j0 : Nat → Bool → Int → Int → Option (Bool)
  | 0, _, _, _ => none
  | k + 1, x22, x467000, x467001 => if x22 = true then (some false) else (if x467000 < 0 then (merinoref01_Valid.j1 k (wrap64 (-x467000)) x467001) else (merinoref01_Valid.j1 k x467000 x467001))
def merinoref01_Valid.j1 : Nat → Int → Int → Option (Bool)
  | 0, _, _ => none
  | k + 1, x3, x4 => merinoref01_Valid.l0 k x3 x4
def merinoref01_Valid.l0 : Nat → Int → Int → Option (Bool)
  | 0, _, _ => none
  | k + 1, x3, x4 => if x4 > 0 then (if x4 = 0 then (none) else (merinoref01_Valid.l0 k x4 (Int.tmod x3 x4))) else (some (x3 == 1))
end
def merinoref01_Valid.f (k : Nat) (a0_0 : Int) (a0_1 : Int) : Option (Bool) := if a0_1 < 1 then (merinoref01_Valid.j0 k true a0_0 a0_1) else (if a0_1 > 1048576 then (merinoref01_Valid.j0 k true a0_0 a0_1) else (if a0_0 < (-1099511627776) then (merinoref01_Valid.j0 k true a0_0 a0_1) else (merinoref01_Valid.j0 k (decide (a0_0 > 1099511627776)) a0_0 a0_1)))
theorem merinoref01_Valid.mono_l : ∀ k, (∀ y0 y1 y2, LeO (merinoref01_Valid.j0 k y0 y1 y2) (merinoref01_Valid.j0 (k + 1) y0 y1 y2)) ∧ (∀ y0 y1, LeO (merinoref01_Valid.j1 k y0 y1) (merinoref01_Valid.j1 (k + 1) y0 y1)) ∧ (∀ y0 y1, LeO (merinoref01_Valid.l0 k y0 y1) (merinoref01_Valid.l0 (k + 1) y0 y1))
  | 0 => ⟨fun _ _ _ r h => by simp [merinoref01_Valid.j0] at h, fun _ _ r h => by simp [merinoref01_Valid.j1] at h, fun _ _ r h => by simp [merinoref01_Valid.l0] at h⟩
  | k + 1 => by
    obtain ⟨ih0, ih1, ih2⟩ := merinoref01_Valid.mono_l k
    refine ⟨?_, ?_, ?_⟩
    · intro y0 y1 y2
      unfold merinoref01_Valid.j0
      repeat' first
      | (with_reducible exact ih0 _ _ _)
      | (with_reducible exact ih1 _ _)
      | (with_reducible exact ih2 _ _)
      | (with_reducible exact LeO.refl _)
      | (with_reducible exact LeO.none _)
      | (with_reducible refine LeO.ite ?_ ?_)
      | (with_reducible refine LeO.bind ?_ (fun _ => ?_))
      | exact ih0 _ _ _
      | exact ih1 _ _
      | exact ih2 _ _
      | exact LeO.none _
      | refine LeO.ite ?_ ?_
      | refine LeO.bind ?_ (fun _ => ?_)
    · intro y0 y1
      unfold merinoref01_Valid.j1
      repeat' first
      | (with_reducible exact ih0 _ _ _)
      | (with_reducible exact ih1 _ _)
      | (with_reducible exact ih2 _ _)
      | (with_reducible exact LeO.refl _)
      | (with_reducible exact LeO.none _)
      | (with_reducible refine LeO.ite ?_ ?_)
      | (with_reducible refine LeO.bind ?_ (fun _ => ?_))
      | exact ih0 _ _ _
      | exact ih1 _ _
      | exact ih2 _ _
      | exact LeO.none _
      | refine LeO.ite ?_ ?_
      | refine LeO.bind ?_ (fun _ => ?_)
    · intro y0 y1
      unfold merinoref01_Valid.l0
      repeat' first
      | (with_reducible exact ih0 _ _ _)
      | (with_reducible exact ih1 _ _)
      | (with_reducible exact ih2 _ _)
      | (with_reducible exact LeO.refl _)
      | (with_reducible exact LeO.none _)
      | (with_reducible refine LeO.ite ?_ ?_)
      | (with_reducible refine LeO.bind ?_ (fun _ => ?_))
      | exact ih0 _ _ _
      | exact ih1 _ _
      | exact ih2 _ _
      | exact LeO.none _
      | refine LeO.ite ?_ ?_
      | refine LeO.bind ?_ (fun _ => ?_)
theorem merinoref01_Valid.mono : ∀ a0 a1 k, LeO (merinoref01_Valid.f k a0 a1) (merinoref01_Valid.f (k + 1) a0 a1) := by
  intro a0 a1 k
  obtain ⟨ih0, ih1, ih2⟩ := merinoref01_Valid.mono_l k
  unfold merinoref01_Valid.f
  repeat' first
      | (with_reducible exact ih0 _ _ _)
      | (with_reducible exact ih1 _ _)
      | (with_reducible exact ih2 _ _)
      | (with_reducible exact LeO.refl _)
      | (with_reducible exact LeO.none _)
      | (with_reducible refine LeO.ite ?_ ?_)
      | (with_reducible refine LeO.bind ?_ (fun _ => ?_))
      | exact ih0 _ _ _
      | exact ih1 _ _
      | exact ih2 _ _
      | exact LeO.none _
      | refine LeO.ite ?_ ?_
      | refine LeO.bind ?_ (fun _ => ?_)
set_option maxHeartbeats 8000000 in
set_option maxRecDepth 100000 in
theorem merinoref01_Valid.calls (k : Nat) (a0_0 : Int) (a0_1 : Int) (r : Bool) (w : World) (h : merinoref01_Valid.f k a0_0 a0_1 = some r) :
    Calls Tryd.prog 29 #[.agg #[.int .i64 a0_0, .int .i64 a0_1]] w fun e w' => e = .returned (.bool r) ∧ Below w.heap.size w w' := by
  have hu23 := Tryd.underlying23
  have HB := Aside0.mk (Below.refl w.heap.size w)
  have H : (if a0_1 < 1 then (merinoref01_Valid.j0 k true a0_0 a0_1) else (if a0_1 > 1048576 then (merinoref01_Valid.j0 k true a0_0 a0_1) else (if a0_0 < (-1099511627776) then (merinoref01_Valid.j0 k true a0_0 a0_1) else (merinoref01_Valid.j0 k (decide (a0_0 > 1099511627776)) a0_0 a0_1)))) = some r := h
  clear h
  have HC2 := Aside0.mk H
  clear H
  go_enter Tryd.func29, Tryd.ntmps29
  go_upto_region 1 with (first | ((with_reducible refine gate_dst (N := 1) rfl ?_); refine box_event ?hg (N := 1) ?hd (cs := #[.int .i64 a0_0, .int .i64 a0_1]) (t := 23) ?hr ?_; (case hd => rfl); (case hg => rfl); (case hr => first | (go_simp; done) | (go_simp; rfl)); intro gb466 hg w3 hbox hb; have n0_ := Aside0.mk (below_step (q0_ HB.out) hb); have n1_ := Aside0.mk (hbox); have n2_ := Aside0.mk ((by rw [hg]; exact (below_size (q0_ HB.out)) : w.heap.size ≤ gb466)); have n3_ := Aside0.mk ((by rw [hg]; exact (below_size (q0_ HB.out)) : w.heap.size ≤ gb466)); clear HB; have HB := n0_; have BK466 := n1_; have GW466 := n2_; have GE466 := n3_; clear n0_ n1_ n2_ n3_; clear hb hbox hg))
  repeat (go_quiet (first | ((with_reducible refine gate_dst (N := 1) rfl ?_); refine box_event ?hg (N := 1) ?hd (cs := #[.int .i64 a0_0, .int .i64 a0_1]) (t := 23) ?hr ?_; (case hd => rfl); (case hg => rfl); (case hr => first | (go_simp; done) | (go_simp; rfl)); intro gb466 hg w3 hbox hb; have n0_ := Aside0.mk (below_step (q0_ HB.out) hb); have n1_ := Aside0.mk (hbox); have n2_ := Aside0.mk ((by rw [hg]; exact (below_size (q0_ HB.out)) : w.heap.size ≤ gb466)); have n3_ := Aside0.mk ((by rw [hg]; exact (below_size (q0_ HB.out)) : w.heap.size ≤ gb466)); clear HB; have HB := n0_; have BK466 := n1_; have GW466 := n2_; have GE466 := n3_; clear n0_ n1_ n2_ n3_; clear hb hbox hg)); go_upto_region 1 with (first | ((with_reducible refine gate_dst (N := 1) rfl ?_); refine box_event ?hg (N := 1) ?hd (cs := #[.int .i64 a0_0, .int .i64 a0_1]) (t := 23) ?hr ?_; (case hd => rfl); (case hg => rfl); (case hr => first | (go_simp; done) | (go_simp; rfl)); intro gb466 hg w3 hbox hb; have n0_ := Aside0.mk (below_step (q0_ HB.out) hb); have n1_ := Aside0.mk (hbox); have n2_ := Aside0.mk ((by rw [hg]; exact (below_size (q0_ HB.out)) : w.heap.size ≤ gb466)); have n3_ := Aside0.mk ((by rw [hg]; exact (below_size (q0_ HB.out)) : w.heap.size ≤ gb466)); clear HB; have HB := n0_; have BK466 := n1_; have GW466 := n2_; have GE466 := n3_; clear n0_ n1_ n2_ n3_; clear hb hbox hg)))
  (try simp only [Act.put, List.setIfInBounds_toArray, List.set_cons_zero, List.set_cons_succ])
  go_cut [22] (fun v22 wc => ∃ (kq : Nat) (x22_1 : Bool), v22 = .bool x22_1 ∧ Aside0 (merinoref01_Valid.j0 kq x22_1 a0_0 a0_1 = some r) ∧ Aside0 (kq ≤ k) ∧ Aside0 (wc.heap[gb466]? = some (.cells #[.int .i64 a0_0, .int .i64 a0_1] 23 (0, 0))) ∧ Aside0 (Below w.heap.size w wc))
  case first =>
    have H := HC2.out
    clear HC2
    by_cases c4 : a0_1 < 1
    · rw [if_pos c4] at H
      have c4b0 : decide (a0_1 < 1) = true := decide_eq_true c4
      clear c4
      (first | rw [c4b0] | (simp only [i64_w, i32_w]; rw [c4b0]) | skip)
      have H' := Aside0.mk H
      clear H
      have hcz5_0 : w3.cell? ⟨gb466, 0, none⟩ = some (.int .i64 a0_0) := (blk_cell BK466.out 0).trans rfl
      have hcz5_1 : w3.cell? ⟨gb466, 1, none⟩ = some (.int .i64 a0_1) := (blk_cell BK466.out 1).trans rfl
      have hfz5_0 := blk_frozen BK466.out 0
      have hfz5_1 := blk_frozen BK466.out 1
      go_wp2
      repeat (go_quiet (fail); try go_wp2)
      go_meet
      case rel => exact ⟨_, (true), (by first | rfl | (simp; done) | (simp [*]; done)), H', ⟨by first | omega | exact Nat.le_refl _⟩, ⟨by (with_reducible repeat (first | refine blk_drewN ?_ _ | refine blk_drew ?_ | refine blk_alloc ?_ _)); exact BK466.out⟩, ⟨(q1_ HB.out GE466.out)⟩⟩
    · rw [if_neg c4] at H
      have c4b0 : decide (a0_1 < 1) = false := decide_eq_false c4
      clear c4
      (first | rw [c4b0] | (simp only [i64_w, i32_w]; rw [c4b0]) | skip)
      by_cases c6 : a0_1 > 1048576
      · rw [if_pos c6] at H
        have c6b0 : decide (1048576 < a0_1) = true := decide_eq_true c6
        clear c6
        have H' := Aside0.mk H
        clear H
        have hcz7_0 : w3.cell? ⟨gb466, 0, none⟩ = some (.int .i64 a0_0) := (blk_cell BK466.out 0).trans rfl
        have hcz7_1 : w3.cell? ⟨gb466, 1, none⟩ = some (.int .i64 a0_1) := (blk_cell BK466.out 1).trans rfl
        have hfz7_0 := blk_frozen BK466.out 0
        have hfz7_1 := blk_frozen BK466.out 1
        go_wp2
        repeat (go_quiet (fail); try go_wp2)
        go_meet
        case rel => exact ⟨_, (true), (by first | rfl | (simp; done) | (simp [*]; done)), H', ⟨by first | omega | exact Nat.le_refl _⟩, ⟨by (with_reducible repeat (first | refine blk_drewN ?_ _ | refine blk_drew ?_ | refine blk_alloc ?_ _)); exact BK466.out⟩, ⟨(q1_ HB.out GE466.out)⟩⟩
      · rw [if_neg c6] at H
        have c6b0 : decide (1048576 < a0_1) = false := decide_eq_false c6
        clear c6
        by_cases c8 : a0_0 < (-1099511627776)
        · rw [if_pos c8] at H
          have c8b0 : decide (a0_0 < (-1099511627776)) = true := decide_eq_true c8
          clear c8
          have H' := Aside0.mk H
          clear H
          have hcz9_0 : w3.cell? ⟨gb466, 0, none⟩ = some (.int .i64 a0_0) := (blk_cell BK466.out 0).trans rfl
          have hcz9_1 : w3.cell? ⟨gb466, 1, none⟩ = some (.int .i64 a0_1) := (blk_cell BK466.out 1).trans rfl
          have hfz9_0 := blk_frozen BK466.out 0
          have hfz9_1 := blk_frozen BK466.out 1
          go_wp2
          repeat (go_quiet (fail); try go_wp2)
          go_meet
          case rel => exact ⟨_, (true), (by first | rfl | (simp; done) | (simp [*]; done)), H', ⟨by first | omega | exact Nat.le_refl _⟩, ⟨by (with_reducible repeat (first | refine blk_drewN ?_ _ | refine blk_drew ?_ | refine blk_alloc ?_ _)); exact BK466.out⟩, ⟨(q1_ HB.out GE466.out)⟩⟩
        · rw [if_neg c8] at H
          have c8b0 : decide (a0_0 < (-1099511627776)) = false := decide_eq_false c8
          clear c8
          have H' := Aside0.mk H
          clear H
          have hcz10_0 : w3.cell? ⟨gb466, 0, none⟩ = some (.int .i64 a0_0) := (blk_cell BK466.out 0).trans rfl
          have hcz10_1 : w3.cell? ⟨gb466, 1, none⟩ = some (.int .i64 a0_1) := (blk_cell BK466.out 1).trans rfl
          have hfz10_0 := blk_frozen BK466.out 0
          have hfz10_1 := blk_frozen BK466.out 1
          go_wp2
          repeat (go_quiet (fail); try go_wp2)
          go_meet
          case rel => exact ⟨_, (decide (a0_0 > 1099511627776)), (by first | rfl | (simp; done) | (simp [*]; done)), H', ⟨by first | omega | exact Nat.le_refl _⟩, ⟨by (with_reducible repeat (first | refine blk_drewN ?_ _ | refine blk_drew ?_ | refine blk_alloc ?_ _)); exact BK466.out⟩, ⟨(q1_ HB.out GE466.out)⟩⟩
  case rest =>
    clear HC2
    try clear c2
    try clear p2
    try clear c4
    try clear c4b0
    try clear c6
    try clear c6b0
    try clear c8
    try clear c8b0
    try clear hcz10_0
    try clear hcz10_1
    try clear hcz5_0
    try clear hcz5_1
    try clear hcz7_0
    try clear hcz7_1
    try clear hcz9_0
    try clear hcz9_1
    try clear hfz10_0
    try clear hfz10_1
    try clear hfz5_0
    try clear hfz5_1
    try clear hfz7_0
    try clear hfz7_1
    try clear hfz9_0
    try clear hfz9_1
    obtain ⟨kq, x22_1, rfl, HA, HJ1, BK466, HB⟩ := hcut
    cases kq with
    | zero => exact absurd HA.out (by simp [merinoref01_Valid.j0])
    | succ kj1 =>
      have H := HA.out
      clear HA
      simp only [merinoref01_Valid.j0] at H
      by_cases c11 : x22_1 = true
      · subst c11
        have H1 : (some false) = some r := by rw [if_pos rfl] at H; exact H
        clear H
        have H := H1
        clear H1
        obtain rfl := Option.some.inj H
        go_wp2
        repeat (go_quiet (fail); try go_wp2)
        go_ret
        exact ⟨by first | rfl | (simp [errW_none, errW_some] <;> rfl) | (simp [*, errW_none, errW_some] <;> rfl), (q1_ HB.out GE466.out)⟩
      · replace c11 := Bool.eq_false_iff.mpr c11
        subst c11
        have H1 : (if a0_0 < 0 then (merinoref01_Valid.j1 kj1 (wrap64 (-a0_0)) a0_1) else (merinoref01_Valid.j1 kj1 a0_0 a0_1)) = some r := by rw [if_neg (show ¬ (false = true) by decide)] at H; exact H
        clear H
        have H := H1
        clear H1
        have HC12 := Aside0.mk H
        clear H
        have hcz13_0 : wc.cell? ⟨gb466, 0, none⟩ = some (.int .i64 a0_0) := (blk_cell BK466.out 0).trans rfl
        have hcz13_1 : wc.cell? ⟨gb466, 1, none⟩ = some (.int .i64 a0_1) := (blk_cell BK466.out 1).trans rfl
        have hfz13_0 := blk_frozen BK466.out 0
        have hfz13_1 := blk_frozen BK466.out 1
        go_upto_if 28 with (fail)
        repeat (go_quiet (fail); go_upto_if 28 with (fail))
        go_cut [3] (fun v3 wc => ∃ (kq : Nat) (x3_11 : Int), v3 = .int .i64 x3_11 ∧ Aside0 (merinoref01_Valid.j1 kq x3_11 a0_1 = some r) ∧ Aside0 (kq ≤ kj1) ∧ Aside0 (wc.heap[gb466]? = some (.cells #[.int .i64 a0_0, .int .i64 a0_1] 23 (0, 0))) ∧ Aside0 (Below w.heap.size w wc))
        case first =>
          have H := HC12.out
          clear HC12
          by_cases c14 : a0_0 < 0
          · rw [if_pos c14] at H
            have c14b0 : decide (a0_0 < 0) = true := decide_eq_true c14
            clear c14
            (first | rw [c14b0] | (simp only [i64_w, i32_w]; rw [c14b0]) | skip)
            have H' := Aside0.mk H
            clear H
            go_wp2
            repeat (go_quiet (fail); try go_wp2)
            go_meet
            case rel => exact ⟨_, (wrap64 (-a0_0)), (by first | rfl | (simp; done) | (simp [*]; done)), H', ⟨by have := HJ1.out; first | omega | exact Nat.le_refl _⟩, ⟨by (with_reducible repeat (first | refine blk_drewN ?_ _ | refine blk_drew ?_ | refine blk_alloc ?_ _)); exact BK466.out⟩, ⟨(q1_ HB.out GE466.out)⟩⟩
          · rw [if_neg c14] at H
            have c14b0 : decide (a0_0 < 0) = false := decide_eq_false c14
            clear c14
            (first | rw [c14b0] | (simp only [i64_w, i32_w]; rw [c14b0]) | skip)
            have H' := Aside0.mk H
            clear H
            go_wp2
            repeat (go_quiet (fail); try go_wp2)
            go_meet
            case rel => exact ⟨_, (a0_0), (by first | rfl | (simp; done) | (simp [*]; done)), H', ⟨by have := HJ1.out; first | omega | exact Nat.le_refl _⟩, ⟨by (with_reducible repeat (first | refine blk_drewN ?_ _ | refine blk_drew ?_ | refine blk_alloc ?_ _)); exact BK466.out⟩, ⟨(q1_ HB.out GE466.out)⟩⟩
        case rest =>
          clear HC12
          try clear c1
          try clear c2
          try clear p2
          try clear c4
          try clear c4b0
          try clear c6
          try clear c6b0
          try clear p6
          try clear c8
          try clear c8b0
          try clear c11
          try clear c14
          try clear c14b0
          try clear hcz10_0
          try clear hcz10_1
          try clear hcz13_0
          try clear hcz13_1
          try clear hcz5_0
          try clear hcz5_1
          try clear hcz7_0
          try clear hcz7_1
          try clear hcz9_0
          try clear hcz9_1
          try clear hfz10_0
          try clear hfz10_1
          try clear hfz13_0
          try clear hfz13_1
          try clear hfz5_0
          try clear hfz5_1
          try clear hfz7_0
          try clear hfz7_1
          try clear hfz9_0
          try clear hfz9_1
          try clear p2
          obtain ⟨kq, x3_11, rfl, HA, HJ11, BK466, HB⟩ := hcut
          cases kq with
          | zero => exact absurd HA.out (by simp [merinoref01_Valid.j1])
          | succ kj11 =>
            have H := HA.out
            clear HA
            simp only [merinoref01_Valid.j1] at H
            have H' := Aside0.mk H
            clear H
            go_wp2
            repeat (go_quiet (fail); try go_wp2)
            go_loopg [3, 4] kj11 (fun kq v3 v4 w' => ∃ (x3_3 : Int) (x4_3 : Int), v3 = .int .i64 x3_3 ∧ v4 = .int .i64 x4_3 ∧ Aside0 (merinoref01_Valid.l0 kq x3_3 x4_3 = some r) ∧ Aside0 (kq ≤ kj11) ∧ Aside0 (w'.heap[gb466]? = some (.cells #[.int .i64 a0_0, .int .i64 a0_1] 23 (0, 0))) ∧ Aside0 (Below w.heap.size w w'))
            case atStart => exact ⟨(x3_11), (a0_1), (by first | rfl | (simp; done) | (simp [*]; done)), (by first | rfl | (simp; done) | (simp [*]; done)), H', ⟨Nat.le_refl _⟩, ⟨by (with_reducible repeat (first | refine blk_drewN ?_ _ | refine blk_drew ?_ | refine blk_alloc ?_ _)); exact BK466.out⟩, ⟨(q1_ HB.out GE466.out)⟩⟩
            case round =>
              clear H'
              try clear c1
              try clear c2
              try clear p2
              try clear c4
              try clear c4b0
              try clear c6
              try clear c6b0
              try clear p6
              try clear c8
              try clear c8b0
              try clear c11
              try clear c14
              try clear c14b0
              try clear hcz10_0
              try clear hcz10_1
              try clear hcz13_0
              try clear hcz13_1
              try clear hcz5_0
              try clear hcz5_1
              try clear hcz7_0
              try clear hcz7_1
              try clear hcz9_0
              try clear hcz9_1
              try clear hfz10_0
              try clear hfz10_1
              try clear hfz13_0
              try clear hfz13_1
              try clear hfz5_0
              try clear hfz5_1
              try clear hfz7_0
              try clear hfz7_1
              try clear hfz9_0
              try clear hfz9_1
              try clear p2
              try clear p6
              obtain ⟨x3_3, x4_3, rfl, rfl, HA, HK3, BK466, HB⟩ := hrel
              cases gk with
              | zero => exact absurd HA.out (by simp [merinoref01_Valid.l0])
              | succ k3 =>
                have H := HA.out
                clear HA
                simp only [merinoref01_Valid.l0] at H
                by_cases c15 : x4_3 > 0
                · rw [if_pos c15] at H
                  have c15b0 : decide (0 < x4_3) = true := decide_eq_true c15
                  clear c15
                  by_cases c16 : x4_3 = 0
                  · rw [if_pos c16] at H
                    exact absurd H (by simp)
                  · rw [if_neg c16] at H
                    have c16b0 : (x4_3 == 0) = false := beq_eq_false_iff_ne.mpr c16
                    have c16b1 : (x4_3 != 0) = true := bne_iff_ne.mpr c16
                    have H' := Aside0.mk H
                    clear H
                    go_wp2
                    repeat (go_quiet (fail); try go_wp2)
                    go_roundg k3
                    case measure => have := HJ1.out; have := HJ11.out; have := HK3.out; omega
                    case rel => exact ⟨(x4_3), (Int.tmod x3_3 x4_3), (by first | rfl | (simp; done) | (simp [*]; done)), (by first | rfl | (simp; done) | (simp [*]; done)), H', ⟨by have := HJ1.out; have := HJ11.out; have := HK3.out; omega⟩, ⟨by (with_reducible repeat (first | refine blk_drewN ?_ _ | refine blk_drew ?_ | refine blk_alloc ?_ _)); exact BK466.out⟩, ⟨(q1_ HB.out GE466.out)⟩⟩
                · rw [if_neg c15] at H
                  have c15b0 : decide (0 < x4_3) = false := decide_eq_false c15
                  clear c15
                  obtain rfl := Option.some.inj H
                  go_wp2
                  repeat (go_quiet (fail); try go_wp2)
                  go_ret
                  exact ⟨by first | rfl | (simp [errW_none, errW_some] <;> rfl) | (simp [*, errW_none, errW_some] <;> rfl), (q1_ HB.out GE466.out)⟩
end Go.Proofs.YtdjnneflpkllmaaDoor.Q

namespace Go.Proofs.Num
open Go.RowKit Go.Proofs.YtdjnneflpkllmaaDoorW.PrintWords Go.Proofs.YtdjnneflpkllmaaDoorW.PrintMore Go.Proofs.YtdjnneflpkllmaaDoor.Q
set_option linter.unusedVariables false
set_option linter.unusedSimpArgs false
theorem rv_l0 : ∀ (b a : Nat), Ev (fun k => merinoref01_Valid.l0 k (a : Int) (b : Int)) ((Nat.gcd a b : Int) == 1) := by
  intro b
  induction b using Nat.strongRecOn with
  | ind b ih =>
    intro a
    by_cases h : b = 0
    · subst h
      rw [Nat.gcd_zero_right]
      exact Ev.step (f := fun _ => some ((a : Int) == 1)) (fun k => by rw [merinoref01_Valid.l0, if_neg (by omega)]) (Ev.now _)
    · refine Ev.step (f := fun k => merinoref01_Valid.l0 k (b : Int) ((a % b : Nat) : Int)) (fun k => by rw [merinoref01_Valid.l0, if_pos (by omega), if_neg (by omega), tmod_nat]) ?_
      have := ih (a % b) (Nat.mod_lt _ (by omega)) b
      rw [Nat.gcd_comm b, ← Nat.gcd_rec, Nat.gcd_comm] at this
      exact this
theorem rvalid_ok (n d : Int) : Ev (fun k => merinoref01_Valid.f k n d) (decide (valid n d)) := by
  have hj : ¬ valid n d → Ev (fun k => merinoref01_Valid.j0 k true n d) (decide (valid n d)) := fun h => by
    rw [decide_eq_false h]
    exact Ev.step (f := fun _ => some false) (fun k => by rw [merinoref01_Valid.j0, if_pos rfl]) (Ev.now _)
  unfold merinoref01_Valid.f
  by_cases h1 : d < 1
  · simp only [if_pos h1]; exact hj (fun h => by have := h.1; omega)
  · by_cases h2 : d > 1048576
    · simp only [if_neg h1, if_pos h2]; exact hj (fun h => by have := h.2.1; omega)
    · by_cases h3 : n < -1099511627776
      · simp only [if_neg h1, if_neg h2, if_pos h3]; exact hj (fun h => by have := h.2.2.1; omega)
      · by_cases h4 : n > 1099511627776
        · simp only [if_neg h1, if_neg h2, if_neg h3, decide_eq_true h4]; exact hj (fun h => by have := h.2.2.2.1; omega)
        · simp only [if_neg h1, if_neg h2, if_neg h3, decide_eq_false h4]
          refine Ev.step (f := fun k => merinoref01_Valid.j1 k (n.natAbs : Int) (d.natAbs : Int)) (fun k => ?_) ?_
          · rw [merinoref01_Valid.j0, if_neg (by decide)]
            have hd : (d.natAbs : Int) = d := by omega
            rw [hd]
            by_cases hn : n < 0
            · rw [if_pos hn, w64 (by omega) (by omega)]
              congr 1
              omega
            · rw [if_neg hn]
              congr 1
              omega
          · refine Ev.step (f := fun k => merinoref01_Valid.l0 k (n.natAbs : Int) (d.natAbs : Int)) (fun k => by rw [merinoref01_Valid.j1]) ?_
            have : ((Nat.gcd n.natAbs d.natAbs : Int) == 1) = decide (valid n d) := by
              by_cases hg : Nat.gcd n.natAbs d.natAbs = 1
              · rw [decide_eq_true (show valid n d from ⟨by omega, by omega, by omega, by omega, hg⟩), hg]; rfl
              · rw [decide_eq_false (fun h : valid n d => hg h.2.2.2.2)]
                exact beq_eq_false_iff_ne.mpr (by omega)
            rw [← this]
            exact rv_l0 _ _
end Go.Proofs.Num

namespace Go.Proofs.YtdjnneflpkllmaaDoor.Q
open Go.RowKit Go.Proofs.YtdjnneflpkllmaaDoorW.PrintWords Go.Proofs.YtdjnneflpkllmaaDoorW.PrintLast Go.Proofs.YtdjnneflpkllmaaDoorW.PrintMore
attribute [local go_sem] max2_int min2_int max_two min_two max_three min_three max_four min_four   -- for this text's walks alone
set_option linter.unusedVariables false
set_option linter.unusedSimpArgs false
def merinoref01_Rounded.j0 : Nat → Bool → Bool → List Int → Option (Bool × List Int)
  | 0, _, _, _ => none
  | k + 1, x10, x903000, x903001 => if x10 = true then ((merinoref01_Of.f k 1).bind fun bt911 => ((merinoref01_Plus.f k x903000 x903001 bt911.1 bt911.2).bind fun bt915 => (some (bt915.1, bt915.2)))) else (some (x903000, x903001))
def merinoref01_Rounded.core (k : Nat) (a0_0 : Bool) (l0_1 : List Int) (a1_0 : Bool) (l1_1 : List Int) (a2 : Int) : Option (Bool × List Int) := (merinoref01_Over.f k a0_0 l0_1 a1_0 l1_1).bind fun bt894 => ((merinoref01_Zero.f bt894.2.2.1 bt894.2.2.2).bind fun t904 => (if t904 = true then (some (bt894.1, bt894.2.1)) else ((merinoref01_Plus.f k bt894.2.2.1 bt894.2.2.2 bt894.2.2.1 bt894.2.2.2).bind fun bt905 => ((merinoref01_Compare.f k bt905.1 bt905.2 a1_0 l1_1).bind fun t909 => (if a2 = 1 then (merinoref01_Rounded.j0 k true bt894.1 bt894.2.1) else (if a2 = 2 then (merinoref01_Rounded.j0 k a0_0 bt894.1 bt894.2.1) else (if a2 = 3 then (merinoref01_Rounded.j0 k (decide (t909 ≥ 0)) bt894.1 bt894.2.1) else (if a2 = 4 then (if t909 > 0 then (merinoref01_Rounded.j0 k true bt894.1 bt894.2.1) else (if t909 = 0 then (if (bt894.2.1.length : Int) > 0 then (if 0 < (bt894.2.1.length : Int) then (merinoref01_Rounded.j0 k ((Int.tmod (rd bt894.2.1 0) 2) == 1) bt894.1 bt894.2.1) else (none)) else (merinoref01_Rounded.j0 k false bt894.1 bt894.2.1)) else (merinoref01_Rounded.j0 k false bt894.1 bt894.2.1))) else (merinoref01_Rounded.j0 k false bt894.1 bt894.2.1)))))))))
theorem merinoref01_Rounded.mono_l : ∀ k, (∀ y0 y1 y2, LeO (merinoref01_Rounded.j0 k y0 y1 y2) (merinoref01_Rounded.j0 (k + 1) y0 y1 y2))
  | 0 => fun _ _ _ r h => by simp [merinoref01_Rounded.j0] at h
  | k + 1 => by
    have ih0 := merinoref01_Rounded.mono_l k
    · intro y0 y1 y2
      unfold merinoref01_Rounded.j0
      repeat' first
      | (with_reducible exact ih0 _ _ _)
      | (with_reducible exact merinoref01_Compare.mono _ _ _ _ _)
      | (with_reducible exact merinoref01_Of.mono _ _)
      | (with_reducible exact merinoref01_Over.mono _ _ _ _ _)
      | (with_reducible exact merinoref01_Plus.mono _ _ _ _ _)
      | (with_reducible exact LeO.refl _)
      | (with_reducible exact LeO.none _)
      | (with_reducible refine LeO.ite ?_ ?_)
      | (with_reducible refine LeO.bind ?_ (fun _ => ?_))
      | exact ih0 _ _ _
      | exact merinoref01_Compare.mono _ _ _ _ _
      | exact merinoref01_Of.mono _ _
      | exact merinoref01_Over.mono _ _ _ _ _
      | exact merinoref01_Plus.mono _ _ _ _ _
      | exact LeO.none _
      | refine LeO.ite ?_ ?_
      | refine LeO.bind ?_ (fun _ => ?_)
theorem merinoref01_Rounded.core_mono : ∀ a0 a1 a2 a3 a4 k, LeO (merinoref01_Rounded.core k a0 a1 a2 a3 a4) (merinoref01_Rounded.core (k + 1) a0 a1 a2 a3 a4) := by
  intro a0 a1 a2 a3 a4 k
  have ih0 := merinoref01_Rounded.mono_l k
  unfold merinoref01_Rounded.core
  repeat' first
      | (with_reducible exact ih0 _ _ _)
      | (with_reducible exact merinoref01_Compare.mono _ _ _ _ _)
      | (with_reducible exact merinoref01_Of.mono _ _)
      | (with_reducible exact merinoref01_Over.mono _ _ _ _ _)
      | (with_reducible exact merinoref01_Plus.mono _ _ _ _ _)
      | (with_reducible exact LeO.refl _)
      | (with_reducible exact LeO.none _)
      | (with_reducible refine LeO.ite ?_ ?_)
      | (with_reducible refine LeO.bind ?_ (fun _ => ?_))
      | exact ih0 _ _ _
      | exact merinoref01_Compare.mono _ _ _ _ _
      | exact merinoref01_Of.mono _ _
      | exact merinoref01_Over.mono _ _ _ _ _
      | exact merinoref01_Plus.mono _ _ _ _ _
      | exact LeO.none _
      | refine LeO.ite ?_ ?_
      | refine LeO.bind ?_ (fun _ => ?_)
def merinoref01_Mode.f (a0 : Int) : Option (Bool) := if a0 ≥ 0 then (some (decide (a0 ≤ 4))) else (some false)
set_option maxHeartbeats 8000000 in
set_option maxRecDepth 100000 in
theorem merinoref01_Mode.calls (a0 : Int) (r : Bool) (w : World) (h : merinoref01_Mode.f a0 = some r) :
    Calls Tryd.prog 101 #[.int .i64 a0] w fun e w' => e = .returned (.bool r) ∧ Drawn0 w w' := by
  have H : (if a0 ≥ 0 then (some (decide (a0 ≤ 4))) else (some false)) = some r := h
  clear h
  by_cases c2 : a0 ≥ 0
  · rw [if_pos c2] at H
    have c2b0 : decide (0 ≤ a0) = true := decide_eq_true c2
    clear c2
    obtain rfl := Option.some.inj H
    go_enter Tryd.func101, Tryd.ntmps101
    go_wp2
    go_ret
    exact ⟨by first | rfl | (simp; done) | (simp [*]; done), by repeat (first | exact Drawn0.refl _ | apply Drawn0.step)⟩
  · rw [if_neg c2] at H
    have c2b0 : decide (0 ≤ a0) = false := decide_eq_false c2
    clear c2
    obtain rfl := Option.some.inj H
    go_enter Tryd.func101, Tryd.ntmps101
    go_wp2
    go_ret
    exact ⟨by first | rfl | (simp; done) | (simp [*]; done), by repeat (first | exact Drawn0.refl _ | apply Drawn0.step)⟩
end Go.Proofs.YtdjnneflpkllmaaDoor.Q

namespace Go.Proofs.YtdjnneflpkllmaaDoor.Q
open Go.RowKit Go.Proofs.YtdjnneflpkllmaaDoorW.PrintWords Go.Proofs.YtdjnneflpkllmaaDoorW.PrintLast Go.Proofs.YtdjnneflpkllmaaDoorW.PrintMore
attribute [local go_sem] max2_int min2_int max_two min_two max_three min_three max_four min_four   -- for this text's walks alone
set_option linter.unusedVariables false
set_option linter.unusedSimpArgs false
set_option maxHeartbeats 8000000 in
set_option maxRecDepth 100000 in
theorem merinoref01_Rounded.both (k : Nat) (a0_0 : Bool) (A0_1 : Option Addr) (c0_1 : Nat) (l0_1 : List Int) (a1_0 : Bool) (A1_1 : Option Addr) (c1_1 : Nat) (l1_1 : List Int) (a2 : Int) (n1 : Bool) (nl dl : List Int) (r1 : Bool) (r2 : List Int) (w : World) (hr0_1 : Kd.C (Kd.int .i64) w A0_1 l0_1.length l0_1) (hc0_1 : l0_1.length ≤ c0_1) (hr1_1 : Kd.C (Kd.int .i64) w A1_1 l1_1.length l1_1) (hc1_1 : l1_1.length ≤ c1_1)
    (hND : (a1_0 = false ∧ n1 = a0_0 ∧ nl = l0_1 ∧ dl = l1_1) ∨ (a1_0 = true ∧ merinoref01_Neg.f k a0_0 l0_1 = some (n1, nl) ∧ merinoref01_Neg.f k true l1_1 = some (false, dl))) (h : merinoref01_Rounded.core k n1 nl false dl a2 = some (r1, r2)) :
    Calls Tryd.prog 99 #[.agg #[.bool a0_0, .slice A0_1 l0_1.length c0_1], .agg #[.bool a1_0, .slice A1_1 l1_1.length c1_1], .int .i64 a2] w fun e w' => ∃ v1_ : Value, e = .returned (.agg #[.bool r1, v1_]) ∧ Kd.R (Kd.int .i64) 3 w' w.heap.size (fun _ => True) v1_ r2 ∧ Below w.heap.size w w' := by
  have hu31 := Tryd.underlying31
  have HR0_1 := Aside0.mk hr0_1
  have HC0_1 := Aside0.mk hc0_1
  clear hr0_1 hc0_1
  have HR1_1 := Aside0.mk hr1_1
  have HC1_1 := Aside0.mk hc1_1
  clear hr1_1 hc1_1
  have HB := Aside0.mk (Below.refl w.heap.size w)
  have HND := Aside0.mk hND
  have HH := Aside0.mk h
  clear hND h
  go_enter Tryd.func99, Tryd.ntmps99
  go_upto_if 12 with (first | ((with_reducible refine gate_dst (N := 3) rfl ?_); (try (refine gate_guard (by rfl) ?_; dsimp only)); refine box_event ?hg (N := 3) ?hd (cs := #[.bool a0_0, .slice A0_1 l0_1.length c0_1]) (t := 31) ?hr ?_; (case hd => rfl); (case hg => rfl); (case hr => first | (go_simp; done) | (go_simp; rfl)); intro gb891 hg w7 hbox hb; have n0_ := Aside0.mk (below_step (q0_ HB.out) hb); have n1_ := Aside0.mk (hbox); have n2_ := Aside0.mk ((by rw [hg]; exact (below_size (q0_ HB.out)) : w.heap.size ≤ gb891)); have n3_ := Aside0.mk ((by rw [hg]; exact (below_size (q0_ HB.out)) : w.heap.size ≤ gb891)); clear HB; have HB := n0_; have BK891 := n1_; have GW891 := n2_; have GE891 := n3_; clear n0_ n1_ n2_ n3_; clear hb hbox hg) | ((with_reducible refine gate_dst (N := 4) rfl ?_); (try (refine gate_guard (by rfl) ?_; dsimp only)); refine box_event ?hg (N := 4) ?hd (cs := #[.bool a1_0, .slice A1_1 l1_1.length c1_1]) (t := 31) ?hr ?_; (case hd => rfl); (case hg => rfl); (case hr => first | (go_simp; done) | (go_simp; rfl)); intro gb892 hg w8 hbox hb; have n0_ := Aside0.mk (blk_below (g := gb891) (o := .cells #[.bool a0_0, .slice A0_1 l0_1.length c0_1] 31 (0, 0)) (qb_ BK891.out) hb); have n1_ := Aside0.mk (below_step (q1_ HB.out GE891.out) hb); have n2_ := Aside0.mk (hbox); have n3_ := Aside0.mk ((by rw [hg]; exact (below_size (q1_ HB.out GE891.out)) : w.heap.size ≤ gb892)); have n4_ := Aside0.mk ((by rw [hg]; exact (below_size (q1_ HB.out GE891.out)) : w.heap.size ≤ gb892)); have n5_ := Aside0.mk ((by rw [hg]; exact Nat.ne_of_lt (blk_lt (g := gb891) (o := .cells #[.bool a0_0, .slice A0_1 l0_1.length c0_1] 31 (0, 0)) (qb_ BK891.out)) : gb891 ≠ gb892)); have n6_ := Aside0.mk ((by rw [hg]; exact Nat.ne_of_gt (blk_lt (g := gb891) (o := .cells #[.bool a0_0, .slice A0_1 l0_1.length c0_1] 31 (0, 0)) (qb_ BK891.out)) : gb892 ≠ gb891)); clear BK891; clear HB; have BK891 := n0_; have HB := n1_; have BK892 := n2_; have GW892 := n3_; have GE892 := n4_; have NB891_892 := n5_; have NB892_891 := n6_; clear n0_ n1_ n2_ n3_ n4_ n5_ n6_; clear hb hbox hg) | ((with_reducible refine gate_dst (N := 6) rfl ?_); (try (refine gate_guard (by rfl) ?_; dsimp only)); refine box_event ?hg (N := 6) ?hd (cs := #[.bool false, .slice none 0 0]) (t := 31) ?hr ?_; (case hd => rfl); (case hg => rfl); (case hr => first | (go_simp; done) | (go_simp; rfl)); intro gb893 hg w9 hbox hb; have n0_ := Aside0.mk (blk_below (g := gb891) (o := .cells #[.bool a0_0, .slice A0_1 l0_1.length c0_1] 31 (0, 0)) (qb_ BK891.out) hb); have n1_ := Aside0.mk (blk_below (g := gb892) (o := .cells #[.bool a1_0, .slice A1_1 l1_1.length c1_1] 31 (0, 0)) (qb_ BK892.out) hb); have n2_ := Aside0.mk (below_step (q2_ HB.out GE891.out GE892.out) hb); have n3_ := Aside0.mk (hbox); have n4_ := Aside0.mk ((by rw [hg]; exact (below_size (q2_ HB.out GE891.out GE892.out)) : w.heap.size ≤ gb893)); have n5_ := Aside0.mk ((by rw [hg]; exact (below_size (q2_ HB.out GE891.out GE892.out)) : w.heap.size ≤ gb893)); have n6_ := Aside0.mk ((by rw [hg]; exact Nat.ne_of_lt (blk_lt (g := gb891) (o := .cells #[.bool a0_0, .slice A0_1 l0_1.length c0_1] 31 (0, 0)) (qb_ BK891.out)) : gb891 ≠ gb893)); have n7_ := Aside0.mk ((by rw [hg]; exact Nat.ne_of_gt (blk_lt (g := gb891) (o := .cells #[.bool a0_0, .slice A0_1 l0_1.length c0_1] 31 (0, 0)) (qb_ BK891.out)) : gb893 ≠ gb891)); have n8_ := Aside0.mk ((by rw [hg]; exact Nat.ne_of_lt (blk_lt (g := gb892) (o := .cells #[.bool a1_0, .slice A1_1 l1_1.length c1_1] 31 (0, 0)) (qb_ BK892.out)) : gb892 ≠ gb893)); have n9_ := Aside0.mk ((by rw [hg]; exact Nat.ne_of_gt (blk_lt (g := gb892) (o := .cells #[.bool a1_0, .slice A1_1 l1_1.length c1_1] 31 (0, 0)) (qb_ BK892.out)) : gb893 ≠ gb892)); clear BK891; clear BK892; clear HB; have BK891 := n0_; have BK892 := n1_; have HB := n2_; have BK893 := n3_; have GW893 := n4_; have GE893 := n5_; have NB891_893 := n6_; have NB893_891 := n7_; have NB892_893 := n8_; have NB893_892 := n9_; clear n0_ n1_ n2_ n3_ n4_ n5_ n6_ n7_ n8_ n9_; clear hb hbox hg; have hnb10 := NB892_891.out; have hnc10 := NB891_892.out; have hnb11 := NB892_893.out; have hnc11 := NB893_892.out; have hcz12_0 : w9.cell? ⟨gb892, 0, none⟩ = some (.bool a1_0) := (blk_cell BK892.out 0).trans rfl; have hcz12_1 : w9.cell? ⟨gb892, 1, none⟩ = some (.slice A1_1 l1_1.length c1_1) := (blk_cell BK892.out 1).trans rfl; have hfz12_0 := blk_frozen BK892.out 0; have hfz12_1 := blk_frozen BK892.out 1; have hnb13 := NB891_893.out; have hnc13 := NB893_891.out; have hcz14_0 : w9.cell? ⟨gb891, 0, none⟩ = some (.bool a0_0) := (blk_cell BK891.out 0).trans rfl; have hcz14_1 : w9.cell? ⟨gb891, 1, none⟩ = some (.slice A0_1 l0_1.length c0_1) := (blk_cell BK891.out 1).trans rfl; have hfz14_0 := blk_frozen BK891.out 0; have hfz14_1 := blk_frozen BK891.out 1))
  go_cut [] (fun wc => ∃ (An : Option Addr) (cn : Nat) (Ad : Option Addr) (cd : Nat), Aside0 (wc.heap[gb891]? = some (.cells #[.bool n1, .slice An nl.length cn] 31 (0, 0))) ∧ Aside0 (wc.heap[gb892]? = some (.cells #[.bool false, .slice Ad dl.length cd] 31 (0, 0))) ∧ Aside0 (wc.heap[gb893]? = some (.cells #[.bool false, .slice none 0 0] 31 (0, 0))) ∧ Aside0 (Kd.C (Kd.int .i64) wc An nl.length nl) ∧ Aside0 (nl.length ≤ cn) ∧ Aside0 (Kd.C (Kd.int .i64) wc Ad dl.length dl) ∧ Aside0 (dl.length ≤ cd) ∧ Aside0 (Below w.heap.size w wc))
  case first =>
    cases a1_0 with
    | false =>
      have HX : Aside0 (n1 = a0_0 ∧ nl = l0_1 ∧ dl = l1_1) := ⟨by rcases HND.out with h | h; exact h.2; exact absurd h.1 (by decide)⟩
      clear HND
      go_wp2_with (fail)
      go_meet
      case rel =>
        obtain ⟨e1, e2, e3⟩ := HX.out
        subst e1 e2 e3
        exact ⟨A0_1, c0_1, A1_1, c1_1, ⟨by (with_reducible repeat (first | refine blk_drewN ?_ _ | refine blk_drew ?_ | refine blk_alloc ?_ _)); exact BK891.out⟩, ⟨by (with_reducible repeat (first | refine blk_drewN ?_ _ | refine blk_drew ?_ | refine blk_alloc ?_ _)); exact BK892.out⟩, ⟨by (with_reducible repeat (first | refine blk_drewN ?_ _ | refine blk_drew ?_ | refine blk_alloc ?_ _)); exact BK893.out⟩, ⟨Kd.C_below HR0_1.out HB.out⟩, ⟨HC0_1.out⟩, ⟨Kd.C_below HR1_1.out HB.out⟩, ⟨HC1_1.out⟩, ⟨HB.out⟩⟩
    | true =>
      have HX : Aside0 (merinoref01_Neg.f k a0_0 l0_1 = some (n1, nl) ∧ merinoref01_Neg.f k true l1_1 = some (false, dl)) := ⟨by rcases HND.out with h | h; exact absurd h.1 (by decide); exact h.2⟩
      clear HND
      go_upto_region 2 with (fail)
      obtain ⟨hN, hD⟩ := HX.out
      have HN := Aside0.mk hN
      have HD := Aside0.mk hD
      clear hN hD HX
      have kc : ∀ w', Below w9.heap.size w9 w' → (w'.cell? ⟨gb891, 0, none⟩ = some (.bool a0_0) ∧ w'.cell? ⟨gb891, 1, none⟩ = some (.slice A0_1 l0_1.length c0_1)) ∧ (w'.cell? ⟨gb892, 0, none⟩ = some (.bool true) ∧ w'.cell? ⟨gb892, 1, none⟩ = some (.slice A1_1 l1_1.length c1_1)) := fun w' hb => ⟨⟨(blk_cell (blk_below BK891.out hb) 0).trans rfl, (blk_cell (blk_below BK891.out hb) 1).trans rfl⟩, ⟨(blk_cell (blk_below BK892.out hb) 0).trans rfl, (blk_cell (blk_below BK892.out hb) 1).trans rfl⟩⟩
      have KC := Aside0.mk kc
      clear kc
      refine start_ (n := 6) (S := fun w' => Below w9.heap.size w9 w') (ds := [4, 5]) #[false, false, false, false, false, false] (by kernel_rfl) rfl rfl (Below.drew (Below.refl _ _)) (fun hHeld => ?_)
      refine take_ (i := 0) (N := some 13) (v := ?_) (a' := ?_) #[true, false, false, false, false, false] rfl rfl (by kernel_rfl) (fun _ _ _ h => h) (Or.inl ⟨by rfl, ?_⟩) hHeld ?_ ?_
      rotate_left
      · rintro w' hS
        obtain ⟨⟨k0, k1⟩, k2, k3⟩ := KC.out w' hS
        go_simp
        with_reducible rfl
      rotate_left
      · simp only [Act.put, List.setIfInBounds_toArray, List.set_cons_zero, List.set_cons_succ, i64_w, i32_w]
        rfl
      refine take_ (i := 2) (N := some 15) (v := ?_) (a' := ?_) #[true, false, true, false, false, false] rfl rfl (by kernel_rfl) (fun _ _ _ h => h) (Or.inl ⟨by rfl, ?_⟩) hHeld ?_ ?_
      rotate_left
      · rintro w' hS
        obtain ⟨⟨k0, k1⟩, k2, k3⟩ := KC.out w' hS
        go_simp
        with_reducible rfl
      rotate_left
      · simp only [Act.put, List.setIfInBounds_toArray, List.set_cons_zero, List.set_cons_succ, i64_w, i32_w]
        rfl
      refine one_ (i := 1) (N := some 14) #[true, true, true, false, false, false] rfl rfl (by kernel_rfl) (by decide) (fun K hK => ?_)
      refine goes_ Tryd.func75 (by kernel_rfl) rfl #[.agg #[.bool a0_0, .slice A0_1 l0_1.length c0_1]] (by rfl) rfl rfl (by (try simp only [List.map_toArray, List.map_cons, List.map_nil]); first | done | rfl) ?_
      refine (merinoref01_Neg.calls k a0_0 A0_1 c0_1 l0_1 n1 nl _ (Kd.C_below HR0_1.out (below_step HB.out hHeld)) HC0_1.out HN.out).mono ?_
      rintro e w1 ⟨vn, rfl, hn, hb1⟩
      refine ⟨_, rfl, ?_⟩
      have b1_ := Aside0.mk (Below.trans hHeld (hb1.mono hHeld.size))
      have VN := Aside0.mk hn
      clear hn hb1
      refine hK.out _ _ b1_.out (fun hHeld => ?_)
      clear hK K
      refine norm_ (a' := ?_) ?_ ?_
      rotate_left
      · show Act.put _ (some 14) _ = _
        simp only [Act.put, List.setIfInBounds_toArray, List.set_cons_zero, List.set_cons_succ, i64_w, i32_w]
        rfl
      refine one_ (i := 3) (N := some 16) #[true, true, true, true, false, false] rfl rfl (by kernel_rfl) (by decide) (fun K hK => ?_)
      refine goes_ Tryd.func75 (by kernel_rfl) rfl #[.agg #[.bool true, .slice A1_1 l1_1.length c1_1]] (by rfl) rfl rfl (by (try simp only [List.map_toArray, List.map_cons, List.map_nil]); first | done | rfl) ?_
      refine (merinoref01_Neg.calls k true A1_1 c1_1 l1_1 false dl _ (Kd.C_below HR1_1.out (below_step HB.out hHeld)) HC1_1.out HD.out).mono ?_
      rintro e w2 ⟨vd, rfl, hd, hb2⟩
      refine ⟨_, rfl, ?_⟩
      have VN2 := Aside0.mk (Kd.R_below VN.out hb2)
      have b2_ := Aside0.mk (Below.trans b1_.out (hb2.mono b1_.out.size))
      have VD := Aside0.mk hd
      clear hd hb2
      refine hK.out _ _ b2_.out (fun hHeld => ?_)
      clear hK K
      refine norm_ (a' := ?_) ?_ ?_
      rotate_left
      · show Act.put _ (some 16) _ = _
        simp only [Act.put, List.setIfInBounds_toArray, List.set_cons_zero, List.set_cons_succ, i64_w, i32_w]
        rfl
      obtain ⟨An, cn, en⟩ := Kd.R_slice VN2.out
      subst en
      obtain ⟨Ad, cd, ed⟩ := Kd.R_slice VD.out
      subst ed
      have Q4 := Aside0.mk (blk_below BK891.out b2_.out)
      have Q5 := Aside0.mk (blk_below BK892.out b2_.out)
      have Q6 := Aside0.mk (blk_below BK893.out b2_.out)
      have HB2 := Aside0.mk (below_step HB.out b2_.out)
      have z0 := (blk_cell Q4.out 0).trans rfl
      have z1 := (blk_cell Q4.out 1).trans rfl
      have z2 := blk_frozen Q4.out 0
      have z3 := blk_frozen Q4.out 1
      have z4 := (blk_cell Q5.out 0).trans rfl
      have z5 := (blk_cell Q5.out 1).trans rfl
      have z6 := blk_frozen Q5.out 0
      have z7 := blk_frozen Q5.out 1
      have nb := NB891_892.out
      have nc := NB892_891.out
      refine last_ (i := 4) (N := none) #[true, true, true, true, true, false] rfl rfl (by kernel_rfl) (by decide) (fun K hK => ?_)
      refine skip_ (w1 := ?_) (by rfl) rfl ?_ ?_
      rotate_left
      · go_simp
        with_reducible rfl
      refine hK.out _ _ ?_
      clear hK K
      refine last_ (i := 5) (N := none) #[true, true, true, true, true, true] rfl rfl (by kernel_rfl) (by decide) (fun K hK => ?_)
      refine skip_ (w1 := ?_) (by rfl) rfl ?_ ?_
      rotate_left
      · go_simp
        with_reducible rfl
      refine hK.out _ _ ?_
      clear hK K
      refine done_ (by kernel_rfl) ?_
      clear z0 z1 z2 z3 z4 z5 z6 z7
      go_wp2_with (fail)
      go_meet
      case rel =>
        exact ⟨An, cn, Ad, cd, ⟨blk_far (blk_far (blk_put (cs := #[.bool n1, .slice A0_1 l0_1.length c0_1]) (blk_put (cs := #[.bool a0_0, .slice A0_1 l0_1.length c0_1]) Q4.out 0 _ rfl) 1 _ rfl) nb _) nb _⟩, ⟨blk_put (cs := #[.bool false, .slice A1_1 l1_1.length c1_1]) (blk_put (cs := #[.bool true, .slice A1_1 l1_1.length c1_1]) (blk_far (blk_far Q5.out nc _) nc _) 0 _ rfl) 1 _ rfl⟩, ⟨blk_far (blk_far (blk_far (blk_far Q6.out NB893_891.out _) NB893_891.out _) NB893_892.out _) NB893_892.out _⟩, ⟨(Kd.V_reads' (Kd.V_far (Kd.V_far (Kd.V_far (Kd.V_far (Kd.V_mono (ok' := fun k => k ≠ gb891 ∧ k ≠ gb892) (Kd.R_V (base' := 0) (Kd.R_bound VN2.out)) (fun k hk => ⟨fun e_ => by have a1 : w9.heap.size ≤ k := hk.2.1; have a2 := blk_lt BK891.out; omega, fun e_ => by have a1 : w9.heap.size ≤ k := hk.2.1; have a2 := blk_lt BK892.out; omega⟩)) (fun k hk => hk.1) _) (fun k hk => hk.1) _) (fun k hk => hk.2) _) (fun k hk => hk.2) _)).2.2⟩, ⟨(Kd.R_reads' VN2.out).2.1⟩, ⟨(Kd.V_reads' (Kd.V_far (Kd.V_far (Kd.V_far (Kd.V_far (Kd.V_mono (ok' := fun k => k ≠ gb891 ∧ k ≠ gb892) (Kd.R_V (base' := 0) (Kd.R_bound VD.out)) (fun k hk => ⟨fun e_ => by have a1 : w1.heap.size ≤ k := hk.2.1; have a3 := b1_.out.size; have a2 := blk_lt BK891.out; omega, fun e_ => by have a1 : w1.heap.size ≤ k := hk.2.1; have a3 := b1_.out.size; have a2 := blk_lt BK892.out; omega⟩)) (fun k hk => hk.1) _) (fun k hk => hk.1) _) (fun k hk => hk.2) _) (fun k hk => hk.2) _)).2.2⟩, ⟨(Kd.R_reads' VD.out).2.1⟩, ⟨below_set (below_set (below_set (below_set HB2.out GE891.out) GE891.out) GE892.out) GE892.out⟩⟩
  case rest =>
    clear BK891 BK892 BK893 HB HND HR0_1 HC0_1 HR1_1 HC1_1
    obtain ⟨An, cn, Ad, cd, BK891, BK892, BK893, HR0_1, HC0_1, HR1_1, HC1_1, HBw⟩ := hcut
    obtain ⟨wb, hwb⟩ : ∃ wb, wb = wc := ⟨_, rfl⟩
    subst hwb
    have HB := Aside0.mk (Below.refl wb.heap.size wb)
    have hcq0 := (blk_cell BK891.out 0).trans rfl
    have hcq1 := (blk_cell BK891.out 1).trans rfl
    have hfq0 := blk_frozen BK891.out 0
    have hfq1 := blk_frozen BK891.out 1
    have hcq2 := (blk_cell BK892.out 0).trans rfl
    have hcq3 := (blk_cell BK892.out 1).trans rfl
    have hfq2 := blk_frozen BK892.out 0
    have hfq3 := blk_frozen BK892.out 1
    have h := HH.out
    clear HH
    have H : ((merinoref01_Over.f k n1 nl false dl).bind fun bt894 => ((merinoref01_Zero.f bt894.2.2.1 bt894.2.2.2).bind fun t904 => (if t904 = true then (some (bt894.1, bt894.2.1)) else ((merinoref01_Plus.f k bt894.2.2.1 bt894.2.2.2 bt894.2.2.1 bt894.2.2.2).bind fun bt905 => ((merinoref01_Compare.f k bt905.1 bt905.2 false dl).bind fun t909 => (if a2 = 1 then (merinoref01_Rounded.j0 k true bt894.1 bt894.2.1) else (if a2 = 2 then (merinoref01_Rounded.j0 k n1 bt894.1 bt894.2.1) else (if a2 = 3 then (merinoref01_Rounded.j0 k (decide (t909 ≥ 0)) bt894.1 bt894.2.1) else (if a2 = 4 then (if t909 > 0 then (merinoref01_Rounded.j0 k true bt894.1 bt894.2.1) else (if t909 = 0 then (if (bt894.2.1.length : Int) > 0 then (if 0 < (bt894.2.1.length : Int) then (merinoref01_Rounded.j0 k ((Int.tmod (rd bt894.2.1 0) 2) == 1) bt894.1 bt894.2.1) else (none)) else (merinoref01_Rounded.j0 k false bt894.1 bt894.2.1)) else (merinoref01_Rounded.j0 k false bt894.1 bt894.2.1))) else (merinoref01_Rounded.j0 k false bt894.1 bt894.2.1)))))))))) = some (r1, r2) := h
    clear h
    replace H := Option.bind_eq_some_iff.mp H
    obtain ⟨⟨t894, t895, t898, t899⟩, A40, H⟩ := H
    replace H : ((merinoref01_Zero.f t898 t899).bind fun t904 => (if t904 = true then (some (t894, t895)) else ((merinoref01_Plus.f k t898 t899 t898 t899).bind fun bt905 => ((merinoref01_Compare.f k bt905.1 bt905.2 false dl).bind fun t909 => (if a2 = 1 then (merinoref01_Rounded.j0 k true t894 t895) else (if a2 = 2 then (merinoref01_Rounded.j0 k n1 t894 t895) else (if a2 = 3 then (merinoref01_Rounded.j0 k (decide (t909 ≥ 0)) t894 t895) else (if a2 = 4 then (if t909 > 0 then (merinoref01_Rounded.j0 k true t894 t895) else (if t909 = 0 then (if (t895.length : Int) > 0 then (if 0 < (t895.length : Int) then (merinoref01_Rounded.j0 k ((Int.tmod (rd t895 0) 2) == 1) t894 t895) else (none)) else (merinoref01_Rounded.j0 k false t894 t895)) else (merinoref01_Rounded.j0 k false t894 t895))) else (merinoref01_Rounded.j0 k false t894 t895))))))))) = some (r1, r2) := H
    have A4 := Aside0.mk A40
    clear A40
    replace H := Option.bind_eq_some_iff.mp H
    obtain ⟨t904, A50, H⟩ := H
    replace H : (if t904 = true then (some (t894, t895)) else ((merinoref01_Plus.f k t898 t899 t898 t899).bind fun bt905 => ((merinoref01_Compare.f k bt905.1 bt905.2 false dl).bind fun t909 => (if a2 = 1 then (merinoref01_Rounded.j0 k true t894 t895) else (if a2 = 2 then (merinoref01_Rounded.j0 k n1 t894 t895) else (if a2 = 3 then (merinoref01_Rounded.j0 k (decide (t909 ≥ 0)) t894 t895) else (if a2 = 4 then (if t909 > 0 then (merinoref01_Rounded.j0 k true t894 t895) else (if t909 = 0 then (if (t895.length : Int) > 0 then (if 0 < (t895.length : Int) then (merinoref01_Rounded.j0 k ((Int.tmod (rd t895 0) 2) == 1) t894 t895) else (none)) else (merinoref01_Rounded.j0 k false t894 t895)) else (merinoref01_Rounded.j0 k false t894 t895))) else (merinoref01_Rounded.j0 k false t894 t895)))))))) = some (r1, r2) := H
    have A5 := Aside0.mk A50
    clear A50
    by_cases c6 : t904 = true
    · subst c6
      have H1 : (some (t894, t895)) = some (r1, r2) := by rw [if_pos rfl] at H; exact H
      clear H
      have H := H1
      clear H1
      simp only [Option.some.injEq, Prod.mk.injEq] at H
      obtain ⟨rfl, rfl⟩ := H
      go_wp2_with (first | ((with_reducible refine gate_callee (f := 67) rfl ?_); refine goesL_ (some 20) rfl rfl Tryd.func67 (by kernel_rfl) rfl #[.agg #[.bool n1, .slice An nl.length cn], .agg #[.bool false, .slice Ad dl.length cd]] rfl qe_ ?_; (with_reducible refine (merinoref01_Over.calls k n1 _ _ nl false _ _ dl t894 t895 t898 t899 _ ?side1 ?side2 ?side3 ?side4 A4.out).mono ?_); (case side1 => exact qc_ (Kd.C_below HR0_1.out HB.out)); (case side2 => exact HC0_1.out); (case side3 => exact qc_ (Kd.C_below HR1_1.out HB.out)); (case side4 => exact HC1_1.out); rintro e w15 ⟨v896, v900, rfl, ho0, ho1, hb⟩; refine ⟨_, rfl, ?_⟩; have n0_ := Aside0.mk (Kd.R_lower ho0 (below_size (q3_ HB.out GE891.out GE892.out GE893.out))); have n1_ := Aside0.mk (Kd.R_lower ho1 (below_size (q3_ HB.out GE891.out GE892.out GE893.out))); have n2_ := Aside0.mk (blk_below (g := gb891) (o := .cells #[.bool n1, .slice An nl.length cn] 31 (0, 0)) (qb_ BK891.out) hb); have n3_ := Aside0.mk (blk_below (g := gb892) (o := .cells #[.bool false, .slice Ad dl.length cd] 31 (0, 0)) (qb_ BK892.out) hb); have n4_ := Aside0.mk (blk_below (g := gb893) (o := .cells #[.bool false, .slice none 0 0] 31 (0, 0)) (qb_ BK893.out) hb); have n5_ := Aside0.mk (below_step (q3_ HB.out GE891.out GE892.out GE893.out) hb); clear BK891; clear BK892; clear BK893; clear HB; have HO897 := n0_; have HO901 := n1_; have BK891 := n2_; have BK892 := n3_; have BK893 := n4_; have HB := n5_; clear n0_ n1_ n2_ n3_ n4_ n5_; (try clear hb); (try clear hb2); (try clear hk); (try clear hi); (try clear ho0); (try clear ho1)) | ((with_reducible refine gate_dst (N := 7) rfl ?_); (try (refine gate_guard (by rfl) ?_; dsimp only)); refine box_event ?hg (N := 7) ?hd (cs := #[.bool false, .slice none 0 0]) (t := 31) ?hr ?_; (case hd => rfl); (case hg => rfl); (case hr => first | (go_simp; done) | (go_simp; rfl)); intro gb902 hg w16 hbox hb; have n0_ := Aside0.mk (Kd.R_below (qr_ HO897.out) hb); have n1_ := Aside0.mk (Kd.R_below (qr_ HO901.out) hb); have n2_ := Aside0.mk (blk_below (g := gb891) (o := .cells #[.bool n1, .slice An nl.length cn] 31 (0, 0)) (qb_ BK891.out) hb); have n3_ := Aside0.mk (blk_below (g := gb892) (o := .cells #[.bool false, .slice Ad dl.length cd] 31 (0, 0)) (qb_ BK892.out) hb); have n4_ := Aside0.mk (blk_below (g := gb893) (o := .cells #[.bool false, .slice none 0 0] 31 (0, 0)) (qb_ BK893.out) hb); have n5_ := Aside0.mk (below_step (q3_ HB.out GE891.out GE892.out GE893.out) hb); have n6_ := Aside0.mk (hbox); have n7_ := Aside0.mk ((by rw [hg]; exact (below_size (q3_ HB.out GE891.out GE892.out GE893.out)) : wb.heap.size ≤ gb902)); have n8_ := Aside0.mk ((by rw [hg]; exact (below_size (q3_ HB.out GE891.out GE892.out GE893.out)) : wb.heap.size ≤ gb902)); have n9_ := Aside0.mk ((by rw [hg]; exact Nat.ne_of_lt (blk_lt (g := gb891) (o := .cells #[.bool n1, .slice An nl.length cn] 31 (0, 0)) (qb_ BK891.out)) : gb891 ≠ gb902)); have n10_ := Aside0.mk ((by rw [hg]; exact Nat.ne_of_gt (blk_lt (g := gb891) (o := .cells #[.bool n1, .slice An nl.length cn] 31 (0, 0)) (qb_ BK891.out)) : gb902 ≠ gb891)); have n11_ := Aside0.mk ((by rw [hg]; exact Nat.ne_of_lt (blk_lt (g := gb892) (o := .cells #[.bool false, .slice Ad dl.length cd] 31 (0, 0)) (qb_ BK892.out)) : gb892 ≠ gb902)); have n12_ := Aside0.mk ((by rw [hg]; exact Nat.ne_of_gt (blk_lt (g := gb892) (o := .cells #[.bool false, .slice Ad dl.length cd] 31 (0, 0)) (qb_ BK892.out)) : gb902 ≠ gb892)); have n13_ := Aside0.mk ((by rw [hg]; exact Nat.ne_of_lt (blk_lt (g := gb893) (o := .cells #[.bool false, .slice none 0 0] 31 (0, 0)) (qb_ BK893.out)) : gb893 ≠ gb902)); have n14_ := Aside0.mk ((by rw [hg]; exact Nat.ne_of_gt (blk_lt (g := gb893) (o := .cells #[.bool false, .slice none 0 0] 31 (0, 0)) (qb_ BK893.out)) : gb902 ≠ gb893)); clear HO897; clear HO901; clear BK891; clear BK892; clear BK893; clear HB; have HO897 := n0_; have HO901 := n1_; have BK891 := n2_; have BK892 := n3_; have BK893 := n4_; have HB := n5_; have BK902 := n6_; have GW902 := n7_; have GE902 := n8_; have NB891_902 := n9_; have NB902_891 := n10_; have NB892_902 := n11_; have NB902_892 := n12_; have NB893_902 := n13_; have NB902_893 := n14_; clear n0_ n1_ n2_ n3_ n4_ n5_ n6_ n7_ n8_ n9_ n10_ n11_ n12_ n13_ n14_; clear hb hbox hg) | ((with_reducible refine gate_dst (N := 8) rfl ?_); (try (refine gate_guard (by rfl) ?_; dsimp only)); refine box_event ?hg (N := 8) ?hd (cs := #[.bool false, .slice none 0 0]) (t := 31) ?hr ?_; (case hd => rfl); (case hg => rfl); (case hr => first | (go_simp; done) | (go_simp; rfl)); intro gb903 hg w17 hbox hb; have n0_ := Aside0.mk (Kd.R_below (qr_ HO897.out) hb); have n1_ := Aside0.mk (Kd.R_below (qr_ HO901.out) hb); have n2_ := Aside0.mk (blk_below (g := gb891) (o := .cells #[.bool n1, .slice An nl.length cn] 31 (0, 0)) (qb_ BK891.out) hb); have n3_ := Aside0.mk (blk_below (g := gb892) (o := .cells #[.bool false, .slice Ad dl.length cd] 31 (0, 0)) (qb_ BK892.out) hb); have n4_ := Aside0.mk (blk_below (g := gb893) (o := .cells #[.bool false, .slice none 0 0] 31 (0, 0)) (qb_ BK893.out) hb); have n5_ := Aside0.mk (blk_below (g := gb902) (o := .cells #[.bool false, .slice none 0 0] 31 (0, 0)) (qb_ BK902.out) hb); have n6_ := Aside0.mk (below_step (q4_ HB.out GE891.out GE892.out GE893.out GE902.out) hb); have n7_ := Aside0.mk (hbox); have n8_ := Aside0.mk ((by rw [hg]; exact (below_size (q4_ HB.out GE891.out GE892.out GE893.out GE902.out)) : wb.heap.size ≤ gb903)); have n9_ := Aside0.mk ((by rw [hg]; exact (below_size (q4_ HB.out GE891.out GE892.out GE893.out GE902.out)) : wb.heap.size ≤ gb903)); have n10_ := Aside0.mk ((by rw [hg]; exact Nat.ne_of_lt (blk_lt (g := gb891) (o := .cells #[.bool n1, .slice An nl.length cn] 31 (0, 0)) (qb_ BK891.out)) : gb891 ≠ gb903)); have n11_ := Aside0.mk ((by rw [hg]; exact Nat.ne_of_gt (blk_lt (g := gb891) (o := .cells #[.bool n1, .slice An nl.length cn] 31 (0, 0)) (qb_ BK891.out)) : gb903 ≠ gb891)); have n12_ := Aside0.mk ((by rw [hg]; exact Nat.ne_of_lt (blk_lt (g := gb892) (o := .cells #[.bool false, .slice Ad dl.length cd] 31 (0, 0)) (qb_ BK892.out)) : gb892 ≠ gb903)); have n13_ := Aside0.mk ((by rw [hg]; exact Nat.ne_of_gt (blk_lt (g := gb892) (o := .cells #[.bool false, .slice Ad dl.length cd] 31 (0, 0)) (qb_ BK892.out)) : gb903 ≠ gb892)); have n14_ := Aside0.mk ((by rw [hg]; exact Nat.ne_of_lt (blk_lt (g := gb893) (o := .cells #[.bool false, .slice none 0 0] 31 (0, 0)) (qb_ BK893.out)) : gb893 ≠ gb903)); have n15_ := Aside0.mk ((by rw [hg]; exact Nat.ne_of_gt (blk_lt (g := gb893) (o := .cells #[.bool false, .slice none 0 0] 31 (0, 0)) (qb_ BK893.out)) : gb903 ≠ gb893)); have n16_ := Aside0.mk ((by rw [hg]; exact Nat.ne_of_lt (blk_lt (g := gb902) (o := .cells #[.bool false, .slice none 0 0] 31 (0, 0)) (qb_ BK902.out)) : gb902 ≠ gb903)); have n17_ := Aside0.mk ((by rw [hg]; exact Nat.ne_of_gt (blk_lt (g := gb902) (o := .cells #[.bool false, .slice none 0 0] 31 (0, 0)) (qb_ BK902.out)) : gb903 ≠ gb902)); clear HO897; clear HO901; clear BK891; clear BK892; clear BK893; clear BK902; clear HB; have HO897 := n0_; have HO901 := n1_; have BK891 := n2_; have BK892 := n3_; have BK893 := n4_; have BK902 := n5_; have HB := n6_; have BK903 := n7_; have GW903 := n8_; have GE903 := n9_; have NB891_903 := n10_; have NB903_891 := n11_; have NB892_903 := n12_; have NB903_892 := n13_; have NB893_903 := n14_; have NB903_893 := n15_; have NB902_903 := n16_; have NB903_902 := n17_; clear n0_ n1_ n2_ n3_ n4_ n5_ n6_ n7_ n8_ n9_ n10_ n11_ n12_ n13_ n14_ n15_ n16_ n17_; clear hb hbox hg; have hnb18 := NB902_891.out; have hnc18 := NB891_902.out; have hnb19 := NB902_892.out; have hnc19 := NB892_902.out; have hnb20 := NB902_893.out; have hnc20 := NB893_902.out; have hnb21 := NB902_903.out; have hnc21 := NB903_902.out; have hcz22_0 : w17.cell? ⟨gb902, 0, none⟩ = some (.bool false) := (blk_cell BK902.out 0).trans rfl; have hcz22_1 : w17.cell? ⟨gb902, 1, none⟩ = some (.slice none 0 0) := (blk_cell BK902.out 1).trans rfl; have hfz22_0 := blk_frozen BK902.out 0; have hfz22_1 := blk_frozen BK902.out 1; obtain ⟨Ao23, co23, eo23⟩ := Kd.R_slice HO897.out; subst eo23; have hnb24 := NB903_891.out; have hnc24 := NB891_903.out; have hnb25 := NB903_892.out; have hnc25 := NB892_903.out; have hnb26 := NB903_893.out; have hnc26 := NB893_903.out; have hcz27_0 : w17.cell? ⟨gb903, 0, none⟩ = some (.bool false) := (blk_cell BK903.out 0).trans rfl; have hcz27_1 : w17.cell? ⟨gb903, 1, none⟩ = some (.slice none 0 0) := (blk_cell BK903.out 1).trans rfl; have hfz27_0 := blk_frozen BK903.out 0; have hfz27_1 := blk_frozen BK903.out 1; obtain ⟨Ao28, co28, eo28⟩ := Kd.R_slice HO901.out; subst eo28) | ((with_reducible refine gate_callee (f := 69) rfl ?_); refine goesL_ (some 24) rfl rfl Tryd.func69 (by kernel_rfl) rfl #[.agg #[.bool t898, .slice Ao28 t899.length co28]] rfl qe_ ?_; (with_reducible refine (merinoref01_Zero.calls t898 _ _ t899 true _ ?side1 ?side2 A5.out).mono ?_); (case side1 => refine (Kd.R_reads' (e := 3) (base := wb.heap.size) (ok := fun k_ => some k_ ≠ (.slice Ao23 t895.length co23 : Value).ownBlock) (n := t899.length) (c := co28) ?_).2.2; exact (by (with_reducible repeat (first | apply Kd.R_alloc | apply Kd.R_drewN | apply Kd.R_drew)); exact (Kd.R_mono (Kd.R_mono (Kd.R_far (p := ⟨gb903, 1, none⟩) (Kd.R_far (p := ⟨gb903, 0, none⟩) (Kd.R_far (p := ⟨gb902, 1, none⟩) (Kd.R_far (p := ⟨gb902, 0, none⟩) (Kd.R_types (Kd.R_types HO901.out BK902.out (by decide)) BK903.out (by decide)) (fun _ hk => hk.1.2) (.bool t894)) (fun _ hk => hk.1.2) (.slice Ao23 t895.length co23)) (fun _ hk => hk.2) (.bool t898)) (fun _ hk => hk.2) (.slice Ao28 t899.length co28)) (fun _ h_ => h_.1)) (fun _ h_ => h_.1)))); (case side2 => exact (Kd.R_reads' HO901.out).2.1); rintro e w29 ⟨rfl, hb⟩; refine ⟨_, rfl, ?_⟩; have n0_ := Aside0.mk (Kd.R_below (by (with_reducible repeat (first | apply Kd.R_alloc | apply Kd.R_drewN | apply Kd.R_drew)); exact (Kd.R_mono (Kd.R_mono (Kd.R_far (p := ⟨gb903, 1, none⟩) (Kd.R_far (p := ⟨gb903, 0, none⟩) (Kd.R_far (p := ⟨gb902, 1, none⟩) (Kd.R_far (p := ⟨gb902, 0, none⟩) (Kd.R_types (Kd.R_types HO897.out BK902.out (by decide)) BK903.out (by decide)) (fun _ hk => hk.1.2) (.bool t894)) (fun _ hk => hk.1.2) (.slice Ao23 t895.length co23)) (fun _ hk => hk.2) (.bool t898)) (fun _ hk => hk.2) (.slice Ao28 t899.length co28)) (fun _ h_ => h_.1)) (fun _ h_ => h_.1))) hb); have n1_ := Aside0.mk (Kd.R_below (by (with_reducible repeat (first | apply Kd.R_alloc | apply Kd.R_drewN | apply Kd.R_drew)); exact (Kd.R_mono (Kd.R_mono (Kd.R_far (p := ⟨gb903, 1, none⟩) (Kd.R_far (p := ⟨gb903, 0, none⟩) (Kd.R_far (p := ⟨gb902, 1, none⟩) (Kd.R_far (p := ⟨gb902, 0, none⟩) (Kd.R_types (Kd.R_types HO901.out BK902.out (by decide)) BK903.out (by decide)) (fun _ hk => hk.1.2) (.bool t894)) (fun _ hk => hk.1.2) (.slice Ao23 t895.length co23)) (fun _ hk => hk.2) (.bool t898)) (fun _ hk => hk.2) (.slice Ao28 t899.length co28)) (fun _ h_ => h_.1)) (fun _ h_ => h_.1))) hb); have n2_ := Aside0.mk (blk_below (g := gb891) (o := .cells #[.bool n1, .slice An nl.length cn] 31 (0, 0)) (by (with_reducible repeat (first | refine blk_drewN ?_ _ | refine blk_drew ?_ | refine blk_alloc ?_ _)); refine blk_far ?_ NB891_903.out _; (with_reducible repeat (first | refine blk_drewN ?_ _ | refine blk_drew ?_ | refine blk_alloc ?_ _)); refine blk_far ?_ NB891_903.out _; (with_reducible repeat (first | refine blk_drewN ?_ _ | refine blk_drew ?_ | refine blk_alloc ?_ _)); refine blk_far ?_ NB891_902.out _; (with_reducible repeat (first | refine blk_drewN ?_ _ | refine blk_drew ?_ | refine blk_alloc ?_ _)); refine blk_far ?_ NB891_902.out _; (with_reducible repeat (first | refine blk_drewN ?_ _ | refine blk_drew ?_ | refine blk_alloc ?_ _)); exact BK891.out) hb); have n3_ := Aside0.mk (blk_below (g := gb892) (o := .cells #[.bool false, .slice Ad dl.length cd] 31 (0, 0)) (by (with_reducible repeat (first | refine blk_drewN ?_ _ | refine blk_drew ?_ | refine blk_alloc ?_ _)); refine blk_far ?_ NB892_903.out _; (with_reducible repeat (first | refine blk_drewN ?_ _ | refine blk_drew ?_ | refine blk_alloc ?_ _)); refine blk_far ?_ NB892_903.out _; (with_reducible repeat (first | refine blk_drewN ?_ _ | refine blk_drew ?_ | refine blk_alloc ?_ _)); refine blk_far ?_ NB892_902.out _; (with_reducible repeat (first | refine blk_drewN ?_ _ | refine blk_drew ?_ | refine blk_alloc ?_ _)); refine blk_far ?_ NB892_902.out _; (with_reducible repeat (first | refine blk_drewN ?_ _ | refine blk_drew ?_ | refine blk_alloc ?_ _)); exact BK892.out) hb); have n4_ := Aside0.mk (blk_below (g := gb893) (o := .cells #[.bool false, .slice none 0 0] 31 (0, 0)) (by (with_reducible repeat (first | refine blk_drewN ?_ _ | refine blk_drew ?_ | refine blk_alloc ?_ _)); refine blk_far ?_ NB893_903.out _; (with_reducible repeat (first | refine blk_drewN ?_ _ | refine blk_drew ?_ | refine blk_alloc ?_ _)); refine blk_far ?_ NB893_903.out _; (with_reducible repeat (first | refine blk_drewN ?_ _ | refine blk_drew ?_ | refine blk_alloc ?_ _)); refine blk_far ?_ NB893_902.out _; (with_reducible repeat (first | refine blk_drewN ?_ _ | refine blk_drew ?_ | refine blk_alloc ?_ _)); refine blk_far ?_ NB893_902.out _; (with_reducible repeat (first | refine blk_drewN ?_ _ | refine blk_drew ?_ | refine blk_alloc ?_ _)); exact BK893.out) hb); have n5_ := Aside0.mk (blk_below (g := gb902) (o := .cells #[.bool t894, .slice Ao23 t895.length co23] 31 (0, 0)) (by (with_reducible repeat (first | refine blk_drewN ?_ _ | refine blk_drew ?_ | refine blk_alloc ?_ _)); refine blk_far ?_ NB902_903.out _; (with_reducible repeat (first | refine blk_drewN ?_ _ | refine blk_drew ?_ | refine blk_alloc ?_ _)); refine blk_far ?_ NB902_903.out _; (with_reducible repeat (first | refine blk_drewN ?_ _ | refine blk_drew ?_ | refine blk_alloc ?_ _)); refine blk_put (cs := #[.bool t894, .slice none 0 0]) ?_ 1 _ rfl; (with_reducible repeat (first | refine blk_drewN ?_ _ | refine blk_drew ?_ | refine blk_alloc ?_ _)); refine blk_put (cs := #[.bool false, .slice none 0 0]) ?_ 0 _ rfl; (with_reducible repeat (first | refine blk_drewN ?_ _ | refine blk_drew ?_ | refine blk_alloc ?_ _)); exact BK902.out) hb); have n6_ := Aside0.mk (blk_below (g := gb903) (o := .cells #[.bool t898, .slice Ao28 t899.length co28] 31 (0, 0)) (by (with_reducible repeat (first | refine blk_drewN ?_ _ | refine blk_drew ?_ | refine blk_alloc ?_ _)); refine blk_put (cs := #[.bool t898, .slice none 0 0]) ?_ 1 _ rfl; (with_reducible repeat (first | refine blk_drewN ?_ _ | refine blk_drew ?_ | refine blk_alloc ?_ _)); refine blk_put (cs := #[.bool false, .slice none 0 0]) ?_ 0 _ rfl; (with_reducible repeat (first | refine blk_drewN ?_ _ | refine blk_drew ?_ | refine blk_alloc ?_ _)); refine blk_far ?_ NB903_902.out _; (with_reducible repeat (first | refine blk_drewN ?_ _ | refine blk_drew ?_ | refine blk_alloc ?_ _)); refine blk_far ?_ NB903_902.out _; (with_reducible repeat (first | refine blk_drewN ?_ _ | refine blk_drew ?_ | refine blk_alloc ?_ _)); exact BK903.out) hb); have n7_ := Aside0.mk (below_step (q5_ HB.out GE891.out GE892.out GE893.out GE902.out GE903.out) hb); clear HO897; clear HO901; clear BK891; clear BK892; clear BK893; clear BK902; clear BK903; clear HB; have HO897 := n0_; have HO901 := n1_; have BK891 := n2_; have BK892 := n3_; have BK893 := n4_; have BK902 := n5_; have BK903 := n6_; have HB := n7_; clear n0_ n1_ n2_ n3_ n4_ n5_ n6_ n7_; (try clear hb); (try clear hb2); (try clear hk); (try clear hi); have hcz30_0 : w29.cell? ⟨gb902, 0, none⟩ = some (.bool t894) := (blk_cell BK902.out 0).trans rfl; have hcz30_1 : w29.cell? ⟨gb902, 1, none⟩ = some (.slice Ao23 t895.length co23) := (blk_cell BK902.out 1).trans rfl; have hfz30_0 := blk_frozen BK902.out 0; have hfz30_1 := blk_frozen BK902.out 1; have hcz31_0 : w29.cell? ⟨gb893, 0, none⟩ = some (.bool false) := (blk_cell BK893.out 0).trans rfl; have hcz31_1 : w29.cell? ⟨gb893, 1, none⟩ = some (.slice none 0 0) := (blk_cell BK893.out 1).trans rfl; have hfz31_0 := blk_frozen BK893.out 0; have hfz31_1 := blk_frozen BK893.out 1))
      refine bodyPost_ret (results_cell_row rfl _ _ gb893 31 #[.bool t894, .slice Ao23 t895.length co23] (0, 0) _ rfl (by (with_reducible repeat (first | refine blk_drewN ?_ _ | refine blk_drew ?_ | refine blk_alloc ?_ _)); refine blk_put (cs := #[.bool t894, .slice none 0 0]) ?_ 1 _ rfl; (with_reducible repeat (first | refine blk_drewN ?_ _ | refine blk_drew ?_ | refine blk_alloc ?_ _)); refine blk_put (cs := #[.bool false, .slice none 0 0]) ?_ 0 _ rfl; (with_reducible repeat (first | refine blk_drewN ?_ _ | refine blk_drew ?_ | refine blk_alloc ?_ _)); exact BK893.out) Tryd.underlying31 rfl (by kernel_rfl)) rfl ?_
      exact ⟨_, by first | rfl | (simp [errW_none, errW_some] <;> rfl) | (simp [*, errW_none, errW_some] <;> rfl), by refine Kd.R_lower (base := wb.heap.size) ?_ HBw.out.size; (with_reducible repeat (first | apply Kd.R_alloc | apply Kd.R_drewN | apply Kd.R_drew)); exact Kd.R_mono (Kd.R_far (p := ⟨gb893, 1, none⟩) (Kd.R_far (p := ⟨gb893, 0, none⟩) (Kd.R_types HO897.out BK893.out (by decide)) (fun _ hk => hk.2) (.bool t894)) (fun _ hk => hk.2) (.slice Ao23 t895.length co23)) (fun _ hk => trivial), by repeat (first | (with_reducible first | exact below_step HBw.out HB.out | apply below_alloc | apply pw_below_drewN | apply below_drew1 | refine below_set ?_ GE893.out | refine below_set ?_ (Nat.le_trans HBw.out.size GE902.out) | refine below_set ?_ (Nat.le_trans HBw.out.size GE903.out)) | exact below_step HBw.out HB.out)⟩
    · replace c6 := Bool.eq_false_iff.mpr c6
      subst c6
      have H1 : ((merinoref01_Plus.f k t898 t899 t898 t899).bind fun bt905 => ((merinoref01_Compare.f k bt905.1 bt905.2 false dl).bind fun t909 => (if a2 = 1 then (merinoref01_Rounded.j0 k true t894 t895) else (if a2 = 2 then (merinoref01_Rounded.j0 k n1 t894 t895) else (if a2 = 3 then (merinoref01_Rounded.j0 k (decide (t909 ≥ 0)) t894 t895) else (if a2 = 4 then (if t909 > 0 then (merinoref01_Rounded.j0 k true t894 t895) else (if t909 = 0 then (if (t895.length : Int) > 0 then (if 0 < (t895.length : Int) then (merinoref01_Rounded.j0 k ((Int.tmod (rd t895 0) 2) == 1) t894 t895) else (none)) else (merinoref01_Rounded.j0 k false t894 t895)) else (merinoref01_Rounded.j0 k false t894 t895))) else (merinoref01_Rounded.j0 k false t894 t895))))))) = some (r1, r2) := by rw [if_neg (show ¬ (false = true) by decide)] at H; exact H
      clear H
      have H := H1
      clear H1
      replace H := Option.bind_eq_some_iff.mp H
      obtain ⟨⟨t905, t906⟩, A320, H⟩ := H
      replace H : ((merinoref01_Compare.f k t905 t906 false dl).bind fun t909 => (if a2 = 1 then (merinoref01_Rounded.j0 k true t894 t895) else (if a2 = 2 then (merinoref01_Rounded.j0 k n1 t894 t895) else (if a2 = 3 then (merinoref01_Rounded.j0 k (decide (t909 ≥ 0)) t894 t895) else (if a2 = 4 then (if t909 > 0 then (merinoref01_Rounded.j0 k true t894 t895) else (if t909 = 0 then (if (t895.length : Int) > 0 then (if 0 < (t895.length : Int) then (merinoref01_Rounded.j0 k ((Int.tmod (rd t895 0) 2) == 1) t894 t895) else (none)) else (merinoref01_Rounded.j0 k false t894 t895)) else (merinoref01_Rounded.j0 k false t894 t895))) else (merinoref01_Rounded.j0 k false t894 t895)))))) = some (r1, r2) := H
      have A32 := Aside0.mk A320
      clear A320
      replace H := Option.bind_eq_some_iff.mp H
      obtain ⟨t909, A330, H⟩ := H
      replace H : (if a2 = 1 then (merinoref01_Rounded.j0 k true t894 t895) else (if a2 = 2 then (merinoref01_Rounded.j0 k n1 t894 t895) else (if a2 = 3 then (merinoref01_Rounded.j0 k (decide (t909 ≥ 0)) t894 t895) else (if a2 = 4 then (if t909 > 0 then (merinoref01_Rounded.j0 k true t894 t895) else (if t909 = 0 then (if (t895.length : Int) > 0 then (if 0 < (t895.length : Int) then (merinoref01_Rounded.j0 k ((Int.tmod (rd t895 0) 2) == 1) t894 t895) else (none)) else (merinoref01_Rounded.j0 k false t894 t895)) else (merinoref01_Rounded.j0 k false t894 t895))) else (merinoref01_Rounded.j0 k false t894 t895))))) = some (r1, r2) := H
      have A33 := Aside0.mk A330
      clear A330
      have HC34 := Aside0.mk H
      clear H
      try go_wp2_with (first | ((with_reducible refine gate_callee (f := 67) rfl ?_); refine goesL_ (some 20) rfl rfl Tryd.func67 (by kernel_rfl) rfl #[.agg #[.bool n1, .slice An nl.length cn], .agg #[.bool false, .slice Ad dl.length cd]] rfl qe_ ?_; (with_reducible refine (merinoref01_Over.calls k n1 _ _ nl false _ _ dl t894 t895 t898 t899 _ ?side1 ?side2 ?side3 ?side4 A4.out).mono ?_); (case side1 => exact qc_ (Kd.C_below HR0_1.out HB.out)); (case side2 => exact HC0_1.out); (case side3 => exact qc_ (Kd.C_below HR1_1.out HB.out)); (case side4 => exact HC1_1.out); rintro e w43 ⟨v896, v900, rfl, ho0, ho1, hb⟩; refine ⟨_, rfl, ?_⟩; have n0_ := Aside0.mk (Kd.R_lower ho0 (below_size (q3_ HB.out GE891.out GE892.out GE893.out))); have n1_ := Aside0.mk (Kd.R_lower ho1 (below_size (q3_ HB.out GE891.out GE892.out GE893.out))); have n2_ := Aside0.mk (blk_below (g := gb891) (o := .cells #[.bool n1, .slice An nl.length cn] 31 (0, 0)) (qb_ BK891.out) hb); have n3_ := Aside0.mk (blk_below (g := gb892) (o := .cells #[.bool false, .slice Ad dl.length cd] 31 (0, 0)) (qb_ BK892.out) hb); have n4_ := Aside0.mk (blk_below (g := gb893) (o := .cells #[.bool false, .slice none 0 0] 31 (0, 0)) (qb_ BK893.out) hb); have n5_ := Aside0.mk (below_step (q3_ HB.out GE891.out GE892.out GE893.out) hb); clear BK891; clear BK892; clear BK893; clear HB; have HO897 := n0_; have HO901 := n1_; have BK891 := n2_; have BK892 := n3_; have BK893 := n4_; have HB := n5_; clear n0_ n1_ n2_ n3_ n4_ n5_; (try clear hb); (try clear hb2); (try clear hk); (try clear hi); (try clear ho0); (try clear ho1)) | ((with_reducible refine gate_dst (N := 7) rfl ?_); (try (refine gate_guard (by rfl) ?_; dsimp only)); refine box_event ?hg (N := 7) ?hd (cs := #[.bool false, .slice none 0 0]) (t := 31) ?hr ?_; (case hd => rfl); (case hg => rfl); (case hr => first | (go_simp; done) | (go_simp; rfl)); intro gb902 hg w44 hbox hb; have n0_ := Aside0.mk (Kd.R_below (qr_ HO897.out) hb); have n1_ := Aside0.mk (Kd.R_below (qr_ HO901.out) hb); have n2_ := Aside0.mk (blk_below (g := gb891) (o := .cells #[.bool n1, .slice An nl.length cn] 31 (0, 0)) (qb_ BK891.out) hb); have n3_ := Aside0.mk (blk_below (g := gb892) (o := .cells #[.bool false, .slice Ad dl.length cd] 31 (0, 0)) (qb_ BK892.out) hb); have n4_ := Aside0.mk (blk_below (g := gb893) (o := .cells #[.bool false, .slice none 0 0] 31 (0, 0)) (qb_ BK893.out) hb); have n5_ := Aside0.mk (below_step (q3_ HB.out GE891.out GE892.out GE893.out) hb); have n6_ := Aside0.mk (hbox); have n7_ := Aside0.mk ((by rw [hg]; exact (below_size (q3_ HB.out GE891.out GE892.out GE893.out)) : wb.heap.size ≤ gb902)); have n8_ := Aside0.mk ((by rw [hg]; exact (below_size (q3_ HB.out GE891.out GE892.out GE893.out)) : wb.heap.size ≤ gb902)); have n9_ := Aside0.mk ((by rw [hg]; exact Nat.ne_of_lt (blk_lt (g := gb891) (o := .cells #[.bool n1, .slice An nl.length cn] 31 (0, 0)) (qb_ BK891.out)) : gb891 ≠ gb902)); have n10_ := Aside0.mk ((by rw [hg]; exact Nat.ne_of_gt (blk_lt (g := gb891) (o := .cells #[.bool n1, .slice An nl.length cn] 31 (0, 0)) (qb_ BK891.out)) : gb902 ≠ gb891)); have n11_ := Aside0.mk ((by rw [hg]; exact Nat.ne_of_lt (blk_lt (g := gb892) (o := .cells #[.bool false, .slice Ad dl.length cd] 31 (0, 0)) (qb_ BK892.out)) : gb892 ≠ gb902)); have n12_ := Aside0.mk ((by rw [hg]; exact Nat.ne_of_gt (blk_lt (g := gb892) (o := .cells #[.bool false, .slice Ad dl.length cd] 31 (0, 0)) (qb_ BK892.out)) : gb902 ≠ gb892)); have n13_ := Aside0.mk ((by rw [hg]; exact Nat.ne_of_lt (blk_lt (g := gb893) (o := .cells #[.bool false, .slice none 0 0] 31 (0, 0)) (qb_ BK893.out)) : gb893 ≠ gb902)); have n14_ := Aside0.mk ((by rw [hg]; exact Nat.ne_of_gt (blk_lt (g := gb893) (o := .cells #[.bool false, .slice none 0 0] 31 (0, 0)) (qb_ BK893.out)) : gb902 ≠ gb893)); clear HO897; clear HO901; clear BK891; clear BK892; clear BK893; clear HB; have HO897 := n0_; have HO901 := n1_; have BK891 := n2_; have BK892 := n3_; have BK893 := n4_; have HB := n5_; have BK902 := n6_; have GW902 := n7_; have GE902 := n8_; have NB891_902 := n9_; have NB902_891 := n10_; have NB892_902 := n11_; have NB902_892 := n12_; have NB893_902 := n13_; have NB902_893 := n14_; clear n0_ n1_ n2_ n3_ n4_ n5_ n6_ n7_ n8_ n9_ n10_ n11_ n12_ n13_ n14_; clear hb hbox hg) | ((with_reducible refine gate_dst (N := 8) rfl ?_); (try (refine gate_guard (by rfl) ?_; dsimp only)); refine box_event ?hg (N := 8) ?hd (cs := #[.bool false, .slice none 0 0]) (t := 31) ?hr ?_; (case hd => rfl); (case hg => rfl); (case hr => first | (go_simp; done) | (go_simp; rfl)); intro gb903 hg w45 hbox hb; have n0_ := Aside0.mk (Kd.R_below (qr_ HO897.out) hb); have n1_ := Aside0.mk (Kd.R_below (qr_ HO901.out) hb); have n2_ := Aside0.mk (blk_below (g := gb891) (o := .cells #[.bool n1, .slice An nl.length cn] 31 (0, 0)) (qb_ BK891.out) hb); have n3_ := Aside0.mk (blk_below (g := gb892) (o := .cells #[.bool false, .slice Ad dl.length cd] 31 (0, 0)) (qb_ BK892.out) hb); have n4_ := Aside0.mk (blk_below (g := gb893) (o := .cells #[.bool false, .slice none 0 0] 31 (0, 0)) (qb_ BK893.out) hb); have n5_ := Aside0.mk (blk_below (g := gb902) (o := .cells #[.bool false, .slice none 0 0] 31 (0, 0)) (qb_ BK902.out) hb); have n6_ := Aside0.mk (below_step (q4_ HB.out GE891.out GE892.out GE893.out GE902.out) hb); have n7_ := Aside0.mk (hbox); have n8_ := Aside0.mk ((by rw [hg]; exact (below_size (q4_ HB.out GE891.out GE892.out GE893.out GE902.out)) : wb.heap.size ≤ gb903)); have n9_ := Aside0.mk ((by rw [hg]; exact (below_size (q4_ HB.out GE891.out GE892.out GE893.out GE902.out)) : wb.heap.size ≤ gb903)); have n10_ := Aside0.mk ((by rw [hg]; exact Nat.ne_of_lt (blk_lt (g := gb891) (o := .cells #[.bool n1, .slice An nl.length cn] 31 (0, 0)) (qb_ BK891.out)) : gb891 ≠ gb903)); have n11_ := Aside0.mk ((by rw [hg]; exact Nat.ne_of_gt (blk_lt (g := gb891) (o := .cells #[.bool n1, .slice An nl.length cn] 31 (0, 0)) (qb_ BK891.out)) : gb903 ≠ gb891)); have n12_ := Aside0.mk ((by rw [hg]; exact Nat.ne_of_lt (blk_lt (g := gb892) (o := .cells #[.bool false, .slice Ad dl.length cd] 31 (0, 0)) (qb_ BK892.out)) : gb892 ≠ gb903)); have n13_ := Aside0.mk ((by rw [hg]; exact Nat.ne_of_gt (blk_lt (g := gb892) (o := .cells #[.bool false, .slice Ad dl.length cd] 31 (0, 0)) (qb_ BK892.out)) : gb903 ≠ gb892)); have n14_ := Aside0.mk ((by rw [hg]; exact Nat.ne_of_lt (blk_lt (g := gb893) (o := .cells #[.bool false, .slice none 0 0] 31 (0, 0)) (qb_ BK893.out)) : gb893 ≠ gb903)); have n15_ := Aside0.mk ((by rw [hg]; exact Nat.ne_of_gt (blk_lt (g := gb893) (o := .cells #[.bool false, .slice none 0 0] 31 (0, 0)) (qb_ BK893.out)) : gb903 ≠ gb893)); have n16_ := Aside0.mk ((by rw [hg]; exact Nat.ne_of_lt (blk_lt (g := gb902) (o := .cells #[.bool false, .slice none 0 0] 31 (0, 0)) (qb_ BK902.out)) : gb902 ≠ gb903)); have n17_ := Aside0.mk ((by rw [hg]; exact Nat.ne_of_gt (blk_lt (g := gb902) (o := .cells #[.bool false, .slice none 0 0] 31 (0, 0)) (qb_ BK902.out)) : gb903 ≠ gb902)); clear HO897; clear HO901; clear BK891; clear BK892; clear BK893; clear BK902; clear HB; have HO897 := n0_; have HO901 := n1_; have BK891 := n2_; have BK892 := n3_; have BK893 := n4_; have BK902 := n5_; have HB := n6_; have BK903 := n7_; have GW903 := n8_; have GE903 := n9_; have NB891_903 := n10_; have NB903_891 := n11_; have NB892_903 := n12_; have NB903_892 := n13_; have NB893_903 := n14_; have NB903_893 := n15_; have NB902_903 := n16_; have NB903_902 := n17_; clear n0_ n1_ n2_ n3_ n4_ n5_ n6_ n7_ n8_ n9_ n10_ n11_ n12_ n13_ n14_ n15_ n16_ n17_; clear hb hbox hg; have hnb46 := NB902_891.out; have hnc46 := NB891_902.out; have hnb47 := NB902_892.out; have hnc47 := NB892_902.out; have hnb48 := NB902_893.out; have hnc48 := NB893_902.out; have hnb49 := NB902_903.out; have hnc49 := NB903_902.out; have hcz50_0 : w45.cell? ⟨gb902, 0, none⟩ = some (.bool false) := (blk_cell BK902.out 0).trans rfl; have hcz50_1 : w45.cell? ⟨gb902, 1, none⟩ = some (.slice none 0 0) := (blk_cell BK902.out 1).trans rfl; have hfz50_0 := blk_frozen BK902.out 0; have hfz50_1 := blk_frozen BK902.out 1; obtain ⟨Ao51, co51, eo51⟩ := Kd.R_slice HO897.out; subst eo51; have hnb52 := NB903_891.out; have hnc52 := NB891_903.out; have hnb53 := NB903_892.out; have hnc53 := NB892_903.out; have hnb54 := NB903_893.out; have hnc54 := NB893_903.out; have hcz55_0 : w45.cell? ⟨gb903, 0, none⟩ = some (.bool false) := (blk_cell BK903.out 0).trans rfl; have hcz55_1 : w45.cell? ⟨gb903, 1, none⟩ = some (.slice none 0 0) := (blk_cell BK903.out 1).trans rfl; have hfz55_0 := blk_frozen BK903.out 0; have hfz55_1 := blk_frozen BK903.out 1; obtain ⟨Ao56, co56, eo56⟩ := Kd.R_slice HO901.out; subst eo56) | ((with_reducible refine gate_callee (f := 69) rfl ?_); refine goesL_ (some 24) rfl rfl Tryd.func69 (by kernel_rfl) rfl #[.agg #[.bool t898, .slice Ao56 t899.length co56]] rfl qe_ ?_; (with_reducible refine (merinoref01_Zero.calls t898 _ _ t899 false _ ?side1 ?side2 A5.out).mono ?_); (case side1 => refine (Kd.R_reads' (e := 3) (base := wb.heap.size) (ok := fun k_ => some k_ ≠ (.slice Ao51 t895.length co51 : Value).ownBlock) (n := t899.length) (c := co56) ?_).2.2; exact (by (with_reducible repeat (first | apply Kd.R_alloc | apply Kd.R_drewN | apply Kd.R_drew)); exact (Kd.R_mono (Kd.R_mono (Kd.R_far (p := ⟨gb903, 1, none⟩) (Kd.R_far (p := ⟨gb903, 0, none⟩) (Kd.R_far (p := ⟨gb902, 1, none⟩) (Kd.R_far (p := ⟨gb902, 0, none⟩) (Kd.R_types (Kd.R_types HO901.out BK902.out (by decide)) BK903.out (by decide)) (fun _ hk => hk.1.2) (.bool t894)) (fun _ hk => hk.1.2) (.slice Ao51 t895.length co51)) (fun _ hk => hk.2) (.bool t898)) (fun _ hk => hk.2) (.slice Ao56 t899.length co56)) (fun _ h_ => h_.1)) (fun _ h_ => h_.1)))); (case side2 => exact (Kd.R_reads' HO901.out).2.1); rintro e w57 ⟨rfl, hb⟩; refine ⟨_, rfl, ?_⟩; have n0_ := Aside0.mk (Kd.R_below (by (with_reducible repeat (first | apply Kd.R_alloc | apply Kd.R_drewN | apply Kd.R_drew)); exact (Kd.R_mono (Kd.R_mono (Kd.R_far (p := ⟨gb903, 1, none⟩) (Kd.R_far (p := ⟨gb903, 0, none⟩) (Kd.R_far (p := ⟨gb902, 1, none⟩) (Kd.R_far (p := ⟨gb902, 0, none⟩) (Kd.R_types (Kd.R_types HO897.out BK902.out (by decide)) BK903.out (by decide)) (fun _ hk => hk.1.2) (.bool t894)) (fun _ hk => hk.1.2) (.slice Ao51 t895.length co51)) (fun _ hk => hk.2) (.bool t898)) (fun _ hk => hk.2) (.slice Ao56 t899.length co56)) (fun _ h_ => h_.1)) (fun _ h_ => h_.1))) hb); have n1_ := Aside0.mk (Kd.R_below (by (with_reducible repeat (first | apply Kd.R_alloc | apply Kd.R_drewN | apply Kd.R_drew)); exact (Kd.R_mono (Kd.R_mono (Kd.R_far (p := ⟨gb903, 1, none⟩) (Kd.R_far (p := ⟨gb903, 0, none⟩) (Kd.R_far (p := ⟨gb902, 1, none⟩) (Kd.R_far (p := ⟨gb902, 0, none⟩) (Kd.R_types (Kd.R_types HO901.out BK902.out (by decide)) BK903.out (by decide)) (fun _ hk => hk.1.2) (.bool t894)) (fun _ hk => hk.1.2) (.slice Ao51 t895.length co51)) (fun _ hk => hk.2) (.bool t898)) (fun _ hk => hk.2) (.slice Ao56 t899.length co56)) (fun _ h_ => h_.1)) (fun _ h_ => h_.1))) hb); have n2_ := Aside0.mk (blk_below (g := gb891) (o := .cells #[.bool n1, .slice An nl.length cn] 31 (0, 0)) (by (with_reducible repeat (first | refine blk_drewN ?_ _ | refine blk_drew ?_ | refine blk_alloc ?_ _)); refine blk_far ?_ NB891_903.out _; (with_reducible repeat (first | refine blk_drewN ?_ _ | refine blk_drew ?_ | refine blk_alloc ?_ _)); refine blk_far ?_ NB891_903.out _; (with_reducible repeat (first | refine blk_drewN ?_ _ | refine blk_drew ?_ | refine blk_alloc ?_ _)); refine blk_far ?_ NB891_902.out _; (with_reducible repeat (first | refine blk_drewN ?_ _ | refine blk_drew ?_ | refine blk_alloc ?_ _)); refine blk_far ?_ NB891_902.out _; (with_reducible repeat (first | refine blk_drewN ?_ _ | refine blk_drew ?_ | refine blk_alloc ?_ _)); exact BK891.out) hb); have n3_ := Aside0.mk (blk_below (g := gb892) (o := .cells #[.bool false, .slice Ad dl.length cd] 31 (0, 0)) (by (with_reducible repeat (first | refine blk_drewN ?_ _ | refine blk_drew ?_ | refine blk_alloc ?_ _)); refine blk_far ?_ NB892_903.out _; (with_reducible repeat (first | refine blk_drewN ?_ _ | refine blk_drew ?_ | refine blk_alloc ?_ _)); refine blk_far ?_ NB892_903.out _; (with_reducible repeat (first | refine blk_drewN ?_ _ | refine blk_drew ?_ | refine blk_alloc ?_ _)); refine blk_far ?_ NB892_902.out _; (with_reducible repeat (first | refine blk_drewN ?_ _ | refine blk_drew ?_ | refine blk_alloc ?_ _)); refine blk_far ?_ NB892_902.out _; (with_reducible repeat (first | refine blk_drewN ?_ _ | refine blk_drew ?_ | refine blk_alloc ?_ _)); exact BK892.out) hb); have n4_ := Aside0.mk (blk_below (g := gb893) (o := .cells #[.bool false, .slice none 0 0] 31 (0, 0)) (by (with_reducible repeat (first | refine blk_drewN ?_ _ | refine blk_drew ?_ | refine blk_alloc ?_ _)); refine blk_far ?_ NB893_903.out _; (with_reducible repeat (first | refine blk_drewN ?_ _ | refine blk_drew ?_ | refine blk_alloc ?_ _)); refine blk_far ?_ NB893_903.out _; (with_reducible repeat (first | refine blk_drewN ?_ _ | refine blk_drew ?_ | refine blk_alloc ?_ _)); refine blk_far ?_ NB893_902.out _; (with_reducible repeat (first | refine blk_drewN ?_ _ | refine blk_drew ?_ | refine blk_alloc ?_ _)); refine blk_far ?_ NB893_902.out _; (with_reducible repeat (first | refine blk_drewN ?_ _ | refine blk_drew ?_ | refine blk_alloc ?_ _)); exact BK893.out) hb); have n5_ := Aside0.mk (blk_below (g := gb902) (o := .cells #[.bool t894, .slice Ao51 t895.length co51] 31 (0, 0)) (by (with_reducible repeat (first | refine blk_drewN ?_ _ | refine blk_drew ?_ | refine blk_alloc ?_ _)); refine blk_far ?_ NB902_903.out _; (with_reducible repeat (first | refine blk_drewN ?_ _ | refine blk_drew ?_ | refine blk_alloc ?_ _)); refine blk_far ?_ NB902_903.out _; (with_reducible repeat (first | refine blk_drewN ?_ _ | refine blk_drew ?_ | refine blk_alloc ?_ _)); refine blk_put (cs := #[.bool t894, .slice none 0 0]) ?_ 1 _ rfl; (with_reducible repeat (first | refine blk_drewN ?_ _ | refine blk_drew ?_ | refine blk_alloc ?_ _)); refine blk_put (cs := #[.bool false, .slice none 0 0]) ?_ 0 _ rfl; (with_reducible repeat (first | refine blk_drewN ?_ _ | refine blk_drew ?_ | refine blk_alloc ?_ _)); exact BK902.out) hb); have n6_ := Aside0.mk (blk_below (g := gb903) (o := .cells #[.bool t898, .slice Ao56 t899.length co56] 31 (0, 0)) (by (with_reducible repeat (first | refine blk_drewN ?_ _ | refine blk_drew ?_ | refine blk_alloc ?_ _)); refine blk_put (cs := #[.bool t898, .slice none 0 0]) ?_ 1 _ rfl; (with_reducible repeat (first | refine blk_drewN ?_ _ | refine blk_drew ?_ | refine blk_alloc ?_ _)); refine blk_put (cs := #[.bool false, .slice none 0 0]) ?_ 0 _ rfl; (with_reducible repeat (first | refine blk_drewN ?_ _ | refine blk_drew ?_ | refine blk_alloc ?_ _)); refine blk_far ?_ NB903_902.out _; (with_reducible repeat (first | refine blk_drewN ?_ _ | refine blk_drew ?_ | refine blk_alloc ?_ _)); refine blk_far ?_ NB903_902.out _; (with_reducible repeat (first | refine blk_drewN ?_ _ | refine blk_drew ?_ | refine blk_alloc ?_ _)); exact BK903.out) hb); have n7_ := Aside0.mk (below_step (q5_ HB.out GE891.out GE892.out GE893.out GE902.out GE903.out) hb); clear HO897; clear HO901; clear BK891; clear BK892; clear BK893; clear BK902; clear BK903; clear HB; have HO897 := n0_; have HO901 := n1_; have BK891 := n2_; have BK892 := n3_; have BK893 := n4_; have BK902 := n5_; have BK903 := n6_; have HB := n7_; clear n0_ n1_ n2_ n3_ n4_ n5_ n6_ n7_; (try clear hb); (try clear hb2); (try clear hk); (try clear hi)))
      have n0_ := Aside0.mk (Kd.R_drew HO897.out)
      have n1_ := Aside0.mk (Kd.R_drew HO901.out)
      have n2_ := Aside0.mk (blk_drew BK891.out)
      have n3_ := Aside0.mk (blk_drew BK892.out)
      have n4_ := Aside0.mk (blk_drew BK893.out)
      have n5_ := Aside0.mk (blk_drew BK902.out)
      have n6_ := Aside0.mk (blk_drew BK903.out)
      have n7_ := Aside0.mk (below_drew1 HB.out)
      clear HO897
      clear HO901
      clear BK891
      clear BK892
      clear BK893
      clear BK902
      clear BK903
      clear HB
      have HO897 := n0_
      have HO901 := n1_
      have BK891 := n2_
      have BK892 := n3_
      have BK893 := n4_
      have BK902 := n5_
      have BK903 := n6_
      have HB := n7_
      clear n0_ n1_ n2_ n3_ n4_ n5_ n6_ n7_
      refine start_ (n := 6) (S := fun w' => w'.cell? ⟨gb903, 0, none⟩ = some (.bool t898) ∧ w'.cell? ⟨gb903, 1, none⟩ = some (.slice Ao56 t899.length co56) ∧ w'.cell? ⟨gb892, 0, none⟩ = some (.bool false) ∧ w'.cell? ⟨gb892, 1, none⟩ = some (.slice Ad dl.length cd)) (ds := []) #[false, false, false, false, false, false] (by kernel_rfl) rfl rfl ⟨(blk_cell BK903.out 0).trans rfl, (blk_cell BK903.out 1).trans rfl, (blk_cell BK892.out 0).trans rfl, (blk_cell BK892.out 1).trans rfl⟩ (fun hHeld => ?_)
      generalize w57.drew = w58 at HO897 HO901 BK891 BK892 BK893 BK902 BK903 HB hHeld ⊢
      refine take_ (i := 0) (N := some 26) (v := ?_) (a' := ?_) #[true, false, false, false, false, false] rfl rfl (by kernel_rfl) (fun _ _ _ h => h) (Or.inl ⟨by rfl, ?_⟩) hHeld ?_ ?_
      rotate_left
      · rintro w' ⟨s0, s1, s2, s3⟩
        go_simp
        with_reducible rfl
      rotate_left
      · simp only [Act.put, List.setIfInBounds_toArray, List.set_cons_zero, List.set_cons_succ, i64_w, i32_w]
        rfl
      refine take_ (i := 1) (N := some 27) (v := ?_) (a' := ?_) #[true, true, false, false, false, false] rfl rfl (by kernel_rfl) (fun _ _ _ h => h) (Or.inl ⟨by rfl, ?_⟩) hHeld ?_ ?_
      rotate_left
      · rintro w' ⟨s0, s1, s2, s3⟩
        go_simp
        with_reducible rfl
      rotate_left
      · simp only [Act.put, List.setIfInBounds_toArray, List.set_cons_zero, List.set_cons_succ, i64_w, i32_w]
        rfl
      refine take_ (i := 3) (N := some 29) (v := ?_) (a' := ?_) #[true, true, false, true, false, false] rfl rfl (by kernel_rfl) (fun _ _ _ h => h) (Or.inl ⟨by rfl, ?_⟩) hHeld ?_ ?_
      rotate_left
      · rintro w' ⟨s0, s1, s2, s3⟩
        go_simp
        with_reducible rfl
      rotate_left
      · simp only [Act.put, List.setIfInBounds_toArray, List.set_cons_zero, List.set_cons_succ, i64_w, i32_w]
        rfl
      refine one_ (i := 2) (N := some 28) #[true, true, true, true, false, false] rfl rfl (by kernel_rfl) (by decide) (fun K hK => ?_)
      refine goes_ Tryd.func84 (by kernel_rfl) rfl #[.agg #[.bool t898, .slice Ao56 t899.length co56], .agg #[.bool t898, .slice Ao56 t899.length co56]] (by rfl) rfl rfl qe_ ?_
      with_reducible refine (merinoref01_Plus.calls k t898 _ _ t899 t898 _ _ t899 t905 t906 _ ?side1 ?side2 ?side3 ?side4 A32.out).mono ?_
      (case side1 => exact qc_ (Kd.R_reads' HO901.out).2.2)
      (case side2 => exact (Kd.R_reads' HO901.out).2.1)
      (case side3 => exact qc_ (Kd.R_reads' HO901.out).2.2)
      (case side4 => exact (Kd.R_reads' HO901.out).2.1)
      rintro e w59 ⟨v907, rfl, ho0, hb⟩
      refine ⟨_, rfl, ?_⟩
      have n0_ := Aside0.mk (Kd.R_elder' (qr_ HO897.out) (Kd.R_base ho0) hb)
      have n1_ := Aside0.mk (Kd.R_elder' (qr_ HO901.out) (Kd.R_base ho0) hb)
      have n2_ := Aside0.mk (Kd.R_lower (Kd.R_new' (Kd.R_new' ho0 (Kd.R_lt (qr_ HO897.out))) (Kd.R_lt (qr_ HO901.out))) (below_size (q5_ HB.out GE891.out GE892.out GE893.out GE902.out GE903.out)))
      have n3_ := Aside0.mk (blk_below (g := gb891) (o := .cells #[.bool n1, .slice An nl.length cn] 31 (0, 0)) (qb_ BK891.out) hb)
      have n4_ := Aside0.mk (blk_below (g := gb892) (o := .cells #[.bool false, .slice Ad dl.length cd] 31 (0, 0)) (qb_ BK892.out) hb)
      have n5_ := Aside0.mk (blk_below (g := gb893) (o := .cells #[.bool false, .slice none 0 0] 31 (0, 0)) (qb_ BK893.out) hb)
      have n6_ := Aside0.mk (blk_below (g := gb902) (o := .cells #[.bool t894, .slice Ao51 t895.length co51] 31 (0, 0)) (qb_ BK902.out) hb)
      have n7_ := Aside0.mk (blk_below (g := gb903) (o := .cells #[.bool t898, .slice Ao56 t899.length co56] 31 (0, 0)) (qb_ BK903.out) hb)
      have n8_ := Aside0.mk (below_step (q5_ HB.out GE891.out GE892.out GE893.out GE902.out GE903.out) hb)
      clear HO897
      clear HO901
      clear BK891
      clear BK892
      clear BK893
      clear BK902
      clear BK903
      clear HB
      have HO897 := n0_
      have HO901 := n1_
      have HO908 := n2_
      have BK891 := n3_
      have BK892 := n4_
      have BK893 := n5_
      have BK902 := n6_
      have BK903 := n7_
      have HB := n8_
      clear n0_ n1_ n2_ n3_ n4_ n5_ n6_ n7_ n8_
      (try clear hb)
      (try clear hb2)
      (try clear hk)
      (try clear hi)
      (try clear ho0)
      obtain ⟨Ao60, co60, eo60⟩ := Kd.R_slice HO908.out
      (first | subst eo60 | (injection eo60 with f1_ f2_ f3_; have f4_ := f1_.symm; have f5_ := f3_.symm; clear f1_ f2_ f3_; subst f4_; subst f5_))
      refine hK.out _ _ ⟨(blk_cell BK903.out 0).trans rfl, (blk_cell BK903.out 1).trans rfl, (blk_cell BK892.out 0).trans rfl, (blk_cell BK892.out 1).trans rfl⟩ (fun hHeld => ?_)
      clear hK K
      refine norm_ (a' := ?_) ?_ ?_
      rotate_left
      · show Act.put _ (some 28) _ = _
        simp only [Act.put, List.setIfInBounds_toArray, List.set_cons_zero, List.set_cons_succ, i64_w, i32_w]
        rfl
      refine one_ (i := 4) (N := some 30) #[true, true, true, true, true, false] rfl rfl (by kernel_rfl) (by decide) (fun K hK => ?_)
      refine goes_ Tryd.func25 (by kernel_rfl) rfl #[.agg #[.bool t905, .slice Ao60 t906.length co60], .agg #[.bool false, .slice Ad dl.length cd]] (by rfl) rfl rfl qe_ ?_
      with_reducible refine (merinoref01_Compare.calls k t905 _ _ t906 false _ _ dl t909 _ ?side1 ?side2 ?side3 ?side4 A33.out).mono ?_
      (case side1 => exact qc_ (Kd.R_reads' HO908.out).2.2)
      (case side2 => exact (Kd.R_reads' HO908.out).2.1)
      (case side3 => exact qc_ (Kd.C_below HR1_1.out HB.out))
      (case side4 => exact HC1_1.out)
      rintro e w61 ⟨rfl, hb⟩
      refine ⟨_, rfl, ?_⟩
      have n0_ := Aside0.mk (Kd.R_below (qr_ HO897.out) hb)
      have n1_ := Aside0.mk (Kd.R_below (qr_ HO901.out) hb)
      have n2_ := Aside0.mk (Kd.R_below (qr_ HO908.out) hb)
      have n3_ := Aside0.mk (blk_below (g := gb891) (o := .cells #[.bool n1, .slice An nl.length cn] 31 (0, 0)) (qb_ BK891.out) hb)
      have n4_ := Aside0.mk (blk_below (g := gb892) (o := .cells #[.bool false, .slice Ad dl.length cd] 31 (0, 0)) (qb_ BK892.out) hb)
      have n5_ := Aside0.mk (blk_below (g := gb893) (o := .cells #[.bool false, .slice none 0 0] 31 (0, 0)) (qb_ BK893.out) hb)
      have n6_ := Aside0.mk (blk_below (g := gb902) (o := .cells #[.bool t894, .slice Ao51 t895.length co51] 31 (0, 0)) (qb_ BK902.out) hb)
      have n7_ := Aside0.mk (blk_below (g := gb903) (o := .cells #[.bool t898, .slice Ao56 t899.length co56] 31 (0, 0)) (qb_ BK903.out) hb)
      have n8_ := Aside0.mk (below_step (q5_ HB.out GE891.out GE892.out GE893.out GE902.out GE903.out) hb)
      clear HO897
      clear HO901
      clear HO908
      clear BK891
      clear BK892
      clear BK893
      clear BK902
      clear BK903
      clear HB
      have HO897 := n0_
      have HO901 := n1_
      have HO908 := n2_
      have BK891 := n3_
      have BK892 := n4_
      have BK893 := n5_
      have BK902 := n6_
      have BK903 := n7_
      have HB := n8_
      clear n0_ n1_ n2_ n3_ n4_ n5_ n6_ n7_ n8_
      (try clear hb)
      (try clear hb2)
      (try clear hk)
      (try clear hi)
      refine hK.out _ _ ⟨(blk_cell BK903.out 0).trans rfl, (blk_cell BK903.out 1).trans rfl, (blk_cell BK892.out 0).trans rfl, (blk_cell BK892.out 1).trans rfl⟩ (fun hHeld => ?_)
      clear hK K
      refine norm_ (a' := ?_) ?_ ?_
      rotate_left
      · show Act.put _ (some 30) _ = _
        simp only [Act.put, List.setIfInBounds_toArray, List.set_cons_zero, List.set_cons_succ, i64_w, i32_w]
        rfl
      refine pure_ (i := 5) (N := some 9) (v := ?_) (a' := ?_) #[true, true, true, true, true, true] rfl rfl (by kernel_rfl) (fun _ _ _ h => h) (Or.inl ⟨by rfl, ?_⟩) ?_ ?_
      rotate_left
      · intro w'
        go_simp
        with_reducible rfl
      rotate_left
      · simp only [Act.put, List.setIfInBounds_toArray, List.set_cons_zero, List.set_cons_succ, i64_w, i32_w]
        rfl
      refine done_ (by kernel_rfl) ?_
      go_upto_block 0 with (fail)
      go_cut [10] (fun v10 wc => ∃ (kq : Nat) (x10_33 : Bool), v10 = .bool x10_33 ∧ Aside0 (merinoref01_Rounded.j0 kq x10_33 t894 t895 = some (r1, r2)) ∧ Aside0 (kq ≤ k) ∧ Aside0 (Kd.R (Kd.int .i64) 3 wc wb.heap.size (fun k_ => some k_ ≠ ((.slice Ao56 t899.length co56) : Value).ownBlock) (.slice Ao51 t895.length co51) t895) ∧ Aside0 (Kd.R (Kd.int .i64) 3 wc wb.heap.size (fun k_ => some k_ ≠ ((.slice Ao51 t895.length co51) : Value).ownBlock) (.slice Ao56 t899.length co56) t899) ∧ Aside0 (wc.heap[gb891]? = some (.cells #[.bool n1, (.slice An nl.length cn)] 31 (0, 0))) ∧ Aside0 (wc.heap[gb892]? = some (.cells #[.bool false, (.slice Ad dl.length cd)] 31 (0, 0))) ∧ Aside0 (wc.heap[gb893]? = some (.cells #[.bool false, (.slice none 0 0)] 31 (0, 0))) ∧ Aside0 (wc.heap[gb902]? = some (.cells #[.bool t894, (.slice Ao51 t895.length co51)] 31 (0, 0))) ∧ Aside0 (wc.heap[gb903]? = some (.cells #[.bool t898, (.slice Ao56 t899.length co56)] 31 (0, 0))) ∧ Aside0 (Below wb.heap.size wb wc))
      case first =>
        have H := HC34.out
        clear HC34
        by_cases c62 : a2 = 1
        · rw [if_pos c62] at H
          have c62b0 : (a2 == 1) = true := beq_iff_eq.mpr c62
          have c62b1 : (a2 != 1) = false := bne_eq_false_iff_eq.mpr c62
          clear c62
          (first | rw [c62b0] | (simp only [i64_w, i32_w]; rw [c62b0]) | skip)
          have H' := Aside0.mk H
          clear H
          go_wp2
          go_meet
          case rel => exact ⟨_, (true), (by first | rfl | (simp; done) | (simp [*]; done)), H', ⟨by first | omega | exact Nat.le_refl _⟩, ⟨by (with_reducible repeat (first | apply Kd.R_alloc | apply Kd.R_drewN | apply Kd.R_drew)); exact Kd.R_mono HO897.out (fun _ hk => hk.1)⟩, ⟨by (with_reducible repeat (first | apply Kd.R_alloc | apply Kd.R_drewN | apply Kd.R_drew)); exact Kd.R_mono HO901.out (fun _ hk => hk.1)⟩, ⟨by (with_reducible repeat (first | refine blk_drewN ?_ _ | refine blk_drew ?_ | refine blk_alloc ?_ _)); exact BK891.out⟩, ⟨by (with_reducible repeat (first | refine blk_drewN ?_ _ | refine blk_drew ?_ | refine blk_alloc ?_ _)); exact BK892.out⟩, ⟨by (with_reducible repeat (first | refine blk_drewN ?_ _ | refine blk_drew ?_ | refine blk_alloc ?_ _)); exact BK893.out⟩, ⟨by (with_reducible repeat (first | refine blk_drewN ?_ _ | refine blk_drew ?_ | refine blk_alloc ?_ _)); exact BK902.out⟩, ⟨by (with_reducible repeat (first | refine blk_drewN ?_ _ | refine blk_drew ?_ | refine blk_alloc ?_ _)); exact BK903.out⟩, ⟨(q5_ HB.out GE891.out GE892.out GE893.out GE902.out GE903.out)⟩⟩
        · rw [if_neg c62] at H
          have c62b0 : (a2 == 1) = false := beq_eq_false_iff_ne.mpr c62
          have c62b1 : (a2 != 1) = true := bne_iff_ne.mpr c62
          (first | rw [c62b0] | (simp only [i64_w, i32_w]; rw [c62b0]) | skip)
          by_cases c63 : a2 = 2
          · rw [if_pos c63] at H
            have c63b0 : (a2 == 2) = true := beq_iff_eq.mpr c63
            have c63b1 : (a2 != 2) = false := bne_eq_false_iff_eq.mpr c63
            clear c63
            have H' := Aside0.mk H
            clear H
            have hnb64 := NB891_892.out
            have hnc64 := NB892_891.out
            have hnb65 := NB891_893.out
            have hnc65 := NB893_891.out
            have hnb66 := NB891_902.out
            have hnc66 := NB902_891.out
            have hnb67 := NB891_903.out
            have hnc67 := NB903_891.out
            have hcz68_0 : w61.cell? ⟨gb891, 0, none⟩ = some (.bool n1) := (blk_cell BK891.out 0).trans rfl
            have hcz68_1 : w61.cell? ⟨gb891, 1, none⟩ = some (.slice An nl.length cn) := (blk_cell BK891.out 1).trans rfl
            have hfz68_0 := blk_frozen BK891.out 0
            have hfz68_1 := blk_frozen BK891.out 1
            go_wp2
            go_meet
            case rel => exact ⟨_, (n1), (by first | rfl | (simp; done) | (simp [*]; done)), H', ⟨by first | omega | exact Nat.le_refl _⟩, ⟨by (with_reducible repeat (first | apply Kd.R_alloc | apply Kd.R_drewN | apply Kd.R_drew)); exact Kd.R_mono HO897.out (fun _ hk => hk.1)⟩, ⟨by (with_reducible repeat (first | apply Kd.R_alloc | apply Kd.R_drewN | apply Kd.R_drew)); exact Kd.R_mono HO901.out (fun _ hk => hk.1)⟩, ⟨by (with_reducible repeat (first | refine blk_drewN ?_ _ | refine blk_drew ?_ | refine blk_alloc ?_ _)); exact BK891.out⟩, ⟨by (with_reducible repeat (first | refine blk_drewN ?_ _ | refine blk_drew ?_ | refine blk_alloc ?_ _)); exact BK892.out⟩, ⟨by (with_reducible repeat (first | refine blk_drewN ?_ _ | refine blk_drew ?_ | refine blk_alloc ?_ _)); exact BK893.out⟩, ⟨by (with_reducible repeat (first | refine blk_drewN ?_ _ | refine blk_drew ?_ | refine blk_alloc ?_ _)); exact BK902.out⟩, ⟨by (with_reducible repeat (first | refine blk_drewN ?_ _ | refine blk_drew ?_ | refine blk_alloc ?_ _)); exact BK903.out⟩, ⟨(q5_ HB.out GE891.out GE892.out GE893.out GE902.out GE903.out)⟩⟩
          · rw [if_neg c63] at H
            have c63b0 : (a2 == 2) = false := beq_eq_false_iff_ne.mpr c63
            have c63b1 : (a2 != 2) = true := bne_iff_ne.mpr c63
            by_cases c69 : a2 = 3
            · rw [if_pos c69] at H
              have c69b0 : (a2 == 3) = true := beq_iff_eq.mpr c69
              have c69b1 : (a2 != 3) = false := bne_eq_false_iff_eq.mpr c69
              clear c69
              have H' := Aside0.mk H
              clear H
              go_wp2
              go_meet
              case rel => exact ⟨_, (decide (t909 ≥ 0)), (by first | rfl | (simp; done) | (simp [*]; done)), H', ⟨by first | omega | exact Nat.le_refl _⟩, ⟨by (with_reducible repeat (first | apply Kd.R_alloc | apply Kd.R_drewN | apply Kd.R_drew)); exact Kd.R_mono HO897.out (fun _ hk => hk.1)⟩, ⟨by (with_reducible repeat (first | apply Kd.R_alloc | apply Kd.R_drewN | apply Kd.R_drew)); exact Kd.R_mono HO901.out (fun _ hk => hk.1)⟩, ⟨by (with_reducible repeat (first | refine blk_drewN ?_ _ | refine blk_drew ?_ | refine blk_alloc ?_ _)); exact BK891.out⟩, ⟨by (with_reducible repeat (first | refine blk_drewN ?_ _ | refine blk_drew ?_ | refine blk_alloc ?_ _)); exact BK892.out⟩, ⟨by (with_reducible repeat (first | refine blk_drewN ?_ _ | refine blk_drew ?_ | refine blk_alloc ?_ _)); exact BK893.out⟩, ⟨by (with_reducible repeat (first | refine blk_drewN ?_ _ | refine blk_drew ?_ | refine blk_alloc ?_ _)); exact BK902.out⟩, ⟨by (with_reducible repeat (first | refine blk_drewN ?_ _ | refine blk_drew ?_ | refine blk_alloc ?_ _)); exact BK903.out⟩, ⟨(q5_ HB.out GE891.out GE892.out GE893.out GE902.out GE903.out)⟩⟩
            · rw [if_neg c69] at H
              have c69b0 : (a2 == 3) = false := beq_eq_false_iff_ne.mpr c69
              have c69b1 : (a2 != 3) = true := bne_iff_ne.mpr c69
              by_cases c70 : a2 = 4
              · rw [if_pos c70] at H
                have c70b0 : (a2 == 4) = true := beq_iff_eq.mpr c70
                have c70b1 : (a2 != 4) = false := bne_eq_false_iff_eq.mpr c70
                clear c70
                by_cases c71 : t909 > 0
                · rw [if_pos c71] at H
                  have c71b0 : decide (0 < t909) = true := decide_eq_true c71
                  clear c71
                  have H' := Aside0.mk H
                  clear H
                  go_wp2
                  go_meet
                  case rel => exact ⟨_, (true), (by first | rfl | (simp; done) | (simp [*]; done)), H', ⟨by first | omega | exact Nat.le_refl _⟩, ⟨by (with_reducible repeat (first | apply Kd.R_alloc | apply Kd.R_drewN | apply Kd.R_drew)); exact Kd.R_mono HO897.out (fun _ hk => hk.1)⟩, ⟨by (with_reducible repeat (first | apply Kd.R_alloc | apply Kd.R_drewN | apply Kd.R_drew)); exact Kd.R_mono HO901.out (fun _ hk => hk.1)⟩, ⟨by (with_reducible repeat (first | refine blk_drewN ?_ _ | refine blk_drew ?_ | refine blk_alloc ?_ _)); exact BK891.out⟩, ⟨by (with_reducible repeat (first | refine blk_drewN ?_ _ | refine blk_drew ?_ | refine blk_alloc ?_ _)); exact BK892.out⟩, ⟨by (with_reducible repeat (first | refine blk_drewN ?_ _ | refine blk_drew ?_ | refine blk_alloc ?_ _)); exact BK893.out⟩, ⟨by (with_reducible repeat (first | refine blk_drewN ?_ _ | refine blk_drew ?_ | refine blk_alloc ?_ _)); exact BK902.out⟩, ⟨by (with_reducible repeat (first | refine blk_drewN ?_ _ | refine blk_drew ?_ | refine blk_alloc ?_ _)); exact BK903.out⟩, ⟨(q5_ HB.out GE891.out GE892.out GE893.out GE902.out GE903.out)⟩⟩
                · rw [if_neg c71] at H
                  have c71b0 : decide (0 < t909) = false := decide_eq_false c71
                  clear c71
                  by_cases c72 : t909 = 0
                  · rw [if_pos c72] at H
                    have c72b0 : (t909 == 0) = true := beq_iff_eq.mpr c72
                    have c72b1 : (t909 != 0) = false := bne_eq_false_iff_eq.mpr c72
                    clear c72
                    by_cases c73 : (t895.length : Int) > 0
                    · rw [if_pos c73] at H
                      have c73b0 : decide (0 < (t895.length : Int)) = true := decide_eq_true c73
                      have c73b1 : decide (0 < t895.length) = true := decide_eq_true (by omega)
                      clear c73
                      by_cases c74 : 0 < (t895.length : Int)
                      · rw [if_pos c74] at H
                        have c74b0 : decide (0 < (t895.length : Int)) = true := decide_eq_true c74
                        have c74b1 : decide (0 < t895.length) = true := decide_eq_true (by omega)
                        clear c74
                        have H' := Aside0.mk H
                        clear H
                        have hnb75 := NB902_891.out
                        have hnc75 := NB891_902.out
                        have hnb76 := NB902_892.out
                        have hnc76 := NB892_902.out
                        have hnb77 := NB902_893.out
                        have hnc77 := NB893_902.out
                        have hnb78 := NB902_903.out
                        have hnc78 := NB903_902.out
                        have hcz79_0 : w61.cell? ⟨gb902, 0, none⟩ = some (.bool t894) := (blk_cell BK902.out 0).trans rfl
                        have hcz79_1 : w61.cell? ⟨gb902, 1, none⟩ = some (.slice Ao51 t895.length co51) := (blk_cell BK902.out 1).trans rfl
                        have hfz79_0 := blk_frozen BK902.out 0
                        have hfz79_1 := blk_frozen BK902.out 1
                        have p910 : 0 ≤ (0 : Int) := (by omega)
                        have q910 : 0 < (t895.length : Int) := of_decide_eq_true (by first | (with_reducible assumption) | assumption)
                        obtain ⟨ad910, e910, hx910_0⟩ := Kd.at_int (Kd.R_reads' HO897.out).2.2 0 p910 q910
                        cases e910
                        have qi910 : (0 < t895.length) = True := eq_true (by omega)
                        (try rw [show ((0 : Int)).toNat = 0 from rfl] at hx910_0)
                        (try rw [Addr.add_zero'] at hx910_0)
                        replace p910 := eq_true p910
                        replace q910 := eq_true q910
                        go_wp2
                        go_meet
                        case rel => exact ⟨_, (((Int.tmod (rd t895 0) 2) == 1)), (by first | rfl | (simp; done) | (simp [*]; done)), H', ⟨by first | omega | exact Nat.le_refl _⟩, ⟨by (with_reducible repeat (first | apply Kd.R_alloc | apply Kd.R_drewN | apply Kd.R_drew)); exact Kd.R_mono HO897.out (fun _ hk => hk.1)⟩, ⟨by (with_reducible repeat (first | apply Kd.R_alloc | apply Kd.R_drewN | apply Kd.R_drew)); exact Kd.R_mono HO901.out (fun _ hk => hk.1)⟩, ⟨by (with_reducible repeat (first | refine blk_drewN ?_ _ | refine blk_drew ?_ | refine blk_alloc ?_ _)); exact BK891.out⟩, ⟨by (with_reducible repeat (first | refine blk_drewN ?_ _ | refine blk_drew ?_ | refine blk_alloc ?_ _)); exact BK892.out⟩, ⟨by (with_reducible repeat (first | refine blk_drewN ?_ _ | refine blk_drew ?_ | refine blk_alloc ?_ _)); exact BK893.out⟩, ⟨by (with_reducible repeat (first | refine blk_drewN ?_ _ | refine blk_drew ?_ | refine blk_alloc ?_ _)); exact BK902.out⟩, ⟨by (with_reducible repeat (first | refine blk_drewN ?_ _ | refine blk_drew ?_ | refine blk_alloc ?_ _)); exact BK903.out⟩, ⟨(q5_ HB.out GE891.out GE892.out GE893.out GE902.out GE903.out)⟩⟩
                      · rw [if_neg c74] at H
                        exact absurd H (by simp)
                    · rw [if_neg c73] at H
                      have c73b0 : decide (0 < (t895.length : Int)) = false := decide_eq_false c73
                      have c73b1 : decide (0 < t895.length) = false := decide_eq_false (by omega)
                      clear c73
                      have H' := Aside0.mk H
                      clear H
                      have hnb80 := NB902_891.out
                      have hnc80 := NB891_902.out
                      have hnb81 := NB902_892.out
                      have hnc81 := NB892_902.out
                      have hnb82 := NB902_893.out
                      have hnc82 := NB893_902.out
                      have hnb83 := NB902_903.out
                      have hnc83 := NB903_902.out
                      have hcz84_0 : w61.cell? ⟨gb902, 0, none⟩ = some (.bool t894) := (blk_cell BK902.out 0).trans rfl
                      have hcz84_1 : w61.cell? ⟨gb902, 1, none⟩ = some (.slice Ao51 t895.length co51) := (blk_cell BK902.out 1).trans rfl
                      have hfz84_0 := blk_frozen BK902.out 0
                      have hfz84_1 := blk_frozen BK902.out 1
                      go_wp2
                      go_meet
                      case rel => exact ⟨_, (false), (by first | rfl | (simp; done) | (simp [*]; done)), H', ⟨by first | omega | exact Nat.le_refl _⟩, ⟨by (with_reducible repeat (first | apply Kd.R_alloc | apply Kd.R_drewN | apply Kd.R_drew)); exact Kd.R_mono HO897.out (fun _ hk => hk.1)⟩, ⟨by (with_reducible repeat (first | apply Kd.R_alloc | apply Kd.R_drewN | apply Kd.R_drew)); exact Kd.R_mono HO901.out (fun _ hk => hk.1)⟩, ⟨by (with_reducible repeat (first | refine blk_drewN ?_ _ | refine blk_drew ?_ | refine blk_alloc ?_ _)); exact BK891.out⟩, ⟨by (with_reducible repeat (first | refine blk_drewN ?_ _ | refine blk_drew ?_ | refine blk_alloc ?_ _)); exact BK892.out⟩, ⟨by (with_reducible repeat (first | refine blk_drewN ?_ _ | refine blk_drew ?_ | refine blk_alloc ?_ _)); exact BK893.out⟩, ⟨by (with_reducible repeat (first | refine blk_drewN ?_ _ | refine blk_drew ?_ | refine blk_alloc ?_ _)); exact BK902.out⟩, ⟨by (with_reducible repeat (first | refine blk_drewN ?_ _ | refine blk_drew ?_ | refine blk_alloc ?_ _)); exact BK903.out⟩, ⟨(q5_ HB.out GE891.out GE892.out GE893.out GE902.out GE903.out)⟩⟩
                  · rw [if_neg c72] at H
                    have c72b0 : (t909 == 0) = false := beq_eq_false_iff_ne.mpr c72
                    have c72b1 : (t909 != 0) = true := bne_iff_ne.mpr c72
                    have H' := Aside0.mk H
                    clear H
                    go_wp2
                    go_meet
                    case rel => exact ⟨_, (false), (by first | rfl | (simp; done) | (simp [*]; done)), H', ⟨by first | omega | exact Nat.le_refl _⟩, ⟨by (with_reducible repeat (first | apply Kd.R_alloc | apply Kd.R_drewN | apply Kd.R_drew)); exact Kd.R_mono HO897.out (fun _ hk => hk.1)⟩, ⟨by (with_reducible repeat (first | apply Kd.R_alloc | apply Kd.R_drewN | apply Kd.R_drew)); exact Kd.R_mono HO901.out (fun _ hk => hk.1)⟩, ⟨by (with_reducible repeat (first | refine blk_drewN ?_ _ | refine blk_drew ?_ | refine blk_alloc ?_ _)); exact BK891.out⟩, ⟨by (with_reducible repeat (first | refine blk_drewN ?_ _ | refine blk_drew ?_ | refine blk_alloc ?_ _)); exact BK892.out⟩, ⟨by (with_reducible repeat (first | refine blk_drewN ?_ _ | refine blk_drew ?_ | refine blk_alloc ?_ _)); exact BK893.out⟩, ⟨by (with_reducible repeat (first | refine blk_drewN ?_ _ | refine blk_drew ?_ | refine blk_alloc ?_ _)); exact BK902.out⟩, ⟨by (with_reducible repeat (first | refine blk_drewN ?_ _ | refine blk_drew ?_ | refine blk_alloc ?_ _)); exact BK903.out⟩, ⟨(q5_ HB.out GE891.out GE892.out GE893.out GE902.out GE903.out)⟩⟩
              · rw [if_neg c70] at H
                have c70b0 : (a2 == 4) = false := beq_eq_false_iff_ne.mpr c70
                have c70b1 : (a2 != 4) = true := bne_iff_ne.mpr c70
                have H' := Aside0.mk H
                clear H
                go_wp2
                go_meet
                case rel => exact ⟨_, (false), (by first | rfl | (simp; done) | (simp [*]; done)), H', ⟨by first | omega | exact Nat.le_refl _⟩, ⟨by (with_reducible repeat (first | apply Kd.R_alloc | apply Kd.R_drewN | apply Kd.R_drew)); exact Kd.R_mono HO897.out (fun _ hk => hk.1)⟩, ⟨by (with_reducible repeat (first | apply Kd.R_alloc | apply Kd.R_drewN | apply Kd.R_drew)); exact Kd.R_mono HO901.out (fun _ hk => hk.1)⟩, ⟨by (with_reducible repeat (first | refine blk_drewN ?_ _ | refine blk_drew ?_ | refine blk_alloc ?_ _)); exact BK891.out⟩, ⟨by (with_reducible repeat (first | refine blk_drewN ?_ _ | refine blk_drew ?_ | refine blk_alloc ?_ _)); exact BK892.out⟩, ⟨by (with_reducible repeat (first | refine blk_drewN ?_ _ | refine blk_drew ?_ | refine blk_alloc ?_ _)); exact BK893.out⟩, ⟨by (with_reducible repeat (first | refine blk_drewN ?_ _ | refine blk_drew ?_ | refine blk_alloc ?_ _)); exact BK902.out⟩, ⟨by (with_reducible repeat (first | refine blk_drewN ?_ _ | refine blk_drew ?_ | refine blk_alloc ?_ _)); exact BK903.out⟩, ⟨(q5_ HB.out GE891.out GE892.out GE893.out GE902.out GE903.out)⟩⟩
      case rest =>
        clear HC34
        try clear c1
        try clear c2
        try clear p2
        try clear c3
        try clear c4
        try clear c5
        try clear c6
        try clear c7
        try clear c8
        try clear c9
        try clear p9
        try clear q9
        try clear hx9
        try clear qi9
        try clear c10
        try clear c11
        try clear c13
        try clear c18
        try clear c19
        try clear c20
        try clear c21
        try clear c24
        try clear c25
        try clear c26
        try clear c38
        try clear c39
        try clear c41
        try clear c46
        try clear c47
        try clear c48
        try clear c49
        try clear c52
        try clear c53
        try clear c54
        try clear c62
        try clear c62b0
        try clear c62b1
        try clear c63
        try clear c63b0
        try clear c63b1
        try clear c64
        try clear c65
        try clear c66
        try clear c67
        try clear c69
        try clear c69b0
        try clear c69b1
        try clear c70
        try clear c70b0
        try clear c70b1
        try clear c71
        try clear c71b0
        try clear c72
        try clear c72b0
        try clear c72b1
        try clear c73
        try clear c73b0
        try clear c73b1
        try clear c74
        try clear c74b0
        try clear c74b1
        try clear c75
        try clear c76
        try clear c77
        try clear c78
        try clear c80
        try clear c81
        try clear c82
        try clear c83
        try clear c84
        try clear hcz12_0
        try clear hcz12_1
        try clear hcz14_0
        try clear hcz14_1
        try clear hcz22_0
        try clear hcz22_1
        try clear hcz27_0
        try clear hcz27_1
        try clear hcz30_0
        try clear hcz30_1
        try clear hcz31_0
        try clear hcz31_1
        try clear hcz40_0
        try clear hcz40_1
        try clear hcz42_0
        try clear hcz42_1
        try clear hcz50_0
        try clear hcz50_1
        try clear hcz55_0
        try clear hcz55_1
        try clear hcz68_0
        try clear hcz68_1
        try clear hcz79_0
        try clear hcz79_1
        try clear hcz84_0
        try clear hcz84_1
        try clear hfz12_0
        try clear hfz12_1
        try clear hfz14_0
        try clear hfz14_1
        try clear hfz22_0
        try clear hfz22_1
        try clear hfz27_0
        try clear hfz27_1
        try clear hfz30_0
        try clear hfz30_1
        try clear hfz31_0
        try clear hfz31_1
        try clear hfz40_0
        try clear hfz40_1
        try clear hfz42_0
        try clear hfz42_1
        try clear hfz50_0
        try clear hfz50_1
        try clear hfz55_0
        try clear hfz55_1
        try clear hfz68_0
        try clear hfz68_1
        try clear hfz79_0
        try clear hfz79_1
        try clear hfz84_0
        try clear hfz84_1
        try clear hx910_0
        try clear p910
        try clear q910
        obtain ⟨kq, x10_33, rfl, HA, HJ33, HO_903001, HO_904001, BK891, BK892, BK893, BK902, BK903, HB⟩ := hcut
        cases kq with
        | zero => exact absurd HA.out (by simp [merinoref01_Rounded.j0])
        | succ kj33 =>
          have H := HA.out
          clear HA
          simp only [merinoref01_Rounded.j0] at H
          by_cases c85 : x10_33 = true
          · subst c85
            have H1 : ((merinoref01_Of.f kj33 1).bind fun bt911 => ((merinoref01_Plus.f kj33 t894 t895 bt911.1 bt911.2).bind fun bt915 => (some (bt915.1, bt915.2)))) = some (r1, r2) := by rw [if_pos rfl] at H; exact H
            clear H
            have H := H1
            clear H1
            replace H := Option.bind_eq_some_iff.mp H
            obtain ⟨⟨t911, t912⟩, A860, H⟩ := H
            replace H : ((merinoref01_Plus.f kj33 t894 t895 t911 t912).bind fun bt915 => (some (bt915.1, bt915.2))) = some (r1, r2) := H
            have A86 := Aside0.mk A860
            clear A860
            replace H := Option.bind_eq_some_iff.mp H
            obtain ⟨⟨t915, t916⟩, A870, H⟩ := H
            replace H : (some (t915, t916)) = some (r1, r2) := H
            have A87 := Aside0.mk A870
            clear A870
            simp only [Option.some.injEq, Prod.mk.injEq] at H
            obtain ⟨rfl, rfl⟩ := H
            try go_wp2
            have n0_ := Aside0.mk (Kd.R_drew HO_903001.out)
            have n1_ := Aside0.mk (Kd.R_drew HO_904001.out)
            have n2_ := Aside0.mk (blk_drew BK891.out)
            have n3_ := Aside0.mk (blk_drew BK892.out)
            have n4_ := Aside0.mk (blk_drew BK893.out)
            have n5_ := Aside0.mk (blk_drew BK902.out)
            have n6_ := Aside0.mk (blk_drew BK903.out)
            have n7_ := Aside0.mk (below_drew1 HB.out)
            clear HO_903001
            clear HO_904001
            clear BK891
            clear BK892
            clear BK893
            clear BK902
            clear BK903
            clear HB
            have HO_903001 := n0_
            have HO_904001 := n1_
            have BK891 := n2_
            have BK892 := n3_
            have BK893 := n4_
            have BK902 := n5_
            have BK903 := n6_
            have HB := n7_
            clear n0_ n1_ n2_ n3_ n4_ n5_ n6_ n7_
            refine start_ (n := 4) (S := fun w' => w'.cell? ⟨gb902, 0, none⟩ = some (.bool t894) ∧ w'.cell? ⟨gb902, 1, none⟩ = some (.slice Ao51 t895.length co51)) (ds := [3]) #[false, false, false, false] (by kernel_rfl) rfl rfl ⟨(blk_cell BK902.out 0).trans rfl, (blk_cell BK902.out 1).trans rfl⟩ (fun hHeld => ?_)
            generalize wc.drew = w88 at HO_903001 HO_904001 BK891 BK892 BK893 BK902 BK903 HB hHeld ⊢
            refine take_ (i := 0) (N := some 65) (v := ?_) (a' := ?_) #[true, false, false, false] rfl rfl (by kernel_rfl) (fun _ _ _ h => h) (Or.inl ⟨by rfl, ?_⟩) hHeld ?_ ?_
            rotate_left
            · rintro w' ⟨s0, s1⟩
              go_simp
              with_reducible rfl
            rotate_left
            · simp only [Act.put, List.setIfInBounds_toArray, List.set_cons_zero, List.set_cons_succ, i64_w, i32_w]
              rfl
            refine one_ (i := 1) (N := some 66) #[true, true, false, false] rfl rfl (by kernel_rfl) (by decide) (fun K hK => ?_)
            refine goes_ Tryd.func24 (by kernel_rfl) rfl #[.int .i64 1] (by rfl) rfl rfl qe_ ?_
            with_reducible refine (merinoref01_Of.calls kj33 1 t911 t912 _ A86.out).mono ?_
            rintro e w89 ⟨v913, rfl, ho0, hb⟩
            refine ⟨_, rfl, ?_⟩
            have n0_ := Aside0.mk (Kd.R_elder' (qr_ HO_903001.out) (Kd.R_base ho0) hb)
            have n1_ := Aside0.mk (Kd.R_elder' (qr_ HO_904001.out) (Kd.R_base ho0) hb)
            have n2_ := Aside0.mk (Kd.R_lower (Kd.R_new' (Kd.R_new' ho0 (Kd.R_lt (qr_ HO_903001.out))) (Kd.R_lt (qr_ HO_904001.out))) (below_size (q5_ HB.out GE891.out GE892.out GE893.out GE902.out GE903.out)))
            have n3_ := Aside0.mk (blk_below (g := gb891) (o := .cells #[.bool n1, .slice An nl.length cn] 31 (0, 0)) (qb_ BK891.out) hb)
            have n4_ := Aside0.mk (blk_below (g := gb892) (o := .cells #[.bool false, .slice Ad dl.length cd] 31 (0, 0)) (qb_ BK892.out) hb)
            have n5_ := Aside0.mk (blk_below (g := gb893) (o := .cells #[.bool false, .slice none 0 0] 31 (0, 0)) (qb_ BK893.out) hb)
            have n6_ := Aside0.mk (blk_below (g := gb902) (o := .cells #[.bool t894, .slice Ao51 t895.length co51] 31 (0, 0)) (qb_ BK902.out) hb)
            have n7_ := Aside0.mk (blk_below (g := gb903) (o := .cells #[.bool t898, .slice Ao56 t899.length co56] 31 (0, 0)) (qb_ BK903.out) hb)
            have n8_ := Aside0.mk (below_step (q5_ HB.out GE891.out GE892.out GE893.out GE902.out GE903.out) hb)
            clear HO_903001
            clear HO_904001
            clear BK891
            clear BK892
            clear BK893
            clear BK902
            clear BK903
            clear HB
            have HO_903001 := n0_
            have HO_904001 := n1_
            have HO914 := n2_
            have BK891 := n3_
            have BK892 := n4_
            have BK893 := n5_
            have BK902 := n6_
            have BK903 := n7_
            have HB := n8_
            clear n0_ n1_ n2_ n3_ n4_ n5_ n6_ n7_ n8_
            (try clear hb)
            (try clear hb2)
            (try clear hk)
            (try clear hi)
            (try clear ho0)
            obtain ⟨Ao90, co90, eo90⟩ := Kd.R_slice HO914.out
            (first | subst eo90 | (injection eo90 with f1_ f2_ f3_; have f4_ := f1_.symm; have f5_ := f3_.symm; clear f1_ f2_ f3_; subst f4_; subst f5_))
            refine hK.out _ _ ⟨(blk_cell BK902.out 0).trans rfl, (blk_cell BK902.out 1).trans rfl⟩ (fun hHeld => ?_)
            clear hK K
            refine norm_ (a' := ?_) ?_ ?_
            rotate_left
            · show Act.put _ (some 66) _ = _
              simp only [Act.put, List.setIfInBounds_toArray, List.set_cons_zero, List.set_cons_succ, i64_w, i32_w]
              rfl
            refine one_ (i := 2) (N := some 67) #[true, true, true, false] rfl rfl (by kernel_rfl) (by decide) (fun K hK => ?_)
            refine goes_ Tryd.func84 (by kernel_rfl) rfl #[.agg #[.bool t894, .slice Ao51 t895.length co51], .agg #[.bool t911, .slice Ao90 t912.length co90]] (by rfl) rfl rfl qe_ ?_
            with_reducible refine (merinoref01_Plus.calls kj33 t894 _ _ t895 t911 _ _ t912 t915 t916 _ ?side1 ?side2 ?side3 ?side4 A87.out).mono ?_
            (case side1 => exact qc_ (Kd.R_reads' HO_903001.out).2.2)
            (case side2 => exact (Kd.R_reads' HO_903001.out).2.1)
            (case side3 => exact qc_ (Kd.R_reads' HO914.out).2.2)
            (case side4 => exact (Kd.R_reads' HO914.out).2.1)
            rintro e w91 ⟨v917, rfl, ho0, hb⟩
            refine ⟨_, rfl, ?_⟩
            have n0_ := Aside0.mk (Kd.R_elder' (qr_ HO_903001.out) (Kd.R_base ho0) hb)
            have n1_ := Aside0.mk (Kd.R_elder' (qr_ HO_904001.out) (Kd.R_base ho0) hb)
            have n2_ := Aside0.mk (Kd.R_elder' (qr_ HO914.out) (Kd.R_base ho0) hb)
            have n3_ := Aside0.mk (Kd.R_lower (Kd.R_new' (Kd.R_new' (Kd.R_new' ho0 (Kd.R_lt (qr_ HO_903001.out))) (Kd.R_lt (qr_ HO_904001.out))) (Kd.R_lt (qr_ HO914.out))) (below_size (q5_ HB.out GE891.out GE892.out GE893.out GE902.out GE903.out)))
            have n4_ := Aside0.mk (blk_below (g := gb891) (o := .cells #[.bool n1, .slice An nl.length cn] 31 (0, 0)) (qb_ BK891.out) hb)
            have n5_ := Aside0.mk (blk_below (g := gb892) (o := .cells #[.bool false, .slice Ad dl.length cd] 31 (0, 0)) (qb_ BK892.out) hb)
            have n6_ := Aside0.mk (blk_below (g := gb893) (o := .cells #[.bool false, .slice none 0 0] 31 (0, 0)) (qb_ BK893.out) hb)
            have n7_ := Aside0.mk (blk_below (g := gb902) (o := .cells #[.bool t894, .slice Ao51 t895.length co51] 31 (0, 0)) (qb_ BK902.out) hb)
            have n8_ := Aside0.mk (blk_below (g := gb903) (o := .cells #[.bool t898, .slice Ao56 t899.length co56] 31 (0, 0)) (qb_ BK903.out) hb)
            have n9_ := Aside0.mk (below_step (q5_ HB.out GE891.out GE892.out GE893.out GE902.out GE903.out) hb)
            clear HO_903001
            clear HO_904001
            clear HO914
            clear BK891
            clear BK892
            clear BK893
            clear BK902
            clear BK903
            clear HB
            have HO_903001 := n0_
            have HO_904001 := n1_
            have HO914 := n2_
            have HO918 := n3_
            have BK891 := n4_
            have BK892 := n5_
            have BK893 := n6_
            have BK902 := n7_
            have BK903 := n8_
            have HB := n9_
            clear n0_ n1_ n2_ n3_ n4_ n5_ n6_ n7_ n8_ n9_
            (try clear hb)
            (try clear hb2)
            (try clear hk)
            (try clear hi)
            (try clear ho0)
            obtain ⟨Ao93, co93, eo93⟩ := Kd.R_slice HO918.out
            (first | subst eo93 | (injection eo93 with f1_ f2_ f3_; have f4_ := f1_.symm; have f5_ := f3_.symm; clear f1_ f2_ f3_; subst f4_; subst f5_))
            refine hK.out _ _ ⟨(blk_cell BK902.out 0).trans rfl, (blk_cell BK902.out 1).trans rfl⟩ (fun hHeld => ?_)
            clear hK K
            refine norm_ (a' := ?_) ?_ ?_
            rotate_left
            · show Act.put _ (some 67) _ = _
              simp only [Act.put, List.setIfInBounds_toArray, List.set_cons_zero, List.set_cons_succ, i64_w, i32_w]
              rfl
            refine last_ (i := 3) (N := none) #[true, true, true, true] rfl rfl (by kernel_rfl) (by decide) (fun K hK => ?_)
            have hs92 : w91.cell? ⟨gb902, 0, none⟩ = some (.bool t894) := (blk_cell BK902.out 0).trans rfl
            have hfs92 := blk_frozen BK902.out 0
            have hns92_0 := NB891_902.out
            have hns92_1 := NB892_902.out
            have hns92_2 := NB893_902.out
            have hns92_4 := NB903_902.out
            have hms92_0 := NB902_891.out
            have hms92_1 := NB902_892.out
            have hms92_2 := NB902_893.out
            have hms92_4 := NB902_903.out
            have hs94 : w91.cell? ⟨gb902, 1, none⟩ = some (.slice Ao51 t895.length co51) := (blk_cell BK902.out 1).trans rfl
            have hfs94 := blk_frozen BK902.out 1
            have hns94_0 := NB891_902.out
            have hns94_1 := NB892_902.out
            have hns94_2 := NB893_902.out
            have hns94_4 := NB903_902.out
            have hms94_0 := NB902_891.out
            have hms94_1 := NB902_892.out
            have hms94_2 := NB902_893.out
            have hms94_4 := NB902_903.out
            refine skip_ (w1 := ?_) (by rfl) rfl ?_ ?_
            rotate_left
            · go_simp
              rfl
            refine hK.out _ _ ?_
            clear hK K
            refine done_ (by kernel_rfl) ?_
            have hnb95 := NB902_891.out
            have hnc95 := NB891_902.out
            have hnb96 := NB902_892.out
            have hnc96 := NB892_902.out
            have hnb97 := NB902_893.out
            have hnc97 := NB893_902.out
            have hnb98 := NB902_903.out
            have hnc98 := NB903_902.out
            have hcz99_0 : w91.cell? ⟨gb902, 0, none⟩ = some (.bool t894) := (blk_cell BK902.out 0).trans rfl
            have hcz99_1 : w91.cell? ⟨gb902, 1, none⟩ = some (.slice Ao51 t895.length co51) := (blk_cell BK902.out 1).trans rfl
            have hfz99_0 := blk_frozen BK902.out 0
            have hfz99_1 := blk_frozen BK902.out 1
            have hnb100 := NB893_891.out
            have hnc100 := NB891_893.out
            have hnb101 := NB893_892.out
            have hnc101 := NB892_893.out
            have hnb102 := NB893_903.out
            have hnc102 := NB903_893.out
            have hcz103_0 : w91.cell? ⟨gb893, 0, none⟩ = some (.bool false) := (blk_cell BK893.out 0).trans rfl
            have hcz103_1 : w91.cell? ⟨gb893, 1, none⟩ = some (.slice none 0 0) := (blk_cell BK893.out 1).trans rfl
            have hfz103_0 := blk_frozen BK893.out 0
            have hfz103_1 := blk_frozen BK893.out 1
            try go_wp2
            refine bodyPost_ret (results_cell_row rfl _ _ gb893 31 #[.bool t915, .slice Ao93 t916.length co93] (0, 0) _ rfl (by (with_reducible repeat (first | refine blk_drewN ?_ _ | refine blk_drew ?_ | refine blk_alloc ?_ _)); refine blk_put (cs := #[.bool t915, .slice none 0 0]) ?_ 1 _ rfl; (with_reducible repeat (first | refine blk_drewN ?_ _ | refine blk_drew ?_ | refine blk_alloc ?_ _)); refine blk_put (cs := #[.bool false, .slice none 0 0]) ?_ 0 _ rfl; (with_reducible repeat (first | refine blk_drewN ?_ _ | refine blk_drew ?_ | refine blk_alloc ?_ _)); refine blk_far ?_ NB893_902.out _; (with_reducible repeat (first | refine blk_drewN ?_ _ | refine blk_drew ?_ | refine blk_alloc ?_ _)); refine blk_far ?_ NB893_902.out _; (with_reducible repeat (first | refine blk_drewN ?_ _ | refine blk_drew ?_ | refine blk_alloc ?_ _)); exact BK893.out) Tryd.underlying31 rfl (by kernel_rfl)) rfl ?_
            exact ⟨_, by first | rfl | (simp [errW_none, errW_some] <;> rfl) | (simp [*, errW_none, errW_some] <;> rfl), by refine Kd.R_lower (base := wb.heap.size) ?_ HBw.out.size; (with_reducible repeat (first | apply Kd.R_alloc | apply Kd.R_drewN | apply Kd.R_drew)); exact Kd.R_mono (Kd.R_far (p := ⟨gb893, 1, none⟩) (Kd.R_far (p := ⟨gb893, 0, none⟩) (Kd.R_far (p := ⟨gb902, 1, none⟩) (Kd.R_far (p := ⟨gb902, 0, none⟩) (Kd.R_types (Kd.R_types HO918.out BK902.out (by decide)) BK893.out (by decide)) (fun _ hk => hk.1.2) (.bool t915)) (fun _ hk => hk.1.2) (.slice Ao93 t916.length co93)) (fun _ hk => hk.2) (.bool t915)) (fun _ hk => hk.2) (.slice Ao93 t916.length co93)) (fun _ hk => trivial), by repeat (first | (with_reducible first | exact below_step HBw.out HB.out | apply below_alloc | apply pw_below_drewN | apply below_drew1 | refine below_set ?_ GE893.out | refine below_set ?_ (Nat.le_trans HBw.out.size GE902.out) | refine below_set ?_ (Nat.le_trans HBw.out.size GE903.out)) | exact below_step HBw.out HB.out)⟩
          · replace c85 := Bool.eq_false_iff.mpr c85
            subst c85
            have H1 : (some (t894, t895)) = some (r1, r2) := by rw [if_neg (show ¬ (false = true) by decide)] at H; exact H
            clear H
            have H := H1
            clear H1
            simp only [Option.some.injEq, Prod.mk.injEq] at H
            obtain ⟨rfl, rfl⟩ := H
            have hnb104 := NB902_891.out
            have hnc104 := NB891_902.out
            have hnb105 := NB902_892.out
            have hnc105 := NB892_902.out
            have hnb106 := NB902_893.out
            have hnc106 := NB893_902.out
            have hnb107 := NB902_903.out
            have hnc107 := NB903_902.out
            have hcz108_0 : wc.cell? ⟨gb902, 0, none⟩ = some (.bool t894) := (blk_cell BK902.out 0).trans rfl
            have hcz108_1 : wc.cell? ⟨gb902, 1, none⟩ = some (.slice Ao51 t895.length co51) := (blk_cell BK902.out 1).trans rfl
            have hfz108_0 := blk_frozen BK902.out 0
            have hfz108_1 := blk_frozen BK902.out 1
            have hnb109 := NB893_891.out
            have hnc109 := NB891_893.out
            have hnb110 := NB893_892.out
            have hnc110 := NB892_893.out
            have hnb111 := NB893_903.out
            have hnc111 := NB903_893.out
            have hcz112_0 : wc.cell? ⟨gb893, 0, none⟩ = some (.bool false) := (blk_cell BK893.out 0).trans rfl
            have hcz112_1 : wc.cell? ⟨gb893, 1, none⟩ = some (.slice none 0 0) := (blk_cell BK893.out 1).trans rfl
            have hfz112_0 := blk_frozen BK893.out 0
            have hfz112_1 := blk_frozen BK893.out 1
            go_wp2
            refine bodyPost_ret (results_cell_row rfl _ _ gb893 31 #[.bool t894, .slice Ao51 t895.length co51] (0, 0) _ rfl (by (with_reducible repeat (first | refine blk_drewN ?_ _ | refine blk_drew ?_ | refine blk_alloc ?_ _)); refine blk_put (cs := #[.bool t894, .slice none 0 0]) ?_ 1 _ rfl; (with_reducible repeat (first | refine blk_drewN ?_ _ | refine blk_drew ?_ | refine blk_alloc ?_ _)); refine blk_put (cs := #[.bool false, .slice none 0 0]) ?_ 0 _ rfl; (with_reducible repeat (first | refine blk_drewN ?_ _ | refine blk_drew ?_ | refine blk_alloc ?_ _)); exact BK893.out) Tryd.underlying31 rfl (by kernel_rfl)) rfl ?_
            exact ⟨_, by first | rfl | (simp [errW_none, errW_some] <;> rfl) | (simp [*, errW_none, errW_some] <;> rfl), by refine Kd.R_lower (base := wb.heap.size) ?_ HBw.out.size; (with_reducible repeat (first | apply Kd.R_alloc | apply Kd.R_drewN | apply Kd.R_drew)); exact Kd.R_mono (Kd.R_far (p := ⟨gb893, 1, none⟩) (Kd.R_far (p := ⟨gb893, 0, none⟩) (Kd.R_types HO_903001.out BK893.out (by decide)) (fun _ hk => hk.2) (.bool t894)) (fun _ hk => hk.2) (.slice Ao51 t895.length co51)) (fun _ hk => trivial), by repeat (first | (with_reducible first | exact below_step HBw.out HB.out | apply below_alloc | apply pw_below_drewN | apply below_drew1 | refine below_set ?_ GE893.out | refine below_set ?_ (Nat.le_trans HBw.out.size GE902.out) | refine below_set ?_ (Nat.le_trans HBw.out.size GE903.out)) | exact below_step HBw.out HB.out)⟩
end Go.Proofs.YtdjnneflpkllmaaDoor.Q

namespace Go.Proofs.YtdjnneflpkllmaaDoor.Q
open Go.RowKit Go.Proofs.YtdjnneflpkllmaaDoorW.PrintWords Go.Proofs.YtdjnneflpkllmaaDoorW.PrintLast Go.Proofs.YtdjnneflpkllmaaDoorW.PrintMore
attribute [local go_sem] max2_int min2_int max_two min_two max_three min_three max_four min_four   -- for this text's walks alone
set_option linter.unusedVariables false
set_option linter.unusedSimpArgs false
def merinoref01_Rounded.f (k : Nat) (a0_0 : Bool) (l0_1 : List Int) (a1_0 : Bool) (l1_1 : List Int) (a2 : Int) : Option (Bool × List Int) := if a1_0 = true then ((merinoref01_Neg.f k a0_0 l0_1).bind fun bn => ((merinoref01_Neg.f k true l1_1).bind fun bd => if bd.1 = true then none else merinoref01_Rounded.core k bn.1 bn.2 false bd.2 a2)) else merinoref01_Rounded.core k a0_0 l0_1 false l1_1 a2
theorem merinoref01_Rounded.mono : ∀ a0 a1 a2 a3 a4 k, LeO (merinoref01_Rounded.f k a0 a1 a2 a3 a4) (merinoref01_Rounded.f (k + 1) a0 a1 a2 a3 a4) := by
  intro a0 a1 a2 a3 a4 k
  unfold merinoref01_Rounded.f
  exact LeO.ite (LeO.bind (merinoref01_Neg.mono _ _ _) (fun _ => LeO.bind (merinoref01_Neg.mono _ _ _) (fun _ => LeO.ite (LeO.none _) (merinoref01_Rounded.core_mono _ _ _ _ _ k)))) (merinoref01_Rounded.core_mono _ _ _ _ _ k)
theorem merinoref01_Rounded.calls (k : Nat) (a0_0 : Bool) (A0_1 : Option Addr) (c0_1 : Nat) (l0_1 : List Int) (a1_0 : Bool) (A1_1 : Option Addr) (c1_1 : Nat) (l1_1 : List Int) (a2 : Int) (r1 : Bool) (r2 : List Int) (w : World) (hr0_1 : Kd.C (Kd.int .i64) w A0_1 l0_1.length l0_1) (hc0_1 : l0_1.length ≤ c0_1) (hr1_1 : Kd.C (Kd.int .i64) w A1_1 l1_1.length l1_1) (hc1_1 : l1_1.length ≤ c1_1) (h : merinoref01_Rounded.f k a0_0 l0_1 a1_0 l1_1 a2 = some (r1, r2)) :
    Calls Tryd.prog 99 #[.agg #[.bool a0_0, .slice A0_1 l0_1.length c0_1], .agg #[.bool a1_0, .slice A1_1 l1_1.length c1_1], .int .i64 a2] w fun e w' => ∃ v1_ : Value, e = .returned (.agg #[.bool r1, v1_]) ∧ Kd.R (Kd.int .i64) 3 w' w.heap.size (fun _ => True) v1_ r2 ∧ Below w.heap.size w w' := by
  cases a1_0 with
  | true =>
    rw [merinoref01_Rounded.f, if_pos rfl] at h
    obtain ⟨⟨n1, nl⟩, hN, h⟩ := Option.bind_eq_some_iff.mp h
    obtain ⟨⟨d1, dl⟩, hD, h⟩ := Option.bind_eq_some_iff.mp h
    cases d1 with
    | true => simp at h
    | false =>
      simp only [Bool.false_eq_true, if_false] at h
      exact merinoref01_Rounded.both k a0_0 A0_1 c0_1 l0_1 true A1_1 c1_1 l1_1 a2 n1 nl dl r1 r2 w hr0_1 hc0_1 hr1_1 hc1_1 (.inr ⟨rfl, hN, hD⟩) h
  | false =>
    rw [merinoref01_Rounded.f, if_neg (by decide)] at h
    exact merinoref01_Rounded.both k a0_0 A0_1 c0_1 l0_1 false A1_1 c1_1 l1_1 a2 a0_0 l0_1 l1_1 r1 r2 w hr0_1 hc0_1 hr1_1 hc1_1 (.inl ⟨rfl, rfl, rfl, rfl⟩) h
end Go.Proofs.YtdjnneflpkllmaaDoor.Q

namespace Go.Proofs.Num
open Go.RowKit Go.Proofs.YtdjnneflpkllmaaDoorW.PrintWords Go.Proofs.YtdjnneflpkllmaaDoorW.PrintMore Go.Proofs.YtdjnneflpkllmaaDoor.Q
set_option linter.unusedVariables false
set_option linter.unusedSimpArgs false
/-- Is it rounded up from the floor? -/
def upQ (x y m : Int) : Bool := if m = 1 then true else if m = 2 then decide (x < 0) else if m = 3 then decide (y ≤ 2 * (x % y)) else if m = 4 then decide (y < 2 * (x % y) ∨ (2 * (x % y) = y ∧ x / y % 2 = 1)) else false
/-- x/y rounded (y above 0). -/
def rndF (x y m : Int) : Int := if x % y = 0 then x / y else if upQ x y m = true then x / y + 1 else x / y
theorem good_par {l : List Int} {x : Int} (g : Good l x) (h : l ≠ []) : at_ l 0 % 2 = x % 2 := by
  cases l with
  | nil => exact (h rfl).elim
  | cons a t =>
    have := g.val
    simp only [valD] at this
    rw [at_cons_zero]
    omega
theorem mode2_ok {m : Int} : merinoref01_Mode.f m = some (decide (0 ≤ m ∧ m ≤ 4)) := by
  unfold merinoref01_Mode.f
  by_cases h : m ≥ 0
  · rw [if_pos h]; congr 1; rw [Bool.eq_iff_iff]; simp; omega
  · rw [if_neg h]; congr 1; symm; rw [decide_eq_false_iff_not]; omega
theorem rcore_ok {a : Bool} {l n : List Int} {x y m : Int} (R : Rep a l x) (gy : Good n y) (hy : 0 < y) (h1 : l.length ≤ 100) (h2 : n.length ≤ 100) :
    ∃ r, Ev (fun k => merinoref01_Rounded.core k a l false n m) (decide (rndF x y m < 0), r) ∧ Rep (decide (rndF x y m < 0)) r (rndF x y m) ∧ r.length ≤ 112 := by
  obtain ⟨q, r, EO, RQ, RR, lq, lr⟩ := over_ok (c := false) R gy hy h1 h2
  have r0 := Int.emod_nonneg x (show y ≠ 0 by omega)
  have r1 := Int.emod_lt_of_pos x hy
  have gr := RR.good
  rw [show ((x % y).natAbs : Int) = x % y by omega] at gr
  have zr : merinoref01_Zero.f false r = some (decide (x % y = 0)) := by
    unfold merinoref01_Zero.f
    congr 1
    rw [Bool.eq_iff_iff]
    simp only [beq_iff_eq, decide_eq_true_eq]
    constructor
    · intro h
      have : r = [] := by
        cases r with
        | nil => rfl
        | cons => simp at h; omega
      exact gr.zero_iff.1 this
    · intro h
      rw [gr.zero_iff.2 h]; rfl
  unfold merinoref01_Rounded.core
  by_cases hz : x % y = 0
  · have e : rndF x y m = x / y := by unfold rndF; rw [if_pos hz]
    rw [e]
    refine ⟨q, Ev.bind EO ?_, RQ, by omega⟩
    simp only [zr, Option.bind_some, decide_eq_true hz, if_true]
    exact Ev.now _
  · obtain ⟨p, EP, RP, lp⟩ := plus_ok RR RR (by omega) (by omega)
    have RY : Rep false n y := ⟨by rw [show (y.natAbs : Int) = y by omega]; exact gy, (decide_eq_false (by omega)).symm⟩
    have EC := compare_ok RP RY (by omega)
    obtain ⟨u, EU, RU, lu⟩ := of_ok (x := 1) (by omega) (by omega)
    obtain ⟨s, ES, RS, ls⟩ := plus_ok RQ RU (by omega) (by omega)
    have go : ∀ b : Bool, ∃ t, Ev (fun k => merinoref01_Rounded.j0 k b (decide (x / y < 0)) q) (decide ((if b = true then x / y + 1 else x / y) < 0), t) ∧ Rep (decide ((if b = true then x / y + 1 else x / y) < 0)) t (if b = true then x / y + 1 else x / y) ∧ t.length ≤ 112 := fun b => by
      cases b with
      | true =>
        simp only [if_true]
        refine ⟨s, Ev.step (f := fun k => (merinoref01_Of.f k 1).bind fun bt911 => ((merinoref01_Plus.f k (decide (x / y < 0)) q bt911.1 bt911.2).bind fun bt915 => (some (bt915.1, bt915.2)))) (fun k => by rw [merinoref01_Rounded.j0, if_pos rfl]) (Ev.bind EU (Ev.bind ES (Ev.now _))), RS, by omega⟩
      | false =>
        simp only [Bool.false_eq_true, if_false]
        exact ⟨q, Ev.step (f := fun _ => some (decide (x / y < 0), q)) (fun k => by rw [merinoref01_Rounded.j0, if_neg (by decide)]) (Ev.now _), RQ, by omega⟩
    obtain ⟨t, ET, RT, lt⟩ := go (upQ x y m)
    have e : rndF x y m = if upQ x y m = true then x / y + 1 else x / y := by unfold rndF; rw [if_neg hz]
    rw [e]
    refine ⟨t, Ev.bind EO ?_, RT, lt⟩
    simp only [zr, Option.bind_some, decide_eq_false hz, Bool.false_eq_true, if_false]
    refine Ev.bind EP (Ev.bind EC ?_)
    have key : ∀ b : Bool, b = upQ x y m → Ev (fun k => merinoref01_Rounded.j0 k b (decide (x / y < 0)) q) (decide ((if upQ x y m = true then x / y + 1 else x / y) < 0), t) := fun b hb => by rw [hb]; exact ET
    have c3 : cmpI (x % y + x % y) y ≥ 0 ↔ y ≤ 2 * (x % y) := by unfold cmpI; split <;> (try split) <;> omega
    have c4 : cmpI (x % y + x % y) y > 0 ↔ y < 2 * (x % y) := by unfold cmpI; split <;> (try split) <;> omega
    have c5 : cmpI (x % y + x % y) y = 0 ↔ 2 * (x % y) = y := by unfold cmpI; split <;> (try split) <;> omega
    by_cases m1 : m = 1
    · simp only [if_pos m1]
      exact key _ (by unfold upQ; rw [if_pos m1])
    · by_cases m2 : m = 2
      · simp only [if_neg m1, if_pos m2]
        exact key _ (by unfold upQ; rw [if_neg m1, if_pos m2]; exact R.sign)
      · by_cases m3 : m = 3
        · simp only [if_neg m1, if_neg m2, if_pos m3]
          exact key _ (by unfold upQ; rw [if_neg m1, if_neg m2, if_pos m3, decide_eq_decide]; exact c3)
        · by_cases m4 : m = 4
          · simp only [if_neg m1, if_neg m2, if_neg m3, if_pos m4]
            by_cases d1 : y < 2 * (x % y)
            · simp only [if_pos (c4.2 d1)]
              exact key _ (by unfold upQ; rw [if_neg m1, if_neg m2, if_neg m3, if_pos m4, decide_eq_true (Or.inl d1)])
            · simp only [if_neg (show ¬ cmpI (x % y + x % y) y > 0 from fun h => d1 (c4.1 h))]
              by_cases d2 : 2 * (x % y) = y
              · simp only [if_pos (c5.2 d2)]
                by_cases d3 : (q.length : Int) > 0
                · have hq : q ≠ [] := fun h => by rw [h] at d3; simp at d3
                  have par := good_par RQ.good hq
                  have dig := RQ.good.dig (at_ q 0) (by cases q with | nil => exact (hq rfl).elim | cons a t => rw [at_cons_zero]; exact List.mem_cons_self ..)
                  simp only [if_pos d3, if_pos (show 0 < (q.length : Int) by omega)]
                  refine key _ ?_
                  unfold upQ
                  rw [if_neg m1, if_neg m2, if_neg m3, if_pos m4, show rd q 0 = at_ q 0 from rd_nat q 0, Int.tmod_eq_emod_of_nonneg dig.1, Bool.eq_iff_iff]
                  simp only [beq_iff_eq, decide_eq_true_eq]
                  omega
                · have hq : q = [] := by
                    cases q with
                    | nil => rfl
                    | cons => simp at d3
                  have q0 := RQ.good.zero_iff.1 hq
                  simp only [if_neg d3]
                  exact key _ (by unfold upQ; rw [if_neg m1, if_neg m2, if_neg m3, if_pos m4]; symm; rw [decide_eq_false_iff_not]; omega)
              · simp only [if_neg (show ¬ cmpI (x % y + x % y) y = 0 from fun h => d2 (c5.1 h))]
                exact key _ (by unfold upQ; rw [if_neg m1, if_neg m2, if_neg m3, if_pos m4]; symm; rw [decide_eq_false_iff_not]; omega)
          · simp only [if_neg m1, if_neg m2, if_neg m3, if_neg m4]
            exact key _ (by unfold upQ; rw [if_neg m1, if_neg m2, if_neg m3, if_neg m4])
/-- Of any divisor but 0. -/
def rndS (x y m : Int) : Int := if y < 0 then rndF (-x) (-y) m else rndF x y m
theorem rrounded_ok {a b : Bool} {l n : List Int} {x y m : Int} (R : Rep a l x) (S : Rep b n y) (hy : y ≠ 0) (h1 : l.length ≤ 100) (h2 : n.length ≤ 100) :
    ∃ r, Ev (fun k => merinoref01_Rounded.f k a l b n m) (decide (rndS x y m < 0), r) ∧ Rep (decide (rndS x y m < 0)) r (rndS x y m) ∧ r.length ≤ 112 := by
  unfold merinoref01_Rounded.f rndS
  by_cases c : y < 0
  · have hb : b = true := by rw [S.sign]; exact decide_eq_true c
    subst hb
    simp only [if_true, if_pos c]
    obtain ⟨r1, E1, R1, l1⟩ := neg_big_ok R (by omega)
    obtain ⟨r2, E2, R2, l2⟩ := neg_big_ok S (by omega)
    have g := R2.good
    rw [show ((-y).natAbs : Int) = -y by omega] at g
    obtain ⟨r, E, RR, lr⟩ := rcore_ok (m := m) R1 g (by omega) (by omega) (by omega)
    refine ⟨r, Ev.bind E1 (Ev.bind E2 ?_), RR, lr⟩
    have e : decide (-y < 0) = false := decide_eq_false (by omega)
    simp only [e, Bool.false_eq_true, if_false]
    exact E
  · have hb : b = false := by rw [S.sign]; exact decide_eq_false c
    subst hb
    simp only [Bool.false_eq_true, if_false, if_neg c]
    have g := S.good
    rw [show (y.natAbs : Int) = y by omega] at g
    exact rcore_ok R g (by omega) h1 h2
/-- The same by sizes. -/
theorem rnd_rndF {x y m : Int} (hy : 0 < y) (m0 : 0 ≤ m) (m1 : m ≤ 4) : rnd (decide (x < 0)) ((x.natAbs : Int) / y) ((x.natAbs : Int) % y) y m = rndF x y m := by
  by_cases hx : x < 0
  · have e := Int.mul_ediv_add_emod (x.natAbs : Int) y
    have r0 := Int.emod_nonneg (x.natAbs : Int) (show y ≠ 0 by omega)
    have r1 := Int.emod_lt_of_pos (x.natAbs : Int) hy
    generalize (x.natAbs : Int) / y = q at *
    generalize (x.natAbs : Int) % y = r at *
    have c1 : y * q = q * y := Int.mul_comm _ _
    rw [decide_eq_true hx]
    by_cases hr : r = 0
    · have d := div_of (N := x) (y := y) (q := -q) hy (by rw [Int.neg_mul]; omega) (by rw [Int.add_mul, Int.neg_mul]; omega)
      rw [Int.neg_mul] at d
      unfold rndF rnd
      rw [← d.1, ← d.2, if_pos (show x - -(q * y) = 0 by omega)]
      simp [hr]
    · have d := div_of (N := x) (y := y) (q := -q - 1) hy (by rw [Int.sub_mul, Int.neg_mul]; omega) (by rw [Int.add_mul, Int.sub_mul, Int.neg_mul]; omega)
      rw [Int.sub_mul, Int.neg_mul] at d
      have e2 : x - (-(q * y) - 1 * y) = y - r := by omega
      rw [e2] at d
      unfold rndF rnd upQ
      rw [← d.1, ← d.2, if_neg (show ¬ y - r = 0 by omega)]
      simp only [if_neg hr, if_true]
      rcases (show m = 0 ∨ m = 1 ∨ m = 2 ∨ m = 3 ∨ m = 4 by omega) with h | h | h | h | h <;> subst h <;> simp [hx] <;> (repeat' split) <;> omega
  · rw [decide_eq_false hx, show (x.natAbs : Int) = x by omega]
    have r0 := Int.emod_nonneg x (show y ≠ 0 by omega)
    unfold rndF rnd upQ
    generalize x / y = q at *
    generalize x % y = r at *
    by_cases hr : r = 0
    · simp [hr]
    · simp only [if_neg hr]
      rcases (show m = 0 ∨ m = 1 ∨ m = 2 ∨ m = 3 ∨ m = 4 by omega) with h | h | h | h | h <;> subst h <;> simp [hx] <;> (repeat' split) <;> omega
theorem rnd_bd (neg : Bool) {q r d m : Int} (hq : 0 ≤ q) : q ≤ ((rnd neg q r d m).natAbs : Int) ∧ ((rnd neg q r d m).natAbs : Int) ≤ q + 1 ∧ (r = 0 → ((rnd neg q r d m).natAbs : Int) = q) := by
  unfold rnd
  cases neg <;> simp only [Bool.false_eq_true, if_false, if_true] <;> (repeat' split) <;> omega
theorem rounded_ok (neg : Bool) {hi lo d m : Int} (h0 : 0 ≤ hi) (h1 : hi < 18446744073709551616) (l0 : 0 ≤ lo) (l1 : lo < 18446744073709551616) (d0 : 0 < d) (d1 : d ≤ 9223372036854775807) :
    Ev (fun k => num_rounded.f k neg hi lo d m) (if (hi * 18446744073709551616 + lo) / d ≤ 4611686018427387904 then (rnd neg ((hi * 18446744073709551616 + lo) / d) ((hi * 18446744073709551616 + lo) % d) d m, true) else (0, false)) := by
  unfold num_rounded.f
  obtain ⟨N, hN⟩ : ∃ N : Int, N = hi * 18446744073709551616 + lo := ⟨_, rfl⟩
  have q0 : 0 ≤ N / d := Int.ediv_nonneg (by omega) (by omega)
  have e := Int.mul_ediv_add_emod N d
  have r0 := Int.emod_nonneg N (show d ≠ 0 by omega)
  have r1 := Int.emod_lt_of_pos N d0
  by_cases c : hi ≥ d
  · have : ¬ N / d ≤ 4611686018427387904 := by
      intro h
      have : N / d < 18446744073709551616 := by omega
      have : N < 18446744073709551616 * d := Int.lt_mul_of_ediv_lt d0 this
      omega
    rw [← hN]
    simp only [if_pos c, if_neg this]
    exact Ev.now _
  · simp only [if_neg c]
    refine Ev.bind (div64_ok h0 (by omega) (by omega) l0 l1) ?_
    rw [← hN]
    by_cases c2 : N / d ≤ 4611686018427387904
    · have A := away_ok neg (q := N / d) (r := N % d) (d := d) (m := m) q0 r0 r1 d1
      simp only [if_neg (show ¬ N / d > 4611686018427387904 by omega), A, Option.bind_some, if_pos c2]
      generalize N / d = q at *
      generalize N % d = r at *
      have e1 : (if (if r = 0 then false else if m = 0 then neg else if m = 1 then !neg else if m = 2 then false else if d < 2 * r then true else if 2 * r < d then false else if m = 3 then !neg else decide (q % 2 = 1)) = true then (if neg = true then some (wrap64 (-(wrap64 (IntKind.u64.wrap (q + 1)))), true) else some (wrap64 (IntKind.u64.wrap (q + 1)), true)) else (if neg = true then some (wrap64 (-(wrap64 q)), true) else some (wrap64 q, true))) = some (rnd neg q r d m, true) := by
        rw [wu (x := q + 1) (by omega) (by omega), w64 (x := q + 1) (by omega) (by omega), w64 (x := q) (by omega) (by omega), w64 (x := -(q + 1)) (by omega) (by omega), w64 (x := -q) (by omega) (by omega)]
        unfold rnd
        cases neg <;> simp only [Bool.false_eq_true, if_false, if_true, Bool.not_true, Bool.not_false, decide_eq_true_eq] <;> (repeat' split) <;> simp_all
      rw [e1]
      exact Ev.now _
    · simp only [if_pos (show N / d > 4611686018427387904 by omega), if_neg c2]
      exact Ev.now _
end Go.Proofs.Num
