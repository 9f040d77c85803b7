/- Part 6 of the proof of NumNearest. -/
import Derived.Test.YtdjnneflpkllmaaDoorMNumNearest5

namespace Go.Proofs.Num
open Go.RowKit Go.Proofs.YtdjnneflpkllmaaDoorW.PrintWords Go.Proofs.YtdjnneflpkllmaaDoorW.PrintMore Go.Proofs.YtdjnneflpkllmaaDoor.Q
set_option linter.unusedVariables false
set_option linter.unusedSimpArgs false
theorem minus_ok {a b : Bool} {l m : List Int} {x y : Int} (R : Rep a l x) (S : Rep b m y) (hs : l.length ≤ 900) (hs2 : m.length ≤ 900) : ∃ r, Ev (fun k => merinoref01_Minus.f k a l b m) (decide (x - y < 0), r) ∧ Rep (decide (x - y < 0)) r (x - y) ∧ r.length ≤ max l.length m.length + 1 := by
  unfold merinoref01_Minus.f
  obtain ⟨r1, E1, R1, l1⟩ := neg_big_ok S (by omega)
  obtain ⟨r2, E2, R2, l2⟩ := plus_ok R R1 hs (by omega)
  rw [show x + -y = x - y by omega] at E2 R2
  exact ⟨r2, Ev.bind E1 (Ev.bind E2 (Ev.now _)), R2, by omega⟩
def I64 (x : Int) : Prop := -9223372036854775808 ≤ x ∧ x ≤ 9223372036854775807
theorem off_ok {n d p q : Int} (hn : I64 n) (hd : I64 d) (hp : I64 p) (hq : I64 q) : ∃ r, Ev (fun k => merinolaw01_off.f k n d p q) (false, r) ∧ Rep false r ((n * q - p * d).natAbs : Int) ∧ r.length ≤ 11 := by
  unfold merinolaw01_off.f
  obtain ⟨r1, E1, R1, l1⟩ := of_ok hn.1 hn.2
  obtain ⟨r2, E2, R2, l2⟩ := of_ok hq.1 hq.2
  obtain ⟨r3, E3, R3, l3⟩ := times_ok R1 R2 (by omega)
  obtain ⟨r4, E4, R4, l4⟩ := of_ok hp.1 hp.2
  obtain ⟨r5, E5, R5, l5⟩ := of_ok hd.1 hd.2
  obtain ⟨r6, E6, R6, l6⟩ := times_ok R4 R5 (by omega)
  obtain ⟨r7, E7, R7, l7⟩ := minus_ok R3 R6 (by omega) (by omega)
  obtain ⟨r8, E8, R8, l8⟩ := neg_big_ok R7 (by omega)
  generalize n * q - p * d = x at *
  by_cases c : x < 0
  · have e : decide (-x < 0) = false := decide_eq_false (by omega)
    rw [e] at E8 R8
    refine ⟨r8, Ev.bind E1 (Ev.bind E2 (Ev.bind E3 (Ev.bind E4 (Ev.bind E5 (Ev.bind E6 (Ev.bind E7 ?_)))))), by rw [show (x.natAbs : Int) = -x by omega]; exact R8, by omega⟩
    simp only [decide_eq_true c, if_true]
    rw [decide_eq_true c] at E8
    exact Ev.bind E8 (Ev.now _)
  · rw [decide_eq_false c] at E7 R7
    refine ⟨r7, Ev.bind E1 (Ev.bind E2 (Ev.bind E3 (Ev.bind E4 (Ev.bind E5 (Ev.bind E6 (Ev.bind E7 ?_)))))), by rw [show (x.natAbs : Int) = x by omega]; exact R7, by omega⟩
    simp only [Bool.false_eq_true, if_false]
    exact Ev.now _
/-- What Best's answer is, in n and d themselves. -/
theorem best_near {n d M x T F : Int} {up : Bool} (hd : 1 ≤ d) (hM : 1 ≤ M) (hT : 1 ≤ T) (hTM : T ≤ M) (B : Best (n % d) d M T F up) (f1 : up = false → F = n % d * T - x * d ∧ 0 ≤ F ∧ F < d) (f2 : up = true → F = x * d - n % d * T ∧ 0 < F ∧ F ≤ d) :
    (((n * T - (n / d * T + x) * d).natAbs : Int) = F) ∧ T ≤ d ∧ ((n / d * T + x).natAbs ≤ n.natAbs) ∧ Nat.gcd (n / d * T + x).natAbs T.natAbs = 1 ∧
    ∀ p q, 1 ≤ q → q ≤ M → (F * q < ((n * q - p * d).natAbs : Int) * T ∨ (F * q = ((n * q - p * d).natAbs : Int) * T ∧ (T < q ∨ (T = q ∧ n / d * T + x ≤ p)))) := by
  have h5 : d * (n / d) + n % d = n := Int.mul_ediv_add_emod n d
  have r0 : 0 ≤ n % d := Int.emod_nonneg _ (by omega)
  have r1 : n % d < d := Int.emod_lt_of_pos _ (by omega)
  have sp : ∀ t s, n * t - (n / d * t + s) * d = n % d * t - s * d := fun t s => by
    have e : (d * (n / d) + n % d) * t = d * (n / d * t) + n % d * t := by grind
    rw [h5] at e
    have e2 : (n / d * t + s) * d = d * (n / d * t) + s * d := by grind
    omega
  have F0 : 0 ≤ F := by cases up with
    | false => exact (f1 rfl).2.1
    | true => have := (f2 rfl).2.1; omega
  have abs : ((n * T - (n / d * T + x) * d).natAbs : Int) = F := by
    rw [sp]
    cases up with
    | false => have := f1 rfl; omega
    | true => have := f2 rfl; omega
  have Td : T ≤ d := by
    rcases Int.lt_or_le d T with c | c
    · exfalso
      have := B.lowB d (n % d) hd (by omega) (by omega) (Or.inl c)
      have e : n % d * d - n % d * d = 0 := by omega
      rw [e, Int.zero_mul] at this
      have := Int.mul_nonneg F0 (show 0 ≤ d by omega)
      omega
    · exact c
  obtain ⟨P, hP⟩ : ∃ P, P = n / d * T + x := ⟨_, rfl⟩
  have PF : (up = false → n * T - P * d = F ∧ F < d) ∧ (up = true → P * d - n * T = F ∧ 0 < F ∧ F ≤ d) := by
    have := sp T x
    rw [← hP] at this
    constructor
    · intro h; have := f1 h; omega
    · intro h; have := f2 h; omega
  refine ⟨abs, Td, ?_, ?_, fun p q hq hqM => ?_⟩
  · rw [← hP]
    cases up with
    | false =>
      obtain ⟨a1, a2⟩ := PF.1 rfl
      rcases Int.lt_or_le n 0 with c | c
      · -- n T ≥ n d, so P ≥ n; P d ≤ n T < 0
        have b1 := Int.mul_le_mul_of_nonneg_left Td (show 0 ≤ -n by omega)
        have b2 : -n * T = -(n * T) := by grind
        have b3 : -n * d = -(n * d) := by grind
        have b4 : n - 1 < P := by
          refine Int.lt_of_mul_lt_mul_right (a := d) ?_ (by omega)
          rw [Int.sub_mul]; omega
        have b5 : 0 < -n * T := Int.mul_pos (by omega) (by omega)
        have b6 : P < 0 := by
          refine Int.lt_of_mul_lt_mul_right (a := d) ?_ (by omega)
          omega
        omega
      · have b1 := Int.mul_le_mul_of_nonneg_left Td c
        have b2 : P < n + 1 := by
          refine Int.lt_of_mul_lt_mul_right (a := d) ?_ (by omega)
          rw [Int.add_mul]; omega
        have b3 := Int.mul_nonneg c (show 0 ≤ T by omega)
        have b4 : -1 < P := by
          refine Int.lt_of_mul_lt_mul_right (a := d) ?_ (by omega)
          omega
        omega
    | true =>
      obtain ⟨a1, a2, a3⟩ := PF.2 rfl
      rcases Int.lt_or_le n 0 with c | c
      · have b1 := Int.mul_le_mul_of_nonneg_left Td (show 0 ≤ -n by omega)
        have b2 : -n * T = -(n * T) := by grind
        have b3 : -n * d = -(n * d) := by grind
        have b4 : n < P := by
          refine Int.lt_of_mul_lt_mul_right (a := d) ?_ (by omega)
          omega
        have b5 : 0 < -n * T := Int.mul_pos (by omega) (by omega)
        have b6 : P < 1 := by
          refine Int.lt_of_mul_lt_mul_right (a := d) ?_ (by omega)
          omega
        omega
      · have b1 := Int.mul_le_mul_of_nonneg_left Td c
        have b3 := Int.mul_nonneg c (show 0 ≤ T by omega)
        have b4 : 0 < P := by
          refine Int.lt_of_mul_lt_mul_right (a := d) ?_ (by omega)
          omega
        have b5 : P - 1 < n + 1 := by
          refine Int.lt_of_mul_lt_mul_right (a := d) ?_ (by omega)
          rw [Int.sub_mul, Int.add_mul]; omega
        -- P = n + 1 is too far
        rcases Int.lt_or_le P (n + 1) with e | e
        · omega
        · exfalso
          have e2 : P = n + 1 := by omega
          rw [e2, Int.add_mul, Int.one_mul] at a1
          have c1 : n * d ≤ n * T := by omega
          rcases Int.lt_or_eq_of_le c with g | g
          · have c2 : d ≤ T := Int.le_of_mul_le_mul_left c1 g
            have := B.lowB T (n % d) hT hTM (by rw [show T = d by omega]; omega) (Or.inr ⟨rfl, rfl⟩)
            rw [show T = d by omega, show n % d * d - n % d * d = 0 by omega, Int.zero_mul] at this
            have := Int.mul_nonneg F0 (show 0 ≤ d by omega)
            omega
          · have n0 : n % d = 0 := by rw [← g]; simp
            have := B.lowB 1 0 (by omega) hM (by rw [n0]; omega) (by rcases Int.lt_or_eq_of_le hT with z | z; exact Or.inl z; exact Or.inr ⟨z, rfl⟩)
            rw [n0] at this
            omega
  · rw [← hP]
    obtain ⟨g, hg⟩ : ∃ g, g = Nat.gcd P.natAbs T.natAbs := ⟨_, rfl⟩
    rw [← hg]
    have g1 : 0 < g := by rw [hg]; exact Nat.gcd_pos_of_pos_right _ (by omega)
    obtain ⟨a, ha⟩ : (g : Int) ∣ P := by rw [hg]; exact Int.ofNat_dvd_left.2 (Nat.gcd_dvd_left _ _)
    obtain ⟨b, hb⟩ : (g : Int) ∣ T := by rw [hg]; exact Int.ofNat_dvd_left.2 (Nat.gcd_dvd_right _ _)
    refine Classical.byContradiction (fun ne => ?_)
    have g2 : (2 : Int) ≤ g := by omega
    have b1 : 0 < b := by
      refine Int.pos_of_mul_pos_right (a := (g : Int)) (by omega) ?_ |> fun h => h
      omega
    have bT : b < T := by
      have := Int.mul_le_mul_of_nonneg_right g2 (show 0 ≤ b by omega)
      omega
    have sb := sp b (a - n / d * b)
    rw [show n / d * b + (a - n / d * b) = a by omega] at sb
    have gs : (g : Int) * (n * b - a * d) = n * T - P * d := by rw [ha, hb]; grind
    obtain ⟨y, hy⟩ : ∃ y, y = n * b - a * d := ⟨_, rfl⟩
    rw [← hy] at gs sb
    cases up with
    | false =>
      obtain ⟨a1, a2⟩ := PF.1 rfl
      have y0 : 0 ≤ y := by
        refine Int.le_of_mul_le_mul_left (a := (g : Int)) ?_ (by omega)
        omega
      have := B.lowB b (a - n / d * b) (by omega) (by omega) (by omega) (Or.inl bT)
      rw [← sb, hb] at this
      have e : y * ((g : Int) * b) = (g : Int) * y * b := by grind
      have e3 : F * b = (g : Int) * y * b := by rw [show F = (g : Int) * y by omega]
      omega
    | true =>
      obtain ⟨a1, a2, a3⟩ := PF.2 rfl
      have y0 : y < 0 := by
        refine Int.lt_of_mul_lt_mul_left (a := (g : Int)) ?_ (by omega)
        omega
      have := B.highB b (a - n / d * b) (by omega) (by omega) (by omega) bT
      rw [show (a - n / d * b) * d - n % d * b = -y by omega, hb] at this
      have e : -y * ((g : Int) * b) = -((g : Int) * y) * b := by grind
      have e3 : F * b = -((g : Int) * y) * b := by rw [show F = -((g : Int) * y) by omega]
      omega
  · obtain ⟨s, hs⟩ : ∃ s, s = p - n / d * q := ⟨_, rfl⟩
    have sq := sp q s
    rw [show n / d * q + s = p by omega] at sq
    rw [sq]
    have big : ∀ {G : Int}, 0 < T → F < G → F * T < G * T := fun h0 h => Int.mul_lt_mul_of_pos_right h h0
    rcases Int.lt_or_le (n % d * q - s * d) 0 with c | c
    · rw [show ((n % d * q - s * d).natAbs : Int) = s * d - n % d * q by omega]
      rcases Int.lt_trichotomy q T with e | e | e
      · exact Or.inl (B.highB q s hq hqM (by omega) e)
      · subst e
        cases up with
        | false =>
          have h := B.highA q s hq hqM (by omega) (Or.inr ⟨rfl, rfl⟩)
          rcases Int.lt_or_eq_of_le h with h | h
          · exact Or.inl h
          · refine Or.inr ⟨h, Or.inr ⟨rfl, ?_⟩⟩
            have := f1 rfl
            have : x < s := Int.lt_of_mul_lt_mul_right (a := d) (by omega) (by omega)
            omega
        | true =>
          obtain ⟨a1, a2, a3⟩ := f2 rfl
          have xs : x - 1 < s := by
            refine Int.lt_of_mul_lt_mul_right (a := d) ?_ (by omega)
            rw [Int.sub_mul]; omega
          rcases Int.lt_or_eq_of_le (show x ≤ s by omega) with g | g
          · refine Or.inl (big (by omega) ?_)
            have := Int.mul_lt_mul_of_pos_right g (show 0 < d by omega)
            omega
          · subst g
            exact Or.inr ⟨by rw [a1], Or.inr ⟨rfl, by omega⟩⟩
      · have h := B.highA q s hq hqM (by omega) (Or.inl e)
        rcases Int.lt_or_eq_of_le h with h | h
        · exact Or.inl h
        · exact Or.inr ⟨h, Or.inl e⟩
    · rw [show ((n % d * q - s * d).natAbs : Int) = n % d * q - s * d by omega]
      rcases Int.lt_trichotomy q T with e | e | e
      · exact Or.inl (B.lowB q s hq hqM c (Or.inl e))
      · subst e
        cases up with
        | true => exact Or.inl (B.lowB q s hq hqM c (Or.inr ⟨rfl, rfl⟩))
        | false =>
          obtain ⟨a1, a2, a3⟩ := f1 rfl
          have xs : s < x + 1 := by
            refine Int.lt_of_mul_lt_mul_right (a := d) ?_ (by omega)
            rw [Int.add_mul]; omega
          rcases Int.lt_or_eq_of_le (show s ≤ x by omega) with g | g
          · refine Or.inl (big (by omega) ?_)
            have := Int.mul_lt_mul_of_pos_right g (show 0 < d by omega)
            omega
          · subst g
            exact Or.inr ⟨by rw [a1], Or.inr ⟨rfl, by omega⟩⟩
      · have h := B.lowA q s hq hqM c e
        rcases Int.lt_or_eq_of_le h with h | h
        · exact Or.inl h
        · exact Or.inr ⟨h, Or.inl e⟩
theorem nearest_ok {n d M p q : Int} (hp : I64 p) (hq : I64 q) : Ev (fun k => merinolaw01_NumNearest.f k n d M p q) true := by
  unfold merinolaw01_NumNearest.f
  have al : ∀ (e P T : Int), ((P == 0 && (T == 0)) == (e != 0)) = true → Ev (fun k => merinolaw01_NumNearest.j0 k n d M p q e true P T) true := fun e P T h =>
    Ev.step (f := fun _ => some true) (fun k => by rw [merinolaw01_NumNearest.j0, if_pos rfl, if_pos h]; rfl) (Ev.now _)
  by_cases h : bestOk n d M
  · obtain ⟨x, T, F, up, E, hT, hTM, B, f1, f2⟩ := best_ok h
    obtain ⟨h1, h2, h3, h4, h5, h6⟩ := h
    obtain ⟨ab, Td, Pn, gc, near⟩ := best_near h3 h5 hT hTM B f1 f2
    refine Ev.bind E ?_
    obtain ⟨P, hP⟩ : ∃ P, P = n / d * T + x := ⟨_, rfl⟩
    rw [← hP] at ab Pn gc near ⊢
    have noz : ((P == 0 && (T == 0)) == ((0 : Int) != 0)) = true := by
      have : (T == 0) = false := beq_eq_false_iff_ne.mpr (by omega)
      rw [this]; simp
    simp only [if_true]
    by_cases c1 : q < 1
    · simp only [if_pos c1]; exact al _ _ _ noz
    · simp only [if_neg c1]
      by_cases c2 : q > M
      · simp only [decide_eq_true c2]; exact al _ _ _ noz
      · simp only [decide_eq_false c2]
        obtain ⟨r1, E1, R1, l1⟩ := off_ok (n := n) (d := d) (p := P) (q := T) ⟨by omega, by omega⟩ ⟨by omega, by omega⟩ ⟨by omega, by omega⟩ ⟨by omega, by omega⟩
        rw [ab] at R1
        obtain ⟨r2, E2, R2, l2⟩ := of_ok hq.1 hq.2
        obtain ⟨r3, E3, R3, l3⟩ := times_ok R1 R2 (by omega)
        obtain ⟨r4, E4, R4, l4⟩ := off_ok (n := n) (d := d) ⟨by omega, by omega⟩ ⟨by omega, by omega⟩ hp hq
        obtain ⟨r5, E5, R5, l5⟩ := of_ok (x := T) (by omega) (by omega)
        obtain ⟨r6, E6, R6, l6⟩ := times_ok R4 R5 (by omega)
        have C := compare_ok R3 R6 (by omega)
        have V := valid_ok P T
        have v : valid P T := ⟨hT, by omega, by omega, by omega, gc⟩
        rw [decide_eq_true v] at V
        have nr := near p q (by omega) (by omega)
        refine Ev.step (f := fun k => ((merinolaw01_off.f k n d P T).bind fun bt333 => ((merinoref01_Of.f k q).bind fun bt337 => ((merinoref01_Times.f k bt333.1 bt333.2 bt337.1 bt337.2).bind fun bt341 => ((merinolaw01_off.f k n d p q).bind fun bt346 => ((merinoref01_Of.f k T).bind fun bt350 => ((merinoref01_Times.f k bt346.1 bt346.2 bt350.1 bt350.2).bind fun bt354 => ((merinoref01_Compare.f k bt341.1 bt341.2 bt354.1 bt354.2).bind fun t359 => ((num_Valid.f k P T).bind fun t360 => (if t360 = true then (if T ≤ M then (if t359 < 0 then ((merinolaw01_alive.f).bind fun t361 => (some t361)) else (if t359 = 0 then (if T < q then ((merinolaw01_alive.f).bind fun t362 => (some t362)) else (if T = q then (if P ≤ p then ((merinolaw01_alive.f).bind fun t363 => (some t363)) else (none)) else (none))) else (none))) else (none)) else (none))))))))))) (fun k => by rw [merinolaw01_NumNearest.j0, if_neg (by decide)])
          (Ev.bind E1 (Ev.bind E2 (Ev.bind E3 (Ev.bind E4 (Ev.bind E5 (Ev.bind E6 (Ev.bind C (Ev.bind V ?_))))))))
        have al2 : merinolaw01_alive.f = some true := rfl
        simp only [if_true, if_pos hTM, al2, Option.bind_some]
        rcases nr with h | ⟨h, g⟩
        · have : cmpI (F * q) (((n * q - p * d).natAbs : Int) * T) < 0 := by unfold cmpI; rw [if_pos h]; omega
          simp only [if_pos this]
          exact Ev.now _
        · have e : cmpI (F * q) (((n * q - p * d).natAbs : Int) * T) = 0 := by unfold cmpI; rw [if_neg (by omega)]; split <;> omega
          simp only [e, if_neg (show ¬ (0 : Int) < 0 by omega), if_true]
          rcases g with g | ⟨g, g2⟩
          · simp only [if_pos g]; exact Ev.now _
          · simp only [if_neg (show ¬ T < q by omega), if_pos g, if_pos g2]; exact Ev.now _
  · have hj : ∀ k, num_Best.j0 (k + 1) n d M true = some (0, 0, 2) := fun k => by rw [num_Best.j0, if_pos rfl]
    have E : Ev (fun k => num_Best.f k n d M) (0, 0, 2) := Ev.step (f := fun _ => some (0, 0, 2)) (fun k => by
      unfold num_Best.f
      (repeat' split) <;> first | exact hj k | (rw [decide_eq_true (by unfold bestOk at h; omega)]; exact hj k)) (Ev.now _)
    refine Ev.bind E ?_
    simp only [if_neg (show ¬ (2 : Int) = 0 by omega)]
    exact al _ _ _ (by decide)
theorem walk_NumNearest (n d M : Int) {p q : Int} (hp : -9223372036854775808 ≤ p ∧ p ≤ 9223372036854775807) (hq : -9223372036854775808 ≤ q ∧ q ≤ 9223372036854775807) (w : World) :
    Calls Tryd.prog 4 #[.int .i64 n, .int .i64 d, .int .i64 M, .int .i64 p, .int .i64 q] w fun e w' => e = .returned (.bool true) ∧ Below w.heap.size w w' := by
  obtain ⟨k, h⟩ := (nearest_ok (n := n) (d := d) (M := M) hp hq).rounds
  exact merinolaw01_NumNearest.calls k n d M p q true w h
end Go.Proofs.Num
