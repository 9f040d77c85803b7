/- The reference's ParseDecimal: what it comes to; num.digits walked. -/
import Derived.Test.YtdjnneflpkllmaaGreatDoorPd2
import Derived.Test.YtdjnneflpkllmaaGreatDoorEnv
import Derived.Laws.RangeAny
import Derived.LoopN
import Derived.Deep.LoopGhost
namespace Go.Proofs.Num
open Go.RowKit Go.Proofs.YtdjnneflpkllmaaGreatDoorW.PrintWords Go.Proofs.YtdjnneflpkllmaaGreatDoorW.PrintLast Go.Proofs.YtdjnneflpkllmaaGreatDoorW.PrintMore Go.Proofs.YtdjnneflpkllmaaGreatDoor.Q
set_option linter.unusedVariables false
set_option linter.unusedSimpArgs false
theorem pd_l0 {l : List UInt8} (hlen : l.length ≤ 9000000000000000000) (hn : 0 < l.length) : ∀ (c i n : Nat), l.length - i = c → i ≤ l.length → n ≤ 1125899906842624 →
    Ev (fun k => merinoref01_ParseDecimal.l0 k (ba l) (n : Int) (i : Int)) (if 1125899906842624 < natD ((l.drop i).filter isD) n then (0, 4) else (if negB l then -(natD ((l.drop i).filter isD) n : Int) else (natD ((l.drop i).filter isD) n : Int), 0)) := by
  intro c
  induction c with
  | zero =>
    intro i n hc hi hb
    obtain rfl : i = l.length := by omega
    rw [List.drop_length, List.filter_nil, natD, if_neg (by omega)]
    refine Ev.step (f := fun _ => some (if negB l then -(n : Int) else (n : Int), 0)) (fun k => ?_) (Ev.now _)
    rw [merinoref01_ParseDecimal.l0, if_neg (by rw [ba_size]; omega), if_pos (by rw [ba_size]; omega)]
    have hh : (bt (ba l) 0 = 45) ↔ l.head? = some 45 := head_bt hn 45
    unfold negB
    by_cases h : l.head? = some 45
    · rw [if_pos (hh.2 h), decide_eq_true h, if_pos rfl, w64 (by omega) (by omega)]
    · rw [if_neg (fun g => h (hh.1 g)), decide_eq_false h, if_neg (by decide)]
  | succ c ih =>
    intro i n hc hi hb
    have hlt : i < l.length := by omega
    have ed : l.drop i = l[i] :: l.drop (i + 1) := List.drop_eq_getElem_cons hlt
    have eb : bt (ba l) (i : Int) = (l[i].toNat : Int) := by rw [ba_bt, List.getD_eq_getElem?_getD, List.getElem?_eq_getElem hlt]; rfl
    have wi : wrap64 ((i : Int) + 1) = ((i + 1 : Nat) : Int) := by rw [w64 (by omega) (by omega)]; omega
    obtain ⟨b, hbb⟩ : ∃ b, b = l[i].toNat := ⟨_, rfl⟩
    rw [← hbb] at eb
    have b255 : b < 256 := by rw [hbb]; exact l[i].toNat_lt
    rw [ed]
    by_cases dg : isD l[i] = true
    · have d2 := isD_iff.1 dg
      rw [List.filter_cons_of_pos dg, natD]
      rw [← hbb] at d2 ⊢
      have wm : wrap64 (wrap64 (10 * (n : Int)) + (((b : Int) - 48) % 256)) = ((10 * n + (b - 48) : Nat) : Int) := by
        rw [w64 (x := 10 * (n : Int)) (by omega) (by omega), show ((b : Int) - 48) % 256 = (b : Int) - 48 by omega, w64 (by omega) (by omega)]
        omega
      have two : ∀ k, merinoref01_ParseDecimal.j2 (k + 1) (ba l) (n : Int) (i : Int) false = if ((10 * n + (b - 48) : Nat) : Int) > 1125899906842624 then some (0, 4) else merinoref01_ParseDecimal.l0 k (ba l) ((10 * n + (b - 48) : Nat) : Int) ((i + 1 : Nat) : Int) := fun k => by
        rw [merinoref01_ParseDecimal.j2, if_neg (by decide), if_pos (by omega), if_pos (by rw [ba_size]; omega), eb, wm, wi]
      refine Ev.step (f := fun k => merinoref01_ParseDecimal.j2 k (ba l) (n : Int) (i : Int) false) (fun k => ?_) ?_
      · rw [merinoref01_ParseDecimal.l0, if_pos (by rw [ba_size]; omega), if_pos (by omega), eb, if_neg (by omega), decide_eq_false (by omega)]
      · by_cases big : 1125899906842624 < 10 * n + (b - 48)
        · have := natD_ge ((l.drop (i + 1)).filter isD) (10 * n + (b - 48))
          rw [if_pos (by omega)]
          exact Ev.step (f := fun _ => some (0, 4)) (fun k => by rw [two, if_pos (by omega)]) (Ev.now _)
        · exact Ev.step (f := fun k => merinoref01_ParseDecimal.l0 k (ba l) ((10 * n + (b - 48) : Nat) : Int) ((i + 1 : Nat) : Int)) (fun k => by rw [two, if_neg (by omega)]) (ih (i + 1) _ (by omega) (by omega) (by omega))
    · rw [List.filter_cons_of_neg dg]
      have E := ih (i + 1) n (by omega) (by omega) hb
      have nd : ¬ (48 ≤ b ∧ b ≤ 57) := fun g => dg (isD_iff.2 (by rw [← hbb]; exact g))
      refine Ev.step (f := fun k => merinoref01_ParseDecimal.j2 k (ba l) (n : Int) (i : Int) true) (fun k => ?_) (Ev.step (f := fun k => merinoref01_ParseDecimal.l0 k (ba l) (n : Int) ((i + 1 : Nat) : Int)) (fun k => by rw [merinoref01_ParseDecimal.j2, if_pos rfl, wi]) E)
      rw [merinoref01_ParseDecimal.l0, if_pos (by rw [ba_size]; omega), if_pos (by omega), eb]
      by_cases h1 : (b : Int) < 48
      · rw [if_pos h1]
      · rw [if_neg h1, decide_eq_true (by omega)]
theorem filter_all {l : List UInt8} (h : l.all isD = true) : l.filter isD = l := List.filter_eq_self.2 (fun x hx => List.all_eq_true.1 h x hx)
theorem filter_rest (l : List UInt8) : l.filter isD = (rest l).filter isD := by
  unfold rest
  by_cases h : l.head? = some 45
  · rw [if_pos h]
    cases l with
    | nil => rfl
    | cons c r =>
      rw [List.head?_cons] at h
      rw [Option.some.inj h, List.filter_cons_of_neg (by decide)]
      rfl
  · rw [if_neg h]
theorem filter_digs {r : List UInt8} {p : Nat} (h : okP r p) : r.filter isD = digs r := by
  unfold okP at h
  unfold digs
  rcases cut_cases 46 r with ⟨a, b, h1, rfl⟩ | h1
  · rw [cut_hit h1] at h ⊢
    obtain ⟨-, -, h3, -⟩ := h
    rw [List.all_append, Bool.and_eq_true] at h3
    rw [List.filter_append, List.filter_cons_of_neg (by decide), filter_all h3.1, filter_all h3.2]
  · rw [cut_miss h1] at h ⊢
    obtain ⟨-, -, h3, -⟩ := h
    simp only [List.append_nil] at h3 ⊢
    exact filter_all h3
def pdR (l : List UInt8) (p : Int) : Int × Int := if p < 0 ∨ 9 < p then (0, 2) else pdV l p.toNat
theorem rpd_ok {l : List UInt8} (hlen : l.length ≤ 9000000000000000) (p : Int) : Ev (fun k => merinoref01_ParseDecimal.f k (ba l) p) (pdR l p) := by
  unfold merinoref01_ParseDecimal.f pdR
  have bad : Ev (fun k => merinoref01_ParseDecimal.j0 k (ba l) p true) (0, 2) := Ev.step (f := fun _ => some (0, 2)) (fun k => by rw [merinoref01_ParseDecimal.j0, if_pos rfl]) (Ev.now _)
  by_cases c1 : p < 0
  · rw [if_pos (Or.inl c1)]
    simp only [if_pos c1]
    exact bad
  · by_cases c2 : p > 9
    · rw [if_pos (Or.inr c2)]
      simp only [if_neg c1, decide_eq_true c2]
      exact bad
    · rw [if_neg (by omega)]
      simp only [if_neg c1, decide_eq_false c2]
      obtain ⟨q, rfl⟩ : ∃ q : Nat, p = (q : Int) := ⟨p.toNat, by omega⟩
      rw [Int.toNat_natCast]
      have F := form_ok hlen (p := q) (by omega)
      refine Ev.step (f := fun k => (merinoref01_form.f k (ba l) (q : Int)).bind fun t => (if t = true then (merinoref01_ParseDecimal.l0 k (ba l) 0 0) else (some (0, 6)))) (fun k => by rw [merinoref01_ParseDecimal.j0, if_neg (by decide)]) (Ev.bind F ?_)
      unfold formV pdV
      by_cases ok : okP (rest l) q
      · rw [decide_eq_true ok, Bool.true_and, if_pos ok]
        have hne : 0 < l.length := by
          cases l with
          | nil => exact absurd (show Lib.cut (rest []) [46] = ([], [], false) from cut_miss (by decide)) (fun g => by unfold okP at ok; rw [g] at ok; exact ok.2.2.2.1 rfl)
          | cons c r => simp
        have E := pd_l0 (l := l) (by omega) hne l.length 0 0 (by omega) (by omega) (by omega)
        rw [List.drop_zero, filter_rest, filter_digs ok] at E
        by_cases z : natD (digs (rest l)) 0 = 0
        · rw [if_pos z]
          rw [z] at E ⊢
          cases negB l with
          | true => exact Ev.now _
          | false => simpa using E
        · rw [if_neg z]
          have z2 : (natD (digs (rest l)) 0 == 0) = false := beq_eq_false_iff_ne.mpr z
          simp only [z2, Bool.not_false, Bool.or_true, if_true]
          exact E
      · rw [decide_eq_false ok, Bool.false_and, if_neg ok]
        simp only [Bool.false_eq_true, if_false]
        exact Ev.now _
/-! num.digits -/
def isDec (l : List UInt8) : Bool := !l.isEmpty && l.all isD
set_option maxHeartbeats 3200000 in
set_option maxRecDepth 100000 in
theorem digits_any (s : ByteArray) (hs : s.size ≤ 1000000000) (w : World) : Calls Tryz.prog 31 #[.string s] w fun e w' => e = .returned (.bool (isDec s.data.toList)) ∧ Below w.heap.size w w' := by
  have ba0 : Aside0 (∀ i, Below w.heap.size w (w.iter s i)) := ⟨fun i => (Below.refl _ _).alloc (Nat.le_refl _) _⟩
  go_enter Tryz.func31, Tryz.ntmps31
  go_wp2
  go_loopg [4] s.size (fun kx v4 wr => ∃ i : Nat, wr = w.iter s i ∧ i ≤ s.size ∧ s.size - i ≤ kx ∧ ∀ j (h : j < s.size), j < i → isD s[j] = true)
  case atStart => exact ⟨0, rfl, Nat.zero_le _, by omega, fun j h g => by omega⟩
  case round =>
    obtain ⟨i, rfl, hin, hkx, hd⟩ := hrel
    by_cases hi : i < s.size
    · by_cases dg : isD s[i] = true
      · have d2 := isD_iff.1 dg
        have hnx := fun ty => run_next_ascii (P := Tryz.prog) w s i ty hi (by omega)
        have e1 : decide (((s[i].toNat : Nat) : Int) < 48) = false := decide_eq_false (by omega)
        have e2 : decide (((s[i].toNat : Nat) : Int) > 57) = false := decide_eq_false (by omega)
        have HD := Aside0.mk hd
        clear hd
        go_wp2
        go_roundg (s.size - (i + 1))
        case measure => omega
        case rel => exact ⟨i + 1, rfl, hi, Nat.le_refl _, fun j h g => by
          rcases Nat.lt_or_ge j i with q | q
          · exact HD.out j h q
          · obtain rfl : j = i := by omega
            exact dg⟩
      · have hall : isDec s.data.toList = false := by
          unfold isDec
          rw [Bool.and_eq_false_iff]
          right
          rw [List.all_eq_false]
          refine ⟨s[i], ?_, dg⟩
          have : s[i] = s.data.toList[i]'(by rw [Array.length_toList]; exact hi) := by rw [Array.getElem_toList]; rfl
          rw [this]
          exact List.getElem_mem _
        have HALL := Aside0.mk hall
        clear hall
        have hnx := fun ty => run_next_any (P := Tryz.prog) w s i ty hi
        have nr : ¬ (48 ≤ (Utf8.decode s i).1 ∧ (Utf8.decode s i).1 ≤ 57) := by
          by_cases ha : s[i].toNat < 128
          · rw [decode_ascii s i hi ha]
            exact fun g => dg (isD_iff.2 g)
          · have := (decode_high s i hi (by omega)).1
            omega
        obtain ⟨r, hr⟩ : ∃ r, r = (Utf8.decode s i).1 := ⟨_, rfl⟩
        rw [← hr] at nr hnx
        have B := ba0.out (i + (Utf8.decode s i).2)
        clear hd hr
        by_cases h1 : r < 48
        · have e1 : decide ((r : Int) < 48) = true := decide_eq_true (by omega)
          go_wp2
          go_ret
          exact ⟨by rw [HALL.out]; rfl, B⟩
        · have e1 : decide ((r : Int) < 48) = false := decide_eq_false (by omega)
          have e2 : decide ((r : Int) > 57) = true := decide_eq_true (by omega)
          go_wp2
          go_ret
          exact ⟨by rw [HALL.out]; rfl, B⟩
    · obtain rfl : i = s.size := by omega
      have hnx := fun ty => run_next_end (P := Tryz.prog) w s s.size ty hi
      have hall : isDec s.data.toList = !s.toList.isEmpty := by
        unfold isDec
        have : s.data.toList.all isD = true := List.all_eq_true.2 (fun x hx => by
          obtain ⟨j, hj, rfl⟩ := List.mem_iff_getElem.1 hx
          have hj2 : j < s.size := by rw [Array.length_toList] at hj; exact hj
          have := hd j hj2 hj2
          rw [Array.getElem_toList]
          exact this)
        rw [this, Bool.and_true, ByteArray.toList_eq]
      have HALL := Aside0.mk hall
      have B := ba0.out s.size
      clear hd hall
      go_wp2
      go_ret
      exact ⟨by rw [HALL.out]; rfl, B⟩
end Go.Proofs.Num
