/- The reference's form and ParseDecimal: what they come to. -/
import Derived.Test.YtdjnneflpkllmaaGreatDoorPd
namespace Go.Proofs.Num
open Go.RowKit Go.Proofs.YtdjnneflpkllmaaGreatDoorW.PrintWords Go.Proofs.YtdjnneflpkllmaaGreatDoorW.PrintMore Go.Proofs.YtdjnneflpkllmaaGreatDoor.Q
set_option linter.unusedVariables false
set_option linter.unusedSimpArgs false
theorem zeroF_all : ∀ (l : List UInt8) (z : Bool), zeroF l z = (z && l.all (· == 48))
  | [], z => by simp [zeroF]
  | c :: r, z => by rw [zeroF, zeroF_all r, List.all_cons, Bool.and_assoc]
theorem natD_all {l : List UInt8} (hd : l.all isD = true) : (natD l 0 == 0) = zeroF l true := by
  rw [zeroF_all, Bool.true_and]
  induction l with
  | nil => rfl
  | cons c r ih =>
    rw [List.all_cons, Bool.and_eq_true] at hd
    rw [natD, List.all_cons]
    by_cases h : c = 48
    · subst h
      have := ih hd.2
      simpa using this
    · have h1 := isD_iff.1 hd.1
      have h2 : c.toNat ≠ 48 := fun g => h (UInt8.toNat_inj.1 g)
      have p := natD_pos r (10 * 0 + (c.toNat - 48)) (by omega)
      have e1 : (c == 48) = false := beq_eq_false_iff_ne.mpr h
      rw [e1, Bool.false_and, beq_eq_false_iff_ne]
      omega
theorem form_l1 {l : List UInt8} (hlen : l.length ≤ 9000000000000000000) (neg : Bool) {h : Nat} (hh : h < l.length) : ∀ (c i : Nat) (z : Bool), h - i = c → i ≤ h →
    Ev (fun k => merinoref01_form.l0 k (ba l) neg (h : Int) z (i : Int)) (if ((l.take h).drop i).all isD && (l.drop (h + 1)).all isD then (!neg || !(zeroF ((l.take h).drop i ++ l.drop (h + 1)) z)) else false) := by
  intro c
  induction c with
  | zero =>
    intro i z hc hi
    obtain rfl : i = h := by omega
    have e : (l.take i).drop i = [] := by simp
    rw [e, List.all_nil, Bool.true_and, List.nil_append]
    have E := form_l0 hlen neg (i : Int) (l.length - (i + 1)) (i + 1) z rfl (by omega) (Or.inr (by omega))
    refine Ev.step (f := fun k => merinoref01_form.l0 k (ba l) neg (i : Int) z ((i + 1 : Nat) : Int)) (fun k => ?_) E
    rw [merinoref01_form.l0, if_pos (by rw [ba_size]; omega), if_pos rfl, w64 (by omega) (by omega)]
    rfl
  | succ c ih =>
    intro i z hc hi
    have hlt : i < l.length := by omega
    have hi2 : i < (l.take h).length := by rw [List.length_take]; omega
    have ed : (l.take h).drop i = l[i] :: (l.take h).drop (i + 1) := by
      rw [List.drop_eq_getElem_cons hi2]
      congr 1
      exact List.getElem_take
    have eb : bt (ba l) (i : Int) = (l[i].toNat : Int) := by rw [ba_bt, List.getD_eq_getElem?_getD, List.getElem?_eq_getElem hlt]; rfl
    have wi : wrap64 ((i : Int) + 1) = ((i + 1 : Nat) : Int) := by rw [w64 (by omega) (by omega)]; omega
    rw [ed, List.all_cons, List.cons_append, zeroF]
    have first : ∀ k, merinoref01_form.l0 (k + 1) (ba l) neg (h : Int) z (i : Int) = if (l[i].toNat : Int) < 48 then some false else if (l[i].toNat : Int) > 57 then some false else if z = true then merinoref01_form.l0 k (ba l) neg (h : Int) ((l[i].toNat : Int) == 48) ((i + 1 : Nat) : Int) else merinoref01_form.l0 k (ba l) neg (h : Int) false ((i + 1 : Nat) : Int) := by
      intro k
      rw [merinoref01_form.l0, if_pos (by rw [ba_size]; omega), if_neg (by omega), if_pos (by omega), eb, wi]
    by_cases dg : isD l[i] = true
    · have d2 := isD_iff.1 dg
      have E := ih (i + 1) (z && l[i] == 48) (by omega) (by omega)
      rw [dg, Bool.true_and]
      refine Ev.step (f := fun k => merinoref01_form.l0 k (ba l) neg (h : Int) (z && l[i] == 48) ((i + 1 : Nat) : Int)) (fun k => ?_) E
      rw [first, if_neg (by omega), if_neg (by omega)]
      have e8 : ((l[i].toNat : Int) == 48) = (l[i] == 48) := by
        rw [Bool.eq_iff_iff, beq_iff_eq, beq_iff_eq]
        constructor
        · intro g; exact UInt8.toNat_inj.1 (by show l[i].toNat = 48; omega)
        · intro g; rw [g]; rfl
      cases z with
      | true => rw [if_pos rfl, e8, Bool.true_and]
      | false => rw [if_neg (by decide), Bool.false_and]
    · rw [Bool.eq_false_iff.2 dg, Bool.false_and, Bool.false_and, if_neg (by decide)]
      refine Ev.step (f := fun _ => some false) (fun k => ?_) (Ev.now _)
      rw [first]
      have : ¬ (48 ≤ l[i].toNat ∧ l[i].toNat ≤ 57) := fun g => dg (isD_iff.2 g)
      by_cases h1 : (l[i].toNat : Int) < 48
      · rw [if_pos h1]
      · rw [if_neg h1, if_pos (by omega)]
theorem okP_zero {r : List UInt8} : okP r 0 ↔ (r.all isD = true ∧ r ≠ [] ∧ ¬ (1 < r.length ∧ r.head? = some 48)) := by
  unfold okP
  rcases cut_cases 46 r with ⟨a, b, h, rfl⟩ | h
  · rw [cut_hit h]
    constructor
    · rintro ⟨g, -⟩; cases g
    · rintro ⟨g, -⟩
      exact (no46 g (by simp)).elim
  · rw [cut_miss h]
    simp
theorem digs_zero {r : List UInt8} (h : r.all isD = true) : digs r = r := by
  unfold digs
  rw [cut_miss (no46 h)]
  simp
/-- With a point: where it stands. -/
theorem okP_pos {r : List UInt8} {p h : Nat} (hp : 0 < p) (hl : r.length = h + 1 + p) : okP r p ↔ (r[h]? = some 46 ∧ (r.take h).all isD = true ∧ (r.drop (h + 1)).all isD = true ∧ 0 < h ∧ ¬ (1 < h ∧ r.head? = some 48)) := by
  unfold okP
  constructor
  · rintro ⟨g1, g2, g3, g4, g5⟩
    rcases cut_cases 46 r with ⟨a, b, h1, rfl⟩ | h1
    · rw [cut_hit h1] at g2 g3 g4 g5
      simp only at g2 g3 g4 g5
      have la : a.length = h := by simp at hl; omega
      rw [List.all_append, Bool.and_eq_true] at g3
      subst la
      refine ⟨by simp, by simpa using g3.1, ?_, List.length_pos_iff.2 g4, fun g => g5 ⟨g.1, ?_⟩⟩
      · have : (a ++ 46 :: b).drop (a.length + 1) = b := by
          rw [List.drop_append, List.drop_eq_nil_of_le (by omega), show a.length + 1 - a.length = 1 by omega]; rfl
        rw [this]; exact g3.2
      · cases a with
        | nil => exact (g4 rfl).elim
        | cons x a => simpa using g.2
    · rw [cut_miss h1] at g1
      simp only [decide_eq_true hp] at g1
      cases g1
  · rintro ⟨g1, g2, g3, g4, g5⟩
    have hlt : h < r.length := by omega
    have eh : r[h] = 46 := by rw [List.getElem?_eq_getElem hlt] at g1; exact Option.some.inj g1
    have e : r = r.take h ++ 46 :: r.drop (h + 1) := by
      rw [← eh, ← List.drop_eq_getElem_cons hlt, List.take_append_drop]
    have lt : (r.take h).length = h := by rw [List.length_take]; omega
    have cc := cut_hit (b := r.drop (h + 1)) (no46 g2)
    rw [← e] at cc
    rw [cc]
    simp only
    refine ⟨(decide_eq_true hp).symm, by rw [List.length_drop]; omega, by rw [List.all_append, g2, g3]; rfl, ?_, fun g => g5 ⟨by omega, ?_⟩⟩
    · intro z
      rw [z] at lt
      simp at lt; omega
    · have := g.2
      rw [List.head?_take, if_neg (by omega)] at this
      exact this
theorem digs_pos {r : List UInt8} {h : Nat} (hl : h < r.length) (g1 : r[h]? = some 46) (g2 : (r.take h).all isD = true) : digs r = r.take h ++ r.drop (h + 1) := by
  have eh : r[h] = 46 := by rw [List.getElem?_eq_getElem hl] at g1; exact Option.some.inj g1
  have e : r = r.take h ++ 46 :: r.drop (h + 1) := by
    rw [← eh, ← List.drop_eq_getElem_cons hl, List.take_append_drop]
  have cc := cut_hit (b := r.drop (h + 1)) (no46 g2)
  rw [← e] at cc
  unfold digs
  rw [cc]
theorem head_bt {r : List UInt8} (hr : 0 < r.length) (c : UInt8) : (bt (ba r) 0 = (c.toNat : Int)) ↔ r.head? = some c := by
  cases r with
  | nil => simp at hr
  | cons x r =>
    have e2 : bt (ba (x :: r)) 0 = (x.toNat : Int) := ba_bt (x :: r) 0
    rw [e2, List.head?_cons]
    constructor
    · intro g; rw [UInt8.toNat_inj.1 (show x.toNat = c.toNat by omega)]
    · intro g; rw [Option.some.inj g]
theorem head_48 {r : List UInt8} (hr : 0 < r.length) : (bt (ba r) 0 = 48) ↔ r.head? = some 48 := head_bt hr 48
def formV (neg : Bool) (r : List UInt8) (p : Nat) : Bool := decide (okP r p) && (!neg || !(natD (digs r) 0 == 0))
theorem form_j1 {r : List UInt8} (hlen : r.length ≤ 9000000000000000) (neg : Bool) {p : Nat} (hp : p ≤ 9) : Ev (fun k => merinoref01_form.j1 k (ba r) (p : Int) neg) (formV neg r p) := by
  have bad : ∀ h : Int, ¬ okP r p → Ev (fun k => merinoref01_form.j3 k (ba r) neg h true) (formV neg r p) := fun h g => by
    unfold formV
    rw [decide_eq_false g, Bool.false_and]
    exact Ev.step (f := fun _ => some false) (fun k => by rw [merinoref01_form.j3, if_pos rfl]) (Ev.now _)
  by_cases p0 : p = 0
  · subst p0
    have j1 : ∀ k, merinoref01_form.j1 (k + 1) (ba r) ((0 : Nat) : Int) neg = merinoref01_form.j2 k (ba r) ((0 : Nat) : Int) neg (r.length : Int) := fun k => by
      rw [merinoref01_form.j1, if_neg (by omega), ba_size]
    have good : ¬ (1 < r.length ∧ r.head? = some 48) → r ≠ [] → Ev (fun k => merinoref01_form.j3 k (ba r) neg (r.length : Int) false) (formV neg r 0) := fun g1 g2 => by
      have E := form_l0 (l := r) (by omega) neg (r.length : Int) r.length 0 true (by omega) (by omega) (Or.inl (by omega))
      rw [List.drop_zero] at E
      refine Ev.step (f := fun k => merinoref01_form.l0 k (ba r) neg (r.length : Int) true 0) (fun k => by rw [merinoref01_form.j3, if_neg (by decide)]) ?_
      unfold formV
      by_cases d : r.all isD = true
      · rw [if_pos d] at E
        rw [decide_eq_true (okP_zero.2 ⟨d, g2, g1⟩), Bool.true_and, digs_zero d, natD_all d]
        exact E
      · rw [if_neg d] at E
        rw [decide_eq_false (fun g => d (okP_zero.1 g).1), Bool.false_and]
        exact E
    refine Ev.step (f := fun k => merinoref01_form.j2 k (ba r) ((0 : Nat) : Int) neg (r.length : Int)) j1 ?_
    by_cases l1 : r.length < 1
    · exact Ev.step (f := fun k => merinoref01_form.j3 k (ba r) neg (r.length : Int) true) (fun k => by rw [merinoref01_form.j2, if_pos (by omega)]) (bad _ (fun g => (okP_zero.1 g).2.1 (List.eq_nil_of_length_eq_zero (by omega))))
    · have rne : r ≠ [] := fun g => by rw [g] at l1; simp at l1
      by_cases l2 : 1 < r.length
      · by_cases h8 : r.head? = some 48
        · refine Ev.step (f := fun k => merinoref01_form.j3 k (ba r) neg (r.length : Int) true) (fun k => ?_) (bad _ (fun g => (okP_zero.1 g).2.2 ⟨l2, h8⟩))
          rw [merinoref01_form.j2, if_neg (by omega), if_pos (by omega), if_pos (by rw [ba_size]; omega), if_pos ((head_48 (by omega)).2 h8)]
        · refine Ev.step (f := fun k => merinoref01_form.j3 k (ba r) neg (r.length : Int) false) (fun k => ?_) (good (fun g => h8 g.2) rne)
          rw [merinoref01_form.j2, if_neg (by omega), if_pos (by omega), if_pos (by rw [ba_size]; omega), if_neg (fun g => h8 ((head_48 (by omega)).1 g)), if_neg (by omega)]
      · refine Ev.step (f := fun k => merinoref01_form.j3 k (ba r) neg (r.length : Int) false) (fun k => ?_) (good (fun g => l2 g.1) rne)
        rw [merinoref01_form.j2, if_neg (by omega), if_neg (by omega), if_neg (by omega)]
  · obtain ⟨hd, hhd⟩ : ∃ hd : Int, hd = (r.length : Int) - (p : Int) - 1 := ⟨_, rfl⟩
    have j1 : ∀ k, merinoref01_form.j1 (k + 1) (ba r) (p : Int) neg = merinoref01_form.j2 k (ba r) (p : Int) neg hd := fun k => by
      rw [merinoref01_form.j1, if_pos (by omega), ba_size, w64 (x := (r.length : Int) - (p : Int)) (by omega) (by omega), w64 (by omega) (by omega), ← hhd]
    refine Ev.step (f := fun k => merinoref01_form.j2 k (ba r) (p : Int) neg hd) j1 ?_
    by_cases l1 : hd < 1
    · refine Ev.step (f := fun k => merinoref01_form.j3 k (ba r) neg hd true) (fun k => by rw [merinoref01_form.j2, if_pos l1]) (bad _ (fun g => ?_))
      unfold okP at g
      rcases cut_cases 46 r with ⟨a, b, h1, e⟩ | h1
      · rw [e, cut_hit h1] at g
        obtain ⟨-, g2, -, g4, -⟩ := g
        simp only at g2 g4
        have := List.length_pos_iff.2 g4
        rw [e] at hhd
        simp at hhd
        omega
      · rw [cut_miss h1] at g
        have := g.1
        simp only [decide_eq_true (show 0 < p by omega)] at this
        cases this
    · obtain ⟨h, rfl⟩ : ∃ h : Nat, hd = (h : Int) := ⟨hd.toNat, by omega⟩
      have hl : r.length = h + 1 + p := by omega
      have hlt : h < r.length := by omega
      have OK := okP_pos (by omega) hl
      have eb : bt (ba r) (h : Int) = (r[h].toNat : Int) := by rw [ba_bt, List.getD_eq_getElem?_getD, List.getElem?_eq_getElem hlt]; rfl
      have pt : ¬ (1 < h ∧ r.head? = some 48) → Ev (fun k => merinoref01_form.j3 k (ba r) neg (h : Int) (bt (ba r) (h : Int) != 46)) (formV neg r p) := fun g => by
        rw [eb]
        by_cases e46 : r[h] = 46
        · have e1 : (((r[h].toNat : Nat) : Int) != 46) = false := by rw [e46]; rfl
          rw [e1]
          have eo : r[h]? = some 46 := by rw [List.getElem?_eq_getElem hlt, e46]
          have E := form_l1 (l := r) (by omega) neg hlt h 0 true (by omega) (by omega)
          rw [List.drop_zero] at E
          refine Ev.step (f := fun k => merinoref01_form.l0 k (ba r) neg (h : Int) true 0) (fun k => by rw [merinoref01_form.j3, if_neg (by decide)]) ?_
          unfold formV
          by_cases d : (r.take h).all isD && (r.drop (h + 1)).all isD
          · rw [if_pos d] at E
            rw [Bool.and_eq_true] at d
            rw [decide_eq_true (OK.2 ⟨eo, d.1, d.2, by omega, g⟩), Bool.true_and, digs_pos hlt eo d.1, natD_all (by rw [List.all_append, d.1, d.2]; rfl)]
            exact E
          · rw [if_neg d] at E
            rw [Bool.and_eq_true] at d
            rw [decide_eq_false (fun q => d ⟨(OK.1 q).2.1, (OK.1 q).2.2.1⟩), Bool.false_and]
            exact E
        · have e1 : (((r[h].toNat : Nat) : Int) != 46) = true := by
            rw [bne_iff_ne]
            intro q
            exact e46 (UInt8.toNat_inj.1 (show r[h].toNat = 46 by omega))
          rw [e1]
          refine bad _ (fun q => e46 ?_)
          have := (OK.1 q).1
          rw [List.getElem?_eq_getElem hlt] at this
          exact Option.some.inj this
      by_cases l2 : 1 < h
      · by_cases h8 : r.head? = some 48
        · refine Ev.step (f := fun k => merinoref01_form.j3 k (ba r) neg (h : Int) true) (fun k => ?_) (bad _ (fun g => (OK.1 g).2.2.2.2 ⟨l2, h8⟩))
          rw [merinoref01_form.j2, if_neg l1, if_pos (by omega), if_pos (by rw [ba_size]; omega), if_pos ((head_48 (by omega)).2 h8)]
        · refine Ev.step (f := fun k => merinoref01_form.j3 k (ba r) neg (h : Int) (bt (ba r) (h : Int) != 46)) (fun k => ?_) (pt (fun g => h8 g.2))
          rw [merinoref01_form.j2, if_neg l1, if_pos (by omega), if_pos (by rw [ba_size]; omega), if_neg (fun g => h8 ((head_48 (by omega)).1 g)), if_pos (by omega), if_pos (by omega), if_pos (by rw [ba_size]; omega)]
      · refine Ev.step (f := fun k => merinoref01_form.j3 k (ba r) neg (h : Int) (bt (ba r) (h : Int) != 46)) (fun k => ?_) (pt (fun g => l2 g.1))
        rw [merinoref01_form.j2, if_neg l1, if_neg (by omega), if_pos (by omega), if_pos (by omega), if_pos (by rw [ba_size]; omega)]
theorem form_ok {l : List UInt8} (hlen : l.length ≤ 9000000000000000) {p : Nat} (hp : p ≤ 9) : Ev (fun k => merinoref01_form.f k (ba l) (p : Int)) (formV (negB l) (rest l) p) := by
  unfold merinoref01_form.f
  cases l with
  | nil =>
    have e : ¬ ((ba []).size : Int) > 0 := by rw [ba_size]; simp
    simp only [if_neg e]
    exact Ev.step (f := fun k => merinoref01_form.j1 k (ba []) (p : Int) false) (fun k => by rw [merinoref01_form.j0, if_neg (by decide)]) (form_j1 (r := []) (by simp) false hp)
  | cons c r =>
    have e1 : ((ba (c :: r)).size : Int) > 0 := by rw [ba_size, List.length_cons]; omega
    have e2 : bt (ba (c :: r)) 0 = (c.toNat : Int) := ba_bt (c :: r) 0
    simp only [if_pos e1, if_pos (show 0 < ((ba (c :: r)).size : Int) from e1), e2]
    rw [List.length_cons] at hlen
    unfold negB rest
    by_cases h : c = 45
    · subst h
      have e3 : (((45 : UInt8).toNat : Int) == 45) = true := by decide
      simp only [e3, List.head?_cons, if_true, List.drop_one, List.tail_cons, decide_true]
      have e4 : (ba (45 :: r)).extract 1 (ba (45 :: r)).size = ba r := by
        rw [ba_ext, ba_size]
        congr 1
        simp
      exact Ev.step (f := fun k => merinoref01_form.j1 k (ba r) (p : Int) true) (fun k => by rw [merinoref01_form.j0, if_pos rfl, if_pos (by rw [ba_size, List.length_cons]; omega), e4]) (form_j1 (by omega) true hp)
    · have e3 : ((c.toNat : Int) == 45) = false := beq_eq_false_iff_ne.mpr (fun g => h (UInt8.toNat_inj.1 (by show c.toNat = 45; omega)))
      have e5 : ¬ (some c = some (45 : UInt8)) := fun g => h (Option.some.inj g)
      simp only [e3, List.head?_cons, eq_false e5, if_false, decide_false]
      exact Ev.step (f := fun k => merinoref01_form.j1 k (ba (c :: r)) (p : Int) false) (fun k => by rw [merinoref01_form.j0, if_neg (by decide)]) (form_j1 (r := c :: r) (by rw [List.length_cons]; omega) false hp)
end Go.Proofs.Num
