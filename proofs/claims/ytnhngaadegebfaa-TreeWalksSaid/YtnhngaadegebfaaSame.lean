/- same: has a map just these rows? -/
import Derived.Test.YtnhngaadegebfaaRef
import Derived.Test.YtnhngaadegebfaaAA
namespace Go.Proofs.MT.II
open Go.RowKit

theorem flat_get {l : List (Int × Int)} : ∀ {i : Nat} {x : Int × Int}, l[i]? = some x → (flat l)[i * 2]? = some (ek x.1) ∧ (flat l)[i * 2 + 1]? = some (ev x.2) := by
  induction l with
  | nil => intro i x h; cases h
  | cons y ys ih =>
    intro i x h
    cases i with
    | zero => injection h with h; subst h; exact ⟨rfl, rfl⟩
    | succ i =>
      have := ih (i := i) (x := x) h
      rw [show (i + 1) * 2 = i * 2 + 1 + 1 from by omega]
      exact this

/-- A row of one's own is read. -/
theorem own_row2 {W : World} {base : Nat} {v : Value} {l : List (Int × Int)} (h : W.ownsRow base 36 2 v l.length (flat l)) :
    ∃ A c, v = .slice A l.length c ∧ l.length ≤ c ∧ c ≤ maxLen ∧ Row2 ek ev W.heap.size W A l := by
  obtain ⟨_, ⟨rfl, h0⟩ | ⟨g, cap, cur, rfl, hg, hh, hn, hm, hs, ht⟩⟩ := h
  · have : l = [] := List.eq_nil_of_length_eq_zero h0
    subst this
    exact ⟨none, 0, rfl, by simp, by simp, .inl rfl⟩
  · refine ⟨_, cap, rfl, hn, hm, .inr ⟨g, 0, rfl, ?_, ?_⟩⟩
    · rcases Nat.lt_or_ge g W.heap.size with h | h
      · exact h
      · rw [Array.getElem?_eq_none h] at hh; cases hh
    · intro i x hx
      have hi : i < l.length := by
        rcases Nat.lt_or_ge i l.length with h | h
        · exact h
        · rw [List.getElem?_eq_none h] at hx; cases hx
      obtain ⟨h0, h1⟩ := flat_get hx
      rw [← ht, List.getElem?_take, if_pos (by omega)] at h0 h1
      simp only [World.cell?, hh, Nat.zero_add]
      rw [Array.getElem?_toList] at h0 h1
      exact ⟨by simpa using h0, by simpa using h1⟩

set_option maxRecDepth 100000 in
set_option maxHeartbeats 2000000 in
theorem same_any (t : T Int Int) (p : Option Addr) (l : List (Int × Int)) (A : Option Addr) (c : Nat) (w : World) (h : Tr w.heap.size w p t) (hs : t.size ≤ 1099511627776) (hr : Row2 ek ev w.heap.size w A l) (hc : l.length ≤ c) (hl : l.length ≤ 1099511627776) :
    Calls Try.prog 19 #[.agg #[.pointer p], .slice A l.length c] w fun e w' => e = .returned (.bool (decide (t.toList = l))) ∧ Below w.heap.size w w' := by
  have hb := (Below.refl w.heap.size w).alloc (Nat.le_refl _) (.cells #[.pointer p] 28)
  have hc0 : (w.alloc (.cells #[.pointer p] 28)).cell? ⟨w.heap.size, 0, none⟩ = some (.pointer p) := cell_new _ _ _ _ _ _ rfl
  have hs0 : w.heap.size < (w.alloc (.cells #[.pointer p] 28)).heap.size := by simp
  have ht1 := h.later hb
  have hr1 := hr.later hb
  obtain ⟨dd, hdd⟩ : ∃ dd, dd = decide (t.toList = l) := ⟨_, rfl⟩
  rw [← hdd]
  have HD := Lib.hid hdd
  clear hdd
  go_enter Try.func19, Try.ntmps19
  go_wp2_with fail
  generalize w.alloc (.cells #[.pointer p] 28) = w1 at ht1 hc0 hs0 hb hr1 ⊢
  refine (Pairs_any p t hs w1 ht1).mono ?_
  rintro e w2 ⟨v, rfl, hown, -, hb2⟩
  obtain ⟨P, cp, rfl, hcp, hcm, hrP⟩ := own_row2 hown
  clear hown
  have ht2 := ht1.later hb2
  have hr2 := hr1.later hb2
  have hc2 := (hb2.cell (p := ⟨w.heap.size, 0, none⟩) hs0).trans hc0
  have hlen := T.length_toList t
  obtain ⟨x, hx⟩ : ∃ x, x = t.toList := ⟨_, rfl⟩
  rw [← hx] at hcp hrP hlen HD ⊢
  rw [← hlen] at hs
  have HX := Lib.hid hx
  clear hx
  have hcp' : t.size ≤ cp := by omega
  have HLX := Lib.hid hlen
  by_cases hne : t.size = l.length
  · have hne1 : ((t.size : Int) != (l.length : Int)) = false := by simp; omega
    go_wp2_with (go_at_call 17; refine (Len_any t p _ ht2).mono ?_; rintro e w3 ⟨rfl, hb3⟩)
    have hb5 := (hb.trans (hb2.mono hb.size)).trans (hb3.mono (hb.trans (hb2.mono hb.size)).size)
    have hr3 := hr2.later hb3
    have hrP3 := hrP.later hb3
    clear hb hb2 hb3 hc0 hs0 ht1 hr1 hr2 hrP hc2 ht2
    obtain ⟨len, hlen'⟩ : ∃ len, len = l.length := ⟨_, rfl⟩
    rw [← hlen'] at hne hc ⊢
    rw [hne] at hcp'
    have HL := Lib.hid hlen'
    have HN0 : Hid (x.length = len) := hlen.trans hne
    have hlm : len ≤ 1099511627776 := by omega
    clear hlen' hne hlen hne1 hl hcp hs
    go_loopg [6] len (fun n x6 wr => Below w3.heap.size w3 wr ∧ ∃ j : Nat, x6 = .int .i64 j ∧ j ≤ len ∧ Hid (len - j = n) ∧ Hid (∀ i, i < j → x[i]? = l[i]?))
    case atStart => exact ⟨Below.refl _ _, 0, rfl, by omega, rfl, fun i h => by omega⟩
    case round =>
      obtain ⟨hbw, j, rfl, hj, HN, HA⟩ := hrel
      obtain ⟨hcw, -⟩ := bcell hbw
      by_cases hlt : j < len
      · have hlt' : (j : Int) < (len : Int) := by omega
        have hle' : (j : Int) ≤ (len : Int) := by omega
        have hge' : (0 : Int) ≤ (j : Int) := by omega
        rcases hr3 with rfl | ⟨b, o, rfl, hbl, hcell⟩
        · have := HL.out
          simp at this
          omega
        rcases hrP3 with rfl | ⟨b', o', rfl, hbl', hcell'⟩
        · have := HN0.out
          simp at this
          omega
        obtain ⟨y, hy⟩ : ∃ y, l[j]? = some y := ⟨l[j]'(by have := HL.out; omega), List.getElem?_eq_getElem (by have := HL.out; omega)⟩
        obtain ⟨z, hz⟩ : ∃ z, x[j]? = some z := ⟨x[j]'(by have := HN0.out; omega), List.getElem?_eq_getElem (by have := HN0.out; omega)⟩
        have hwp : IntKind.i64.wrap ((j : Int) + 1) = ((j + 1 : Nat) : Int) := by rw [IntKind.wrap_i64]; push_cast; omega
        have c0 := (hcw b (o + j * 2) hbl).trans (hcell _ _ hy).1
        have c1 := (hcw b (o + j * 2 + 1) hbl).trans (hcell _ _ hy).2
        have c2 := (hcw b' (o' + j * 2) hbl').trans (hcell' _ _ hz).1
        have c3 := (hcw b' (o' + j * 2 + 1) hbl').trans (hcell' _ _ hz).2
        clear hcell hcell' hcw hr
        obtain ⟨y0, y1⟩ := y
        obtain ⟨z0, z1⟩ := z
        by_cases e0 : z0 = y0
        · subst e0
          by_cases e1 : z1 = y1
          · subst e1
            have HA' : Hid (∀ i, i < j + 1 → x[i]? = l[i]?) := fun i hi => by
              by_cases e : i = j
              · rw [e, hy, hz]
              · exact HA.out i (by omega)
            go_wp2
            go_quiet (fail)
            go_wp2
            go_roundg (len - (j + 1))
            case measure => have := HN.out; omega
            case rel => exact ⟨below_draws hbw _, j + 1, rfl, by omega, rfl, HA'⟩
          · have hd1 : (z1 != y1) = true := by simpa using e1
            have HF : Hid (dd = false) := by
              have := HD.out
              rw [this]
              show decide (x = l) = false
              rw [decide_eq_false_iff_not]
              intro e
              rw [e, hy] at hz
              injection hz with hz
              injection hz with _ h2
              exact e1 h2.symm
            go_wp2
            go_quiet (fail)
            go_wp2
            go_ret
            exact ⟨show Ending.returned (.bool false) = _ from by rw [HF.out], hb5.trans ((below_draws hbw _).mono hb5.size)⟩
        · have hd1 : (z0 != y0) = true := by simpa using e0
          have HF : Hid (dd = false) := by
            have := HD.out
            rw [this]
            show decide (x = l) = false
            rw [decide_eq_false_iff_not]
            intro e
            rw [e, hy] at hz
            injection hz with hz
            injection hz with h2 _
            exact e0 h2.symm
          go_wp2
          go_quiet (fail)
          go_wp2
          go_ret
          exact ⟨show Ending.returned (.bool false) = _ from by rw [HF.out], hb5.trans ((below_draws hbw _).mono hb5.size)⟩
      · obtain rfl : j = len := by omega
        have HF : Hid (dd = true) := by
          have := HD.out
          rw [this]
          show decide (x = l) = true
          rw [decide_eq_true_iff]
          refine List.ext_getElem? fun i => ?_
          by_cases h : i < j
          · exact HA.out i h
          · rw [List.getElem?_eq_none (by have := HN0.out; omega), List.getElem?_eq_none (by have := HL.out; omega)]
        go_wp2
        go_ret
        exact ⟨show Ending.returned (.bool true) = _ from by rw [HF.out], hb5.trans (hbw.mono hb5.size)⟩
  · have hne1 : ((t.size : Int) != (l.length : Int)) = true := by simp; omega
    have HF : Hid (dd = false) := by
      have := HD.out
      rw [this]
      show decide (x = l) = false
      rw [decide_eq_false_iff_not]
      rintro rfl
      exact hne HLX.out.symm
    go_wp2_with (go_at_call 17; refine (Len_any t p _ ht2).mono ?_; rintro e w3 ⟨rfl, hb3⟩)
    go_ret
    have hb5 := hb.trans (hb2.mono hb.size)
    exact ⟨show Ending.returned (.bool false) = _ from by rw [HF.out], hb5.trans (hb3.mono hb5.size)⟩
end Go.Proofs.MT.II
