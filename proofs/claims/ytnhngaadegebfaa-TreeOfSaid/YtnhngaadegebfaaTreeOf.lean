/- The law TreeOf, walked. -/
import Derived.Test.YtnhngaadegebfaaOwned
import Derived.Test.YtnhngaadegebfaaA11
import Derived.Test.YtnhngaadegebfaaAlive
namespace Go.Proofs.MT.II
open Go.RowKit

set_option maxRecDepth 100000 in
set_option maxHeartbeats 2000000 in
theorem TreeOf_long (l : List (Int × Int)) (A : Option Addr) (c : Nat) (w : World) (hl : 2000 < l.length) :
    Calls Try.prog 3 #[.slice A l.length c] w fun e w' => e = .returned (.bool true) ∧ Below w.heap.size w w' := by
  have h1 : (2000 : Int) < (l.length : Int) := by omega
  go_enter Try.func3, Try.ntmps3
  go_wp2_with (go_at_call 13; refine (IS.alive_any _).mono ?_; rintro e w' ⟨rfl, hb⟩)
  go_ret
  exact ⟨rfl, hb⟩

set_option maxRecDepth 100000 in
set_option maxHeartbeats 4000000 in
theorem TreeOf_short (l : List (Int × Int)) (A : Option Addr) (c : Nat) (w : World) (hl : l.length ≤ 2000) (hc : l.length ≤ c) (hr : Row2 ek ev w.heap.size w A l) :
    Calls Try.prog 3 #[.slice A l.length c] w fun e w' => e = .returned (.bool true) ∧ Below w.heap.size w w' := by
  have h1 : (l.length : Int) ≤ 2000 := by omega
  go_enter Try.func3, Try.ntmps3
  go_wp2_with fail
  refine (pairs_calls l (by omega) A c hc w hr).mono ?_
  rintro e w1 ⟨v, rfl, hown, hb1⟩
  obtain ⟨P, cp, rfl, hcp, hcm, hrP, hmP⟩ := Mine.of hown
  clear hown
  go_wp2_with fail
  refine (Of_any l P cp w1 hcp (by omega) hrP).mono ?_
  rintro e w2 ⟨p, er, rfl, hb2, hof⟩
  have hmP2 := hmP.below hb2
  have hr2 := (hr.later hb1).later hb2
  have hb3 : Below w.heap.size w w2 := hb1.trans (hb2.mono hb1.size)
  have hc0 : (w2.alloc (.cells #[.pointer p] 28)).cell? ⟨w2.heap.size, 0, none⟩ = some (.pointer p) := cell_new _ _ _ _ _ _ rfl
  have hba := (Below.refl w2.heap.size w2).alloc (Nat.le_refl _) (.cells #[.pointer p] 28)
  have hs0 : w2.heap.size < (w2.alloc (.cells #[.pointer p] 28)).heap.size := by simp
  go_wp2_with fail
  generalize w2.alloc (.cells #[.pointer p] 28) = w3 at hc0 hba hs0 ⊢
  have hb4 : Below w.heap.size w w3 := hb3.trans (hba.mono hb3.size)
  have hr3 := hr2.later hba
  have hmP3 := hmP2.below hba
  have hPlt : l = [] ∨ ∃ g, P = some ⟨g, 0, none⟩ ∧ g < w2.heap.size := by
    rcases hmP2 with h | ⟨g, e, _, hg, _⟩
    · exact .inl h
    · exact .inr ⟨g, e, hg⟩
  clear hb1 hb2 hmP hrP hmP2
  refine (asc_calls l (by omega) A c hc w3 hr3).mono ?_
  rintro e w4 ⟨b, rfl, hiff, n, rfl⟩
  cases b with
  | false =>
    have hna : ¬ AscTo l l.length := fun h => by simpa using hiff.2 h
    obtain ⟨rfl, rfl⟩ : er = 2 ∧ p = none := by
      rcases hof with ⟨h, _⟩ | ⟨_, h2, h3⟩
      · exact absurd h hna
      · exact ⟨h2, h3⟩
    go_wp2_with fail
    refine (Len_any .nil none _ rfl).mono ?_
    rintro e w5 ⟨rfl, hb5⟩
    have hc5 : w5.cell? ⟨w2.heap.size, 0, none⟩ = some (.pointer none) := (hb5.cell (p := ⟨w2.heap.size, 0, none⟩) hs0).trans hc0
    have hb5' : Below w3.heap.size w3 w5 := (below_draws (Below.refl _ _) n).trans hb5
    simp only [T.size]
    go_wp2_with fail
    refine (Pairs_any none .nil (by simp [T.size]) w5 rfl).mono ?_
    rintro e w6 ⟨v, rfl, -, hv, hb6⟩
    obtain ⟨q, qc, rfl, hq⟩ : ∃ q qc : Nat, v = .slice none q qc ∧ q = 0 := ⟨0, 0, hv.2 rfl, rfl⟩
    have hq1 : ((q : Int) == 0) = true := by simp [hq]
    clear hv hq
    have hb6' := hb5'.trans (hb6.mono hb5'.size)
    go_wp2_with (go_at_call 13; refine (IS.alive_any _).mono ?_; rintro e w' ⟨rfl, hb⟩)
    go_ret
    have hb7 := hb6'.trans (hb.mono hb6'.size)
    exact ⟨rfl, hb4.trans (hb7.mono hb4.size)⟩
  | true =>
    have ha := hiff.1 rfl
    obtain ⟨rfl, T, hT, hTl, hTB⟩ : er = 0 ∧ ∃ T, Tr w2.heap.size w2 p T ∧ T.toList = l ∧ T.Bal := by
      rcases hof with ⟨_, h2, h3⟩ | ⟨h, _⟩
      · exact ⟨h2, h3⟩
      · exact absurd ha h
    have hT3 := hT.later hba
    have hTs : T.size ≤ 2000 := by rw [← T.length_toList, hTl]; exact hl
    have HT := Lib.hid hTl
    clear hof hiff hTl hT hTB ha
    go_wp2_with fail
    go_loopg [6] l.length (fun n x6 wr => (Below w.heap.size w wr ∧ Tr wr.heap.size wr p T ∧ wr.cell? ⟨w2.heap.size, 0, none⟩ = some (.pointer p) ∧ w2.heap.size < wr.heap.size) ∧ ∃ j : Nat, x6 = .int .i64 j ∧ j ≤ l.length ∧ Mine w.heap.size wr P l j ∧ Hid (l.length - j = n))
    case atStart => exact ⟨⟨below_draws hb4 _, hT3.later (below_draws (Below.refl _ _) _), hc0, hs0⟩, 0, rfl, by omega, hmP3.below (below_draws (Below.refl _ _) _), rfl⟩
    case round =>
      obtain ⟨⟨hbw, hTw, hcw, hsw⟩, j, rfl, hj, hM, HN⟩ := hrel
      by_cases hlt : j < l.length
      · have hlt' : (j : Int) < (l.length : Int) := by omega
        have hge' : (0 : Int) ≤ (j : Int) := by omega
        have hwp : IntKind.i64.wrap ((j : Int) + 1) = ((j + 1 : Nat) : Int) := by rw [IntKind.wrap_i64]; push_cast; omega
        rcases hr with rfl | ⟨b, o, rfl, hbl, hcell⟩
        · simp at hlt
        rcases id hM with rfl | ⟨g, rfl, hg0, hg1, htg, hfr, hgc⟩
        · simp at hlt
        obtain ⟨y, hy⟩ : ∃ y, l[j]? = some y := ⟨l[j], List.getElem?_eq_getElem hlt⟩
        have c0 := (hbw.cell (p := ⟨b, o + j * 2, none⟩) hbl).trans (hcell _ _ hy).1
        have c1 := (hbw.cell (p := ⟨b, o + j * 2 + 1, none⟩) hbl).trans (hcell _ _ hy).2
        obtain ⟨c2, c3⟩ := hgc j y (Nat.le_refl _) hy
        have f1 := hfr (j * 2 + 1)
        have hgn : g ≠ w2.heap.size := by
          rcases hPlt with rfl | ⟨g', e, hlt⟩
          · simp at hlt
          · injection e with e
            injection e with e
            omega
        clear hcell hgc hfr
        go_wp2
        go_quiet (fail)
        go_wp2
        go_roundg (l.length - (j + 1))
        case measure => have := HN.out; omega
        case rel => 
          have hd := below_draws (Below.refl wr.heap.size wr) nq
          have hT' := hTw.later hd
          have hM' := hM.below hd
          have htg' : tagAt (wr.drewN nq) g 36 := htg
          refine ⟨⟨(below_draws hbw nq).setCell (p := ⟨g, _, none⟩) hg0 _, IsTree.stored (A := wr.drewN nq) (a := ⟨g, _, none⟩) (t' := 36) htg' (by decide) _ hT', ?_, by rw [size_set]; exact hsw⟩, j + 1, rfl, by omega, hM'.set (by omega) _, rfl⟩
          rw [World.cell?_setCell_far (h := hgn)]
          exact hcw
      · obtain rfl : j = l.length := by omega
        clear hM HN hmP3
        go_wp2_with fail
        refine (Pairs_any p T (by omega) wr hTw).mono ?_
        rintro e w5 ⟨v, rfl, hown, -, hb5⟩
        rw [HT.out] at hown
        obtain ⟨Q, cq, rfl, -, -, -, hmQ⟩ := Mine.of hown
        clear hown
        have hTw5 := hTw.later hb5
        have hcw5 := (hb5.cell (p := ⟨w2.heap.size, 0, none⟩) hsw).trans hcw
        have hsw5 := Nat.lt_of_lt_of_le hsw hb5.size
        have hbw5 := hbw.trans (hb5.mono hbw.size)
        have hbn := hbw.size
        clear hcw hTw hb5 hbw hPlt
        generalize wr.heap.size = nr at hsw hmQ hbn
        go_wp2_with fail
        go_loopg [8] l.length (fun n x8 wr => (Below w.heap.size w wr ∧ Tr wr.heap.size wr p T ∧ wr.cell? ⟨w2.heap.size, 0, none⟩ = some (.pointer p) ∧ w2.heap.size < wr.heap.size) ∧ ∃ j : Nat, x8 = .int .i64 j ∧ j ≤ l.length ∧ Mine nr wr Q l j ∧ Hid (l.length - j = n))
        case atStart => exact ⟨⟨hbw5, hTw5, hcw5, hsw5⟩, 0, rfl, by omega, hmQ, rfl⟩
        case round =>
          obtain ⟨⟨hbw, hTw, hcw, hsw⟩, j, rfl, hj, hM, HN⟩ := hrel
          by_cases hlt : j < l.length
          · have hlt' : (j : Int) < (l.length : Int) := by omega
            have hge' : (0 : Int) ≤ (j : Int) := by omega
            have hwp : IntKind.i64.wrap ((j : Int) + 1) = ((j + 1 : Nat) : Int) := by rw [IntKind.wrap_i64]; push_cast; omega
            rcases id hM with rfl | ⟨g, rfl, hg0, hg1, htg, hfr, hgc⟩
            · simp at hlt
            obtain ⟨y, hy⟩ : ∃ y, l[j]? = some y := ⟨l[j], List.getElem?_eq_getElem hlt⟩
            obtain ⟨c2, c3⟩ := hgc j y (Nat.le_refl _) hy
            have f1 := hfr (j * 2)
            have hgn : g ≠ w2.heap.size := by omega
            clear hgc hfr
            go_wp2
            go_roundg (l.length - (j + 1))
            case measure => have := HN.out; omega
            case rel =>
              refine ⟨⟨hbw.setCell (p := ⟨g, _, none⟩) (Nat.le_trans hbn hg0) _, IsTree.stored (A := wr) (a := ⟨g, _, none⟩) (t' := 36) htg (by decide) _ hTw, ?_, by rw [size_set]; exact hsw⟩, j + 1, rfl, by omega, hM.set (by omega) _, rfl⟩
              rw [World.cell?_setCell_far (h := hgn)]
              exact hcw
          · obtain rfl : j = l.length := by omega
            clear hM HN
            have hsame : decide (T.toList = l) = true := by rw [decide_eq_true_iff]; exact HT.out
            go_wp2_with (first
              | (go_at_call 19; refine (same_any T p l A c wr hTw (by omega) ((hr.below hbw).mono hbw.size) hc (by omega)).mono ?_; rintro e w6 ⟨rfl, hb6⟩)
              | (go_at_call 13; refine (IS.alive_any _).mono ?_; rintro e w7 ⟨rfl, hb7⟩))
            go_ret
            have hb8 := hbw.trans (hb6.mono hbw.size)
            exact ⟨rfl, hb8.trans (hb7.mono hb8.size)⟩

theorem TreeOf_any (l : List (Int × Int)) (A : Option Addr) (c : Nat) (w : World) (hc : l.length ≤ c) (hr : Row2 ek ev w.heap.size w A l) :
    Calls Try.prog 3 #[.slice A l.length c] w fun e w' => e = .returned (.bool true) ∧ Below w.heap.size w w' := by
  by_cases hl : l.length ≤ 2000
  · exact TreeOf_short l A c w hl hc hr
  · exact TreeOf_long l A c w (by omega)
end Go.Proofs.MT.II
