/- The function Of (IS). -/
import Derived.Test.YtnhngaadegebfaaProg
import Derived.Test.YtnhngaadegebfaaTreeLaws
import Derived.Test.YtnhngaadegebfaaC10
import Derived.Test.YtnhngaadegebfaaC1
import Derived.Test.YtnhngaadegebfaaOrd
import Derived.Test.YtnhngaadegebfaaStore
import Derived.Test.YtnhngaadegebfaaRow2
import Derived.Test.YtnhngaadegebfaaAsc
import Derived.Deep.LoopGhost
import Derived.Deep.QuietTactic
import Derived.BigQuiet
import Derived.Deep.RegionHeld3
import Derived.KernelRfl
namespace Go.Proofs.MT.IS
open Go.RowKit

/-- What Of leaves: the balanced tree of ascending pairs, or nothing and the error. -/
def OfSaid (l : List (Int × ByteArray)) (w : World) (e : Ending) (w' : World) : Prop :=
  ∃ p c, e = .returned (.tuple #[.agg #[.pointer p], .int .i64 c]) ∧ Below w.heap.size w w' ∧
    ((AscTo l l.length ∧ c = 0 ∧ ∃ T, Tr w'.heap.size w' p T ∧ T.toList = l ∧ T.Bal) ∨ (¬ AscTo l l.length ∧ c = 2 ∧ p = none))

set_option maxRecDepth 100000 in
set_option maxHeartbeats 2000000 in
theorem Of_any (l : List (Int × ByteArray)) (A : Option Addr) (c : Nat) (w : World) (hc : l.length ≤ c) (hm : l.length ≤ 1099511627776) (hr : Row2 ek ev w.heap.size w A l) :
    Calls Try.prog 48 #[.slice A l.length c] w (OfSaid l w) := by
  have hb := (Below.refl w.heap.size w).alloc (Nat.le_refl _) (.cells #[.pointer none] 97)
  have hcn : (w.alloc (.cells #[.pointer none] 97)).cell? ⟨w.heap.size, 0, none⟩ = some (.pointer none) := cell_new _ _ _ _ _ _ rfl
  have hfz : (w.alloc (.cells #[.pointer none] 97)).frozen? ⟨w.heap.size, 0, none⟩ = false := by simp [go_sem]
  have hr0 := hr.later hb
  obtain ⟨len, hlen⟩ : ∃ len, len = l.length := ⟨_, rfl⟩
  rw [← hlen] at hc hm ⊢
  have HL := Lib.hid hlen
  clear hlen
  go_enter Try.func48, Try.ntmps48
  go_wp2_with fail
  obtain ⟨W0, hW0⟩ : ∃ W0, W0 = w.alloc (.cells #[.pointer none] 97) := ⟨_, rfl⟩
  have hs0 : w.heap.size < W0.heap.size := by rw [hW0]; simp
  have tg0 : tagAt W0 w.heap.size 97 := by rw [hW0]; exact tag_at _ _ _ _ _ rfl
  have HW := Lib.hid hW0
  rw [← hW0] at hb hcn hfz hr0 ⊢
  clear hW0
  go_loopg [7] len (fun n x7 wr => Below W0.heap.size W0 wr ∧ ∃ j : Nat, x7 = .int .i64 j ∧ j ≤ len ∧ Hid (len - j = n) ∧ Hid (AscTo l j))
  case atStart => exact ⟨Below.refl _ _, 0, rfl, by omega, rfl, AscTo.zero l⟩
  case round =>
    obtain ⟨hbw, j, rfl, hj, HN, HA⟩ := hrel
    obtain ⟨hcw, hfw⟩ := bcell hbw
    have hcr := hcw w.heap.size 0 hs0
    rw [hcn] at hcr
    have hfr := hfw w.heap.size 0 hs0
    rw [hfz] at hfr
    by_cases hlt : j < len
    · have hlt' : (j : Int) < (len : Int) := by omega
      have hle' : (j : Int) ≤ (len : Int) := by omega
      have hge' : (0 : Int) ≤ (j : Int) := by omega
      rcases hr0 with rfl | ⟨b, o, rfl, hbl, hcell⟩
      · have := HL.out
        simp at this
        omega
      obtain ⟨x, hx⟩ : ∃ x, l[j]? = some x := ⟨l[j]'(by have := HL.out; omega), List.getElem?_eq_getElem (by have := HL.out; omega)⟩
      have hwp : IntKind.i64.wrap ((j : Int) + 1) = ((j + 1 : Nat) : Int) := by rw [IntKind.wrap_i64]; push_cast; omega
      cases j with
      | zero =>
        have hd0 : decide ((0 : Int) < ((0 : Nat) : Int)) = false := by decide
        have HA' : Hid (AscTo l (0 + 1)) := AscTo.one l
        go_wp2
        go_quiet (fail)
        go_wp2
        go_roundg (len - 1)
        case measure => have := HN.out; omega
        case rel => exact ⟨below_draws hbw _, 1, rfl, by omega, rfl, HA'⟩
      | succ i =>
        obtain ⟨y, hy⟩ : ∃ y, l[i]? = some y := ⟨l[i]'(by have := HL.out; omega), List.getElem?_eq_getElem (by have := HL.out; omega)⟩
        have hd1 : (0 : Int) < ((i + 1 : Nat) : Int) := by omega
        have hwi : IntKind.i64.wrap (((i + 1 : Nat) : Int) - 1) = (i : Int) := by rw [IntKind.wrap_i64]; push_cast; omega
        have hi1 : (i : Int) < (len : Int) := by omega
        have hi0 : (0 : Int) ≤ (i : Int) := by omega
        have c0 := (hcw b (o + (i + 1) * 2) hbl).trans (hcell _ _ hx).1
        have c1 := (hcw b (o + i * 2) hbl).trans (hcell _ _ hy).1
        cases hk : KOrd.lt y.1 x.1 with
        | true =>
          have HA' : Hid (AscTo l (i + 1 + 1)) := AscTo.succ HA.out hy hx hk
          have hk' : decide (x.1 ≤ y.1) = false := by simp at hk; simp; omega
          clear hk
          go_wp2
          go_quiet (fail)
          go_wp2
          go_roundg (len - (i + 1 + 1))
          case measure => have := HN.out; omega
          case rel => exact ⟨below_draws hbw _, i + 1 + 1, rfl, by omega, rfl, HA'⟩
        | false =>
          have HNA : Hid (¬ AscTo l l.length) := AscTo.not hy hx hk
          have hk' : x.1 ≤ y.1 := by simpa using hk
          clear hk
          go_wp2
          go_quiet (fail)
          go_wp2
          exact bodyPost_ret (v := .tuple #[.agg #[.pointer none], .int .i64 2]) (by simp [results, Try.results48, go_sem, hcr]) rfl
            ⟨none, 2, rfl, (hb.trans ((below_draws hbw _).mono (Nat.le_of_lt hs0))).setCell (p := ⟨w.heap.size, 0, none⟩) (Nat.le_refl _) _, .inr ⟨HNA.out, rfl, rfl⟩⟩
    · obtain rfl : j = len := by omega
      go_wp2_with (go_at_call 87; refine (build_all j l A j c _ HL.out.symm (Nat.le_refl _) hc hm (hr0.later hbw)).mono ?_; rintro e w1 ⟨p1, T, rfl, ht1, hTl, hTB, hb1⟩; have hb2 := hbw.trans (hb1.mono hbw.size); obtain ⟨hc2, hf2⟩ := bcell hb2; have hcq := hc2 w.heap.size 0 hs0; rw [hcn] at hcq; have hfq := hf2 w.heap.size 0 hs0; rw [hfz] at hfq)
      exact bodyPost_ret (v := .tuple #[.agg #[.pointer p1], .int .i64 0]) (by simp [results, Try.results48, go_sem, hcq]) rfl
        ⟨p1, 0, rfl, (hb.trans (hb2.mono (Nat.le_of_lt hs0))).setCell (p := ⟨w.heap.size, 0, none⟩) (Nat.le_refl _) _,
          .inl ⟨by have := HA.out; rw [HL.out] at this; exact this, rfl, T, ht1.stored (a := ⟨w.heap.size, 0, none⟩) (tagAt.below tg0 hb2 hs0) (by decide) _, hTl, hTB⟩⟩
end Go.Proofs.MT.IS
