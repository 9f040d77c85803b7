/- The map's methods (IS), second part. -/
import Derived.Test.YtnhngaadegebfaaProg
import Derived.Test.YtnhngaadegebfaaTreeLaws
import Derived.Test.YtnhngaadegebfaaC6
import Derived.WalkSmall
import Derived.Deep.QuietTactic
import Derived.BigQuiet
import Derived.Deep.RegionHeld3
import Derived.KernelRfl
namespace Go.Proofs.MT.IS
open Go.RowKit

set_option maxRecDepth 100000 in
set_option maxHeartbeats 2000000 in
theorem Rank_any (t : T Int ByteArray) (k : Int) (p : Option Addr) (w : World) (h : Tr w.heap.size w p t) (hs : t.size ≤ 1099511627776) :
    Calls Try.prog 51 #[.agg #[.pointer p], .int .i64 k] w fun e w' => e = .returned (.int .i64 (t.rank k)) ∧ Below w.heap.size w w' := by
  have hb := (Below.refl w.heap.size w).alloc (Nat.le_refl _) (.cells #[.pointer p] 97)
  have h' : Tr w.heap.size (w.alloc (.cells #[.pointer p] 97)) p t := h.below hb
  go_enter Try.func51, Try.ntmps51
  go_wp2_with fail
  go_loopg [5, 6] t.size (fun n r5 p6 wr => w.alloc (.cells #[.pointer p] 97) = wr ∧ ∃ (F : T Int ByteArray) (p' : Option Addr) (a : Nat), r5 = .int .i64 a ∧ p6 = .pointer p' ∧ Tr w.heap.size (w.alloc (.cells #[.pointer p] 97)) p' F ∧ a + F.size ≤ t.size ∧ Hid (F.size = n) ∧ Hid (a + F.rank k = t.rank k))
  case atStart => exact ⟨rfl, t, _, 0, rfl, rfl, h', by omega, rfl, by simp [Hid]⟩
  case round =>
    obtain ⟨rfl, F, p', a, rfl, rfl, hF, ha, HS, hr⟩ := hrel
    cases F with
    | nil =>
      obtain rfl : p' = none := hF
      go_wp2
      go_ret
      exact ⟨ret_int (by have := hr.out; simp only [T.rank] at this; omega), hb⟩
    | node l q v r =>
      obtain ⟨b, pl, pr, rfl, hb', c0, c1, c2, c3, c4, hl, hr'⟩ := id hF
      simp only [T.size] at ha
      cases hk : KOrd.lt q k with
      | true =>
        have HE : Hid ((T.node l q v r).rank k = l.size + 1 + r.rank k) := by simp [Hid, T.rank, hk]
        have hk' : q < k := by simpa using hk
        clear hk c4
        go_wp2_with (go_at_call 89; refine (len_any l _ _ _ hl).mono ?_; rintro e w' ⟨rfl, rfl⟩)
        go_roundg r.size
        case measure => have := HS.out; simp only [T.size] at this; omega
        case rel => exact ⟨rfl, r, _, a + (l.size + 1), by go_num, rfl, hr', by omega, rfl, by have := HE.out; have := hr.out; simp only [Hid]; omega⟩
      | false =>
        have HE : Hid ((T.node l q v r).rank k = l.rank k) := by simp [Hid, T.rank, hk]
        have hk' : k ≤ q := by simpa using hk
        clear hk c4
        go_wp2
        go_roundg l.size
        case measure => have := HS.out; simp only [T.size] at this; omega
        case rel => exact ⟨rfl, l, _, a, rfl, rfl, hl, by omega, rfl, by have := HE.out; have := hr.out; simp only [Hid]; omega⟩

set_option maxRecDepth 100000 in
set_option maxHeartbeats 2000000 in
theorem Floor_any (t : T Int ByteArray) (k : Int) (p : Option Addr) (w : World) (h : Tr w.heap.size w p t) :
    Calls Try.prog 49 #[.agg #[.pointer p], .int .i64 k] w fun e w' => e = .returned (toldV (T.floor k .nil t)) ∧ Below w.heap.size w w' := by
  have hb := (Below.refl w.heap.size w).alloc (Nat.le_refl _) (.cells #[.pointer p] 97)
  have h' : Tr w.heap.size (w.alloc (.cells #[.pointer p] 97)) p t := h.below hb
  go_enter Try.func49, Try.ntmps49
  go_wp2_with fail
  go_loopg [7, 8] t.size (fun n p7 p8 wr => Below w.heap.size w wr ∧ ∃ (F B : T Int ByteArray) (p' pb : Option Addr), p7 = .pointer pb ∧ p8 = .pointer p' ∧ Tr w.heap.size wr p' F ∧ Tr w.heap.size wr pb B ∧ Hid (F.size = n) ∧ Hid (T.floor k B F = T.floor k .nil t))
  case atStart => exact ⟨hb, t, .nil, _, _, rfl, rfl, h', rfl, rfl, rfl⟩
  case round =>
    obtain ⟨hbw, F, B, p', pb, rfl, rfl, hF, hB, HS, hr⟩ := hrel
    cases F with
    | nil =>
      obtain rfl : p' = none := hF
      have HQ : Hid (B = T.floor k .nil t) := by have := hr.out; exact this
      go_wp2_with (go_at_call 88; refine (told_any B _ _ _ hB).mono ?_; rintro e w' ⟨rfl, n, rfl⟩; cases B <;> simp only [toldV])
      all_goals go_ret3
      all_goals exact ⟨by rw [← HQ.out]; rfl, below_draws hbw _⟩
    | node l q v r =>
      obtain ⟨b, pl, pr, rfl, hb', c0, c1, c2, c3, c4, hl, hr'⟩ := id hF
      cases hk : KOrd.lt k q with
      | true =>
        have HE : Hid (T.floor k B (T.node l q v r) = T.floor k B l) := by simp [Hid, T.floor, hk]
        have hk' : k < q := by simpa using hk
        clear hk c4
        go_wp2
        go_roundg l.size
        case measure => have := HS.out; simp only [T.size] at this; omega
        case rel => exact ⟨hbw, l, B, _, _, rfl, rfl, hl, hB, rfl, HE.out.symm.trans hr.out⟩
      | false =>
        have HE : Hid (T.floor k B (T.node l q v r) = T.floor k (.node l q v r) r) := by simp [Hid, T.floor, hk]
        have hk' : q ≤ k := by simpa using hk
        clear hk c4
        go_wp2
        go_quiet (fail)
        go_wp2
        go_roundg r.size
        case measure => have := HS.out; simp only [T.size] at this; omega
        case rel => exact ⟨below_draws hbw _, r, .node l q v r, _, _, rfl, rfl, hr'.below (below_draws (Below.refl _ _) _), hF.below (below_draws (Below.refl _ _) _), rfl, HE.out.symm.trans hr.out⟩
end Go.Proofs.MT.IS
