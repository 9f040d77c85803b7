/- Rank, Delete, Split of the map of strings. -/
import Derived.Test.YtnhngaadegebfaaProg
import Derived.Test.YtnhngaadegebfaaBase
import Derived.Test.YtnhngaadegebfaaBB
import Derived.WalkSmall
import Derived.Deep.QuietTactic
import Derived.BigQuiet
import Derived.Deep.RegionHeld3
import Derived.KernelRfl

/- The map's methods (SI), second part. -/
namespace Go.Proofs.MT.SI
open Go.RowKit

set_option maxRecDepth 100000 in
set_option maxHeartbeats 2000000 in
theorem Rank_any (t : T ByteArray Int) (k : ByteArray) (p : Option Addr) (w : World) (h : Tr w.heap.size w p t) (hs : t.size ≤ 1099511627776) :
    Calls Try.prog 27 #[.agg #[.pointer p], .string k] w fun e w' => e = .returned (.int .i64 (t.rank k)) ∧ Below w.heap.size w w' := by
  have hb := (Below.refl w.heap.size w).alloc (Nat.le_refl _) (.cells #[.pointer p] 44)
  have h' : Tr w.heap.size (w.alloc (.cells #[.pointer p] 44)) p t := h.below hb
  go_enter Try.func27, Try.ntmps27
  go_wp2_with fail
  go_loopg [5, 6] t.size (fun n r5 p6 wr => w.alloc (.cells #[.pointer p] 44) = wr ∧ ∃ (F : T ByteArray Int) (p' : Option Addr) (a : Nat), r5 = .int .i64 a ∧ p6 = .pointer p' ∧ Tr w.heap.size (w.alloc (.cells #[.pointer p] 44)) p' F ∧ a + F.size ≤ t.size ∧ Hid (F.size = n) ∧ Hid (a + F.rank k = t.rank k))
  case atStart => exact ⟨rfl, t, _, 0, rfl, rfl, h', by omega, rfl, by simp [Hid]⟩
  case round =>
    obtain ⟨rfl, F, p', a, rfl, rfl, hF, ha, HS, hr⟩ := hrel
    cases F with
    | nil =>
      obtain rfl : p' = none := hF
      go_wp2
      go_ret
      exact ⟨ret_int (by have := hr.out; simp only [T.rank] at this; omega), hb⟩
    | node l q v r =>
      obtain ⟨b, pl, pr, rfl, hb', c0, c1, c2, c3, c4, hl, hr'⟩ := id hF
      simp only [T.size] at ha
      cases hk : KOrd.lt q k with
      | true =>
        have HE : Hid ((T.node l q v r).rank k = l.size + 1 + r.rank k) := by simp [Hid, T.rank, hk]
        obtain ⟨hk', hk'n, hk'm⟩ := ltAll hk
        clear hk c4
        go_wp2_with (go_at_call 63; refine (len_any l _ _ _ hl).mono ?_; rintro e w' ⟨rfl, rfl⟩)
        go_roundg r.size
        case measure => have := HS.out; simp only [T.size] at this; omega
        case rel => exact ⟨rfl, r, _, a + (l.size + 1), by go_num, rfl, hr', by omega, rfl, by have := HE.out; have := hr.out; simp only [Hid]; omega⟩
      | false =>
        have HE : Hid ((T.node l q v r).rank k = l.rank k) := by simp [Hid, T.rank, hk]
        have hk' := ltF hk
        clear hk c4
        go_wp2
        go_roundg l.size
        case measure => have := HS.out; simp only [T.size] at this; omega
        case rel => exact ⟨rfl, l, _, a, rfl, rfl, hl, by omega, rfl, by have := HE.out; have := hr.out; simp only [Hid]; omega⟩
end Go.Proofs.MT.SI

/- The map's methods (SI), third part. -/
namespace Go.Proofs.MT.SI
open Go.RowKit

/-- What a deletion leaves. -/
def Deletes (t : T ByteArray Int) (k : ByteArray) (w : World) (e : Ending) (w' : World) : Prop :=
  ∃ p' b, e = .returned (.tuple #[.agg #[.pointer p'], .bool b]) ∧ Below w.heap.size w w' ∧
    ((T.find k t = .nil ∧ b = false ∧ Tr w'.heap.size w' p' t) ∨ (T.find k t ≠ .nil ∧ b = true ∧ Tr w'.heap.size w' p' (t.remove k)))

set_option maxRecDepth 100000 in
set_option maxHeartbeats 2000000 in
theorem Delete_any (t : T ByteArray Int) (k : ByteArray) (p : Option Addr) (w : World) (h : Tr w.heap.size w p t) (hs : t.size ≤ 1099511627776) :
    Calls Try.prog 21 #[.agg #[.pointer p], .string k] w (Deletes t k w) := by
  have hb := below_two w (.cells #[.pointer p] 44) (.cells #[.pointer none] 44)
  cases hR : T.find k t with
  | nil =>
    have HR := Lib.hid hR
    clear hR
    go_enter Try.func21, Try.ntmps21
    go_wp2_with fail
    refine (find_any t k p _ (h.later hb)).mono ?_
    rintro e w1 ⟨q, rfl, hq, rfl⟩
    rw [HR.out] at hq
    obtain rfl : q = none := hq
    go_wp2
    exact bodyPost_ret (v := .tuple #[.agg #[.pointer p], .bool false]) (by simp [results, Try.results21, go_sem]) rfl ⟨p, false, rfl, below_three _ _ _ _, .inl ⟨HR.out, rfl, h.later (below_three _ _ _ _)⟩⟩
  | node l q v r =>
    have HR := Lib.hid hR
    clear hR
    go_enter Try.func21, Try.ntmps21
    go_wp2_with fail
    refine (find_any t k p _ (h.later hb)).mono ?_
    rintro e w1 ⟨q, rfl, hq, rfl⟩
    rw [HR.out] at hq
    obtain ⟨b, pl, pr, rfl, hb', -⟩ := hq
    have hb2 := hb.alloc (by simp; omega) (.cells #[.pointer p] 44)
    go_wp2_with fail
    refine (remove_any k t _ _ (h.later hb2) hs).mono ?_
    rintro e w1 ⟨p1, rfl, ht1, hb1⟩
    obtain ⟨hc, hf⟩ := bcell hb1
    go_wp2
    exact bodyPost_ret (v := .tuple #[.agg #[.pointer p1], .bool true]) (by simp [results, Try.results21, go_sem, hc]) rfl
      ⟨p1, true, rfl, (hb2.trans (hb1.mono hb2.size)).setCell (p := ⟨w.heap.size + 1, 0, none⟩) (by simp) _,
        .inr ⟨(by rw [HR.out]; intro h; cases h), rfl, ht1.stored (a := ⟨w.heap.size + 1, 0, none⟩) (tagAt.below ((tag_at _ _ 44 _ _ (by simp)).alloc _) hb1 (by first | (simp; done) | (simp; omega))) (by decide) _⟩⟩

def optV : T ByteArray Int → Value
  | .nil => .int .i64 0
  | .node _ _ v _ => .int .i64 v
def isN : T ByteArray Int → Bool
  | .nil => false
  | .node .. => true

set_option maxRecDepth 100000 in
set_option maxHeartbeats 2000000 in
theorem Split_any (t : T ByteArray Int) (k : ByteArray) (p : Option Addr) (w : World) (h : Tr w.heap.size w p t) (hs : t.size ≤ 1099511627776) :
    Calls Try.prog 29 #[.agg #[.pointer p], .string k] w fun e w' =>
      ∃ p1 p2, e = .returned (.tuple #[.agg #[.pointer p1], optV (T.cut k t).2.1, .bool (isN (T.cut k t).2.1), .agg #[.pointer p2]]) ∧
        Tr w'.heap.size w' p1 (T.cut k t).1 ∧ Tr w'.heap.size w' p2 (T.cut k t).2.2 ∧ Below w.heap.size w w' := by
  have hb := below_three w (.cells #[.pointer p] 44) (.cells #[.pointer none] 44) (.cells #[.pointer none] 44)
  obtain ⟨R, hR⟩ : ∃ R, R = (T.cut k t).2.1 := ⟨_, rfl⟩
  have HR := Lib.hid hR
  clear hR
  go_enter Try.func29, Try.ntmps29
  go_wp2_with fail
  refine (cut_any k t _ _ (h.later hb) hs).mono ?_
  rintro e w1 ⟨p1, q1, r1, rfl, hp1, hq1, hr1, hb1⟩
  rw [← HR.out] at hq1
  have hb3 := hb.trans (hb1.mono hb.size)
  have tg1 : tagAt w1 (w.heap.size + 1) 44 := tagAt.below ((tag_at _ _ 44 _ _ (by simp)).alloc _) hb1 (by first | (simp; done) | (simp; omega))
  have tg2 : tagAt w1 (w.heap.size + 2) 44 := tagAt.below (tag_at _ _ 44 _ _ (by simp)) hb1 (by simp)
  obtain ⟨hc, hf⟩ := bcell hb1
  go_wp2_with (go_at_call 65; refine (told_any R _ _ _ hq1).mono ?_; rintro e w' ⟨rfl, n, rfl⟩; cases R <;> simp only [toldV])
  · have tg1' : tagAt (w1.drewN n) (w.heap.size + 1) 44 := tg1
    have tg2' : tagAt (w1.drewN n) (w.heap.size + 2) 44 := tg2
    have hd : Below w1.heap.size w1 (w1.drewN n) := below_draws (Below.refl _ _) _
    exact bodyPost_ret (v := .tuple #[.agg #[.pointer p1], optV .nil, .bool (isN .nil), .agg #[.pointer r1]]) (by simp [results, Try.results29, go_sem, hc, optV, isN]) rfl
      ⟨p1, r1, by rw [← HR.out], ((hp1.later hd).stored (a := ⟨w.heap.size + 1, 0, none⟩) tg1' (by decide) _).stored (a := ⟨w.heap.size + 2, 0, none⟩) (tg2'.setCell _ _) (by decide) _, ((hr1.later hd).stored (a := ⟨w.heap.size + 1, 0, none⟩) tg1' (by decide) _).stored (a := ⟨w.heap.size + 2, 0, none⟩) (tg2'.setCell _ _) (by decide) _,
        ((hb3.trans (hd.mono hb3.size)).setCell (p := ⟨w.heap.size + 1, 0, none⟩) (by simp) _).setCell (p := ⟨w.heap.size + 2, 0, none⟩) (by simp) _⟩
  · rename_i rl rk rv rr
    have tg1' : tagAt (w1.drewN n) (w.heap.size + 1) 44 := tg1
    have tg2' : tagAt (w1.drewN n) (w.heap.size + 2) 44 := tg2
    have hd : Below w1.heap.size w1 (w1.drewN n) := below_draws (Below.refl _ _) _
    exact bodyPost_ret (v := .tuple #[.agg #[.pointer p1], optV (.node rl rk rv rr), .bool (isN (.node rl rk rv rr)), .agg #[.pointer r1]]) (by simp [results, Try.results29, go_sem, hc, optV, isN]) rfl
      ⟨p1, r1, by rw [← HR.out], ((hp1.later hd).stored (a := ⟨w.heap.size + 1, 0, none⟩) tg1' (by decide) _).stored (a := ⟨w.heap.size + 2, 0, none⟩) (tg2'.setCell _ _) (by decide) _, ((hr1.later hd).stored (a := ⟨w.heap.size + 1, 0, none⟩) tg1' (by decide) _).stored (a := ⟨w.heap.size + 2, 0, none⟩) (tg2'.setCell _ _) (by decide) _,
        ((hb3.trans (hd.mono hb3.size)).setCell (p := ⟨w.heap.size + 1, 0, none⟩) (by simp) _).setCell (p := ⟨w.heap.size + 2, 0, none⟩) (by simp) _⟩
end Go.Proofs.MT.SI
