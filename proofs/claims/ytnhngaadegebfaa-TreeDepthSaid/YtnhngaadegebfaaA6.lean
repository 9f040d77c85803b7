/- The map's methods (II), first part. -/
import Derived.Test.YtnhngaadegebfaaProg
import Derived.Test.YtnhngaadegebfaaTreeLaws
import Derived.Test.YtnhngaadegebfaaA5
import Derived.Test.YtnhngaadegebfaaStore
import Derived.Test.YtnhngaadegebfaaTreeLooks
import Derived.Deep.LoopGhost
import Derived.Deep.QuietTactic
import Derived.BigQuiet
import Derived.Deep.RegionHeld3
import Derived.KernelRfl
namespace Go.Proofs.MT.II
open Go.RowKit

/-- What a call that makes a map leaves. -/
def MakesM (T : T Int Int) (w : World) (e : Ending) (w' : World) : Prop :=
  ∃ p, e = .returned (.agg #[.pointer p]) ∧ Tr w'.heap.size w' p T ∧ Below w.heap.size w w'

/-- The three results that tell of a node. -/
def toldV : T Int Int → Value
  | .nil => .tuple #[.int .i64 0, .int .i64 0, .bool false]
  | .node _ k v _ => .tuple #[.int .i64 k, .int .i64 v, .bool true]

theorem told_any (t : T Int Int) (n₀ : Nat) (p : Option Addr) (w : World) (h : Tr n₀ w p t) :
    Calls Try.prog 70 #[.pointer p] w fun e w' => e = .returned (toldV t) ∧ ∃ n, w' = w.drewN n := by
  cases t with
  | nil =>
    obtain rfl : p = none := h
    exact (told_nil w).mono fun e w' ⟨h1, h2⟩ => ⟨h1, 0, h2.symm⟩
  | node l k v r => exact told_node l k v r p n₀ w h

theorem Len_any (t : T Int Int) (p : Option Addr) (w : World) (h : Tr w.heap.size w p t) :
    Calls Try.prog 17 #[.agg #[.pointer p]] w fun e w' => e = .returned (.int .i64 t.size) ∧ Below w.heap.size w w' := by
  go_enter Try.func17, Try.ntmps17
  go_wp2_with fail
  have hb := (Below.refl w.heap.size w).alloc (Nat.le_refl _) (.cells #[.pointer p] 28)
  refine (len_any t _ _ _ (h.later hb)).mono ?_
  rintro e w' ⟨rfl, rfl⟩
  go_wp2
  go_ret
  exact ⟨rfl, hb⟩

theorem Depth_any (t : T Int Int) (p : Option Addr) (w : World) (h : Tr w.heap.size w p t) (hs : t.size ≤ 1099511627776) :
    Calls Try.prog 67 #[.agg #[.pointer p]] w fun e w' => e = .returned (.int .i64 t.depth) ∧ Below w.heap.size w w' := by
  go_enter Try.func67, Try.ntmps67
  go_wp2_with fail
  have hb := (Below.refl w.heap.size w).alloc (Nat.le_refl _) (.cells #[.pointer p] 28)
  refine (depth_any t _ _ (h.later hb) hs).mono ?_
  rintro e w' ⟨rfl, hb1⟩
  go_wp2
  go_ret
  exact ⟨rfl, hb.trans (hb1.mono hb.size)⟩

theorem Put_any (t : T Int Int) (k : Int) (v : Int) (p : Option Addr) (w : World) (h : Tr w.heap.size w p t) (hs : t.size + 1 ≤ 1099511627776) :
    Calls Try.prog 24 #[.agg #[.pointer p], .int .i64 k, .int .i64 v] w (MakesM (t.put k v) w) := by
  go_enter Try.func24, Try.ntmps24
  go_wp2_with fail
  have hb := below_two w (.cells #[.pointer p] 28) (.cells #[.pointer none] 28)
  refine (put_any k v t _ _ (h.later hb) hs).mono ?_
  rintro e w1 ⟨p1, rfl, ht1, hb1⟩
  obtain ⟨hc, hf⟩ := bcell hb1
  go_wp2
  exact bodyPost_ret (v := .agg #[.pointer p1]) (by simp [results, Try.results24, go_sem, hc]) rfl ⟨p1, rfl, ht1.stored (a := ⟨w.heap.size + 1, 0, none⟩) (tagAt.below (tag_at _ _ 28 _ _ (by simp)) hb1 (by simp)) (by decide) _, (hb.trans (hb1.mono hb.size)).setCell (p := ⟨w.heap.size + 1, 0, none⟩) (by simp) _⟩

theorem Union_any (A B : T Int Int) (p q : Option Addr) (w : World) (hA : Tr w.heap.size w p A) (hB : Tr w.heap.size w q B) (hs : A.size + B.size + 1 ≤ 1099511627776) :
    Calls Try.prog 34 #[.agg #[.pointer p], .agg #[.pointer q]] w (MakesM (T.union A B) w) := by
  go_enter Try.func34, Try.ntmps34
  go_wp2_with fail
  have hb := below_three w (.cells #[.pointer p] 28) (.cells #[.pointer q] 28) (.cells #[.pointer none] 28)
  refine (union_any B A _ _ _ (hA.later hb) (hB.later hb) hs).mono ?_
  rintro e w1 ⟨p1, rfl, ht1, hb1⟩
  obtain ⟨hc, hf⟩ := bcell hb1
  go_wp2
  exact bodyPost_ret (v := .agg #[.pointer p1]) (by simp [results, Try.results34, go_sem, hc]) rfl ⟨p1, rfl, ht1.stored (a := ⟨w.heap.size + 2, 0, none⟩) (tagAt.below (tag_at _ _ 28 _ _ (by simp)) hb1 (by simp)) (by decide) _, (hb.trans (hb1.mono hb.size)).setCell (p := ⟨w.heap.size + 2, 0, none⟩) (by simp) _⟩

theorem Intersect_any (A B : T Int Int) (p q : Option Addr) (w : World) (hA : Tr w.heap.size w p A) (hB : Tr w.heap.size w q B) (hs : A.size + B.size + 1 ≤ 1099511627776) :
    Calls Try.prog 39 #[.agg #[.pointer p], .agg #[.pointer q]] w (MakesM (T.intersect A B) w) := by
  go_enter Try.func39, Try.ntmps39
  go_wp2_with fail
  have hb := below_three w (.cells #[.pointer p] 28) (.cells #[.pointer q] 28) (.cells #[.pointer none] 28)
  refine (intersect_any B A _ _ _ (hA.later hb) (hB.later hb) hs).mono ?_
  rintro e w1 ⟨p1, rfl, ht1, hb1⟩
  obtain ⟨hc, hf⟩ := bcell hb1
  go_wp2
  exact bodyPost_ret (v := .agg #[.pointer p1]) (by simp [results, Try.results39, go_sem, hc]) rfl ⟨p1, rfl, ht1.stored (a := ⟨w.heap.size + 2, 0, none⟩) (tagAt.below (tag_at _ _ 28 _ _ (by simp)) hb1 (by simp)) (by decide) _, (hb.trans (hb1.mono hb.size)).setCell (p := ⟨w.heap.size + 2, 0, none⟩) (by simp) _⟩

theorem Subtract_any (A B : T Int Int) (p q : Option Addr) (w : World) (hA : Tr w.heap.size w p A) (hB : Tr w.heap.size w q B) (hs : A.size + B.size + 1 ≤ 1099511627776) :
    Calls Try.prog 35 #[.agg #[.pointer p], .agg #[.pointer q]] w (MakesM (T.subtract A B) w) := by
  go_enter Try.func35, Try.ntmps35
  go_wp2_with fail
  have hb := below_three w (.cells #[.pointer p] 28) (.cells #[.pointer q] 28) (.cells #[.pointer none] 28)
  refine (subtract_any B A _ _ _ (hA.later hb) (hB.later hb) hs).mono ?_
  rintro e w1 ⟨p1, rfl, ht1, hb1⟩
  obtain ⟨hc, hf⟩ := bcell hb1
  go_wp2
  exact bodyPost_ret (v := .agg #[.pointer p1]) (by simp [results, Try.results35, go_sem, hc]) rfl ⟨p1, rfl, ht1.stored (a := ⟨w.heap.size + 2, 0, none⟩) (tagAt.below (tag_at _ _ 28 _ _ (by simp)) hb1 (by simp)) (by decide) _, (hb.trans (hb1.mono hb.size)).setCell (p := ⟨w.heap.size + 2, 0, none⟩) (by simp) _⟩

set_option maxRecDepth 100000 in
set_option maxHeartbeats 2000000 in
theorem find_any (t : T Int Int) (k : Int) (p : Option Addr) (w : World) (h : Tr w.heap.size w p t) :
    Calls Try.prog 58 #[.agg #[.pointer p], .int .i64 k] w fun e w' => ∃ q, e = .returned (.pointer q) ∧ Tr w.heap.size w' q (t.find k) ∧ w' = w.alloc (.cells #[.pointer p] 28) := by
  have hb := (Below.refl w.heap.size w).alloc (Nat.le_refl _) (.cells #[.pointer p] 28)
  have h' : Tr w.heap.size (w.alloc (.cells #[.pointer p] 28)) p t := h.below hb
  go_enter Try.func58, Try.ntmps58
  go_wp2_with fail
  go_loopg [5] t.size (fun n p5 wr => w.alloc (.cells #[.pointer p] 28) = wr ∧ ∃ (F : T Int Int) (p' : Option Addr), p5 = .pointer p' ∧ Tr w.heap.size (w.alloc (.cells #[.pointer p] 28)) p' F ∧ Hid (F.size = n) ∧ Hid (F.find k = t.find k))
  case atStart => exact ⟨rfl, t, _, rfl, h', rfl, rfl⟩
  case round =>
    obtain ⟨rfl, F, p', rfl, hF, HS, hr⟩ := hrel
    cases F with
    | nil =>
      obtain rfl : p' = none := hF
      go_wp2
      go_ret
      exact ⟨none, rfl, by rw [← hr.out]; rfl, rfl⟩
    | node l q v r =>
      obtain ⟨b, pl, pr, rfl, hb', c0, c1, c2, c3, c4, hl, hr'⟩ := id hF
      cases hk : KOrd.lt k q with
      | true =>
        have HE : Hid ((T.node l q v r).find k = l.find k) := by simp [Hid, T.find, hk]
        have hk' : k < q := by simpa using hk
        clear hk c4
        go_wp2
        go_roundg l.size
        case measure => have := HS.out; simp only [T.size] at this; omega
        case rel => exact ⟨rfl, l, _, rfl, hl, rfl, HE.out.symm.trans hr.out⟩
      | false =>
        cases hq : KOrd.lt q k with
        | true =>
          have HE : Hid ((T.node l q v r).find k = r.find k) := by simp [Hid, T.find, hk, hq]
          have hk' : q ≤ k := by simpa using hk
          have hq' : q < k := by simpa using hq
          clear hk hq c4
          go_wp2
          go_roundg r.size
          case measure => have := HS.out; simp only [T.size] at this; omega
          case rel => exact ⟨rfl, r, _, rfl, hr', rfl, HE.out.symm.trans hr.out⟩
        | false =>
          have HE : Hid ((T.node l q v r).find k = .node l q v r) := by simp [Hid, T.find, hk, hq]
          obtain rfl : k = q := KOrd.tri hk hq
          clear hk hq c4
          go_wp2
          go_ret
          exact ⟨_, rfl, by rw [← hr.out, HE.out]; exact hF, rfl⟩
end Go.Proofs.MT.II
