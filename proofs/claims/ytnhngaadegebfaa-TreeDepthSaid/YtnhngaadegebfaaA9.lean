/- The map's methods (II), third part. -/
import Derived.Test.YtnhngaadegebfaaProg
import Derived.Test.YtnhngaadegebfaaTreeLaws
import Derived.Test.YtnhngaadegebfaaA8
import Derived.BigQuiet
import Derived.Deep.QuietTactic
import Derived.BigQuiet
import Derived.Deep.RegionHeld3
import Derived.KernelRfl
namespace Go.Proofs.MT.II
open Go.RowKit

/-- What a deletion leaves. -/
def Deletes (t : T Int Int) (k : Int) (w : World) (e : Ending) (w' : World) : Prop :=
  ∃ p' b, e = .returned (.tuple #[.agg #[.pointer p'], .bool b]) ∧ Below w.heap.size w w' ∧
    ((T.find k t = .nil ∧ b = false ∧ Tr w'.heap.size w' p' t) ∨ (T.find k t ≠ .nil ∧ b = true ∧ Tr w'.heap.size w' p' (t.remove k)))

set_option maxRecDepth 100000 in
set_option maxHeartbeats 2000000 in
theorem Delete_any (t : T Int Int) (k : Int) (p : Option Addr) (w : World) (h : Tr w.heap.size w p t) (hs : t.size ≤ 1099511627776) :
    Calls Try.prog 22 #[.agg #[.pointer p], .int .i64 k] w (Deletes t k w) := by
  have hb := below_two w (.cells #[.pointer p] 28) (.cells #[.pointer none] 28)
  cases hR : T.find k t with
  | nil =>
    have HR := Lib.hid hR
    clear hR
    go_enter Try.func22, Try.ntmps22
    go_wp2_with fail
    refine (find_any t k p _ (h.later hb)).mono ?_
    rintro e w1 ⟨q, rfl, hq, rfl⟩
    rw [HR.out] at hq
    obtain rfl : q = none := hq
    go_wp2
    exact bodyPost_ret (v := .tuple #[.agg #[.pointer p], .bool false]) (by simp [results, Try.results22, go_sem]) rfl ⟨p, false, rfl, below_three _ _ _ _, .inl ⟨HR.out, rfl, h.later (below_three _ _ _ _)⟩⟩
  | node l q v r =>
    have HR := Lib.hid hR
    clear hR
    go_enter Try.func22, Try.ntmps22
    go_wp2_with fail
    refine (find_any t k p _ (h.later hb)).mono ?_
    rintro e w1 ⟨q, rfl, hq, rfl⟩
    rw [HR.out] at hq
    obtain ⟨b, pl, pr, rfl, hb', -⟩ := hq
    have hb2 := hb.alloc (by simp; omega) (.cells #[.pointer p] 28)
    go_wp2_with fail
    refine (remove_any k t _ _ (h.later hb2) hs).mono ?_
    rintro e w1 ⟨p1, rfl, ht1, hb1⟩
    obtain ⟨hc, hf⟩ := bcell hb1
    go_wp2
    exact bodyPost_ret (v := .tuple #[.agg #[.pointer p1], .bool true]) (by simp [results, Try.results22, go_sem, hc]) rfl
      ⟨p1, true, rfl, (hb2.trans (hb1.mono hb2.size)).setCell (p := ⟨w.heap.size + 1, 0, none⟩) (by simp) _,
        .inr ⟨(by rw [HR.out]; intro h; cases h), rfl, ht1.stored (a := ⟨w.heap.size + 1, 0, none⟩) (tagAt.below ((tag_at _ _ 28 _ _ (by simp)).alloc _) hb1 (by first | (simp; done) | (simp; omega))) (by decide) _⟩⟩

def optV : T Int Int → Value
  | .nil => .int .i64 0
  | .node _ _ v _ => .int .i64 v
def isN : T Int Int → Bool
  | .nil => false
  | .node .. => true

set_option maxRecDepth 100000 in
set_option maxHeartbeats 2000000 in
theorem Split_any (t : T Int Int) (k : Int) (p : Option Addr) (w : World) (h : Tr w.heap.size w p t) (hs : t.size ≤ 1099511627776) :
    Calls Try.prog 32 #[.agg #[.pointer p], .int .i64 k] w fun e w' =>
      ∃ p1 p2, e = .returned (.tuple #[.agg #[.pointer p1], optV (T.cut k t).2.1, .bool (isN (T.cut k t).2.1), .agg #[.pointer p2]]) ∧
        Tr w'.heap.size w' p1 (T.cut k t).1 ∧ Tr w'.heap.size w' p2 (T.cut k t).2.2 ∧ Below w.heap.size w w' := by
  have hb := below_three w (.cells #[.pointer p] 28) (.cells #[.pointer none] 28) (.cells #[.pointer none] 28)
  obtain ⟨R, hR⟩ : ∃ R, R = (T.cut k t).2.1 := ⟨_, rfl⟩
  have HR := Lib.hid hR
  clear hR
  go_enter Try.func32, Try.ntmps32
  go_wp2_with fail
  refine (cut_any k t _ _ (h.later hb) hs).mono ?_
  rintro e w1 ⟨p1, q1, r1, rfl, hp1, hq1, hr1, hb1⟩
  rw [← HR.out] at hq1
  have hb3 := hb.trans (hb1.mono hb.size)
  have tg1 : tagAt w1 (w.heap.size + 1) 28 := tagAt.below ((tag_at _ _ 28 _ _ (by simp)).alloc _) hb1 (by first | (simp; done) | (simp; omega))
  have tg2 : tagAt w1 (w.heap.size + 2) 28 := tagAt.below (tag_at _ _ 28 _ _ (by simp)) hb1 (by simp)
  obtain ⟨hc, hf⟩ := bcell hb1
  go_wp2_with (go_at_call 70; refine (told_any R _ _ _ hq1).mono ?_; rintro e w' ⟨rfl, n, rfl⟩; cases R <;> simp only [toldV])
  · have tg1' : tagAt (w1.drewN n) (w.heap.size + 1) 28 := tg1
    have tg2' : tagAt (w1.drewN n) (w.heap.size + 2) 28 := tg2
    have hd : Below w1.heap.size w1 (w1.drewN n) := below_draws (Below.refl _ _) _
    exact bodyPost_ret (v := .tuple #[.agg #[.pointer p1], optV .nil, .bool (isN .nil), .agg #[.pointer r1]]) (by simp [results, Try.results32, go_sem, hc, optV, isN]) rfl
      ⟨p1, r1, by rw [← HR.out], ((hp1.later hd).stored (a := ⟨w.heap.size + 1, 0, none⟩) tg1' (by decide) _).stored (a := ⟨w.heap.size + 2, 0, none⟩) (tg2'.setCell _ _) (by decide) _, ((hr1.later hd).stored (a := ⟨w.heap.size + 1, 0, none⟩) tg1' (by decide) _).stored (a := ⟨w.heap.size + 2, 0, none⟩) (tg2'.setCell _ _) (by decide) _,
        ((hb3.trans (hd.mono hb3.size)).setCell (p := ⟨w.heap.size + 1, 0, none⟩) (by simp) _).setCell (p := ⟨w.heap.size + 2, 0, none⟩) (by simp) _⟩
  · rename_i rl rk rv rr
    have tg1' : tagAt (w1.drewN n) (w.heap.size + 1) 28 := tg1
    have tg2' : tagAt (w1.drewN n) (w.heap.size + 2) 28 := tg2
    have hd : Below w1.heap.size w1 (w1.drewN n) := below_draws (Below.refl _ _) _
    exact bodyPost_ret (v := .tuple #[.agg #[.pointer p1], optV (.node rl rk rv rr), .bool (isN (.node rl rk rv rr)), .agg #[.pointer r1]]) (by simp [results, Try.results32, go_sem, hc, optV, isN]) rfl
      ⟨p1, r1, by rw [← HR.out], ((hp1.later hd).stored (a := ⟨w.heap.size + 1, 0, none⟩) tg1' (by decide) _).stored (a := ⟨w.heap.size + 2, 0, none⟩) (tg2'.setCell _ _) (by decide) _, ((hr1.later hd).stored (a := ⟨w.heap.size + 1, 0, none⟩) tg1' (by decide) _).stored (a := ⟨w.heap.size + 2, 0, none⟩) (tg2'.setCell _ _) (by decide) _,
        ((hb3.trans (hd.mono hb3.size)).setCell (p := ⟨w.heap.size + 1, 0, none⟩) (by simp) _).setCell (p := ⟨w.heap.size + 2, 0, none⟩) (by simp) _⟩
end Go.Proofs.MT.II
