/- Rank, Floor, Ceil, At, Get, Delete, Split. -/
import Derived.Test.YtnhngaadegebfaaProg
import Derived.Test.YtnhngaadegebfaaBase
import Derived.Test.YtnhngaadegebfaaAA
import Derived.WalkSmall
import Derived.Deep.QuietTactic
import Derived.BigQuiet
import Derived.Deep.RegionHeld3
import Derived.KernelRfl

/- The map's methods (II), second part. -/
namespace Go.Proofs.MT.II
open Go.RowKit

set_option maxRecDepth 100000 in
set_option maxHeartbeats 2000000 in
theorem Rank_any (t : T Int Int) (k : Int) (p : Option Addr) (w : World) (h : Tr w.heap.size w p t) (hs : t.size ≤ 1099511627776) :
    Calls Try.prog 28 #[.agg #[.pointer p], .int .i64 k] w fun e w' => e = .returned (.int .i64 (t.rank k)) ∧ Below w.heap.size w w' := by
  have hb := (Below.refl w.heap.size w).alloc (Nat.le_refl _) (.cells #[.pointer p] 28)
  have h' : Tr w.heap.size (w.alloc (.cells #[.pointer p] 28)) p t := h.below hb
  go_enter Try.func28, Try.ntmps28
  go_wp2_with fail
  go_loopg [5, 6] t.size (fun n r5 p6 wr => w.alloc (.cells #[.pointer p] 28) = wr ∧ ∃ (F : T Int Int) (p' : Option Addr) (a : Nat), r5 = .int .i64 a ∧ p6 = .pointer p' ∧ Tr w.heap.size (w.alloc (.cells #[.pointer p] 28)) p' F ∧ a + F.size ≤ t.size ∧ Hid (F.size = n) ∧ Hid (a + F.rank k = t.rank k))
  case atStart => exact ⟨rfl, t, _, 0, rfl, rfl, h', by omega, rfl, by simp [Hid]⟩
  case round =>
    obtain ⟨rfl, F, p', a, rfl, rfl, hF, ha, HS, hr⟩ := hrel
    cases F with
    | nil =>
      obtain rfl : p' = none := hF
      go_wp2
      go_ret
      exact ⟨ret_int (by have := hr.out; simp only [T.rank] at this; omega), hb⟩
    | node l q v r =>
      obtain ⟨b, pl, pr, rfl, hb', c0, c1, c2, c3, c4, hl, hr'⟩ := id hF
      simp only [T.size] at ha
      cases hk : KOrd.lt q k with
      | true =>
        have HE : Hid ((T.node l q v r).rank k = l.size + 1 + r.rank k) := by simp [Hid, T.rank, hk]
        have hk' : q < k := by simpa using hk
        clear hk c4
        go_wp2_with (go_at_call 54; refine (len_any l _ _ _ hl).mono ?_; rintro e w' ⟨rfl, rfl⟩)
        go_roundg r.size
        case measure => have := HS.out; simp only [T.size] at this; omega
        case rel => exact ⟨rfl, r, _, a + (l.size + 1), by go_num, rfl, hr', by omega, rfl, by have := HE.out; have := hr.out; simp only [Hid]; omega⟩
      | false =>
        have HE : Hid ((T.node l q v r).rank k = l.rank k) := by simp [Hid, T.rank, hk]
        have hk' : k ≤ q := by simpa using hk
        clear hk c4
        go_wp2
        go_roundg l.size
        case measure => have := HS.out; simp only [T.size] at this; omega
        case rel => exact ⟨rfl, l, _, a, rfl, rfl, hl, by omega, rfl, by have := HE.out; have := hr.out; simp only [Hid]; omega⟩

set_option maxRecDepth 100000 in
set_option maxHeartbeats 2000000 in
theorem Floor_any (t : T Int Int) (k : Int) (p : Option Addr) (w : World) (h : Tr w.heap.size w p t) :
    Calls Try.prog 83 #[.agg #[.pointer p], .int .i64 k] w fun e w' => e = .returned (toldV (T.floor k .nil t)) ∧ Below w.heap.size w w' := by
  have hb := (Below.refl w.heap.size w).alloc (Nat.le_refl _) (.cells #[.pointer p] 28)
  have h' : Tr w.heap.size (w.alloc (.cells #[.pointer p] 28)) p t := h.below hb
  go_enter Try.func83, Try.ntmps83
  go_wp2_with fail
  go_loopg [7, 8] t.size (fun n p7 p8 wr => Below w.heap.size w wr ∧ ∃ (F B : T Int Int) (p' pb : Option Addr), p7 = .pointer pb ∧ p8 = .pointer p' ∧ Tr w.heap.size wr p' F ∧ Tr w.heap.size wr pb B ∧ Hid (F.size = n) ∧ Hid (T.floor k B F = T.floor k .nil t))
  case atStart => exact ⟨hb, t, .nil, _, _, rfl, rfl, h', rfl, rfl, rfl⟩
  case round =>
    obtain ⟨hbw, F, B, p', pb, rfl, rfl, hF, hB, HS, hr⟩ := hrel
    cases F with
    | nil =>
      obtain rfl : p' = none := hF
      have HQ : Hid (B = T.floor k .nil t) := by have := hr.out; exact this
      go_wp2_with (go_at_call 70; refine (told_any B _ _ _ hB).mono ?_; rintro e w' ⟨rfl, n, rfl⟩; cases B <;> simp only [toldV])
      all_goals go_ret3
      all_goals exact ⟨by rw [← HQ.out]; rfl, below_draws hbw _⟩
    | node l q v r =>
      obtain ⟨b, pl, pr, rfl, hb', c0, c1, c2, c3, c4, hl, hr'⟩ := id hF
      cases hk : KOrd.lt k q with
      | true =>
        have HE : Hid (T.floor k B (T.node l q v r) = T.floor k B l) := by simp [Hid, T.floor, hk]
        have hk' : k < q := by simpa using hk
        clear hk c4
        go_wp2
        go_roundg l.size
        case measure => have := HS.out; simp only [T.size] at this; omega
        case rel => exact ⟨hbw, l, B, _, _, rfl, rfl, hl, hB, rfl, HE.out.symm.trans hr.out⟩
      | false =>
        have HE : Hid (T.floor k B (T.node l q v r) = T.floor k (.node l q v r) r) := by simp [Hid, T.floor, hk]
        have hk' : q ≤ k := by simpa using hk
        clear hk c4
        go_wp2
        go_quiet (fail)
        go_wp2
        go_roundg r.size
        case measure => have := HS.out; simp only [T.size] at this; omega
        case rel => exact ⟨below_draws hbw _, r, .node l q v r, _, _, rfl, rfl, hr'.below (below_draws (Below.refl _ _) _), hF.below (below_draws (Below.refl _ _) _), rfl, HE.out.symm.trans hr.out⟩

set_option maxRecDepth 100000 in
set_option maxHeartbeats 2000000 in
theorem Ceil_any (t : T Int Int) (k : Int) (p : Option Addr) (w : World) (h : Tr w.heap.size w p t) :
    Calls Try.prog 84 #[.agg #[.pointer p], .int .i64 k] w fun e w' => e = .returned (toldV (T.ceil k .nil t)) ∧ Below w.heap.size w w' := by
  have hb := (Below.refl w.heap.size w).alloc (Nat.le_refl _) (.cells #[.pointer p] 28)
  have h' : Tr w.heap.size (w.alloc (.cells #[.pointer p] 28)) p t := h.below hb
  go_enter Try.func84, Try.ntmps84
  go_wp2_with fail
  go_loopg [7, 8] t.size (fun n p7 p8 wr => Below w.heap.size w wr ∧ ∃ (F B : T Int Int) (p' pb : Option Addr), p7 = .pointer pb ∧ p8 = .pointer p' ∧ Tr w.heap.size wr p' F ∧ Tr w.heap.size wr pb B ∧ Hid (F.size = n) ∧ Hid (T.ceil k B F = T.ceil k .nil t))
  case atStart => exact ⟨hb, t, .nil, _, _, rfl, rfl, h', rfl, rfl, rfl⟩
  case round =>
    obtain ⟨hbw, F, B, p', pb, rfl, rfl, hF, hB, HS, hr⟩ := hrel
    cases F with
    | nil =>
      obtain rfl : p' = none := hF
      have HQ : Hid (B = T.ceil k .nil t) := by have := hr.out; exact this
      go_wp2_with (go_at_call 70; refine (told_any B _ _ _ hB).mono ?_; rintro e w' ⟨rfl, n, rfl⟩; cases B <;> simp only [toldV])
      all_goals go_ret3
      all_goals exact ⟨by rw [← HQ.out]; rfl, below_draws hbw _⟩
    | node l q v r =>
      obtain ⟨b, pl, pr, rfl, hb', c0, c1, c2, c3, c4, hl, hr'⟩ := id hF
      cases hk : KOrd.lt q k with
      | true =>
        have HE : Hid (T.ceil k B (T.node l q v r) = T.ceil k B r) := by simp [Hid, T.ceil, hk]
        have hk' : q < k := by simpa using hk
        clear hk c4
        go_wp2
        go_roundg r.size
        case measure => have := HS.out; simp only [T.size] at this; omega
        case rel => exact ⟨hbw, r, B, _, _, rfl, rfl, hr', hB, rfl, HE.out.symm.trans hr.out⟩
      | false =>
        have HE : Hid (T.ceil k B (T.node l q v r) = T.ceil k (.node l q v r) l) := by simp [Hid, T.ceil, hk]
        have hk' : k ≤ q := by simpa using hk
        clear hk c4
        go_wp2
        go_quiet (fail)
        go_wp2
        go_roundg l.size
        case measure => have := HS.out; simp only [T.size] at this; omega
        case rel => exact ⟨below_draws hbw _, l, .node l q v r, _, _, rfl, rfl, hl.below (below_draws (Below.refl _ _) _), hF.below (below_draws (Below.refl _ _) _), rfl, HE.out.symm.trans hr.out⟩

set_option maxRecDepth 100000 in
set_option maxHeartbeats 2000000 in
theorem At_any (t : T Int Int) (i : Int) (hi : i ≤ 9223372036854775807) (p : Option Addr) (w : World) (h : Tr w.heap.size w p t) :
    Calls Try.prog 71 #[.agg #[.pointer p], .int .i64 i] w fun e w' => e = .returned (toldV (t.at_ i)) ∧ Below w.heap.size w w' := by
  have hb := (Below.refl w.heap.size w).alloc (Nat.le_refl _) (.cells #[.pointer p] 28)
  have h' : Tr w.heap.size (w.alloc (.cells #[.pointer p] 28)) p t := h.below hb
  go_enter Try.func71, Try.ntmps71
  go_wp2_with fail
  go_loopg [1, 7] t.size (fun n x1 p7 wr => Below w.heap.size w wr ∧ ∃ (F : T Int Int) (p' : Option Addr) (i' : Int), x1 = .int .i64 i' ∧ p7 = .pointer p' ∧ Tr w.heap.size wr p' F ∧ i' ≤ 9223372036854775807 ∧ Hid (F.size = n) ∧ Hid (F.at_ i' = t.at_ i))
  case atStart => exact ⟨hb, t, _, i, rfl, rfl, h', hi, rfl, rfl⟩
  case round =>
    obtain ⟨hbw, F, p', i', rfl, rfl, hF, hi', HS, hr⟩ := hrel
    cases F with
    | nil =>
      obtain rfl : p' = none := hF
      go_wp2_with (go_at_call 70; refine (told_nil _).mono ?_; rintro e w' ⟨rfl, rfl⟩)
      go_ret3
      exact ⟨by rw [← hr.out]; rfl, hbw⟩
    | node l q v r =>
      obtain ⟨b, pl, pr, rfl, hb', c0, c1, c2, c3, c4, hl, hr'⟩ := id hF
      clear c4
      by_cases h1 : i' < (l.size : Int)
      · have HE : Hid ((T.node l q v r).at_ i' = l.at_ i') := by simp [Hid, T.at_, h1]
        go_wp2_with (go_at_call 54; refine (len_any l _ _ _ hl).mono ?_; rintro e w' ⟨rfl, rfl⟩)
        go_roundg l.size
        case measure => have := HS.out; simp only [T.size] at this; omega
        case rel => exact ⟨hbw, l, _, i', rfl, rfl, hl, hi', rfl, HE.out.symm.trans hr.out⟩
      · by_cases h2 : (l.size : Int) < i'
        · have HE : Hid ((T.node l q v r).at_ i' = r.at_ (i' - l.size - 1)) := by simp [Hid, T.at_, h1, h2]
          have ws1 : IntKind.i64.wrap (i' - l.size) = i' - l.size := by rw [IntKind.wrap_i64]; omega
          have ws2 : IntKind.i64.wrap (i' - l.size - 1) = i' - l.size - 1 := by rw [IntKind.wrap_i64]; omega
          go_wp2_with (go_at_call 54; refine (len_any l _ _ _ hl).mono ?_; rintro e w' ⟨rfl, rfl⟩)
          go_quiet (fail)
          go_wp2
          go_roundg r.size
          case measure => have := HS.out; simp only [T.size] at this; omega
          case rel => exact ⟨below_draws hbw _, r, _, i' - l.size - 1, rfl, rfl, hr'.below (below_draws (Below.refl _ _) _), by omega, rfl, HE.out.symm.trans hr.out⟩
        · have HE : Hid ((T.node l q v r).at_ i' = .node l q v r) := by simp [Hid, T.at_, h1, h2]
          go_wp2_with (go_at_call 54; refine (len_any l _ _ _ hl).mono ?_; rintro e w' ⟨rfl, rfl⟩)
          go_quiet (fail)
          go_wp2
          go_ret3
          exact ⟨by rw [← hr.out, HE.out]; rfl, below_draws hbw _⟩

def getV : T Int Int → Value
  | .nil => .tuple #[.int .i64 0, .bool false]
  | .node _ _ v _ => .tuple #[.int .i64 v, .bool true]
set_option maxRecDepth 100000 in
set_option maxHeartbeats 2000000 in
theorem Get_any (t : T Int Int) (k : Int) (p : Option Addr) (w : World) (h : Tr w.heap.size w p t) :
    Calls Try.prog 82 #[.agg #[.pointer p], .int .i64 k] w fun e w' => e = .returned (getV (t.find k)) ∧ Below w.heap.size w w' := by
  have hb := (Below.refl w.heap.size w).alloc (Nat.le_refl _) (.cells #[.pointer p] 28)
  have h' : Tr w.heap.size (w.alloc (.cells #[.pointer p] 28)) p t := h.below hb
  obtain ⟨R, hR⟩ : ∃ R, R = t.find k := ⟨_, rfl⟩
  have HR := Lib.hid hR
  clear hR
  go_enter Try.func82, Try.ntmps82
  go_wp2_with fail
  refine (find_any t k p _ (h.later hb)).mono ?_
  rintro e w1 ⟨q, rfl, hq, rfl⟩
  rw [← HR.out] at hq
  have hb2 := hb.alloc (by simp) (.cells #[.pointer p] 28)
  go_wp2_with (go_at_call 70; refine (told_any R _ _ _ hq).mono ?_; rintro e w' ⟨rfl, n, rfl⟩; cases R <;> simp only [toldV])
  all_goals go_ret2
  all_goals exact ⟨by rw [← HR.out]; rfl, below_draws hb2 _⟩
end Go.Proofs.MT.II

/- The map's methods (II), third part. -/
namespace Go.Proofs.MT.II
open Go.RowKit

/-- What a deletion leaves. -/
def Deletes (t : T Int Int) (k : Int) (w : World) (e : Ending) (w' : World) : Prop :=
  ∃ p' b, e = .returned (.tuple #[.agg #[.pointer p'], .bool b]) ∧ Below w.heap.size w w' ∧
    ((T.find k t = .nil ∧ b = false ∧ Tr w'.heap.size w' p' t) ∨ (T.find k t ≠ .nil ∧ b = true ∧ Tr w'.heap.size w' p' (t.remove k)))

set_option maxRecDepth 100000 in
set_option maxHeartbeats 2000000 in
theorem Delete_any (t : T Int Int) (k : Int) (p : Option Addr) (w : World) (h : Tr w.heap.size w p t) (hs : t.size ≤ 1099511627776) :
    Calls Try.prog 22 #[.agg #[.pointer p], .int .i64 k] w (Deletes t k w) := by
  have hb := below_two w (.cells #[.pointer p] 28) (.cells #[.pointer none] 28)
  cases hR : T.find k t with
  | nil =>
    have HR := Lib.hid hR
    clear hR
    go_enter Try.func22, Try.ntmps22
    go_wp2_with fail
    refine (find_any t k p _ (h.later hb)).mono ?_
    rintro e w1 ⟨q, rfl, hq, rfl⟩
    rw [HR.out] at hq
    obtain rfl : q = none := hq
    go_wp2
    exact bodyPost_ret (v := .tuple #[.agg #[.pointer p], .bool false]) (by simp [results, Try.results22, go_sem]) rfl ⟨p, false, rfl, below_three _ _ _ _, .inl ⟨HR.out, rfl, h.later (below_three _ _ _ _)⟩⟩
  | node l q v r =>
    have HR := Lib.hid hR
    clear hR
    go_enter Try.func22, Try.ntmps22
    go_wp2_with fail
    refine (find_any t k p _ (h.later hb)).mono ?_
    rintro e w1 ⟨q, rfl, hq, rfl⟩
    rw [HR.out] at hq
    obtain ⟨b, pl, pr, rfl, hb', -⟩ := hq
    have hb2 := hb.alloc (by simp; omega) (.cells #[.pointer p] 28)
    go_wp2_with fail
    refine (remove_any k t _ _ (h.later hb2) hs).mono ?_
    rintro e w1 ⟨p1, rfl, ht1, hb1⟩
    obtain ⟨hc, hf⟩ := bcell hb1
    go_wp2
    exact bodyPost_ret (v := .tuple #[.agg #[.pointer p1], .bool true]) (by simp [results, Try.results22, go_sem, hc]) rfl
      ⟨p1, true, rfl, (hb2.trans (hb1.mono hb2.size)).setCell (p := ⟨w.heap.size + 1, 0, none⟩) (by simp) _,
        .inr ⟨(by rw [HR.out]; intro h; cases h), rfl, ht1.stored (a := ⟨w.heap.size + 1, 0, none⟩) (tagAt.below ((tag_at _ _ 28 _ _ (by simp)).alloc _) hb1 (by first | (simp; done) | (simp; omega))) (by decide) _⟩⟩

def optV : T Int Int → Value
  | .nil => .int .i64 0
  | .node _ _ v _ => .int .i64 v
def isN : T Int Int → Bool
  | .nil => false
  | .node .. => true

set_option maxRecDepth 100000 in
set_option maxHeartbeats 2000000 in
theorem Split_any (t : T Int Int) (k : Int) (p : Option Addr) (w : World) (h : Tr w.heap.size w p t) (hs : t.size ≤ 1099511627776) :
    Calls Try.prog 32 #[.agg #[.pointer p], .int .i64 k] w fun e w' =>
      ∃ p1 p2, e = .returned (.tuple #[.agg #[.pointer p1], optV (T.cut k t).2.1, .bool (isN (T.cut k t).2.1), .agg #[.pointer p2]]) ∧
        Tr w'.heap.size w' p1 (T.cut k t).1 ∧ Tr w'.heap.size w' p2 (T.cut k t).2.2 ∧ Below w.heap.size w w' := by
  have hb := below_three w (.cells #[.pointer p] 28) (.cells #[.pointer none] 28) (.cells #[.pointer none] 28)
  obtain ⟨R, hR⟩ : ∃ R, R = (T.cut k t).2.1 := ⟨_, rfl⟩
  have HR := Lib.hid hR
  clear hR
  go_enter Try.func32, Try.ntmps32
  go_wp2_with fail
  refine (cut_any k t _ _ (h.later hb) hs).mono ?_
  rintro e w1 ⟨p1, q1, r1, rfl, hp1, hq1, hr1, hb1⟩
  rw [← HR.out] at hq1
  have hb3 := hb.trans (hb1.mono hb.size)
  have tg1 : tagAt w1 (w.heap.size + 1) 28 := tagAt.below ((tag_at _ _ 28 _ _ (by simp)).alloc _) hb1 (by first | (simp; done) | (simp; omega))
  have tg2 : tagAt w1 (w.heap.size + 2) 28 := tagAt.below (tag_at _ _ 28 _ _ (by simp)) hb1 (by simp)
  obtain ⟨hc, hf⟩ := bcell hb1
  go_wp2_with (go_at_call 70; refine (told_any R _ _ _ hq1).mono ?_; rintro e w' ⟨rfl, n, rfl⟩; cases R <;> simp only [toldV])
  · have tg1' : tagAt (w1.drewN n) (w.heap.size + 1) 28 := tg1
    have tg2' : tagAt (w1.drewN n) (w.heap.size + 2) 28 := tg2
    have hd : Below w1.heap.size w1 (w1.drewN n) := below_draws (Below.refl _ _) _
    exact bodyPost_ret (v := .tuple #[.agg #[.pointer p1], optV .nil, .bool (isN .nil), .agg #[.pointer r1]]) (by simp [results, Try.results32, go_sem, hc, optV, isN]) rfl
      ⟨p1, r1, by rw [← HR.out], ((hp1.later hd).stored (a := ⟨w.heap.size + 1, 0, none⟩) tg1' (by decide) _).stored (a := ⟨w.heap.size + 2, 0, none⟩) (tg2'.setCell _ _) (by decide) _, ((hr1.later hd).stored (a := ⟨w.heap.size + 1, 0, none⟩) tg1' (by decide) _).stored (a := ⟨w.heap.size + 2, 0, none⟩) (tg2'.setCell _ _) (by decide) _,
        ((hb3.trans (hd.mono hb3.size)).setCell (p := ⟨w.heap.size + 1, 0, none⟩) (by simp) _).setCell (p := ⟨w.heap.size + 2, 0, none⟩) (by simp) _⟩
  · rename_i rl rk rv rr
    have tg1' : tagAt (w1.drewN n) (w.heap.size + 1) 28 := tg1
    have tg2' : tagAt (w1.drewN n) (w.heap.size + 2) 28 := tg2
    have hd : Below w1.heap.size w1 (w1.drewN n) := below_draws (Below.refl _ _) _
    exact bodyPost_ret (v := .tuple #[.agg #[.pointer p1], optV (.node rl rk rv rr), .bool (isN (.node rl rk rv rr)), .agg #[.pointer r1]]) (by simp [results, Try.results32, go_sem, hc, optV, isN]) rfl
      ⟨p1, r1, by rw [← HR.out], ((hp1.later hd).stored (a := ⟨w.heap.size + 1, 0, none⟩) tg1' (by decide) _).stored (a := ⟨w.heap.size + 2, 0, none⟩) (tg2'.setCell _ _) (by decide) _, ((hr1.later hd).stored (a := ⟨w.heap.size + 1, 0, none⟩) tg1' (by decide) _).stored (a := ⟨w.heap.size + 2, 0, none⟩) (tg2'.setCell _ _) (by decide) _,
        ((hb3.trans (hd.mono hb3.size)).setCell (p := ⟨w.heap.size + 1, 0, none⟩) (by simp) _).setCell (p := ⟨w.heap.size + 2, 0, none⟩) (by simp) _⟩
end Go.Proofs.MT.II
