/- merinotop.worked and merinotop.TopDual, walked. -/
import Derived.Test.YtnmjhpbfanmkgaaPck
import Derived.Test.YtnmjhpbfanmkgaaSl
namespace Go.Proofs.Bins
open Go.RowKit Go.Lib Go.Proofs.YtnmjhpbfanmkgaaW.PrintWords Go.Proofs.YtnmjhpbfanmkgaaW.PrintLast Go.Proofs.YtnmjhpbfanmkgaaW.PrintMore Go.Proofs.Ytnmjhpbfanmkgaa.Q
set_option linter.unusedVariables false
set_option linter.unusedSimpArgs false
theorem held_new (w : World) (l : List Int) (ht : 0 < l.length) (h2 : l.length ≤ 100) : Held (w.alloc (.cells (ints l) 3)) (some ⟨w.heap.size, 0, none⟩) l.length l := by
  refine ⟨⟨rfl, by omega, fun _ => ⟨_, rfl, fun j p hj => ⟨[.int .i64 p], rfl, rfl, fun i u hu => ?_⟩⟩⟩, Nat.le_refl _⟩
  cases i with
  | succ i => simp at hu
  | zero =>
    have e : Value.int .i64 p = u := by simpa using hu
    subst e
    have hl : j < l.length := by
      rcases Nat.lt_or_ge j l.length with g | g
      · exact g
      · rw [List.getElem?_eq_none g] at hj; cases hj
    have hp : p = at_ l j := by
      rw [List.getElem?_eq_getElem hl] at hj
      injection hj with hj
      rw [← hj]; simp [at_, List.getD_eq_getElem?_getD, hl]
    have hadd : (⟨w.heap.size, 0, none⟩ : Addr).add (j * 1 + 0) = ⟨w.heap.size, j, none⟩ := by unfold Addr.add; split <;> simp_all
    show (w.alloc (.cells (ints l) 3)).cell? ((⟨w.heap.size, 0, none⟩ : Addr).add (j * 1 + 0)) = _
    rw [hadd, blk_cell (blk_new w (.cells (ints l) 3)), ints_get hl, hp]
theorem bst_cells {B : Nat} {w : World} {v : Value} {bs : List Int} (h : Bst B w v bs) (h0 : 0 < bs.length) : ∃ g c, v = .slice (some ⟨g, 0, none⟩) bs.length c ∧ ∀ i, i < bs.length → w.cell? ⟨g, i, none⟩ = some (.int .i64 (at_ bs i)) := by
  rcases h with h | ⟨rfl, -⟩
  · obtain ⟨h1, h2⟩ := h
    rcases h2 with ⟨-, h2⟩ | ⟨g, cap, cur, rfl, h3, h4, h5, h6, h7, h8⟩
    · omega
    · refine ⟨g, cap, rfl, fun i hi => ?_⟩
      rw [blk_cell h4]
      have e : cur.toList[i]? = (cur.toList.take (bs.length * 1))[i]? := by rw [List.getElem?_take, if_pos (by omega)]
      rw [h8] at e
      have : cur[i]? = cur.toList[i]? := by simp
      rw [this, e]
      simp [at_, List.getD_eq_getElem?_getD, hi]
  · simp at h0
set_option maxHeartbeats 1600000 in
theorem worked_run (w : World) : Calls Try.prog 5 #[] w fun e w' => e = .returned (.bool true) ∧ Below w.heap.size w w' := by
  have HS : Aside0 (Calls Try.prog 6 #[.slice (some ⟨w.heap.size, 0, none⟩) 5 5, .int .i64 2] (w.alloc (.cells #[.int .i64 3, .int .i64 3, .int .i64 2, .int .i64 2, .int .i64 2] 3)) (SO 2 [3, 3, 2, 2, 2] (w.alloc (.cells #[.int .i64 3, .int .i64 3, .int .i64 2, .int .i64 2, .int .i64 2] 3)))) :=
    Aside0.mk (share_ok (some ⟨w.heap.size, 0, none⟩) 5 [3, 3, 2, 2, 2] 2 (w.alloc (.cells (ints [3, 3, 2, 2, 2]) 3)) (held_new w [3, 3, 2, 2, 2] (by simp) (by simp)) (by simp) (by simp) (by omega))
  have HB := Aside0.mk (below_alloc (Below.refl w.heap.size w) (.cells #[.int .i64 3, .int .i64 3, .int .i64 2, .int .i64 2, .int .i64 2] 3))
  go_enter Try.func5, Try.ntmps5
  go_wp2_with fail
  refine HS.out.mono ?_
  rintro e w2 ⟨v, h, B, rfl, h1, h2, h3, h4, h5⟩
  have h12 : h ≤ 12 := h3
  have h6 : 6 ≤ h := by
    have := can_weight (l := [3, 3, 2, 2, 2]) (by simp) h2 h1 id h (fun t _ ht => ht)
    have e : tot id [3, 3, 2, 2, 2] = 12 := rfl
    rw [e] at this
    omega
  rw [worked_eq h6 h12] at h4 ⊢
  obtain ⟨g, c, rfl, hc⟩ := bst_cells h4 (by simp)
  have x01 : w2.cell? ⟨g, 1, none⟩ = some (.int .i64 0) := hc 1 (by simp)
  have x02 : w2.cell? ⟨g, 2, none⟩ = some (.int .i64 1) := hc 2 (by simp)
  have HB2 := Aside0.mk (below_step HB.out h5)
  clear h1 h2 h3 h4 h5 hc h12 h6 HS HB
  go_wp2
  go_ret
  exact ⟨rfl, HB2.out⟩
theorem dual (l : List Int) (most : Int) (m : Nat) (hm : 1 ≤ most) (hx : ∀ x ∈ l, 1 ≤ x) {h : Int} (hc : can m h l (fun _ => 0)) (h0 : 0 ≤ h) {b0 : List Int} :
    ((searchP m l [] 0 (fun _ => 0) (b0, h + 1)).2 ≤ most ↔ can m most l (fun _ => 0)) ∧ (h ≤ most → can m most l (fun _ => 0)) := by
  obtain ⟨s1, s2, s3⟩ := search_spec (b0 := b0) hx h0 hc
  refine ⟨⟨fun g => can_mono (Nat.le_refl _) g l _ s1, fun g => s3 most (by omega) g⟩, fun g => can_mono (Nat.le_refl _) g l _ hc⟩
theorem things_13 {l : List Int} {most : Int} (h : thingsP l most = 0 ∨ thingsP l most = 13) : l.length ≤ 12 ∧ (1 ≤ most ∧ most ≤ 1073741824) ∧ (∀ x ∈ l, 1 ≤ x ∧ x ≤ 1073741824) ∧ (thingsP l most ≠ 0 → ∃ x ∈ l, most < x) := by
  unfold thingsP at h ⊢
  by_cases c1 : 12 < l.length
  · rw [if_pos c1] at h; omega
  rw [if_neg c1] at h ⊢
  by_cases c2 : most < 1 ∨ 1073741824 < most
  · rw [if_pos c2] at h; omega
  rw [if_neg c2] at h ⊢
  by_cases c3 : l.any outB = true
  · rw [if_pos c3] at h; omega
  rw [if_neg c3] at h ⊢
  refine ⟨by omega, by omega, fun x hx => ?_, fun g => ?_⟩
  · have : ¬ outB x = true := fun g => c3 (List.any_eq_true.2 ⟨x, hx, g⟩)
    unfold outB at this
    rw [Bool.or_eq_true, decide_eq_true_eq, decide_eq_true_eq] at this
    omega
  · by_cases c4 : l.any (overB most) = true
    · obtain ⟨x, hx, o⟩ := List.any_eq_true.1 c4
      unfold overB at o
      rw [decide_eq_true_eq] at o
      exact ⟨x, hx, o⟩
    · rw [if_neg c4] at g; exact absurd rfl g
set_option maxHeartbeats 3200000 in
theorem topDual_run (A : Option Addr) (c : Nat) (l : List Int) (most : Int) (w : World) (HL : Held w A c l) (hl63 : l.length ≤ 9223372036854775807) :
    Calls Try.prog 3 #[.slice A l.length c, .int .i64 most] w fun e w' => e = .returned (.bool true) ∧ Below w.heap.size w w' := by
  have HP := Aside0.mk (pack_run A c l most w HL hl63)
  have HLL := Aside0.mk HL
  clear HL
  by_cases ht : thingsP l most = 0 ∨ thingsP l most = 13
  · obtain ⟨hl12, hm, hx, hbig⟩ := things_13 ht
    have HX := Aside0.mk hx
    have HX1 := Aside0.mk (fun x h => (hx x h).1)
    go_enter Try.func3, Try.ntmps3
    go_wp2_with fail
    refine HP.out.mono ?_
    rintro e w2 ⟨hb, h⟩
    have key : ∃ (av : Value) (nn : Nat) (T : Int), (T = 0 ∨ T = 13) ∧ e = .returned (.tuple #[av, .int .i64 nn, .int .i64 T]) ∧ ∀ m : Nat, can m most l (fun _ => 0) ↔ (T = 0 ∧ nn ≤ m) := by
      rcases h with ⟨h1, rfl⟩ | ⟨h1, A', n, rfl, h2, h3⟩
      · refine ⟨_, 0, _, ht, rfl, fun m => ⟨fun g => ?_, fun g => absurd g.1 h1⟩⟩
        obtain ⟨x, hx2, o⟩ := hbig h1
        have := can_fit l (fun _ => 0) (fun _ => Int.le_refl _) HX1.out g x hx2
        omega
      · exact ⟨_, n, 0, Or.inl rfl, rfl, fun m => ⟨fun g => ⟨rfl, h3 m g⟩, fun g => can_mono g.2 (Int.le_refl _) l _ h2⟩⟩
    obtain ⟨av, nn, T, hT, rfl, hiff⟩ := key
    have HB := Aside0.mk hb
    have HIFF := Aside0.mk hiff
    have HTT := Aside0.mk hT
    have n1 : ((T != 0) && (T != 13)) = false := by rcases hT with rfl | rfl <;> rfl
    clear hb h hiff ht hbig hx HP
    rcases hT with rfl | rfl
    · clear HTT n1
      go_wp2
      go_loopg [8] 5 (fun kx s8 wr => ∃ m : Nat, s8 = .int .i64 m ∧ 1 ≤ m ∧ m ≤ 5 ∧ 5 - m ≤ kx ∧ Aside0 (Below w.heap.size w wr))
      case atStart => exact ⟨1, rfl, by omega, by omega, by omega, HB⟩
      case round =>
        obtain ⟨m, rfl, hm1, hm5, hkx, HB1⟩ := hrel
        clear HB
        by_cases hlt : m < 5
        · have hmz : (m : Int) ≤ 4 := by omega
          have HS := Aside0.mk (share_ok A c l m wr (HLL.out.below HB1.out) hl12 HX.out (by omega))
          go_wp2_with fail
          refine HS.out.mono ?_
          rintro e w3 ⟨v, h, B, rfl, h1, h2, h3, h4, h5⟩
          have D := dual (b0 := []) l most m hm.1 HX1.out h1 h2
          obtain ⟨f, hf⟩ : ∃ f, f = (searchP m l [] 0 (fun _ => 0) ([], h + 1)).2 := ⟨_, rfl⟩
          rw [← hf] at D ⊢
          have HD := Aside0.mk D.1
          have HB2 := Aside0.mk (below_step HB1.out h5)
          clear h1 h2 h3 h4 h5 D hf HS HB1
          clear h B
          have HL := Aside0.mk (longest_ok A c l m w3 (HLL.out.below HB2.out) hl12 HX.out (by omega))
          go_wp2_with fail
          refine HL.out.mono ?_
          rintro e w4 ⟨v2, h, rfl, h1, h2, h3, h4⟩
          have hh : h ≤ most → can m most l (fun _ => 0) := (dual (b0 := []) l most m hm.1 HX1.out h1 h2).2
          have HB3 := Aside0.mk (below_step HB2.out h4)
          have hfd := HD.out
          have hi := HIFF.out m
          clear h1 h2 h3 h4 HL HB2 HD
          by_cases hc : can m most l (fun _ => 0)
          · have f1 : decide (f ≤ most) = true := decide_eq_true (hfd.2 hc)
            have f2 := (hi.1 hc)
            clear hfd hi hh hc
            have f4 : decide (nn ≤ m) = true := decide_eq_true (by omega)
            have f5 : decide (m < nn) = false := decide_eq_false (by omega)
            have f6 : nn ≤ m := by omega
            clear f2
            by_cases g : h ≤ most
            · have f3 : decide (h ≤ most) = true := decide_eq_true g
              clear g
              go_wp2
              go_roundg (5 - (m + 1))
              case measure => omega
              case rel => exact ⟨m + 1, by go_num, by omega, by omega, Nat.le_refl _, HB3⟩
            · have f3 : decide (h ≤ most) = false := decide_eq_false g
              clear g
              go_wp2
              go_roundg (5 - (m + 1))
              case measure => omega
              case rel => exact ⟨m + 1, by go_num, by omega, by omega, Nat.le_refl _, HB3⟩
          · have f1 : decide (f ≤ most) = false := decide_eq_false (fun g => hc (hfd.1 g))
            have f3 : decide (h ≤ most) = false := decide_eq_false (fun g => hc (hh g))
            have f6 : ¬ nn ≤ m := fun g => hc (hi.2 (by simp; omega))
            have f4 : decide (nn ≤ m) = false := decide_eq_false f6
            clear hfd hi hh hc
            go_wp2
            go_roundg (5 - (m + 1))
            case measure => omega
            case rel => exact ⟨m + 1, by go_num, by omega, by omega, Nat.le_refl _, HB3⟩
        · have hmz : ¬ (m : Int) ≤ 4 := by omega
          go_wp2_with (go_at_call 5; refine (worked_run _).mono ?_; rintro e w3 ⟨rfl, hb3⟩)
          go_ret
          exact ⟨rfl, below_step HB1.out hb3⟩
    · clear HTT n1
      go_wp2
      go_loopg [8] 5 (fun kx s8 wr => ∃ m : Nat, s8 = .int .i64 m ∧ 1 ≤ m ∧ m ≤ 5 ∧ 5 - m ≤ kx ∧ Aside0 (Below w.heap.size w wr))
      case atStart => exact ⟨1, rfl, by omega, by omega, by omega, HB⟩
      case round =>
        obtain ⟨m, rfl, hm1, hm5, hkx, HB1⟩ := hrel
        clear HB
        by_cases hlt : m < 5
        · have hmz : (m : Int) ≤ 4 := by omega
          have HS := Aside0.mk (share_ok A c l m wr (HLL.out.below HB1.out) hl12 HX.out (by omega))
          go_wp2_with fail
          refine HS.out.mono ?_
          rintro e w3 ⟨v, h, B, rfl, h1, h2, h3, h4, h5⟩
          have D := dual (b0 := []) l most m hm.1 HX1.out h1 h2
          obtain ⟨f, hf⟩ : ∃ f, f = (searchP m l [] 0 (fun _ => 0) ([], h + 1)).2 := ⟨_, rfl⟩
          rw [← hf] at D ⊢
          have HD := Aside0.mk D.1
          have HB2 := Aside0.mk (below_step HB1.out h5)
          clear h1 h2 h3 h4 h5 D hf HS HB1
          clear h B
          have HL := Aside0.mk (longest_ok A c l m w3 (HLL.out.below HB2.out) hl12 HX.out (by omega))
          go_wp2_with fail
          refine HL.out.mono ?_
          rintro e w4 ⟨v2, h, rfl, h1, h2, h3, h4⟩
          have hh : h ≤ most → can m most l (fun _ => 0) := (dual (b0 := []) l most m hm.1 HX1.out h1 h2).2
          have HB3 := Aside0.mk (below_step HB2.out h4)
          have hfd := HD.out
          have hi := HIFF.out m
          clear h1 h2 h3 h4 HL HB2 HD
          by_cases hc : can m most l (fun _ => 0)
          · have f1 : decide (f ≤ most) = true := decide_eq_true (hfd.2 hc)
            have f2 := (hi.1 hc)
            clear hfd hi hh hc
            exact absurd f2.1 (by decide)
          · have f1 : decide (f ≤ most) = false := decide_eq_false (fun g => hc (hfd.1 g))
            have f3 : decide (h ≤ most) = false := decide_eq_false (fun g => hc (hh g))
            clear hfd hi hh hc
            go_wp2
            go_roundg (5 - (m + 1))
            case measure => omega
            case rel => exact ⟨m + 1, by go_num, by omega, by omega, Nat.le_refl _, HB3⟩
        · have hmz : ¬ (m : Int) ≤ 4 := by omega
          go_wp2_with (go_at_call 5; refine (worked_run _).mono ?_; rintro e w3 ⟨rfl, hb3⟩)
          go_ret
          exact ⟨rfl, below_step HB1.out hb3⟩
  · go_enter Try.func3, Try.ntmps3
    go_wp2_with fail
    refine HP.out.mono ?_
    rintro e w2 ⟨hb, h⟩
    rcases h with ⟨h1, rfl⟩ | ⟨h1, -⟩
    · obtain ⟨T, hT⟩ : ∃ T, T = thingsP l most := ⟨_, rfl⟩
      rw [← hT] at h1 ht ⊢
      have n1 : (T != 0) = true := by simpa using h1
      have n2 : (T != 13) = true := by
        have : T ≠ 13 := fun e => ht (Or.inr e)
        simpa using this
      have HB := Aside0.mk hb
      clear hb h1 hT ht HP
      go_wp2_with (go_at_call 5; refine (worked_run _).mono ?_; rintro e w3 ⟨rfl, hb3⟩)
      go_ret
      exact ⟨rfl, below_step HB.out hb3⟩
    · exact absurd (Or.inl h1) ht
end Go.Proofs.Bins
