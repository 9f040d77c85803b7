/- press.Pack, walked. -/
import Derived.Test.YtnmjhpbfanmkgaaPk
import Derived.Test.YtnmjhpbfanmkgaaTh
import Derived.Test.YtnmjhpbfanmkgaaBd
import Derived.Laws.EntriesVeiled
namespace Go.Proofs.Bins
open Go.RowKit Go.Lib Go.Proofs.YtnmjhpbfanmkgaaW.PrintWords Go.Proofs.YtnmjhpbfanmkgaaW.PrintLast Go.Proofs.YtnmjhpbfanmkgaaW.PrintMore Go.Proofs.Ytnmjhpbfanmkgaa.Q
set_option linter.unusedVariables false
set_option linter.unusedSimpArgs false
theorem alloc3 (w : World) (o0 o1 o2 : Obj) {W : World} (hW : W = ((w.alloc o0).alloc o1).alloc o2) :
    W.heap[w.heap.size]? = some o0 ∧ W.heap[w.heap.size + 1]? = some o1 ∧ W.heap[w.heap.size + 1 + 1]? = some o2 ∧ W.heap.size = w.heap.size + 3 ∧ Below w.heap.size w W := by
  have sz : ∀ (w : World) (o : Obj), (w.alloc o).heap.size = w.heap.size + 1 := fun w o => by simp
  have nw : ∀ (w : World) (o : Obj) (k : Nat), k = w.heap.size → (w.alloc o).heap[k]? = some o := fun w o k h => by rw [h]; exact blk_new w o
  subst hW
  refine ⟨?_, ?_, ?_, ?_, ?_⟩
  · exact blk_alloc (blk_alloc (nw _ _ _ rfl) _) _
  · exact blk_alloc (nw _ _ _ (by simp only [sz])) _
  · exact nw _ _ _ (by simp only [sz])
  · simp only [sz]
  · exact below_alloc (below_alloc (below_alloc (Below.refl _ _) _) _) _
theorem alloc4 (w : World) (o0 o1 o2 o3 : Obj) {W : World} (hW : W = (((w.alloc o0).alloc o1).alloc o2).alloc o3) :
    W.heap[w.heap.size]? = some o0 ∧ W.heap[w.heap.size + 1]? = some o1 ∧ W.heap[w.heap.size + 1 + 1]? = some o2 ∧ W.heap[w.heap.size + 1 + 1 + 1]? = some o3 ∧ W.heap.size = w.heap.size + 4 ∧ Below w.heap.size w W := by
  have sz : ∀ (w : World) (o : Obj), (w.alloc o).heap.size = w.heap.size + 1 := fun w o => by simp
  have nw : ∀ (w : World) (o : Obj) (k : Nat), k = w.heap.size → (w.alloc o).heap[k]? = some o := fun w o k h => by rw [h]; exact blk_new w o
  subst hW
  refine ⟨?_, ?_, ?_, ?_, ?_, ?_⟩
  · exact blk_alloc (blk_alloc (blk_alloc (nw _ _ _ rfl) _) _) _
  · exact blk_alloc (blk_alloc (nw _ _ _ (by simp only [sz])) _) _
  · exact blk_alloc (nw _ _ _ (by simp only [sz])) _
  · exact nw _ _ _ (by simp only [sz])
  · simp only [sz]
  · exact below_alloc (below_alloc (below_alloc (below_alloc (Below.refl _ _) _) _) _) _
theorem made_ints2 (m : Nat) : madeCells #[.int .i64 0] m = ints (List.replicate m 0) := by
  apply Array.ext
  · simp [madeCells, ints]
  · intro i h1 h2
    simp [madeCells, ints, Nat.mod_one]
def PO (l : List Int) (most : Int) (w : World) (e : Ending) (w' : World) : Prop :=
  Below w.heap.size w w' ∧ ((thingsP l most ≠ 0 ∧ e = .returned (.tuple #[.slice none 0 0, .int .i64 0, .int .i64 (thingsP l most)])) ∨
    (thingsP l most = 0 ∧ ∃ (A : Option Addr) (n : Nat), e = .returned (.tuple #[.slice A l.length l.length, .int .i64 n, .int .i64 0]) ∧ can n most l (fun _ => 0) ∧ ∀ m : Nat, can m most l (fun _ => 0) → n ≤ m))
set_option maxHeartbeats 1600000 in
theorem pack_bad (A : Option Addr) (c : Nat) (l : List Int) (most : Int) (w : World) (HL : Held w A c l) (hl63 : l.length ≤ 9223372036854775807) (ht : thingsP l most ≠ 0) :
    Calls Try.prog 4 #[.slice A l.length c, .int .i64 most, .int .i64 12] w (PO l most w) := by
  obtain ⟨W, hW⟩ : ∃ W, W = ((w.alloc (.cells #[.slice A l.length c] 22)).alloc (.cells #[.int .i64 most] 3)).alloc (.cells #[.int .i64 12] 3) := ⟨_, rfl⟩
  obtain ⟨a0, a1, a2, a3, a4⟩ := alloc3 w _ _ _ hW
  obtain ⟨s, hs⟩ : ∃ s, s = w.heap.size := ⟨_, rfl⟩
  rw [← hs] at a0 a1 a2
  have x00 := (blk_cell a0 0).trans rfl
  have x01 := (blk_cell a1 0).trans rfl
  have x02 := (blk_cell a2 0).trans rfl
  have HT := Aside0.mk (things_run A c l most W (HL.below a4) hl63)
  have HB := Aside0.mk a4
  have hne : (thingsP l most == 0) = false := by simpa using ht
  have HN := Aside0.mk ht
  clear a0 a1 a2 a3 a4 HL
  have hne2 : (thingsP l most != 0) = true := by simpa using ht
  clear ht
  go_enter Try.func4, Try.ntmps4
  go_upto_region 1 with (fail)
  simp only [← hs]
  rw [← hW]
  have HW := Lib.hid hW
  clear hW hs
  obtain ⟨T, hT⟩ : ∃ T, T = thingsP l most := ⟨_, rfl⟩
  rw [← hT] at HT hne hne2
  have HTE := Lib.hid hT
  clear hT
  go_wp2_with fail
  refine HT.out.mono ?_
  rintro e w2 ⟨rfl, hb⟩
  have HB2 := Aside0.mk (below_step HB.out hb)
  clear hb x00 x01 x02 HT
  go_wp2
  go_ret3
  exact ⟨HB2.out, Or.inl ⟨HN.out, by rw [← HTE.out]; rfl⟩⟩
theorem things_zero {l : List Int} {most : Int} (h : thingsP l most = 0) : l.length ≤ 12 ∧ (1 ≤ most ∧ most ≤ 1073741824) ∧ (∀ x ∈ l, 1 ≤ x ∧ x ≤ 1073741824) ∧ ∀ x ∈ l, x ≤ most := by
  unfold thingsP at h
  by_cases c1 : 12 < l.length
  · rw [if_pos c1] at h; omega
  rw [if_neg c1] at h
  by_cases c2 : most < 1 ∨ 1073741824 < most
  · rw [if_pos c2] at h; omega
  rw [if_neg c2] at h
  by_cases c3 : l.any outB = true
  · rw [if_pos c3] at h; omega
  rw [if_neg c3] at h
  by_cases c4 : l.any (overB most) = true
  · rw [if_pos c4] at h; omega
  refine ⟨by omega, by omega, fun x hx => ?_, fun x hx => ?_⟩
  · have : ¬ outB x = true := fun g => c3 (List.any_eq_true.2 ⟨x, hx, g⟩)
    unfold outB at this
    rw [Bool.or_eq_true, decide_eq_true_eq, decide_eq_true_eq] at this
    omega
  · have : ¬ overB most x = true := fun g => c4 (List.any_eq_true.2 ⟨x, hx, g⟩)
    unfold overB at this
    rw [decide_eq_true_eq] at this
    omega
set_option maxHeartbeats 3200000 in
theorem pack_good (A : Option Addr) (c : Nat) (l : List Int) (most : Int) (w : World) (HL : Held w A c l) (ht : thingsP l most = 0) :
    Calls Try.prog 4 #[.slice A l.length c, .int .i64 most, .int .i64 12] w (PO l most w) := by
  obtain ⟨hl12, hm, hx, hmo⟩ := things_zero ht
  have hcan : can l.length most l (fun _ => 0) := by
    have := can_own (F := most) l 0 (fun _ => 0) (fun _ _ => rfl) hmo
    rwa [Nat.zero_add] at this
  have hb0 : 0 ≤ boundP l most (0 :: l) 0 := boundP_ge _ _
  have hble : ∀ m : Nat, can m most l (fun _ => 0) → boundP l most (0 :: l) 0 ≤ m := fun m h =>
    boundP_le (fun x h => (hx x h).1) hm.1 h (0 :: l) 0 (fun a ha => by
      rcases List.mem_cons.1 ha with rfl | ha
      · exact Int.le_refl _
      · have := hx a ha; omega) (by omega)
  obtain ⟨b0, hbe⟩ : ∃ b0 : Nat, (b0 : Int) = boundP l most (0 :: l) 0 := ⟨(boundP l most (0 :: l) 0).toNat, by omega⟩
  obtain ⟨kb, hkb⟩ := bound_f hl12 hx hm
  rw [← hbe] at hb0 hble hkb
  have hb12 : b0 ≤ l.length := by have := hble _ hcan; omega
  have hmk1 := print_make (P := Try.prog) 22 3 .i64 8 Try.underlying22 info3 (by decide) l.length (by omega)
  rw [made_ints2] at hmk1
  obtain ⟨W, hW⟩ : ∃ W, W = ((w.alloc (.cells #[.slice A l.length c] 22)).alloc (.cells #[.int .i64 most] 3)).alloc (.cells #[.int .i64 12] 3) := ⟨_, rfl⟩
  obtain ⟨a0, a1, a2, a3, a4⟩ := alloc3 w _ _ _ hW
  obtain ⟨s, hs⟩ : ∃ s, s = w.heap.size := ⟨_, rfl⟩
  rw [← hs] at a0 a1 a2
  have x00 := (blk_cell a0 0).trans rfl
  have x01 := (blk_cell a1 0).trans rfl
  have x02 := (blk_cell a2 0).trans rfl
  have HT := Aside0.mk (things_run A c l most W (HL.below a4) (by omega))
  rw [ht] at HT
  have HB := Aside0.mk a4
  have A0 := Aside0.mk a0
  have A1 := Aside0.mk a1
  have A2 := Aside0.mk a2
  have HX := Aside0.mk hx
  have HLL := Aside0.mk HL
  have HCAN := Aside0.mk hcan
  have HBLE := Aside0.mk hble
  have HTZ := Lib.hid ht
  have HMK := Aside0.mk hmk1
  have HKB := Aside0.mk hkb
  clear a0 a1 a2 a3 a4 HL hx hcan hble ht hbe hmk1 hkb hmo
  go_enter Try.func4, Try.ntmps4
  go_upto_region 1 with (fail)
  simp only [← hs]
  rw [← hW]
  have HW := Lib.hid hW
  have HSE := Lib.hid hs
  clear hW hs
  go_wp2_with fail
  refine HT.out.mono ?_
  rintro e w2 ⟨rfl, hb⟩
  have HB2 := Aside0.mk (below_step HB.out hb)
  replace A0 := Aside0.mk (blk_below A0.out hb)
  replace A1 := Aside0.mk (blk_below A1.out hb)
  replace A2 := Aside0.mk (blk_below A2.out hb)
  clear hb x00 x01 x02 HT HB HW W
  have x00 := (blk_cell A0.out 0).trans rfl
  have x01 := (blk_cell A1.out 0).trans rfl
  have x02 := (blk_cell A2.out 0).trans rfl
  go_upto_region 5 with (fail)
  have hbx : (#[.int .i64 0, .int .i64 0, .int .i64 0, .int .i64 0, .int .i64 0, .int .i64 0, .int .i64 0, .int .i64 0, .int .i64 0, .int .i64 0, .int .i64 0, .int .i64 0, .int .i64 0, .int .i64 0, .int .i64 0, .int .i64 0, .int .i64 0, .int .i64 0, .int .i64 0, .int .i64 0, .int .i64 0, .int .i64 0, .int .i64 0, .int .i64 0] : Array Value) = boxes (fun _ => 0) (fun _ => 0) := rfl
  rw [hbx]
  clear hbx
  have C0 := Aside0.mk (blk_new w2 (.cells (boxes (fun _ => 0) (fun _ => 0)) 32))
  have HB3 := Aside0.mk (below_alloc HB2.out (.cells (boxes (fun _ => 0) (fun _ => 0)) 32))
  replace A0 := Aside0.mk (blk_alloc A0.out (.cells (boxes (fun _ => 0) (fun _ => 0)) 32))
  replace A1 := Aside0.mk (blk_alloc A1.out (.cells (boxes (fun _ => 0) (fun _ => 0)) 32))
  replace A2 := Aside0.mk (blk_alloc A2.out (.cells (boxes (fun _ => 0) (fun _ => 0)) 32))
  have hgbw : w.heap.size ≤ w2.heap.size := HB2.out.size
  generalize w2.alloc (.cells (boxes (fun _ => 0) (fun _ => 0)) 32) = w3 at A0 A1 A2 C0 HB3 ⊢
  generalize w2.heap.size = gb at C0 hgbw ⊢
  have HGB := Aside0.mk hgbw
  clear x00 x01 x02 HB2 hgbw
  clear w2
  have x00 := (blk_cell A0.out 0).trans rfl
  have hmk1 := HMK.out
  obtain ⟨W, hW⟩ : ∃ W, W = ((w3.alloc (.cells (ints (List.replicate l.length 0)) 3)).alloc (.cells #[.slice (some ⟨w3.heap.size, 0, none⟩) l.length l.length] 22)).alloc (.cells #[.func (.func 9) #[] #[.pointer (some ⟨s, 0, none⟩), .pointer (some ⟨gb, 0, none⟩), .pointer (some ⟨s + 1, 0, none⟩), .pointer (some ⟨s + 1 + 1, 0, none⟩), .pointer (some ⟨w3.heap.size + 1, 0, none⟩), .pointer (some ⟨w3.heap.size + 1 + 1, 0, none⟩)]] 33) := ⟨_, rfl⟩
  obtain ⟨t, htt⟩ : ∃ t, t = w3.heap.size := ⟨_, rfl⟩
  have HK : Aside0 (PK w A c l most s gb (s + 1) (s + 1 + 1) (t + 1) (t + 1 + 1) t (fun _ => 0) (fun _ => 0) (List.replicate l.length 0) W) := by
    obtain ⟨a0, a1, a2, a3, a4⟩ := alloc3 w3 _ _ _ hW
    rw [← htt] at a0 a1 a2
    have l1 := blk_lt A1.out
    have l2 := blk_lt A2.out
    have l3 := HB3.out.size
    exact ⟨{ bel := below_step HB3.out a4, hm := blk_below A0.out a4, hb := blk_below C0.out a4, ho := blk_below A1.out a4, he := blk_below A2.out a4, hg := a1, hr := a0, hf := a2, bb := HGB.out, br := by omega, no := by omega, ne := by omega, hl := by simp }⟩
  go_upto_region 8 with (fail)
  simp only [← htt]
  rw [← htt] at hW
  rw [← hW]
  have HW := Lib.hid hW
  clear hW htt hmk1 x00
  have x00 := (blk_cell HK.out.hm 0).trans rfl
  have x01 := (blk_cell HK.out.ho 0).trans rfl
  have HBD := Aside0.mk (press_bound.calls kb A c l most (b0 : Int) W (HLL.out.below HK.out.bel).1 (HLL.out).2 HKB.out)
  go_wp2_with fail
  refine HBD.out.mono ?_
  rintro e w4 ⟨rfl, hb⟩
  have K1 := Aside0.mk (HK.out.below hb)
  clear hb HBD x00 x01 HK HW HB3 A0 A1 A2 C0 HMK HKB
  clear w3 W
  go_wp2
  go_loopg [13] (l.length + 1) (fun kx s13 wr => ∃ (n : Nat) (gs : List Int), s13 = .int .i64 n ∧ n ≤ l.length ∧ l.length - n < kx ∧ Aside0 (PK w A c l most s gb (s + 1) (s + 1 + 1) (t + 1) (t + 1 + 1) t (fun _ => 0) (fun _ => 0) gs wr) ∧ Aside0 (∀ m : Nat, can m most l (fun _ => 0) → n ≤ m))
  case atStart => exact ⟨b0, _, rfl, hb12, by omega, K1, ⟨fun m h => by have := HBLE.out m h; omega⟩⟩
  case round =>
    obtain ⟨n, gs, rfl, hn, hkx, K2, HMIN⟩ := hrel
    clear K1
    have hn12 : n ≤ 12 := by omega
    have x00 := (blk_cell K2.out.hf 0).trans rfl
    have HF := Aside0.mk (fits_run HLL.out hl12 HX.out hm.1 hm.2 n hn12 l.length 0 0 (by omega) (by omega) (by omega) (fun _ => 0) (fun _ => 0) gs wr K2.out (fun b => by omega) (fun b => by omega))
    rw [List.drop_zero] at HF
    have hiff := fitsP_iff (most := most) (limit := n) l 0 (fun _ => 0) (by omega) (fun _ _ => rfl)
    by_cases hc : can n most l (fun _ => 0)
    · have hfe := hiff.2 hc
      rw [hfe] at HF
      have HC := Aside0.mk hc
      clear hiff hfe hc
      go_wp2_with fail
      refine HF.out.mono ?_
      rintro e w5 ⟨rfl, ms2, ts2, gs2, K3, -, -⟩
      replace K3 := Aside0.mk K3
      clear HF x00
      have x00 := (blk_cell K3.out.hg 0).trans rfl
      go_wp2
      go_ret3
      exact ⟨K3.out.bel, Or.inr ⟨HTZ.out, _, n, rfl, HC.out, HMIN.out⟩⟩
    · have hfe : fitsP most n l 0 (fun _ => 0) = false := by
        cases h : fitsP most n l 0 (fun _ => 0) with
        | false => rfl
        | true => exact absurd (hiff.1 h) hc
      rw [hfe] at HF
      have hlt : n < l.length := by
        have := HMIN.out l.length HCAN.out
        rcases Nat.lt_or_ge n l.length with g | g
        · exact g
        · obtain rfl : n = l.length := by omega
          exact absurd HCAN.out hc
      have HMIN2 := Aside0.mk (fun (m : Nat) (h : can m most l (fun _ => 0)) => (show n + 1 ≤ m from by
        have := HMIN.out m h
        rcases Nat.lt_or_ge n m with g | g
        · omega
        · obtain rfl : m = n := by omega
          exact absurd h hc))
      clear hiff hfe hc
      go_wp2_with fail
      refine HF.out.mono ?_
      rintro e w5 ⟨rfl, ms2, ts2, gs2, K3, -, hbk⟩
      obtain ⟨rfl, rfl⟩ := hbk rfl
      replace K3 := Aside0.mk K3
      clear HF x00 hbk
      go_wp2
      go_roundg (l.length - n)
      case measure => omega
      case rel => exact ⟨n + 1, gs2, by go_num, by omega, by omega, K3, HMIN2⟩
theorem pack_run (A : Option Addr) (c : Nat) (l : List Int) (most : Int) (w : World) (HL : Held w A c l) (hl63 : l.length ≤ 9223372036854775807) :
    Calls Try.prog 4 #[.slice A l.length c, .int .i64 most, .int .i64 12] w (PO l most w) := by
  by_cases h : thingsP l most = 0
  · exact pack_good A c l most w HL h
  · exact pack_bad A c l most w HL hl63 h
end Go.Proofs.Bins
