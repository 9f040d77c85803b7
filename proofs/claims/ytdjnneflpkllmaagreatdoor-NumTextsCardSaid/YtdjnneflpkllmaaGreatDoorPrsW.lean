/- num.Parse, walked: the one fraction of which the string is the Text, or none. -/
import Derived.Test.YtdjnneflpkllmaaGreatDoorEnv
namespace Go.Proofs.Num
open Go.RowKit Go.Proofs.YtdjnneflpkllmaaGreatDoorW.PrintWords Go.Proofs.YtdjnneflpkllmaaGreatDoorW.PrintLast Go.Proofs.YtdjnneflpkllmaaGreatDoorW.PrintMore Go.Proofs.YtdjnneflpkllmaaGreatDoor.Q
set_option linter.unusedVariables false
set_option linter.unusedSimpArgs false
theorem said_cut {a b : List UInt8} (h : (47 : UInt8) ∉ a) {n d : Int} (hv : valid n d) (t : txt n d = a ++ 47 :: b) : a = Lib.itoa n ∧ b = Lib.itoa d := by
  unfold txt at t
  by_cases c : d = 1
  · rw [if_pos c] at t
    exact (itoa_47 n (by rw [t]; simp)).elim
  · rw [if_neg c] at t
    obtain ⟨x, y⟩ := cut_uniq (itoa_47 n) h t
    exact ⟨x.symm, y.symm⟩
theorem said_whole {a : List UInt8} (h : (47 : UInt8) ∉ a) {n d : Int} (hv : valid n d) (t : txt n d = a) : d = 1 ∧ a = Lib.itoa n := by
  unfold txt at t
  by_cases c : d = 1
  · rw [if_pos c] at t
    exact ⟨c, t.symm⟩
  · rw [if_neg c] at t
    exact (h (by rw [← t]; simp)).elim
theorem valid_64 {n d : Int} (h : valid n d) : (-9223372036854775808 ≤ n ∧ n ≤ 9223372036854775807) ∧ (-9223372036854775808 ≤ d ∧ d ≤ 9223372036854775807) := by
  obtain ⟨h1, h2, h3, h4, -⟩ := h
  omega
set_option maxHeartbeats 6400000 in
set_option maxRecDepth 100000 in
theorem parse_whole {l : List UInt8} (hl : l.length ≤ 1000000) (hn : (47 : UInt8) ∉ l) (w : World) (hE : Env w) : Calls Tryz.prog 8 #[.string (ba l)] w fun e w' => ∃ v : Int × Int × Int, e = .returned (.tuple #[.agg #[.int .i64 v.1, .int .i64 v.2.1], .int .i64 v.2.2]) ∧ ParseSaid l v ∧ Below w.heap.size w w' := by
  have hcut := cut_miss hn
  have HE := Aside0.mk hE
  have K1 : Aside0 (∀ y, Below w.heap.size w y → Calls Tryz.prog 24 #[.string (ba l), .string ⟨#[47]⟩] y fun e w' => e = .returned (.tuple #[.string (ba l), .string (ba []), .bool false]) ∧ Below y.heap.size y w') := ⟨fun y hy => by
    have h := cut_c l 47 hl y (hE.below hy)
    rw [hcut] at h
    exact h⟩
  have K2 : Aside0 (∀ y, Below w.heap.size w y → Calls Tryz.prog 25 #[.string (ba l)] y _) := ⟨fun y hy => atoi_c l (by omega) y (hE.below hy)⟩
  have HB0 : Aside0 (Below w.heap.size w (w.alloc (.cells #[.int .i64 0, .int .i64 0] 23))) := ⟨(Below.refl _ _).alloc (Nat.le_refl _) _⟩
  clear hE hcut
  go_enter Tryz.func8, Tryz.ntmps8
  go_upto_region 4 with (first
    | (go_at_call 24; with_reducible refine (K1.out _ HB0.out).mono ?_; rintro e y1 ⟨rfl, hb⟩; have HB1 := Aside0.mk (below_step HB0.out hb); have HX := Aside0.mk (show w.heap.size + 1 ≤ y1.heap.size by have := hb.size; simpa using this); have HY1 := Aside0.mk (blk_below (blk_new w (.cells #[.int .i64 0, .int .i64 0] 23)) hb); clear hb)
    | (go_at_call 25; with_reducible refine (K2.out _ HB1.out).mono ?_; rintro e y2 ⟨x, ev, rfl, hb, hx⟩; have HB2 := Aside0.mk (below_step HB1.out hb); have HX := Aside0.mk (show w.heap.size + 1 ≤ y2.heap.size from Nat.le_trans HX.out hb.size); have HY := Aside0.mk (blk_below HY1.out hb); clear hb))
  obtain ⟨g, hg⟩ : ∃ g, g = y2.heap.size := ⟨_, rfl⟩
  obtain ⟨r, hr⟩ : ∃ r, r = w.heap.size := ⟨_, rfl⟩
  have hrg : r < g := by have := HX.out; omega
  have HR0 : (y2.alloc (Obj.cells #[Value.int IntKind.i64 x, Value.int IntKind.i64 1] 23)).heap[r]? = some (.cells #[.int .i64 0, .int .i64 0] 23 (0, 0)) := by
    rw [Below.heap_alloc y2 _ r (by rw [← hg]; exact hrg), hr]
    exact HY.out
  have HG0 : (y2.alloc (Obj.cells #[Value.int IntKind.i64 x, Value.int IntKind.i64 1] 23)).heap[g]? = some (.cells #[.int .i64 x, .int .i64 1] 23 (0, 0)) := by
    rw [hg]
    exact blk_new _ _
  have HW0 : Below w.heap.size w (y2.alloc (Obj.cells #[Value.int IntKind.i64 x, Value.int IntKind.i64 1] 23)) := HB2.out.alloc HB2.out.size _
  rw [← hg, ← hr]
  generalize y2.alloc (Obj.cells #[Value.int IntKind.i64 x, Value.int IntKind.i64 1] 23) = W at HR0 HG0 HW0 ⊢
  have HR := Aside0.mk HR0
  have HG := Aside0.mk HG0
  have HW := Aside0.mk HW0
  have GR := Aside0.mk (show w.heap.size ≤ r by omega)
  have ne1 : r ≠ g := by omega
  have ne2 : g ≠ r := by omega
  have GG := Aside0.mk (show w.heap.size ≤ g by omega)
  have KT : Aside0 (Calls Tryz.prog 6 #[.agg #[.int .i64 x, .int .i64 1]] W fun e w' => e = .returned (.tuple #[.string (ba (if valid x 1 then txt x 1 else [])), .int .i64 (if valid x 1 then 0 else 2)]) ∧ Below W.heap.size W w') := ⟨text_any x 1 W (HE.out.below HW.out)⟩
  have x0 := (blk_cell HG.out 0).trans rfl
  have x1 := (blk_cell HG.out 1).trans rfl
  clear HR0 HG0 HW0 hg hr hrg HX HY HB2 HB1 HB0 K1 K2 ne1 ne2
  rcases hx with ⟨ha, rfl⟩ | ⟨ha, N, rfl⟩
  · by_cases hv : valid x 1
    · rw [if_pos hv, if_pos hv] at KT
      by_cases ht : txt x 1 = l
      · rw [ht] at KT
        have SAID : Aside0 (ParseSaid l (x, 1, 0)) := ⟨ParseSaid.found hv ht⟩
        clear ha hv ht
        go_wp2_with (first | (go_at_call 6; with_reducible refine KT.out.mono ?_; rintro e y ⟨rfl, hb⟩; have HY := Aside0.mk (below_step HW.out hb); have m0 := (blk_cell (blk_below HR.out hb) 0).trans rfl; have m1 := (blk_cell (blk_below HR.out hb) 1).trans rfl; have f0 := blk_frozen (blk_below HR.out hb) 0; have f1 := blk_frozen (blk_below HR.out hb) 1; have MR := Aside0.mk (blk_below HR.out hb); have g0 := (blk_cell (blk_below HG.out hb) 0).trans rfl; have g1 := (blk_cell (blk_below HG.out hb) 1).trans rfl; clear hb x0 x1))
        all_goals (refine bodyPost_ret (results_ct rfl _ _ r 23 #[.int .i64 (x), .int .i64 (1)] (0, 0) _ rfl (blk_put (cs := #[.int .i64 (x), .int .i64 0]) (blk_put (cs := #[.int .i64 0, .int .i64 0]) MR.out 0 _ rfl) 1 _ rfl) Tryz.underlying23 rfl (by kernel_rfl)) rfl ?_; first | exact ⟨(x, 1, 0), rfl, SAID.out, (HY.out.setCell (p := ⟨r, 0, none⟩) GR.out _).setCell (p := ⟨r, 1, none⟩) GR.out _⟩ | exact ⟨x, 1, 0, rfl, SAID.out, (HY.out.setCell (p := ⟨r, 0, none⟩) GR.out _).setCell (p := ⟨r, 1, none⟩) GR.out _⟩)
      · have SAID : Aside0 (ParseSaid l (0, 0, 6)) := ⟨ParseSaid.none (fun n d hv t => by
          obtain ⟨rfl, e⟩ := said_whole hn hv t
          obtain ⟨⟨b1, b2⟩, -⟩ := valid_64 hv
          rw [e, atoi_itoa b1 b2] at ha
          injection ha with ha
          subst ha
          exact ht t)⟩
        obtain ⟨T, hT⟩ : ∃ T, T = ba (txt x 1) := ⟨_, rfl⟩
        rw [← hT] at KT
        have q1 : ¬ (T.toList = (ba l).toList) := fun h => ht (by rw [hT, ba_toList, ba_toList] at h; exact h)
        have q2 : (T.toList == (ba l).toList) = false := beq_eq_false_iff_ne.mpr q1
        clear ha hv ht hT
        go_wp2_with (first | (go_at_call 6; with_reducible refine KT.out.mono ?_; rintro e y ⟨rfl, hb⟩; have HY := Aside0.mk (below_step HW.out hb); have m0 := (blk_cell (blk_below HR.out hb) 0).trans rfl; have m1 := (blk_cell (blk_below HR.out hb) 1).trans rfl; have f0 := blk_frozen (blk_below HR.out hb) 0; have f1 := blk_frozen (blk_below HR.out hb) 1; have MR := Aside0.mk (blk_below HR.out hb); have g0 := (blk_cell (blk_below HG.out hb) 0).trans rfl; have g1 := (blk_cell (blk_below HG.out hb) 1).trans rfl; clear hb x0 x1))
        all_goals (refine bodyPost_ret (results_ct rfl _ _ r 23 #[.int .i64 (0), .int .i64 (0)] (0, 0) _ rfl (blk_put (cs := #[.int .i64 (0), .int .i64 0]) (blk_put (cs := #[.int .i64 0, .int .i64 0]) MR.out 0 _ rfl) 1 _ rfl) Tryz.underlying23 rfl (by kernel_rfl)) rfl ?_; first | exact ⟨(0, 0, 6), rfl, SAID.out, (HY.out.setCell (p := ⟨r, 0, none⟩) GR.out _).setCell (p := ⟨r, 1, none⟩) GR.out _⟩ | exact ⟨0, 0, 6, rfl, SAID.out, (HY.out.setCell (p := ⟨r, 0, none⟩) GR.out _).setCell (p := ⟨r, 1, none⟩) GR.out _⟩)
    · rw [if_neg hv, if_neg hv] at KT
      have SAID : Aside0 (ParseSaid l (0, 0, 6)) := ⟨ParseSaid.none (fun n d hv2 t => by
        obtain ⟨rfl, e⟩ := said_whole hn hv2 t
        obtain ⟨⟨b1, b2⟩, -⟩ := valid_64 hv2
        rw [e, atoi_itoa b1 b2] at ha
        injection ha with ha
        subst ha
        exact hv hv2)⟩
      clear ha hv
      go_wp2_with (first | (go_at_call 6; with_reducible refine KT.out.mono ?_; rintro e y ⟨rfl, hb⟩; have HY := Aside0.mk (below_step HW.out hb); have m0 := (blk_cell (blk_below HR.out hb) 0).trans rfl; have m1 := (blk_cell (blk_below HR.out hb) 1).trans rfl; have f0 := blk_frozen (blk_below HR.out hb) 0; have f1 := blk_frozen (blk_below HR.out hb) 1; have MR := Aside0.mk (blk_below HR.out hb); have g0 := (blk_cell (blk_below HG.out hb) 0).trans rfl; have g1 := (blk_cell (blk_below HG.out hb) 1).trans rfl; clear hb x0 x1))
      all_goals (refine bodyPost_ret (results_ct rfl _ _ r 23 #[.int .i64 (0), .int .i64 (0)] (0, 0) _ rfl (blk_put (cs := #[.int .i64 (0), .int .i64 0]) (blk_put (cs := #[.int .i64 0, .int .i64 0]) MR.out 0 _ rfl) 1 _ rfl) Tryz.underlying23 rfl (by kernel_rfl)) rfl ?_; first | exact ⟨(0, 0, 6), rfl, SAID.out, (HY.out.setCell (p := ⟨r, 0, none⟩) GR.out _).setCell (p := ⟨r, 1, none⟩) GR.out _⟩ | exact ⟨0, 0, 6, rfl, SAID.out, (HY.out.setCell (p := ⟨r, 0, none⟩) GR.out _).setCell (p := ⟨r, 1, none⟩) GR.out _⟩)
  · have SAID : Aside0 (ParseSaid l (0, 0, 6)) := ⟨ParseSaid.none (fun n d hv t => by
      obtain ⟨-, e⟩ := said_whole hn hv t
      rw [e] at ha
      obtain ⟨⟨b1, b2⟩, -⟩ := valid_64 hv
      exact ha n (atoi_itoa b1 b2))⟩
    clear ha
    go_wp2_with (first | (go_at_call 6; with_reducible refine KT.out.mono ?_; rintro e y ⟨rfl, hb⟩; have HY := Aside0.mk (below_step HW.out hb); have m0 := (blk_cell (blk_below HR.out hb) 0).trans rfl; have m1 := (blk_cell (blk_below HR.out hb) 1).trans rfl; have f0 := blk_frozen (blk_below HR.out hb) 0; have f1 := blk_frozen (blk_below HR.out hb) 1; have MR := Aside0.mk (blk_below HR.out hb); have g0 := (blk_cell (blk_below HG.out hb) 0).trans rfl; have g1 := (blk_cell (blk_below HG.out hb) 1).trans rfl; clear hb x0 x1))
    all_goals (refine bodyPost_ret (results_ct rfl _ _ r 23 #[.int .i64 (0), .int .i64 (0)] (0, 0) _ rfl (blk_put (cs := #[.int .i64 (0), .int .i64 0]) (blk_put (cs := #[.int .i64 0, .int .i64 0]) MR.out 0 _ rfl) 1 _ rfl) Tryz.underlying23 rfl (by kernel_rfl)) rfl ?_; first | exact ⟨(0, 0, 6), rfl, SAID.out, (HY.out.setCell (p := ⟨r, 0, none⟩) GR.out _).setCell (p := ⟨r, 1, none⟩) GR.out _⟩ | exact ⟨0, 0, 6, rfl, SAID.out, (HY.out.setCell (p := ⟨r, 0, none⟩) GR.out _).setCell (p := ⟨r, 1, none⟩) GR.out _⟩)
set_option maxHeartbeats 6400000 in
set_option maxRecDepth 100000 in
theorem parse_cut {l a b : List UInt8} (hl : l.length ≤ 1000000) (hn : (47 : UInt8) ∉ a) (hab : l = a ++ 47 :: b) (w : World) (hE : Env w) : Calls Tryz.prog 8 #[.string (ba l)] w fun e w' => ∃ v : Int × Int × Int, e = .returned (.tuple #[.agg #[.int .i64 v.1, .int .i64 v.2.1], .int .i64 v.2.2]) ∧ ParseSaid l v ∧ Below w.heap.size w w' := by
  have hcut : Lib.cut l [47] = (a, b, true) := by rw [hab]; exact cut_hit hn
  have hla : a.length ≤ 1000000 ∧ b.length ≤ 1000000 := by rw [hab] at hl; simp at hl; omega
  have HE := Aside0.mk hE
  have K1 : Aside0 (∀ y, Below w.heap.size w y → Calls Tryz.prog 24 #[.string (ba l), .string ⟨#[47]⟩] y fun e w' => e = .returned (.tuple #[.string (ba a), .string (ba b), .bool true]) ∧ Below y.heap.size y w') := ⟨fun y hy => by
    have h := cut_c l 47 hl y (hE.below hy)
    rw [hcut] at h
    exact h⟩
  have K2 : Aside0 (∀ y, Below w.heap.size w y → Calls Tryz.prog 25 #[.string (ba a)] y _) := ⟨fun y hy => atoi_c a (by omega) y (hE.below hy)⟩
  have HB0 : Aside0 (Below w.heap.size w (w.alloc (.cells #[.int .i64 0, .int .i64 0] 23))) := ⟨(Below.refl _ _).alloc (Nat.le_refl _) _⟩
  have K3 : Aside0 (∀ y, Below w.heap.size w y → Calls Tryz.prog 25 #[.string (ba b)] y _) := ⟨fun y hy => atoi_c b (by omega) y (hE.below hy)⟩
  have HAB := Aside0.mk hab
  clear hE hcut hla hab
  go_enter Tryz.func8, Tryz.ntmps8
  go_upto_region 4 with (first
    | (go_at_call 24; with_reducible refine (K1.out _ HB0.out).mono ?_; rintro e y1 ⟨rfl, hb⟩; have HB1 := Aside0.mk (below_step HB0.out hb); have HX := Aside0.mk (show w.heap.size + 1 ≤ y1.heap.size by have := hb.size; simpa using this); have HY1 := Aside0.mk (blk_below (blk_new w (.cells #[.int .i64 0, .int .i64 0] 23)) hb); clear hb)
    | (go_at_call 25; with_reducible refine (K2.out _ HB1.out).mono ?_; rintro e y2 ⟨x, ev, rfl, hb, hx⟩; have HB2 := Aside0.mk (below_step HB1.out hb); have HX := Aside0.mk (show w.heap.size + 1 ≤ y2.heap.size from Nat.le_trans HX.out hb.size); have HY := Aside0.mk (blk_below HY1.out hb); clear hb))
  obtain ⟨g, hg⟩ : ∃ g, g = y2.heap.size := ⟨_, rfl⟩
  obtain ⟨r, hr⟩ : ∃ r, r = w.heap.size := ⟨_, rfl⟩
  have hrg : r < g := by have := HX.out; omega
  have HR0 : (y2.alloc (Obj.cells #[Value.int IntKind.i64 x, Value.int IntKind.i64 1] 23)).heap[r]? = some (.cells #[.int .i64 0, .int .i64 0] 23 (0, 0)) := by
    rw [Below.heap_alloc y2 _ r (by rw [← hg]; exact hrg), hr]
    exact HY.out
  have HG0 : (y2.alloc (Obj.cells #[Value.int IntKind.i64 x, Value.int IntKind.i64 1] 23)).heap[g]? = some (.cells #[.int .i64 x, .int .i64 1] 23 (0, 0)) := by
    rw [hg]
    exact blk_new _ _
  have HW0 : Below w.heap.size w (y2.alloc (Obj.cells #[Value.int IntKind.i64 x, Value.int IntKind.i64 1] 23)) := HB2.out.alloc HB2.out.size _
  rw [← hg, ← hr]
  generalize y2.alloc (Obj.cells #[Value.int IntKind.i64 x, Value.int IntKind.i64 1] 23) = W at HR0 HG0 HW0 ⊢
  have HR := Aside0.mk HR0
  have HG := Aside0.mk HG0
  have HW := Aside0.mk HW0
  have GR := Aside0.mk (show w.heap.size ≤ r by omega)
  have ne1 : r ≠ g := by omega
  have ne2 : g ≠ r := by omega
  have GG := Aside0.mk (show w.heap.size ≤ g by omega)
  clear HR0 HG0 HW0 hg hr hrg HX HY HB2 HB1 HB0 K1 K2
  go_upto_region 6 with (first
    | (go_at_call 25; with_reducible refine (K3.out _ HW.out).mono ?_; rintro e y3 ⟨z, ev2, rfl, hb, hz⟩; have HV := Aside0.mk (below_step HW.out hb); have HR := Aside0.mk (blk_below HR.out hb); have HG := Aside0.mk (blk_below HG.out hb); clear hb))
  rcases hz with ⟨hb, rfl⟩ | ⟨hb, N2, rfl⟩
  · have x0 := (blk_cell HG.out 0).trans rfl
    have x1 := (blk_cell HG.out 1).trans rfl
    have f1 := blk_frozen HG.out 1
    go_upto_region 9 with (fail)
    have HR0 := blk_far (p := ⟨g, 1, none⟩) HR.out ne1 (.int .i64 z)
    have HG0 := blk_put (cs := #[.int .i64 x, .int .i64 1]) HG.out 1 (.int .i64 z) rfl
    have HW0 := HV.out.setCell (p := ⟨g, 1, none⟩) GG.out (.int .i64 z)
    clear HR HG HW HV x0 x1 f1
    generalize y3.setCell ⟨g, 1, none⟩ (.int .i64 z) = V at HR0 HG0 HW0 ⊢
    have HR := Aside0.mk HR0
    have HG : Aside0 (V.heap[g]? = some (.cells #[.int .i64 x, .int .i64 z] 23 (0, 0))) := ⟨HG0⟩
    have HW := Aside0.mk HW0
    have KT : Aside0 (Calls Tryz.prog 6 #[.agg #[.int .i64 x, .int .i64 z]] V fun e w' => e = .returned (.tuple #[.string (ba (if valid x z then txt x z else [])), .int .i64 (if valid x z then 0 else 2)]) ∧ Below V.heap.size V w') := ⟨text_any x z V (HE.out.below HW.out)⟩
    have x0 := (blk_cell HG.out 0).trans rfl
    have x1 := (blk_cell HG.out 1).trans rfl
    clear HR0 HG0 HW0 ne1 ne2
    rcases hx with ⟨ha, rfl⟩ | ⟨ha, N, rfl⟩
    · by_cases hv : valid x z
      · rw [if_pos hv, if_pos hv] at KT
        by_cases ht : txt x z = l
        · rw [ht] at KT
          have SAID : Aside0 (ParseSaid l (x, z, 0)) := ⟨ParseSaid.found hv ht⟩
          clear ha hv ht
          go_wp2_with (first | (go_at_call 6; with_reducible refine KT.out.mono ?_; rintro e y ⟨rfl, hb⟩; have HY := Aside0.mk (below_step HW.out hb); have m0 := (blk_cell (blk_below HR.out hb) 0).trans rfl; have m1 := (blk_cell (blk_below HR.out hb) 1).trans rfl; have f0 := blk_frozen (blk_below HR.out hb) 0; have f1 := blk_frozen (blk_below HR.out hb) 1; have MR := Aside0.mk (blk_below HR.out hb); have g0 := (blk_cell (blk_below HG.out hb) 0).trans rfl; have g1 := (blk_cell (blk_below HG.out hb) 1).trans rfl; clear hb x0 x1))
          all_goals (refine bodyPost_ret (results_ct rfl _ _ r 23 #[.int .i64 (x), .int .i64 (z)] (0, 0) _ rfl (blk_put (cs := #[.int .i64 (x), .int .i64 0]) (blk_put (cs := #[.int .i64 0, .int .i64 0]) MR.out 0 _ rfl) 1 _ rfl) Tryz.underlying23 rfl (by kernel_rfl)) rfl ?_; first | exact ⟨(x, z, 0), rfl, SAID.out, (HY.out.setCell (p := ⟨r, 0, none⟩) GR.out _).setCell (p := ⟨r, 1, none⟩) GR.out _⟩ | exact ⟨x, z, 0, rfl, SAID.out, (HY.out.setCell (p := ⟨r, 0, none⟩) GR.out _).setCell (p := ⟨r, 1, none⟩) GR.out _⟩)
        · have SAID : Aside0 (ParseSaid l (0, 0, 6)) := ⟨ParseSaid.none (fun n d hv t => by
            rw [HAB.out] at t
            obtain ⟨e1, e2⟩ := said_cut hn hv t
            obtain ⟨⟨b1, b2⟩, b3, b4⟩ := valid_64 hv
            rw [e1, atoi_itoa b1 b2] at ha
            rw [e2, atoi_itoa b3 b4] at hb
            injection ha with ha
            injection hb with hb
            subst ha hb
            exact ht (by rw [HAB.out]; exact t))⟩
          obtain ⟨T, hT⟩ : ∃ T, T = ba (txt x z) := ⟨_, rfl⟩
          rw [← hT] at KT
          have q1 : ¬ (T.toList = (ba l).toList) := fun h => ht (by rw [hT, ba_toList, ba_toList] at h; exact h)
          have q2 : (T.toList == (ba l).toList) = false := beq_eq_false_iff_ne.mpr q1
          clear ha hv ht hT
          go_wp2_with (first | (go_at_call 6; with_reducible refine KT.out.mono ?_; rintro e y ⟨rfl, hb⟩; have HY := Aside0.mk (below_step HW.out hb); have m0 := (blk_cell (blk_below HR.out hb) 0).trans rfl; have m1 := (blk_cell (blk_below HR.out hb) 1).trans rfl; have f0 := blk_frozen (blk_below HR.out hb) 0; have f1 := blk_frozen (blk_below HR.out hb) 1; have MR := Aside0.mk (blk_below HR.out hb); have g0 := (blk_cell (blk_below HG.out hb) 0).trans rfl; have g1 := (blk_cell (blk_below HG.out hb) 1).trans rfl; clear hb x0 x1))
          all_goals (refine bodyPost_ret (results_ct rfl _ _ r 23 #[.int .i64 (0), .int .i64 (0)] (0, 0) _ rfl (blk_put (cs := #[.int .i64 (0), .int .i64 0]) (blk_put (cs := #[.int .i64 0, .int .i64 0]) MR.out 0 _ rfl) 1 _ rfl) Tryz.underlying23 rfl (by kernel_rfl)) rfl ?_; first | exact ⟨(0, 0, 6), rfl, SAID.out, (HY.out.setCell (p := ⟨r, 0, none⟩) GR.out _).setCell (p := ⟨r, 1, none⟩) GR.out _⟩ | exact ⟨0, 0, 6, rfl, SAID.out, (HY.out.setCell (p := ⟨r, 0, none⟩) GR.out _).setCell (p := ⟨r, 1, none⟩) GR.out _⟩)
      · rw [if_neg hv, if_neg hv] at KT
        have SAID : Aside0 (ParseSaid l (0, 0, 6)) := ⟨ParseSaid.none (fun n d hv2 t => by
          rw [HAB.out] at t
          obtain ⟨e1, e2⟩ := said_cut hn hv2 t
          obtain ⟨⟨b1, b2⟩, b3, b4⟩ := valid_64 hv2
          rw [e1, atoi_itoa b1 b2] at ha
          rw [e2, atoi_itoa b3 b4] at hb
          injection ha with ha
          injection hb with hb
          subst ha hb
          exact hv hv2)⟩
        clear ha hv
        go_wp2_with (first | (go_at_call 6; with_reducible refine KT.out.mono ?_; rintro e y ⟨rfl, hb⟩; have HY := Aside0.mk (below_step HW.out hb); have m0 := (blk_cell (blk_below HR.out hb) 0).trans rfl; have m1 := (blk_cell (blk_below HR.out hb) 1).trans rfl; have f0 := blk_frozen (blk_below HR.out hb) 0; have f1 := blk_frozen (blk_below HR.out hb) 1; have MR := Aside0.mk (blk_below HR.out hb); have g0 := (blk_cell (blk_below HG.out hb) 0).trans rfl; have g1 := (blk_cell (blk_below HG.out hb) 1).trans rfl; clear hb x0 x1))
        all_goals (refine bodyPost_ret (results_ct rfl _ _ r 23 #[.int .i64 (0), .int .i64 (0)] (0, 0) _ rfl (blk_put (cs := #[.int .i64 (0), .int .i64 0]) (blk_put (cs := #[.int .i64 0, .int .i64 0]) MR.out 0 _ rfl) 1 _ rfl) Tryz.underlying23 rfl (by kernel_rfl)) rfl ?_; first | exact ⟨(0, 0, 6), rfl, SAID.out, (HY.out.setCell (p := ⟨r, 0, none⟩) GR.out _).setCell (p := ⟨r, 1, none⟩) GR.out _⟩ | exact ⟨0, 0, 6, rfl, SAID.out, (HY.out.setCell (p := ⟨r, 0, none⟩) GR.out _).setCell (p := ⟨r, 1, none⟩) GR.out _⟩)
    · have SAID : Aside0 (ParseSaid l (0, 0, 6)) := ⟨ParseSaid.none (fun n d hv t => by
        rw [HAB.out] at t
        obtain ⟨e, -⟩ := said_cut hn hv t
        rw [e] at ha
        obtain ⟨⟨b1, b2⟩, -⟩ := valid_64 hv
        exact ha n (atoi_itoa b1 b2))⟩
      clear ha hb
      go_wp2_with (first | (go_at_call 6; with_reducible refine KT.out.mono ?_; rintro e y ⟨rfl, hb⟩; have HY := Aside0.mk (below_step HW.out hb); have m0 := (blk_cell (blk_below HR.out hb) 0).trans rfl; have m1 := (blk_cell (blk_below HR.out hb) 1).trans rfl; have f0 := blk_frozen (blk_below HR.out hb) 0; have f1 := blk_frozen (blk_below HR.out hb) 1; have MR := Aside0.mk (blk_below HR.out hb); have g0 := (blk_cell (blk_below HG.out hb) 0).trans rfl; have g1 := (blk_cell (blk_below HG.out hb) 1).trans rfl; clear hb x0 x1))
      all_goals (refine bodyPost_ret (results_ct rfl _ _ r 23 #[.int .i64 (0), .int .i64 (0)] (0, 0) _ rfl (blk_put (cs := #[.int .i64 (0), .int .i64 0]) (blk_put (cs := #[.int .i64 0, .int .i64 0]) MR.out 0 _ rfl) 1 _ rfl) Tryz.underlying23 rfl (by kernel_rfl)) rfl ?_; first | exact ⟨(0, 0, 6), rfl, SAID.out, (HY.out.setCell (p := ⟨r, 0, none⟩) GR.out _).setCell (p := ⟨r, 1, none⟩) GR.out _⟩ | exact ⟨0, 0, 6, rfl, SAID.out, (HY.out.setCell (p := ⟨r, 0, none⟩) GR.out _).setCell (p := ⟨r, 1, none⟩) GR.out _⟩)
  · have SAID : Aside0 (ParseSaid l (0, 0, 6)) := ⟨ParseSaid.none (fun n d hv t => by
      rw [HAB.out] at t
      obtain ⟨-, e⟩ := said_cut hn hv t
      rw [e] at hb
      obtain ⟨-, b1, b2⟩ := valid_64 hv
      exact hb d (atoi_itoa b1 b2))⟩
    have m0 := (blk_cell HR.out 0).trans rfl
    have m1 := (blk_cell HR.out 1).trans rfl
    have f0 := blk_frozen HR.out 0
    have f1 := blk_frozen HR.out 1
    have MR := HR
    clear hb hx
    go_wp2
    all_goals (refine bodyPost_ret (results_ct rfl _ _ r 23 #[.int .i64 0, .int .i64 0] (0, 0) _ rfl (blk_put (cs := #[.int .i64 0, .int .i64 0]) (blk_put (cs := #[.int .i64 0, .int .i64 0]) MR.out 0 _ rfl) 1 _ rfl) Tryz.underlying23 rfl (by kernel_rfl)) rfl ?_; first | exact ⟨(0, 0, 6), rfl, SAID.out, (HV.out.setCell (p := ⟨r, 0, none⟩) GR.out _).setCell (p := ⟨r, 1, none⟩) GR.out _⟩ | exact ⟨0, 0, 6, rfl, SAID.out, (HV.out.setCell (p := ⟨r, 0, none⟩) GR.out _).setCell (p := ⟨r, 1, none⟩) GR.out _⟩)
theorem parse_any {l : List UInt8} (hl : l.length ≤ 1000000) (w : World) (hE : Env w) : Calls Tryz.prog 8 #[.string (ba l)] w fun e w' => ∃ v : Int × Int × Int, e = .returned (.tuple #[.agg #[.int .i64 v.1, .int .i64 v.2.1], .int .i64 v.2.2]) ∧ ParseSaid l v ∧ Below w.heap.size w w' := by
  rcases cut_cases 47 l with ⟨a, b, h, e⟩ | h
  · exact parse_cut hl h e w hE
  · exact parse_whole hl h w hE
end Go.Proofs.Num
