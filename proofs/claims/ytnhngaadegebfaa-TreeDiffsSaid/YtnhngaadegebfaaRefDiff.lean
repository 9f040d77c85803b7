/- The reference's Diff, walked. -/
import Derived.Test.YtnhngaadegebfaaDiffsLaws
import Derived.Test.YtnhngaadegebfaaDoState
namespace Go.Proofs.MT.II
open Go.RowKit Go.Proofs.YtnhngaadegebfaaW.PrintLast Go.Proofs.YtnhngaadegebfaaW.PrintWords
set_option linter.unusedVariables false
set_option linter.unusedSimpArgs false

theorem info93 : (Try.prog.info? 93).map (fun i => (i.zero, i.size, i.bytes)) = some (some (.agg #[.int .i64 0, .int .i64 0, .int .i64 0, .bool false, .bool false]), 5, 32) := by kernel_rfl
theorem refL_snoc (a b : List (Int × Int)) {u : List (Int × Int)} {j : Nat} {p : Int × Int} (h : u[j]? = some p) : refL a b (u.take (j + 1)) = refL a b (u.take j) ++ (if differs (refC a b p.1) then [refC a b p.1] else []) := by
  unfold refL
  rw [List.take_add_one, h, List.map_append, List.filter_append]
  congr 1
  show List.filter differs [refC a b p.1] = _
  rw [List.filter_cons]
  rfl
theorem refL_len (a b u : List (Int × Int)) : (refL a b u).length ≤ u.length := by
  unfold refL
  exact Nat.le_trans (List.length_filter_le _ _) (by rw [List.length_map]; exact Nat.le_refl _)

set_option maxRecDepth 100000 in
set_option maxHeartbeats 3200000 in
theorem refDiff {w : World} {bad : Nat → Prop} {A A' : Option Addr} {n n' c c' : Nat} {t u : T Int Int} (h : Holds w bad (.slice A n c) t.toList) (h' : Holds w bad (.slice A' n' c') u.toList) (hs : Sorted t.toList) (hs' : Sorted u.toList) (hz : t.size ≤ 1000) (hz' : u.size ≤ 1000) (hb : ∀ k, bad k → k < w.heap.size) :
    Calls Try.prog 47 #[.slice A n c, .slice A' n' c'] w fun e w' => ∃ v, e = .returned v ∧ w'.ownsRow w.heap.size 93 5 v (diffL t.toList u.toList).length (flatC (diffL t.toList u.toList)) ∧ Below w.heap.size w w' := by
  go_enter Try.func47, Try.ntmps47
  go_upto_region 4 with (go_at_call 86; refine (refUnion h h' hs hs' (by omega) hb).mono ?_; rintro e Z ⟨sU, rfl, hU, hx⟩)
  have hUl : (T.union t u).toList = unionL t.toList u.toList := union_list t u hs hs'
  rw [hUl] at hU
  obtain ⟨U, hUU⟩ : ∃ U, U = unionL t.toList u.toList := ⟨_, rfl⟩
  rw [← hUU] at hU
  have hlen : U.length ≤ 2000 := by
    have := unionL_length u.toList t.toList
    rw [← hUU, T.length_toList, T.length_toList] at this
    omega
  obtain ⟨AU, cU, rfl, hcU, hrU, -⟩ := hU.reads (by omega)
  have hfin : diffL t.toList u.toList = refL t.toList u.toList U := by rw [hUU]; exact (refL_eq hs hs').symm
  have HF := Lib.hid hfin
  have h := h.later hx
  have h' := h'.later hx
  clear hUl hUU hU hfin
  obtain ⟨rfl, hc, hrow⟩ := holds_row h
  obtain ⟨rfl, hc', hrow'⟩ := holds_row h'
  go_loopg [6, 7] U.length (fun k x6 x7 wr => ∃ j : Nat, x7 = .int .i64 j ∧ j ≤ U.length ∧ wr.ownsRow Z.heap.size 93 5 x6 (refL t.toList u.toList (U.take j)).length (flatC (refL t.toList u.toList (U.take j))) ∧ Below Z.heap.size Z wr ∧ Hid (U.length - j = k))
  case atStart => exact ⟨0, rfl, by omega, ⟨by simp [flatC, refL], .inl ⟨rfl, by simp [refL]⟩⟩, Below.refl _ _, rfl⟩
  case round =>
    obtain ⟨j, rfl, hj, ho, hb', HN⟩ := hrel
    by_cases hlt : j < U.length
    · have b1 : (j : Int) < (U.length : Int) := by omega
      have b2 : (0 : Int) ≤ (j : Int) := by omega
      have b3 : IntKind.i64.wrap ((j : Int) + 1) = ((j + 1 : Nat) : Int) := by rw [IntKind.wrap_i64]; push_cast; omega
      obtain ⟨⟨k0, v0⟩, hp⟩ : ∃ x, U[j]? = some x := ⟨_, List.getElem?_eq_getElem hlt⟩
      rcases hrU with h0 | ⟨bU, oU, rfl, hbU, hcell⟩
      · rw [h0] at hlt; simp at hlt
      have e0 := (hb'.cell (p := ⟨bU, _, none⟩) hbU).trans (hcell j _ hp).1
      have zt : t.size ≤ 1099511627776 := by omega
      have zu : u.size ≤ 1099511627776 := by omega
      clear hcell
      go_upto_region 8 with (first
        | (go_at_call 81; (with_reducible refine (refFind (h.later hb') zt k0).mono ?_); rintro e y1 ⟨r1, rfl, hr1, hf1, hn1, hq1⟩; have hk1 := hb'.trans (hq1.mono hb'.size))
        | (go_at_call 81; (with_reducible refine (refFind (h'.later hk1) zu k0).mono ?_); rintro e y2 ⟨r2, rfl, hr2, hf2, hn2, hq2⟩; have hk2 := hk1.trans (hq2.mono hk1.size)))
      have hq := hq1.trans (hq2.mono hq1.size)
      have hasA : has t.toList k0 = decide (0 ≤ r1) := find_bool hf1 hn1 (has_iff t.toList k0)
      have hasB : has u.toList k0 = decide (0 ≤ r2) := find_bool hf2 hn2 (has_iff u.toList k0)
      clear hq1 hq2 hk1 e0 hr1 hr2
      by_cases c1_ : 0 ≤ r1
      · skip
        obtain ⟨⟨ka, va⟩, hma, hka, hla⟩ := hf1 c1_
        have hka : ka = k0 := hka
        subst hka
        have hina := List.mem_of_getElem? hma
        rcases hrow with h0 | ⟨ba, oa, rfl, hba, hca⟩
        · rw [h0] at hina; cases hina
        have ha1 : ∀ y, Below Z.heap.size Z y → y.cell? ⟨ba, oa + r1.toNat * 2 + 1, none⟩ = some (.int .i64 va) := fun y hy => (hy.cell (p := ⟨ba, _, none⟩) hba).trans (hca _ _ hma).2
        by_cases c2_ : 0 ≤ r2
        · skip
          obtain ⟨⟨kb, vb⟩, hmb, hkb, hlb⟩ := hf2 c2_
          have hkb : kb = ka := hkb
          subst hkb
          have hinb := List.mem_of_getElem? hmb
          rcases hrow' with h0 | ⟨bb, ob, rfl, hbb, hcb⟩
          · rw [h0] at hinb; cases hinb
          have ha2 : ∀ y, Below Z.heap.size Z y → y.cell? ⟨bb, ob + r2.toNat * 2 + 1, none⟩ = some (.int .i64 vb) := fun y hy => (hy.cell (p := ⟨bb, _, none⟩) hbb).trans (hcb _ _ hmb).2
          by_cases hne : va = vb
          · have HE := Lib.hid hne
            clear hne
            have hv1 : valL t.toList kb = va := valL_mem hs hina
            have hv2 : valL u.toList kb = vb := valL_mem hs' hinb
            have hh1 : has t.toList kb = true := by rw [hasA]; simp; omega
            have hh2 : has u.toList kb = true := by rw [hasB]; simp; omega
            have hC : refC t.toList u.toList kb = ⟨kb, va, vb, true, true⟩ := by unfold refC; rw [hv1, hv2, hh1, hh2]
            have hS := refL_snoc t.toList u.toList hp
            rw [show ((kb, v0) : Int × Int).1 = kb from rfl, hC] at hS
            rw [if_neg (show ¬ differs ⟨kb, va, vb, true, true⟩ = true from by simp [differs, HE.out]), List.append_nil] at hS
            have HS := Lib.hid hS
            clear hS hC hv1 hv2 hh1 hh2 hasA hasB hf1 hf2 hn1 hn2 hina hinb
            have g1 : r1 ≥ 0 := by omega
            have g2 : r2 ≥ 0 := by omega
            have g3 : ¬ r1 < 0 := by omega
            have g4 : ¬ r2 < 0 := by omega
            have g5 : 0 ≤ r1 := by omega
            have g6 : 0 ≤ r2 := by omega
            have g7 : (va != vb) = false := by simp [HE.out]
            go_upto_region 9 with fail
            have cb : ChBox (y2.alloc (.cells #[.int .i64 kb, .int .i64 0, .int .i64 0, .bool true, .bool true] 93)) y2.heap.size ⟨kb, 0, 0, true, true⟩ := ⟨by simp, fun k => by simp [go_sem], cell_new _ _ _ _ _ _ rfl, cell_new _ _ _ _ _ _ rfl, cell_new _ _ _ _ _ _ rfl, cell_new _ _ _ _ _ _ rfl, cell_new _ _ _ _ _ _ rfl⟩
            have hy := below_one y2 (.cells #[.int .i64 kb, .int .i64 0, .int .i64 0, .bool true, .bool true] 93)
            generalize y2.alloc (.cells #[.int .i64 kb, .int .i64 0, .int .i64 0, .bool true, .bool true] 93) = y3 at cb hy ⊢
            generalize hB : y2.heap.size = BB at cb ⊢
            have hBB : y2.heap.size ≤ BB := by omega
            clear hB
            have q0 := cb.c0
            have q1 := cb.c1
            have q2 := cb.c2
            have q3 := cb.c3
            have q4 := cb.c4
            have z1 := cb.fr 1
            have z2 := cb.fr 2
            have d1 := ha1 _ (hk2.trans (hy.mono hk2.size))
            have d2 := ha2 _ (hk2.trans (hy.mono hk2.size))
            go_upto_region 11 with fail
            clear q0 q1 q2 q3 q4 z1 z2 d1 d2
            have cb := cb.set1 va
            have hy := hy.setCell (p := ⟨BB, 1, none⟩) hBB (.int .i64 va)
            generalize y3.setCell ⟨BB, 1, none⟩ (.int .i64 va) = y4 at cb hy ⊢
            have q0 := cb.c0
            have q1 := cb.c1
            have q2 := cb.c2
            have q3 := cb.c3
            have q4 := cb.c4
            have z1 := cb.fr 1
            have z2 := cb.fr 2
            have d1 := ha1 _ (hk2.trans (hy.mono hk2.size))
            have d2 := ha2 _ (hk2.trans (hy.mono hk2.size))
            go_upto_region 13 with fail
            clear q0 q1 q2 q3 q4 z1 z2 d1 d2
            have cb := cb.set2 vb
            have hy := hy.setCell (p := ⟨BB, 2, none⟩) hBB (.int .i64 vb)
            generalize y4.setCell ⟨BB, 2, none⟩ (.int .i64 vb) = y5 at cb hy ⊢
            have q0 := cb.c0
            have q1 := cb.c1
            have q2 := cb.c2
            have q3 := cb.c3
            have q4 := cb.c4
            have z1 := cb.fr 1
            have z2 := cb.fr 2
            have d1 := ha1 _ (hk2.trans (hy.mono hk2.size))
            have d2 := ha2 _ (hk2.trans (hy.mono hk2.size))
            have ho := own_step (W' := y5) ho fun k _ hk => (hy.mono hq.size).block k hk |>.trans (hq.block k hk)
            have hbn : Below Z.heap.size Z y5 := hk2.trans (hy.mono hk2.size)
            go_wp2_with fail
            go_roundg (U.length - (j + 1))
            case measure => have := HN.out; omega
            case rel =>
              refine ⟨j + 1, rfl, by omega, ?_, hbn, rfl⟩
              rw [HS.out]
              exact ho
          · skip
            have hv1 : valL t.toList kb = va := valL_mem hs hina
            have hv2 : valL u.toList kb = vb := valL_mem hs' hinb
            have hh1 : has t.toList kb = true := by rw [hasA]; simp; omega
            have hh2 : has u.toList kb = true := by rw [hasB]; simp; omega
            have hC : refC t.toList u.toList kb = ⟨kb, va, vb, true, true⟩ := by unfold refC; rw [hv1, hv2, hh1, hh2]
            have hS := refL_snoc t.toList u.toList hp
            rw [show ((kb, v0) : Int × Int).1 = kb from rfl, hC] at hS
            rw [if_pos (show differs ⟨kb, va, vb, true, true⟩ = true from by simp [differs, hne])] at hS
            have HS := Lib.hid hS
            clear hS hC hv1 hv2 hh1 hh2 hasA hasB hf1 hf2 hn1 hn2 hina hinb
            have g1 : r1 ≥ 0 := by omega
            have g2 : r2 ≥ 0 := by omega
            have g3 : ¬ r1 < 0 := by omega
            have g4 : ¬ r2 < 0 := by omega
            have g5 : 0 ≤ r1 := by omega
            have g6 : 0 ≤ r2 := by omega
            have g7 : (va != vb) = true := by simp [hne]
            go_upto_region 9 with fail
            have cb : ChBox (y2.alloc (.cells #[.int .i64 kb, .int .i64 0, .int .i64 0, .bool true, .bool true] 93)) y2.heap.size ⟨kb, 0, 0, true, true⟩ := ⟨by simp, fun k => by simp [go_sem], cell_new _ _ _ _ _ _ rfl, cell_new _ _ _ _ _ _ rfl, cell_new _ _ _ _ _ _ rfl, cell_new _ _ _ _ _ _ rfl, cell_new _ _ _ _ _ _ rfl⟩
            have hy := below_one y2 (.cells #[.int .i64 kb, .int .i64 0, .int .i64 0, .bool true, .bool true] 93)
            generalize y2.alloc (.cells #[.int .i64 kb, .int .i64 0, .int .i64 0, .bool true, .bool true] 93) = y3 at cb hy ⊢
            generalize hB : y2.heap.size = BB at cb ⊢
            have hBB : y2.heap.size ≤ BB := by omega
            clear hB
            have q0 := cb.c0
            have q1 := cb.c1
            have q2 := cb.c2
            have q3 := cb.c3
            have q4 := cb.c4
            have z1 := cb.fr 1
            have z2 := cb.fr 2
            have d1 := ha1 _ (hk2.trans (hy.mono hk2.size))
            have d2 := ha2 _ (hk2.trans (hy.mono hk2.size))
            go_upto_region 11 with fail
            clear q0 q1 q2 q3 q4 z1 z2 d1 d2
            have cb := cb.set1 va
            have hy := hy.setCell (p := ⟨BB, 1, none⟩) hBB (.int .i64 va)
            generalize y3.setCell ⟨BB, 1, none⟩ (.int .i64 va) = y4 at cb hy ⊢
            have q0 := cb.c0
            have q1 := cb.c1
            have q2 := cb.c2
            have q3 := cb.c3
            have q4 := cb.c4
            have z1 := cb.fr 1
            have z2 := cb.fr 2
            have d1 := ha1 _ (hk2.trans (hy.mono hk2.size))
            have d2 := ha2 _ (hk2.trans (hy.mono hk2.size))
            go_upto_region 13 with fail
            clear q0 q1 q2 q3 q4 z1 z2 d1 d2
            have cb := cb.set2 vb
            have hy := hy.setCell (p := ⟨BB, 2, none⟩) hBB (.int .i64 vb)
            generalize y4.setCell ⟨BB, 2, none⟩ (.int .i64 vb) = y5 at cb hy ⊢
            have q0 := cb.c0
            have q1 := cb.c1
            have q2 := cb.c2
            have q3 := cb.c3
            have q4 := cb.c4
            have z1 := cb.fr 1
            have z2 := cb.fr 2
            have d1 := ha1 _ (hk2.trans (hy.mono hk2.size))
            have d2 := ha2 _ (hk2.trans (hy.mono hk2.size))
            have ho := own_step (W' := y5) ho fun k _ hk => (hy.mono hq.size).block k hk |>.trans (hq.block k hk)
            have hbn : Below Z.heap.size Z y5 := hk2.trans (hy.mono hk2.size)
            go_upto_region 14 with fail
            go_wp2_with (at_builtin; refine print_append_cells (w0 := Z) Z.heap.size rfl (.tmp 67) (.tmp 69) 88 93 (.agg #[.int .i64 0, .int .i64 0, .int .i64 0, .bool false, .bool false]) 5 32 rfl Try.underlying88 info93 rfl (by omega) (by omega) u6 _ _ [.int .i64 kb, .int .i64 va, .int .i64 vb, .bool true, .bool true] rfl rfl rfl (by simp [Value.oneCell']) ho hbn hbn.size (by have := refL_len t.toList u.toList (U.take j); rw [List.length_take] at this; omega) ?_; intro v1_ y6 ho6 hb6 hg6 hat6)
            go_roundg (U.length - (j + 1))
            case measure => have := HN.out; omega
            case rel =>
              refine ⟨j + 1, rfl, by omega, ?_, hb6, rfl⟩
              rw [HS.out]
              rw [flatC_snoc, List.length_append]; exact ho6
        · skip
          have hv1 : valL t.toList ka = va := valL_mem hs hina
          have hv2 : valL u.toList ka = 0 := valL_no (hn2 (by omega))
          have hh1 : has t.toList ka = true := by rw [hasA]; simp; omega
          have hh2 : has u.toList ka = false := by rw [hasB]; simp; omega
          have hC : refC t.toList u.toList ka = ⟨ka, va, 0, true, false⟩ := by unfold refC; rw [hv1, hv2, hh1, hh2]
          have hS := refL_snoc t.toList u.toList hp
          rw [show ((ka, v0) : Int × Int).1 = ka from rfl, hC] at hS
          rw [if_pos (show differs ⟨ka, va, 0, true, false⟩ = true from by simp [differs])] at hS
          have HS := Lib.hid hS
          clear hS hC hv1 hv2 hh1 hh2 hasA hasB hf1 hf2 hn1 hn2 hina
          have g1 : r1 ≥ 0 := by omega
          have g2 : ¬ r2 ≥ 0 := by omega
          have g3 : ¬ r1 < 0 := by omega
          have g4 : r2 < 0 := by omega
          have g5 : 0 ≤ r1 := by omega
          have g6 : ¬ 0 ≤ r2 := by omega
          go_upto_region 9 with fail
          have cb : ChBox (y2.alloc (.cells #[.int .i64 ka, .int .i64 0, .int .i64 0, .bool true, .bool false] 93)) y2.heap.size ⟨ka, 0, 0, true, false⟩ := ⟨by simp, fun k => by simp [go_sem], cell_new _ _ _ _ _ _ rfl, cell_new _ _ _ _ _ _ rfl, cell_new _ _ _ _ _ _ rfl, cell_new _ _ _ _ _ _ rfl, cell_new _ _ _ _ _ _ rfl⟩
          have hy := below_one y2 (.cells #[.int .i64 ka, .int .i64 0, .int .i64 0, .bool true, .bool false] 93)
          generalize y2.alloc (.cells #[.int .i64 ka, .int .i64 0, .int .i64 0, .bool true, .bool false] 93) = y3 at cb hy ⊢
          generalize hB : y2.heap.size = BB at cb ⊢
          have hBB : y2.heap.size ≤ BB := by omega
          clear hB
          have q0 := cb.c0
          have q1 := cb.c1
          have q2 := cb.c2
          have q3 := cb.c3
          have q4 := cb.c4
          have z1 := cb.fr 1
          have z2 := cb.fr 2
          have d1 := ha1 _ (hk2.trans (hy.mono hk2.size))
          go_upto_region 11 with fail
          clear q0 q1 q2 q3 q4 z1 z2 d1
          have cb := cb.set1 va
          have hy := hy.setCell (p := ⟨BB, 1, none⟩) hBB (.int .i64 va)
          generalize y3.setCell ⟨BB, 1, none⟩ (.int .i64 va) = y4 at cb hy ⊢
          have q0 := cb.c0
          have q1 := cb.c1
          have q2 := cb.c2
          have q3 := cb.c3
          have q4 := cb.c4
          have z1 := cb.fr 1
          have z2 := cb.fr 2
          have d1 := ha1 _ (hk2.trans (hy.mono hk2.size))
          go_upto_region 13 with fail
          clear q0 q1 q2 q3 q4 z1 z2 d1
          have q0 := cb.c0
          have q1 := cb.c1
          have q2 := cb.c2
          have q3 := cb.c3
          have q4 := cb.c4
          have z1 := cb.fr 1
          have z2 := cb.fr 2
          have d1 := ha1 _ (hk2.trans (hy.mono hk2.size))
          have ho := own_step (W' := y4) ho fun k _ hk => (hy.mono hq.size).block k hk |>.trans (hq.block k hk)
          have hbn : Below Z.heap.size Z y4 := hk2.trans (hy.mono hk2.size)
          go_upto_region 14 with fail
          go_wp2_with (at_builtin; refine print_append_cells (w0 := Z) Z.heap.size rfl (.tmp 67) (.tmp 69) 88 93 (.agg #[.int .i64 0, .int .i64 0, .int .i64 0, .bool false, .bool false]) 5 32 rfl Try.underlying88 info93 rfl (by omega) (by omega) u6 _ _ [.int .i64 ka, .int .i64 va, .int .i64 0, .bool true, .bool false] rfl rfl rfl (by simp [Value.oneCell']) ho hbn hbn.size (by have := refL_len t.toList u.toList (U.take j); rw [List.length_take] at this; omega) ?_; intro v1_ y6 ho6 hb6 hg6 hat6)
          go_roundg (U.length - (j + 1))
          case measure => have := HN.out; omega
          case rel =>
            refine ⟨j + 1, rfl, by omega, ?_, hb6, rfl⟩
            rw [HS.out]
            rw [flatC_snoc, List.length_append]; exact ho6
      · skip
        by_cases c2_ : 0 ≤ r2
        · skip
          obtain ⟨⟨kb, vb⟩, hmb, hkb, hlb⟩ := hf2 c2_
          have hkb : kb = k0 := hkb
          subst hkb
          have hinb := List.mem_of_getElem? hmb
          rcases hrow' with h0 | ⟨bb, ob, rfl, hbb, hcb⟩
          · rw [h0] at hinb; cases hinb
          have ha2 : ∀ y, Below Z.heap.size Z y → y.cell? ⟨bb, ob + r2.toNat * 2 + 1, none⟩ = some (.int .i64 vb) := fun y hy => (hy.cell (p := ⟨bb, _, none⟩) hbb).trans (hcb _ _ hmb).2
          have hv1 : valL t.toList kb = 0 := valL_no (hn1 (by omega))
          have hv2 : valL u.toList kb = vb := valL_mem hs' hinb
          have hh1 : has t.toList kb = false := by rw [hasA]; simp; omega
          have hh2 : has u.toList kb = true := by rw [hasB]; simp; omega
          have hC : refC t.toList u.toList kb = ⟨kb, 0, vb, false, true⟩ := by unfold refC; rw [hv1, hv2, hh1, hh2]
          have hS := refL_snoc t.toList u.toList hp
          rw [show ((kb, v0) : Int × Int).1 = kb from rfl, hC] at hS
          rw [if_pos (show differs ⟨kb, 0, vb, false, true⟩ = true from by simp [differs])] at hS
          have HS := Lib.hid hS
          clear hS hC hv1 hv2 hh1 hh2 hasA hasB hf1 hf2 hn1 hn2 hinb
          have g1 : ¬ r1 ≥ 0 := by omega
          have g2 : r2 ≥ 0 := by omega
          have g3 : r1 < 0 := by omega
          have g4 : ¬ r2 < 0 := by omega
          have g5 : ¬ 0 ≤ r1 := by omega
          have g6 : 0 ≤ r2 := by omega
          go_upto_region 9 with fail
          have cb : ChBox (y2.alloc (.cells #[.int .i64 kb, .int .i64 0, .int .i64 0, .bool false, .bool true] 93)) y2.heap.size ⟨kb, 0, 0, false, true⟩ := ⟨by simp, fun k => by simp [go_sem], cell_new _ _ _ _ _ _ rfl, cell_new _ _ _ _ _ _ rfl, cell_new _ _ _ _ _ _ rfl, cell_new _ _ _ _ _ _ rfl, cell_new _ _ _ _ _ _ rfl⟩
          have hy := below_one y2 (.cells #[.int .i64 kb, .int .i64 0, .int .i64 0, .bool false, .bool true] 93)
          generalize y2.alloc (.cells #[.int .i64 kb, .int .i64 0, .int .i64 0, .bool false, .bool true] 93) = y3 at cb hy ⊢
          generalize hB : y2.heap.size = BB at cb ⊢
          have hBB : y2.heap.size ≤ BB := by omega
          clear hB
          have q0 := cb.c0
          have q1 := cb.c1
          have q2 := cb.c2
          have q3 := cb.c3
          have q4 := cb.c4
          have z1 := cb.fr 1
          have z2 := cb.fr 2
          have d2 := ha2 _ (hk2.trans (hy.mono hk2.size))
          go_upto_region 11 with fail
          clear q0 q1 q2 q3 q4 z1 z2 d2
          have q0 := cb.c0
          have q1 := cb.c1
          have q2 := cb.c2
          have q3 := cb.c3
          have q4 := cb.c4
          have z1 := cb.fr 1
          have z2 := cb.fr 2
          have d2 := ha2 _ (hk2.trans (hy.mono hk2.size))
          go_upto_region 13 with fail
          clear q0 q1 q2 q3 q4 z1 z2 d2
          have cb := cb.set2 vb
          have hy := hy.setCell (p := ⟨BB, 2, none⟩) hBB (.int .i64 vb)
          generalize y3.setCell ⟨BB, 2, none⟩ (.int .i64 vb) = y5 at cb hy ⊢
          have q0 := cb.c0
          have q1 := cb.c1
          have q2 := cb.c2
          have q3 := cb.c3
          have q4 := cb.c4
          have z1 := cb.fr 1
          have z2 := cb.fr 2
          have d2 := ha2 _ (hk2.trans (hy.mono hk2.size))
          have ho := own_step (W' := y5) ho fun k _ hk => (hy.mono hq.size).block k hk |>.trans (hq.block k hk)
          have hbn : Below Z.heap.size Z y5 := hk2.trans (hy.mono hk2.size)
          go_upto_region 14 with fail
          go_wp2_with (at_builtin; refine print_append_cells (w0 := Z) Z.heap.size rfl (.tmp 67) (.tmp 69) 88 93 (.agg #[.int .i64 0, .int .i64 0, .int .i64 0, .bool false, .bool false]) 5 32 rfl Try.underlying88 info93 rfl (by omega) (by omega) u6 _ _ [.int .i64 kb, .int .i64 0, .int .i64 vb, .bool false, .bool true] rfl rfl rfl (by simp [Value.oneCell']) ho hbn hbn.size (by have := refL_len t.toList u.toList (U.take j); rw [List.length_take] at this; omega) ?_; intro v1_ y6 ho6 hb6 hg6 hat6)
          go_roundg (U.length - (j + 1))
          case measure => have := HN.out; omega
          case rel =>
            refine ⟨j + 1, rfl, by omega, ?_, hb6, rfl⟩
            rw [HS.out]
            rw [flatC_snoc, List.length_append]; exact ho6
        · skip
          have hv1 : valL t.toList k0 = 0 := valL_no (hn1 (by omega))
          have hv2 : valL u.toList k0 = 0 := valL_no (hn2 (by omega))
          have hh1 : has t.toList k0 = false := by rw [hasA]; simp; omega
          have hh2 : has u.toList k0 = false := by rw [hasB]; simp; omega
          have hC : refC t.toList u.toList k0 = ⟨k0, 0, 0, false, false⟩ := by unfold refC; rw [hv1, hv2, hh1, hh2]
          have hS := refL_snoc t.toList u.toList hp
          rw [show ((k0, v0) : Int × Int).1 = k0 from rfl, hC] at hS
          rw [if_pos (show differs ⟨k0, 0, 0, false, false⟩ = true from by simp [differs])] at hS
          have HS := Lib.hid hS
          clear hS hC hv1 hv2 hh1 hh2 hasA hasB hf1 hf2 hn1 hn2
          have g1 : ¬ r1 ≥ 0 := by omega
          have g2 : ¬ r2 ≥ 0 := by omega
          have g3 : r1 < 0 := by omega
          have g4 : r2 < 0 := by omega
          have g5 : ¬ 0 ≤ r1 := by omega
          have g6 : ¬ 0 ≤ r2 := by omega
          go_upto_region 9 with fail
          have cb : ChBox (y2.alloc (.cells #[.int .i64 k0, .int .i64 0, .int .i64 0, .bool false, .bool false] 93)) y2.heap.size ⟨k0, 0, 0, false, false⟩ := ⟨by simp, fun k => by simp [go_sem], cell_new _ _ _ _ _ _ rfl, cell_new _ _ _ _ _ _ rfl, cell_new _ _ _ _ _ _ rfl, cell_new _ _ _ _ _ _ rfl, cell_new _ _ _ _ _ _ rfl⟩
          have hy := below_one y2 (.cells #[.int .i64 k0, .int .i64 0, .int .i64 0, .bool false, .bool false] 93)
          generalize y2.alloc (.cells #[.int .i64 k0, .int .i64 0, .int .i64 0, .bool false, .bool false] 93) = y3 at cb hy ⊢
          generalize hB : y2.heap.size = BB at cb ⊢
          have hBB : y2.heap.size ≤ BB := by omega
          clear hB
          have q0 := cb.c0
          have q1 := cb.c1
          have q2 := cb.c2
          have q3 := cb.c3
          have q4 := cb.c4
          have z1 := cb.fr 1
          have z2 := cb.fr 2
          go_upto_region 11 with fail
          clear q0 q1 q2 q3 q4 z1 z2
          have q0 := cb.c0
          have q1 := cb.c1
          have q2 := cb.c2
          have q3 := cb.c3
          have q4 := cb.c4
          have z1 := cb.fr 1
          have z2 := cb.fr 2
          go_upto_region 13 with fail
          clear q0 q1 q2 q3 q4 z1 z2
          have q0 := cb.c0
          have q1 := cb.c1
          have q2 := cb.c2
          have q3 := cb.c3
          have q4 := cb.c4
          have z1 := cb.fr 1
          have z2 := cb.fr 2
          have ho := own_step (W' := y3) ho fun k _ hk => (hy.mono hq.size).block k hk |>.trans (hq.block k hk)
          have hbn : Below Z.heap.size Z y3 := hk2.trans (hy.mono hk2.size)
          go_upto_region 14 with fail
          go_wp2_with (at_builtin; refine print_append_cells (w0 := Z) Z.heap.size rfl (.tmp 67) (.tmp 69) 88 93 (.agg #[.int .i64 0, .int .i64 0, .int .i64 0, .bool false, .bool false]) 5 32 rfl Try.underlying88 info93 rfl (by omega) (by omega) u6 _ _ [.int .i64 k0, .int .i64 0, .int .i64 0, .bool false, .bool false] rfl rfl rfl (by simp [Value.oneCell']) ho hbn hbn.size (by have := refL_len t.toList u.toList (U.take j); rw [List.length_take] at this; omega) ?_; intro v1_ y6 ho6 hb6 hg6 hat6)
          go_roundg (U.length - (j + 1))
          case measure => have := HN.out; omega
          case rel =>
            refine ⟨j + 1, rfl, by omega, ?_, hb6, rfl⟩
            rw [HS.out]
            rw [flatC_snoc, List.length_append]; exact ho6
    · obtain rfl : j = U.length := by omega
      go_wp2_with fail
      rw [List.take_length, ← HF.out] at ho
      go_ret
      exact ⟨u6, rfl, Kd.own_raise ho fun k hk => Nat.le_trans hx.size (own_tag ho hk).2, hx.trans (hb'.mono hx.size)⟩
end Go.Proofs.MT.II
