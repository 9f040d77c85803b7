/- The law NumTexts, walked: each of the four functions beside the reference's. -/
import Derived.Test.YtdjnneflpkllmaaGreatDoorAlive
import Derived.Test.YtdjnneflpkllmaaGreatDoorPrsW
import Derived.Test.YtdjnneflpkllmaaGreatDoorDcmW
import Derived.Test.YtdjnneflpkllmaaGreatDoorPdW
import Derived.Test.YtdjnneflpkllmaaGreatDoorRx1
namespace Go.Proofs.Num
open Go.RowKit Go.Proofs.YtdjnneflpkllmaaGreatDoorW.PrintWords Go.Proofs.YtdjnneflpkllmaaGreatDoorW.PrintLast Go.Proofs.YtdjnneflpkllmaaGreatDoorW.PrintMore Go.Proofs.YtdjnneflpkllmaaGreatDoor.Q
attribute [local go_sem high] eqA23
set_option linter.unusedVariables false
set_option linter.unusedSimpArgs false
set_option maxHeartbeats 6400000 in
set_option maxRecDepth 100000 in
theorem texts_long (n d a p : Int) (l : List UInt8) (hl : 2000 < l.length) (w : World) (hE : Env w) (hs : l.length ≤ 9223372036854775807) :
    Calls Tryz.prog 3 #[.agg #[.int .i64 n, .int .i64 d], .int .i64 a, .int .i64 p, .string (ba l)] w fun e w' => e = .returned (.bool true) ∧ Below w.heap.size w w' := by
  have hB : Below w.heap.size w (w.alloc (.cells #[.int .i64 n, .int .i64 d] 23)) := (Below.refl _ _).alloc (Nat.le_refl _) _
  have HB := Aside0.mk hB
  have KA := Aside0.mk (alive_any _ (hE.below hB))
  have z : (ba l).size = l.length := ba_size l
  have g : decide ((l.length : Int) > 2000) = true := decide_eq_true (by omega)
  obtain ⟨s, hs1⟩ : ∃ s, s = ba l := ⟨_, rfl⟩
  rw [← hs1] at z ⊢
  clear hs1 hB hE
  go_enter Tryz.func3, Tryz.ntmps3
  go_wp2_with (first
    | (go_at_call 5; with_reducible refine KA.out.mono ?_; rintro e y ⟨rfl, hb⟩; have HB2 := Aside0.mk (below_step HB.out hb); clear hb))
  go_ret
  exact ⟨rfl, HB2.out⟩
set_option maxHeartbeats 16000000 in
set_option maxRecDepth 100000 in
theorem texts_few (n d a p : Int) (h0 : -9223372036854775808 ≤ a) (h1 : a ≤ 9223372036854775807) (l : List UInt8) (hl : ¬ 2000 < l.length) (w : World) (hE : Env w) :
    Calls Tryz.prog 3 #[.agg #[.int .i64 n, .int .i64 d], .int .i64 a, .int .i64 p, .string (ba l)] w fun e w' => e = .returned (.bool true) ∧ Below w.heap.size w w' := by
  have HE := Aside0.mk hE
  have hB : Below w.heap.size w (w.alloc (.cells #[.int .i64 n, .int .i64 d] 23)) := (Below.refl _ _).alloc (Nat.le_refl _) _
  have HB := Aside0.mk hB
  have hF : (w.alloc (.cells #[.int .i64 n, .int .i64 d] 23)).heap[w.heap.size]? = some (.cells #[.int .i64 n, .int .i64 d] 23 (0, 0)) := blk_new _ _
  have HF := Aside0.mk hF
  -- the texts
  obtain ⟨v, hv⟩ : ∃ v : ByteArray × Int, v = (if valid n d then (ba (txt n d), 0) else (ba [], 2)) := ⟨_, rfl⟩
  have T1 : Aside0 (∀ y, Below w.heap.size w y → Calls Tryz.prog 6 #[.agg #[.int .i64 n, .int .i64 d]] y fun e w' => e = .returned (.tuple #[.string v.1, .int .i64 v.2]) ∧ Below y.heap.size y w') := ⟨fun y hy => by
    have h := text_any n d y (hE.below hy)
    by_cases c : valid n d
    · rw [if_pos c] at hv; rw [if_pos c, if_pos c] at h; rw [hv]; exact h
    · rw [if_neg c] at hv; rw [if_neg c, if_neg c] at h; rw [hv]; exact h⟩
  obtain ⟨K1, E1⟩ := (rtext_ok n d).rounds
  rw [← hv] at E1
  obtain ⟨tv, te⟩ := v
  have T2 : Aside0 (∀ y, Calls Tryz.prog 7 #[.agg #[.int .i64 n, .int .i64 d]] y fun e w' => e = .returned (.tuple #[.string tv, .int .i64 te]) ∧ Below y.heap.size y w') := ⟨fun y => merinoref01_Text.calls K1 n d tv te y E1⟩
  clear hv E1
  -- Parse
  obtain ⟨⟨x1, x2, x3⟩, EP, HS⟩ := rparse_ok (l := l) (by omega)
  obtain ⟨K2, E2⟩ := EP.rounds
  have P1 : Aside0 (∀ y, Below w.heap.size w y → Calls Tryz.prog 8 #[.string (ba l)] y fun e w' => e = .returned (.tuple #[.agg #[.int .i64 x1, .int .i64 x2], .int .i64 x3]) ∧ Below y.heap.size y w') := ⟨fun y hy => by
    refine (parse_any (l := l) (by omega) y (hE.below hy)).mono ?_
    rintro e w' ⟨v, rfl, hs, hb⟩
    obtain rfl := hs.one HS
    exact ⟨rfl, hb⟩⟩
  have P2 : Aside0 (∀ y, Calls Tryz.prog 9 #[.string (ba l)] y fun e w' => e = .returned (.tuple #[.agg #[.int .i64 x1, .int .i64 x2], .int .i64 x3]) ∧ Below y.heap.size y w') := ⟨fun y => merinoref01_Parse.calls K2 (ba l) x1 x2 x3 y E2⟩
  clear EP HS E2
  -- Decimal
  obtain ⟨K3, E3⟩ := (rdec_ok h0 h1 p).rounds
  have D1 : Aside0 (∀ y, Below w.heap.size w y → Calls Tryz.prog 10 #[.int .i64 a, .int .i64 p] y fun e w' => e = .returned (.tuple #[.string (ba (decV a p).1), .int .i64 (decV a p).2]) ∧ Below y.heap.size y w') := ⟨fun y hy => decimal_any h0 h1 p y (hE.below hy)⟩
  have D2 : Aside0 (∀ y, Calls Tryz.prog 11 #[.int .i64 a, .int .i64 p] y fun e w' => e = .returned (.tuple #[.string (ba (decV a p).1), .int .i64 (decV a p).2]) ∧ Drawn0 y w') := ⟨fun y => merinoref01_Decimal.calls K3 a p _ _ y E3⟩
  obtain ⟨dv, hdv⟩ : ∃ v, v = ba (decV a p).1 := ⟨_, rfl⟩
  obtain ⟨de, hde⟩ : ∃ v, v = (decV a p).2 := ⟨_, rfl⟩
  rw [← hdv, ← hde] at D1 D2
  clear hdv hde E3
  -- ParseDecimal
  obtain ⟨K4, E4⟩ := (rpd_ok (l := l) (by omega) p).rounds
  have Q1 : Aside0 (∀ y, Below w.heap.size w y → Calls Tryz.prog 12 #[.string (ba l), .int .i64 p] y fun e w' => e = .returned (.tuple #[.int .i64 (pdR l p).1, .int .i64 (pdR l p).2]) ∧ Below y.heap.size y w') := ⟨fun y hy => pdec_any (l := l) (by omega) p y (hE.below hy)⟩
  have Q2 : Aside0 (∀ y, Calls Tryz.prog 13 #[.string (ba l), .int .i64 p] y fun e w' => e = .returned (.tuple #[.int .i64 (pdR l p).1, .int .i64 (pdR l p).2]) ∧ Drawn0 y w') := ⟨fun y => merinoref01_ParseDecimal.calls K4 (ba l) p _ _ y E4⟩
  obtain ⟨qv, hqv⟩ : ∃ v, v = (pdR l p).1 := ⟨_, rfl⟩
  obtain ⟨qe, hqe⟩ : ∃ v, v = (pdR l p).2 := ⟨_, rfl⟩
  rw [← hqv, ← hqe] at Q1 Q2
  clear hqv hqe E4
  have z : (ba l).size = l.length := ba_size l
  have g : decide ((l.length : Int) > 2000) = false := decide_eq_false (by omega)
  obtain ⟨s, hs1⟩ : ∃ s, s = ba l := ⟨_, rfl⟩
  rw [← hs1] at z P1 P2 Q1 Q2 ⊢
  have e1 : (te != te) = false := by simp
  have e2 : (x3 != x3) = false := by simp
  have e3 : (de != de) = false := by simp
  have e4 : (qv == qv) = true := by simp
  have e5 : (qe == qe) = true := by simp
  have e6 : (x1 == x1) = true := by simp
  have e7 : (x2 == x2) = true := by simp
  clear hs1 hB hE hl h0 h1 hF
  go_enter Tryz.func3, Tryz.ntmps3
  have x00 := (blk_cell HF.out 0).trans rfl
  have x01 := (blk_cell HF.out 1).trans rfl
  go_upto_region 4 with (first
    | (go_at_call 6; with_reducible refine (T1.out _ HB.out).mono ?_; rintro e y1 ⟨rfl, hb⟩; have HB1 := Aside0.mk (below_step HB.out hb); have HF1 := Aside0.mk (blk_below HF.out hb); clear hb x00 x01))
  have x00 := (blk_cell HF1.out 0).trans rfl
  have x01 := (blk_cell HF1.out 1).trans rfl
  go_upto_region 8 with (first
    | (go_at_call 7; with_reducible refine (T2.out _).mono ?_; rintro e y2 ⟨rfl, hb⟩; have HB2 := Aside0.mk (below_step HB1.out hb); clear hb x00 x01)
    | (go_at_call 8; with_reducible refine (P1.out _ HB2.out).mono ?_; rintro e y3 ⟨rfl, hb⟩; have HB3 := Aside0.mk (below_step HB2.out hb); clear hb))
  have HG := Aside0.mk (blk_new y3 (.cells #[.int .i64 x1, .int .i64 x2] 23))
  have HB4 := Aside0.mk (HB3.out.alloc HB3.out.size (.cells #[.int .i64 x1, .int .i64 x2] 23))
  go_upto_region 9 with (first
    | (go_at_call 9; with_reducible refine (P2.out _).mono ?_; rintro e y4 ⟨rfl, hb⟩; have HB5 := Aside0.mk (below_step HB4.out hb); have HG4 := Aside0.mk (blk_below HG.out hb); clear hb))
  have x30 := (blk_cell (blk_alloc HG4.out (.cells #[.int .i64 x1, .int .i64 x2] 23)) 0).trans rfl
  have x31 := (blk_cell (blk_alloc HG4.out (.cells #[.int .i64 x1, .int .i64 x2] 23)) 1).trans rfl
  have x40 := (blk_cell (blk_new y4 (.cells #[.int .i64 x1, .int .i64 x2] 23)) 0).trans rfl
  have x41 := (blk_cell (blk_new y4 (.cells #[.int .i64 x1, .int .i64 x2] 23)) 1).trans rfl
  have HB6 := Aside0.mk (HB5.out.alloc HB5.out.size (.cells #[.int .i64 x1, .int .i64 x2] 23))
  go_upto_region 11 with (fail)
  clear x30 x31 x40 x41
  go_wp2_with (first
    | (go_at_call 10; with_reducible refine (D1.out _ HB6.out).mono ?_; rintro e y5 ⟨rfl, hb⟩; have HB7 := Aside0.mk (below_step HB6.out hb); clear hb)
    | (go_at_call 11; with_reducible refine (D2.out _).mono ?_; rintro e y6 ⟨rfl, hb⟩; have HB8 := Aside0.mk (below_step HB7.out hb.below); clear hb)
    | (go_at_call 12; with_reducible refine (Q1.out _ HB8.out).mono ?_; rintro e y7 ⟨rfl, hb⟩; have HB9 := Aside0.mk (below_step HB8.out hb); clear hb)
    | (go_at_call 13; with_reducible refine (Q2.out _).mono ?_; rintro e y8 ⟨rfl, hb⟩; have HB10 := Aside0.mk (below_step HB9.out hb.below); clear hb)
    | (go_at_call 5; with_reducible refine (alive_any _ (HE.out.below HB10.out)).mono ?_; rintro e y9 ⟨rfl, hb⟩; have HB11 := Aside0.mk (below_step HB10.out hb); clear hb))
  go_ret
  exact ⟨rfl, HB11.out⟩
theorem walk_NumTexts (n d a p : Int) (h0 : -9223372036854775808 ≤ a) (h1 : a ≤ 9223372036854775807) (s : ByteArray) (hs : s.size ≤ 9223372036854775807) (w : World) (hE : Env w) :
    Calls Tryz.prog 3 #[.agg #[.int .i64 n, .int .i64 d], .int .i64 a, .int .i64 p, .string s] w fun e w' => e = .returned (.bool true) ∧ Below w.heap.size w w' := by
  rw [← ba_of s]
  have z : s.data.toList.length = s.size := data_length s
  by_cases hl : 2000 < s.data.toList.length
  · exact texts_long n d a p _ hl w hE (by omega)
  · exact texts_few n d a p h0 h1 _ hl w hE
end Go.Proofs.Num
