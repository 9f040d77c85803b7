/- The library's functions that num's texts call, at worlds in which the library's tables lie; num.Text. -/
import Derived.Test.YtdjnneflpkllmaaGreatDoorTxt3
import Derived.Test.YtdjnneflpkllmaaGreatDoorFmt
import Derived.Lib.AtoiErrMem
import Derived.Deep.RegionHeld3
import Derived.BigQuiet
import Derived.Deep.QuietTactic
namespace Go.Proofs.Num
open Go.RowKit Go.Proofs.YtdjnneflpkllmaaGreatDoorW.PrintWords Go.Proofs.YtdjnneflpkllmaaGreatDoorW.PrintLast Go.Proofs.YtdjnneflpkllmaaGreatDoorW.PrintMore Go.Proofs.YtdjnneflpkllmaaGreatDoor.Q
set_option linter.unusedVariables false
set_option linter.unusedSimpArgs false
theorem var_below {w w' : World} {name : String} {cs : Array Value} (h : w.var? Tryz.prog name = some cs) (hb : Below w.heap.size w w') : w'.var? Tryz.prog name = some cs := by
  unfold World.var? at *
  cases hg : Tryz.prog.globalNamed name with
  | none => simp [hg] at h
  | some g =>
    simp only [hg, Option.bind_some] at h ⊢
    have hlt : g < w.heap.size := by
      rcases Nat.lt_or_ge g w.heap.size with h' | h'
      · exact h'
      · rw [Array.getElem?_eq_none h'] at h; simp at h
    rw [hb.block g hlt]
    exact h
/-- What the library's start-up code has laid. -/
structure Env (w : World) : Prop where
  tab : Lib.TabIs Tryz.prog w "internal/strconv.uint64pow10" .u64 Lib.pow10Tab
  syn : ∃ tp p, w.var? Tryz.prog "strconv.ErrSyntax" = some #[.iface tp p]
  rng : ∃ tp p, w.var? Tryz.prog "strconv.ErrRange" = some #[.iface tp p]
theorem Env.below {w w' : World} (h : Env w) (hb : Below w.heap.size w w') : Env w' := by
  obtain ⟨a, ⟨tp, p, b⟩, ⟨tq, q, c⟩⟩ := h
  exact ⟨var_below a hb, ⟨tp, p, var_below b hb⟩, ⟨tq, q, var_below c hb⟩⟩
theorem itoa_c {n : Int} (h0 : -9223372036854775808 ≤ n) (h1 : n ≤ 9223372036854775807) (w : World) (hE : Env w) : Calls Tryz.prog 21 #[.int .i64 n] w fun e w' => e = .returned (.string (ba (Lib.itoa n))) ∧ Below w.heap.size w w' := by
  refine (Tryz.strconv_Itoa n h0 h1 w hE.tab).mono ?_
  rintro e w' ⟨rfl, k, os, rfl⟩
  exact ⟨rfl, Txt.below_grown _ _ _⟩
theorem atoi_c (l : List UInt8) (hl : l.length ≤ 1000000) (w : World) (hE : Env w) : Calls Tryz.prog 25 #[.string (ba l)] w fun e w' => ∃ x ev, e = .returned (.tuple #[.int .i64 x, ev]) ∧ Below w.heap.size w w' ∧ ((Lib.atoiAll l = .ok x ∧ ev = .nilIface) ∨ ((∀ v, Lib.atoiAll l ≠ .ok v) ∧ ∃ N, ev = .iface 104 (.pointer (some ⟨N, 0, none⟩)))) := by
  have hs : (ba l).size = l.length := ba_size l
  obtain ⟨-, ⟨tp, p, b⟩, ⟨tq, q, c⟩⟩ := hE
  cases h : Lib.atoiAll l with
  | ok v =>
    refine (Tryz.strconv_Atoi_ok (ba l) (by omega) v (by rw [ba_data]; exact h) w).mono ?_
    rintro e w' ⟨rfl, hw⟩
    refine ⟨v, .nilIface, rfl, ?_, Or.inl ⟨rfl, rfl⟩⟩
    rcases hw with rfl | ⟨t, rfl⟩
    · exact Below.refl _ _
    · exact Lib.bytesWorld_below _ _ _
  | «syntax» =>
    refine (Tryz.strconv_Atoi_syntax_var (ba l) (by omega) (by rw [ba_data]; exact h) tp p w b).mono ?_
    rintro e w' ⟨N, rfl, -, -, hb⟩
    exact ⟨0, _, rfl, hb, Or.inr ⟨fun v g => (by simp at g), N, rfl⟩⟩
  | range =>
    refine (Tryz.strconv_Atoi_range_var (ba l) (by omega) (by rw [ba_data]; exact h) tq q w c).mono ?_
    rintro e w' ⟨N, rfl, -, -, hb⟩
    exact ⟨_, _, rfl, hb, Or.inr ⟨fun v g => (by simp at g), N, rfl⟩⟩
theorem drew_below (w : World) (n : Nat) : Below w.heap.size w (w.drewN n) := ⟨rfl, rfl, rfl, Nat.le_refl _, fun _ _ => rfl⟩
set_option maxHeartbeats 3200000 in
set_option maxRecDepth 100000 in
/-- The library's Cut at one byte. -/
theorem cut_1 (l : List UInt8) (c : UInt8) (hl : l.length ≤ 1000000) (w : World) : Calls Tryz.prog 43 #[.string (ba l), .string ⟨#[c]⟩] w fun e w' => e = .returned (.tuple #[.string (ba (Lib.cut l [c]).1), .string (ba (Lib.cut l [c]).2.1), .bool (Lib.cut l [c]).2.2]) ∧ Below w.heap.size w w' := by
  have KI : Aside0 (∀ y, Calls Tryz.prog 63 #[.string (ba l), .string ⟨#[c]⟩] y fun e w' => e = .returned (.int .i64 (Lib.index l [c])) ∧ w' = y) := ⟨fun y => by
    have h := Tryz.stringslite_Index_one (ba l) c y
    rw [ba_data, ← Lib.index_one] at h
    exact h⟩
  have zs : (ba l).size = l.length := ba_size l
  rcases cut_cases c l with ⟨a, b, h, e⟩ | h
  · have hc : Lib.cut l [c] = (a, b, true) := by rw [e]; exact cut_hit h
    have hi : Lib.index l [c] = (a.length : Int) := by rw [e]; exact index_hit h
    have hlen : l.length = a.length + 1 + b.length := by rw [e]; simp; omega
    rw [hi] at KI
    rw [hc]
    obtain ⟨m, hm⟩ : ∃ m, m = a.length := ⟨_, rfl⟩
    have xA : (ba l).extract 0 m = ba a := by rw [ba_ext, hm, e]; simp
    have xB : (ba l).extract (m + 1) l.length = ba b := by
      rw [ba_ext, List.take_of_length_le (by simp), hm]
      congr 1
      rw [e, List.drop_append, List.drop_eq_nil_of_le (by omega), show a.length + 1 - a.length = 1 by omega]
      rfl
    obtain ⟨s, hs⟩ : ∃ s, s = ba l := ⟨_, rfl⟩
    rw [← hs] at xA xB zs KI ⊢
    rw [← hm] at KI
    have g0 : (0 : Int) ≤ (m : Int) := by omega
    have g1 : (m : Int) ≤ (l.length : Int) := by omega
    have g2 : (m : Int) + 1 ≤ (l.length : Int) := by omega
    have g3 : (0 : Int) ≤ (m : Int) + 1 := by omega
    clear hs e hm hc hi h hlen
    go_enter Tryz.func43, Tryz.ntmps43
    go_upto_region 3 with (first
      | (go_at_call 63; with_reducible refine (KI.out _).mono ?_; rintro e y ⟨rfl, rfl⟩))
    go_quiet (fail)
    go_wp2
    go_ret3
    exact ⟨rfl, drew_below _ _⟩
  · have hc : Lib.cut l [c] = (l, [], false) := cut_miss h
    have hi : Lib.index l [c] = -1 := index_miss h
    rw [hi] at KI
    rw [hc]
    obtain ⟨s, hs⟩ : ∃ s, s = ba l := ⟨_, rfl⟩
    rw [← hs] at zs KI ⊢
    clear hs hc hi h
    go_enter Tryz.func43, Tryz.ntmps43
    go_wp2_with (first
      | (go_at_call 63; with_reducible refine (KI.out _).mono ?_; rintro e y ⟨rfl, rfl⟩))
    go_ret3
    exact ⟨rfl, Below.refl _ _⟩
theorem cut_c (l : List UInt8) (c : UInt8) (hl : l.length ≤ 1000000) (w : World) (hE : Env w) : Calls Tryz.prog 24 #[.string (ba l), .string ⟨#[c]⟩] w fun e w' => e = .returned (.tuple #[.string (ba (Lib.cut l [c]).1), .string (ba (Lib.cut l [c]).2.1), .bool (Lib.cut l [c]).2.2]) ∧ Below w.heap.size w w' := by
  have K := Aside0.mk (fun y => cut_1 l c hl y)
  clear hE
  go_enter Tryz.func24, Tryz.ntmps24
  go_wp2_with (first
    | (go_at_call 43; with_reducible refine (K.out _).mono ?_; rintro e y ⟨rfl, hb⟩))
  go_ret3
  exact ⟨rfl, hb⟩
set_option maxHeartbeats 6400000 in
set_option maxRecDepth 100000 in
theorem text_any (n d : Int) (w : World) (hE : Env w) : Calls Tryz.prog 6 #[.agg #[.int .i64 n, .int .i64 d]] w fun e w' => e = .returned (.tuple #[.string (ba (if valid n d then txt n d else [])), .int .i64 (if valid n d then 0 else 2)]) ∧ Below w.heap.size w w' := by
  obtain ⟨k, hk⟩ := (valid_ok n d).rounds
  by_cases hv : valid n d
  · rw [if_pos hv, if_pos hv]
    rw [decide_eq_true hv] at hk
    obtain ⟨h1, h2, h3, h4, -⟩ := hv
    have HK := Aside0.mk hk
    have HE := Aside0.mk hE
    have K1 : Aside0 (∀ y, Below w.heap.size w y → Calls Tryz.prog 21 #[.int .i64 n] y fun e w' => e = .returned (.string (ba (Lib.itoa n))) ∧ Below y.heap.size y w') := ⟨fun y hy => itoa_c (by omega) (by omega) y (hE.below hy)⟩
    have K2 : Aside0 (∀ y, Below w.heap.size w y → Calls Tryz.prog 21 #[.int .i64 d] y fun e w' => e = .returned (.string (ba (Lib.itoa d))) ∧ Below y.heap.size y w') := ⟨fun y hy => itoa_c (by omega) (by omega) y (hE.below hy)⟩
    have l1 := itoa_len (n := n) (by omega) (by omega)
    have l2 := itoa_len (n := d) (by omega) (by omega)
    rw [← ba_size] at l1 l2
    unfold txt
    have e12 : ba (Lib.itoa n ++ 47 :: Lib.itoa d) = (ba (Lib.itoa n) ++ (⟨#[47]⟩ : ByteArray)) ++ ba (Lib.itoa d) := by
      rw [show (⟨#[47]⟩ : ByteArray) = ba [47] from rfl, ba_app, ba_app, List.append_assoc]; rfl
    have E12 := Aside0.mk e12
    obtain ⟨s1, hs1⟩ : ∃ s, s = ba (Lib.itoa n) := ⟨_, rfl⟩
    obtain ⟨s2, hs2⟩ : ∃ s, s = ba (Lib.itoa d) := ⟨_, rfl⟩
    rw [← hs1, ← hs2] at E12
    rw [← hs1] at K1 l1
    rw [← hs2] at K2 l2
    have q1 : s1.size + 1 ≤ 9223372036854775807 := by omega
    have q2 : s1.size + 1 + s2.size ≤ 9223372036854775807 := by omega
    have r1 : (9223372036854775807 < s1.size + 1) = False := eq_false (by omega)
    have r2 : (9223372036854775807 < s1.size + 1 + s2.size) = False := eq_false (by omega)
    have r3 : decide (s1.size + 1 ≤ 9223372036854775807) = true := decide_eq_true q1
    have r4 : decide (s1.size + 1 + s2.size ≤ 9223372036854775807) = true := decide_eq_true q2
    clear e12 hs2 hk hE l1 l2
    have hbx : Below w.heap.size w (w.alloc (.cells #[.int .i64 n, .int .i64 d] 23)) := (Below.refl _ _).alloc (Nat.le_refl _) _
    have hF : (w.alloc (.cells #[.int .i64 n, .int .i64 d] 23)).heap[w.heap.size]? = some (.cells #[.int .i64 n, .int .i64 d] 23 (0, 0)) := by show (w.heap.push _)[w.heap.size]? = _; simp
    have hlt : w.heap.size < (w.alloc (.cells #[.int .i64 n, .int .i64 d] 23)).heap.size := by simp
    have HB := Aside0.mk hbx
    have FR : Aside0 (∀ y, Below (w.alloc (.cells #[.int .i64 n, .int .i64 d] 23)).heap.size (w.alloc (.cells #[.int .i64 n, .int .i64 d] 23)) y → y.cell? ⟨w.heap.size, 0, none⟩ = some (.int .i64 n) ∧ y.cell? ⟨w.heap.size, 1, none⟩ = some (.int .i64 d)) := ⟨fun y hy => by
      have hh := (hy.block w.heap.size hlt).trans hF
      exact ⟨(blk_cell hh 0).trans rfl, (blk_cell hh 1).trans rfl⟩⟩
    clear hbx hF hlt
    by_cases hd : d = 1
    · subst hd
      rw [if_pos rfl, ← hs1]
      clear hs1 q1 q2 r1 r2 r3 r4
      go_enter Tryz.func6, Tryz.ntmps6
      go_upto_region 3 with (first
        | (go_at_call 16; refine (num_Valid.calls k n 1 true _ HK.out).mono ?_; rintro e y ⟨rfl, hb⟩; obtain ⟨x0, x1⟩ := FR.out _ hb; have HB1 := Aside0.mk (below_step HB.out hb); clear hb))
      go_wp2_with (first
        | (go_at_call 21; refine (K1.out _ HB1.out).mono ?_; rintro e z ⟨rfl, hb⟩; have HB2 := Aside0.mk (below_step HB1.out hb); clear hb))
      go_ret2
      exact ⟨rfl, HB2.out⟩
    · rw [if_neg hd, E12.out]
      have hd2 : (d == 1) = false := beq_eq_false_iff_ne.mpr hd
      clear hs1 E12
      go_enter Tryz.func6, Tryz.ntmps6
      go_upto_region 3 with (first
        | (go_at_call 16; refine (num_Valid.calls k n d true _ HK.out).mono ?_; rintro e y ⟨rfl, hb⟩; obtain ⟨x0, x1⟩ := FR.out _ hb; have FY : Aside0 (∀ u, Below y.heap.size y u → Below (w.alloc (.cells #[.int .i64 n, .int .i64 d] 23)).heap.size (w.alloc (.cells #[.int .i64 n, .int .i64 d] 23)) u) := ⟨fun u hu => below_step hb hu⟩; have HB1 := Aside0.mk (below_step HB.out hb); clear hb))
      go_upto_region 5 with (fail)
      have f0 : ∀ u, Below y.heap.size y u → u.cell? ⟨w.heap.size, 0, none⟩ = some (.int .i64 n) := fun u hu => (FR.out u (FY.out u hu)).1
      have f1 : ∀ u, Below y.heap.size y u → u.cell? ⟨w.heap.size, 1, none⟩ = some (.int .i64 d) := fun u hu => (FR.out u (FY.out u hu)).2
      clear x0 x1
      go_region_held3 (fun u => Below y.heap.size y u) (repeat (first | assumption | exact Below.refl _ _ | apply Below.drew)) (first
        | (go_at_call_of 21 n; refine (K1.out _ (below_step HB1.out (by assumption))).mono ?_; rintro e z1 ⟨rfl, hb1⟩; have hk1 : Below y.heap.size y z1 := Below.trans (by assumption) (hb1.mono (Below.size (by assumption))))
        | (go_at_call_of 21 d; refine (K2.out _ (below_step HB1.out (by assumption))).mono ?_; rintro e z2 ⟨rfl, hb2⟩; have hk2 : Below y.heap.size y z2 := Below.trans (by assumption) (hb2.mono (Below.size (by assumption)))))
      all_goals go_wp2
      all_goals go_ret2
      all_goals exact ⟨rfl, below_step HB1.out (by assumption)⟩
  · rw [if_neg hv, if_neg hv]
    rw [decide_eq_false hv] at hk
    have HK := Aside0.mk hk
    have hbx : Below w.heap.size w (w.alloc (.cells #[.int .i64 n, .int .i64 d] 23)) := (Below.refl _ _).alloc (Nat.le_refl _) _
    have HB := Aside0.mk hbx
    clear hk hbx hE
    go_enter Tryz.func6, Tryz.ntmps6
    go_wp2_with (first
      | (go_at_call 16; refine (num_Valid.calls k n d false _ HK.out).mono ?_; rintro e y ⟨rfl, hb⟩; have HB1 := Aside0.mk (below_step HB.out hb); clear hb))
    go_ret2
    exact ⟨rfl, HB1.out⟩
end Go.Proofs.Num
