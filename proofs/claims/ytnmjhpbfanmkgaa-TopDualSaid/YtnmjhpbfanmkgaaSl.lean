/- press.works, press.Longest and press.Share, walked where they answer OK. -/
import Derived.Test.YtnmjhpbfanmkgaaLg
import Derived.Test.YtnmjhpbfanmkgaaSh
import Derived.Laws.EntriesVeiled
namespace Go.Proofs.Bins
open Go.RowKit Go.Lib Go.Proofs.YtnmjhpbfanmkgaaW.PrintWords Go.Proofs.YtnmjhpbfanmkgaaW.PrintLast Go.Proofs.YtnmjhpbfanmkgaaW.PrintMore Go.Proofs.Ytnmjhpbfanmkgaa.Q
set_option linter.unusedVariables false
set_option linter.unusedSimpArgs false
set_option maxHeartbeats 1600000 in
theorem works_run (A : Option Addr) (c : Nat) (l : List Int) (n : Nat) (w : World) (HL : Held w A c l) (hl12 : l.length ≤ 12) (hx : ∀ x ∈ l, 1 ≤ x ∧ x ≤ 1073741824) (hn : 1 ≤ n ∧ n ≤ 4) :
    Calls Try.prog 11 #[.slice A l.length c, .int .i64 n] w fun e w' => e = .returned (.int .i64 0) ∧ w' = w := by
  have HLL := Aside0.mk HL
  have HX := Aside0.mk hx
  have d1 : decide ((n : Int) < 1) = false := decide_eq_false (by omega)
  have d2 : decide ((n : Int) > 4) = false := decide_eq_false (by omega)
  have d3 : ¬ (12 : Int) < (l.length : Int) := by omega
  clear HL hx hn
  go_enter Try.func11, Try.ntmps11
  go_wp2
  go_loopg [18] l.length (fun kx s18 wr => ∃ k : Nat, s18 = .int .i64 k ∧ k ≤ l.length ∧ l.length - k ≤ kx ∧ wr = w)
  case atStart => exact ⟨0, rfl, Nat.zero_le _, Nat.le_refl _, rfl⟩
  case round =>
    obtain ⟨k, rfl, hk, hkx, rfl⟩ := hrel
    by_cases hlt : k < l.length
    · obtain ⟨ad, hA, hcell⟩ := HLL.out.cell (by omega)
      subst hA
      have hce := hcell k hlt
      have hxb := HX.out _ (at_mem hlt)
      obtain ⟨x, hxe⟩ : ∃ x, x = at_ l k := ⟨_, rfl⟩
      rw [← hxe] at hce hxb
      clear hcell hxe
      have klz : (k : Int) < (l.length : Int) := by omega
      have o1 : decide (x < 1) = false := decide_eq_false (by omega)
      have o2 : decide (x > 1073741824) = false := decide_eq_false (by omega)
      go_wp2
      go_roundg (l.length - (k + 1))
      case measure => omega
      case rel => exact ⟨k + 1, by go_num, by omega, Nat.le_refl _, rfl⟩
    · have klz : ¬ (k : Int) < (l.length : Int) := by omega
      go_wp2
      go_ret
      exact ⟨rfl, rfl⟩
def LO (n : Nat) (l : List Int) (w : World) (e : Ending) (w' : World) : Prop :=
  ∃ (v : Value) (h : Int), e = .returned (.tuple #[v, .int .i64 h, .int .i64 0]) ∧ can n h l (fun _ => 0) ∧ 0 ≤ h ∧ h ≤ tot id l ∧ Below w.heap.size w w'
theorem longest_ok (A : Option Addr) (c : Nat) (l : List Int) (n : Nat) (w : World) (HL : Held w A c l) (hl12 : l.length ≤ 12) (hx : ∀ x ∈ l, 1 ≤ x ∧ x ≤ 1073741824) (hn : 1 ≤ n ∧ n ≤ 4) :
    Calls Try.prog 7 #[.slice A l.length c, .int .i64 n] w (LO n l w) := by
  have H1 := Aside0.mk (works_run A c l n w HL hl12 hx hn)
  have H2 := Aside0.mk (longest_run A c l n w HL hl12 hx hn)
  clear HL hx hn
  go_enter Try.func7, Try.ntmps7
  go_wp2_with fail
  refine H1.out.mono ?_
  rintro e w1 ⟨rfl, rfl⟩
  go_wp2_with fail
  refine H2.out.mono ?_
  rintro e w1 ⟨g, h, rfl, h1, h2, h3, h4⟩
  have HH := Aside0.mk (And.intro h1 (And.intro h2 (And.intro h3 h4)))
  clear h1 h2 h3 h4
  go_wp2
  go_ret3
  exact ⟨_, h, rfl, HH.out⟩
theorem alloc7 (w : World) (o0 o1 o2 o3 o4 o5 o6 : Obj) {W : World} (hW : W = ((((((w.alloc o0).alloc o1).alloc o2).alloc o3).alloc o4).alloc o5).alloc o6) :
    W.heap[w.heap.size]? = some o0 ∧ W.heap[w.heap.size + 1]? = some o1 ∧ W.heap[w.heap.size + 1 + 1]? = some o2 ∧ W.heap[w.heap.size + 1 + 1 + 1]? = some o3 ∧ W.heap[w.heap.size + 1 + 1 + 1 + 1]? = some o4 ∧ W.heap[w.heap.size + 1 + 1 + 1 + 1 + 1]? = some o5 ∧ W.heap[w.heap.size + 1 + 1 + 1 + 1 + 1 + 1]? = some o6 ∧ W.heap.size = w.heap.size + 7 ∧ Below w.heap.size w W := by
  have sz : ∀ (w : World) (o : Obj), (w.alloc o).heap.size = w.heap.size + 1 := fun w o => by simp
  have nw : ∀ (w : World) (o : Obj) (k : Nat), k = w.heap.size → (w.alloc o).heap[k]? = some o := fun w o k h => by rw [h]; exact blk_new w o
  subst hW
  refine ⟨?_, ?_, ?_, ?_, ?_, ?_, ?_, ?_, ?_⟩
  · exact blk_alloc (blk_alloc (blk_alloc (blk_alloc (blk_alloc (blk_alloc (nw _ _ _ rfl) _) _) _) _) _) _
  · exact blk_alloc (blk_alloc (blk_alloc (blk_alloc (blk_alloc (nw _ _ _ (by simp only [sz])) _) _) _) _) _
  · exact blk_alloc (blk_alloc (blk_alloc (blk_alloc (nw _ _ _ (by simp only [sz])) _) _) _) _
  · exact blk_alloc (blk_alloc (blk_alloc (nw _ _ _ (by simp only [sz])) _) _) _
  · exact blk_alloc (blk_alloc (nw _ _ _ (by simp only [sz])) _) _
  · exact blk_alloc (nw _ _ _ (by simp only [sz])) _
  · exact nw _ _ _ (by simp only [sz])
  · simp only [sz]
  · exact below_alloc (below_alloc (below_alloc (below_alloc (below_alloc (below_alloc (below_alloc (Below.refl _ _) _) _) _) _) _) _) _
def SO (n : Nat) (l : List Int) (w : World) (e : Ending) (w' : World) : Prop :=
  ∃ (v : Value) (h : Int) (B : Nat), e = .returned (.tuple #[v, .int .i64 (searchP n l [] 0 (fun _ => 0) ([], h + 1)).2, .int .i64 0]) ∧ can n h l (fun _ => 0) ∧ 0 ≤ h ∧ h ≤ tot id l ∧ Bst B w' v (searchP n l [] 0 (fun _ => 0) ([], h + 1)).1 ∧ Below w.heap.size w w'
set_option maxHeartbeats 1600000 in
theorem share_ok (A : Option Addr) (c : Nat) (l : List Int) (n : Nat) (w : World) (HL : Held w A c l) (hl12 : l.length ≤ 12) (hx : ∀ x ∈ l, 1 ≤ x ∧ x ≤ 1073741824) (hn : 1 ≤ n ∧ n ≤ 4) :
    Calls Try.prog 6 #[.slice A l.length c, .int .i64 n] w (SO n l w) := by
  have hmk1 := print_make (P := Try.prog) 22 3 .i64 8 Try.underlying22 info3 (by decide) l.length (by omega)
  rw [made_ints] at hmk1
  have HM := Aside0.mk hmk1
  clear hmk1
  have HB := Aside0.mk (below_alloc (below_alloc (Below.refl w.heap.size w) (.cells #[.slice A l.length c] 22)) (.cells #[.int .i64 n] 3))
  have HT := Aside0.mk (blk_alloc (blk_new w (.cells #[.slice A l.length c] 22)) (.cells #[.int .i64 n] 3))
  have HP := Aside0.mk (blk_new (w.alloc (.cells #[.slice A l.length c] 22)) (.cells #[.int .i64 n] 3))
  have hsz : (w.alloc (.cells #[.slice A l.length c] 22)).heap.size = w.heap.size + 1 := by simp
  rw [hsz] at HP
  have HLL := Aside0.mk HL
  have HX := Aside0.mk hx
  clear HL hx
  obtain ⟨gt, hgt⟩ : ∃ g, g = w.heap.size := ⟨_, rfl⟩
  have HGT := Lib.hid hgt
  rw [← hgt] at HT HP hsz
  go_enter Try.func6, Try.ntmps6
  go_upto_region 1 with (fail)
  simp only [← hgt]
  try simp only [hsz]
  clear hgt hsz
  generalize (w.alloc (.cells #[.slice A l.length c] 22)).alloc (.cells #[.int .i64 n] 3) = w1 at HB HT HP ⊢
  have x00 := (blk_cell HT.out 0).trans rfl
  have x01 := (blk_cell HP.out 0).trans rfl
  have H1 := Aside0.mk (works_run A c l n w1 (HLL.out.below HB.out) hl12 HX.out hn)
  have H2 := Aside0.mk (longest_run A c l n w1 (HLL.out.below HB.out) hl12 HX.out hn)
  go_wp2_with fail
  refine H1.out.mono ?_
  rintro e w2 ⟨rfl, rfl⟩
  go_wp2_with fail
  refine H2.out.mono ?_
  rintro e w3 ⟨g, h, rfl, h1, h2, h3, h4⟩
  have HH := Aside0.mk (And.intro h1 (And.intro h2 h3))
  have hb1 : h ≤ 12 * 1073741824 := by
    have := tot_le (M := 1073741824) (xs := l) (fun x h => (HX.out x h).2)
    omega
  have HT2 := Aside0.mk (blk_below HT.out h4)
  have HP2 := Aside0.mk (blk_below HP.out h4)
  have HB2 := Aside0.mk (below_step HB.out h4)
  clear h1 h3 h4 H1 H2 x00 x01 HT HP HB
  clear w2
  have x00 := (blk_cell HT2.out 0).trans rfl
  have hmk1 := HM.out
  obtain ⟨s, hs⟩ : ∃ s, s = w3.heap.size := ⟨_, rfl⟩
  obtain ⟨W, hW⟩ : ∃ W, W = ((((((w3.alloc (.cells (ints (List.replicate l.length 0)) 3)).alloc (.cells #[] 3)).alloc (.cells #[.slice (some ⟨w3.heap.size, 0, none⟩) l.length l.length] 22)).alloc (.cells #[.slice (some ⟨w3.heap.size + 1, 0, none⟩) 0 0] 22)).alloc (.cells #[.int .i64 0, .int .i64 0, .int .i64 0, .int .i64 0] 38)).alloc (.cells #[.int .i64 (h + 1)] 3)).alloc (.cells #[.func (.func 13) #[] #[.pointer (some ⟨w3.heap.size + 1 + 1 + 1 + 1 + 1, 0, none⟩), .pointer (some ⟨gt, 0, none⟩), .pointer (some ⟨w3.heap.size + 1 + 1, 0, none⟩), .pointer (some ⟨w3.heap.size + 1 + 1 + 1, 0, none⟩), .pointer (some ⟨gt + 1, 0, none⟩), .pointer (some ⟨w3.heap.size + 1 + 1 + 1 + 1, 0, none⟩), .pointer (some ⟨w3.heap.size + 1 + 1 + 1 + 1 + 1 + 1, 0, none⟩)]] 39) := ⟨_, rfl⟩
  have HK : Aside0 (SK w A c l n (s + 1 + 1 + 1 + 1 + 1) gt (s + 1 + 1) (s + 1 + 1 + 1) (gt + 1) (s + 1 + 1 + 1 + 1) (s + 1 + 1 + 1 + 1 + 1 + 1) s (s + 7) (fun _ => 0) (List.replicate l.length 0) [] (h + 1) W) := by
    obtain ⟨a0, a1, a2, a3, a4, a5, a6, a7, a8⟩ := alloc7 w3 _ _ _ _ _ _ _ hW
    rw [← hs] at a0 a1 a2 a3 a4 a5 a6 a7
    have lgp := blk_lt HP2.out
    have lws : w.heap.size ≤ s := by rw [hs]; exact HB2.out.size
    exact ⟨{ bel := below_step HB2.out a8, hl := a5, ht := blk_below HT2.out a8, hg := a2, hb := ⟨_, a3, Or.inr ⟨rfl, _, _, rfl⟩⟩, hp := blk_below HP2.out a8, hd := a4, hf := a6, hr := a0, bl := by omega, bb := by omega, bd := by omega, br := by omega, lp := by omega, lr := by omega, pr := by omega, tb := by omega, gb_ := by omega, ul := by omega, ub := by omega, ud := by omega, ur := by omega, uB := by omega, len := by simp }⟩
  have HS : Aside0 (Calls Try.prog 13 #[.int .i64 0, .int .i64 0, .pointer (some ⟨s + 1 + 1 + 1 + 1 + 1, 0, none⟩), .pointer (some ⟨gt, 0, none⟩), .pointer (some ⟨s + 1 + 1, 0, none⟩), .pointer (some ⟨s + 1 + 1 + 1, 0, none⟩), .pointer (some ⟨gt + 1, 0, none⟩), .pointer (some ⟨s + 1 + 1 + 1 + 1, 0, none⟩), .pointer (some ⟨s + 1 + 1 + 1 + 1 + 1 + 1, 0, none⟩)] W (SP w A c l n (s + 1 + 1 + 1 + 1 + 1) gt (s + 1 + 1) (s + 1 + 1 + 1) (gt + 1) (s + 1 + 1 + 1 + 1) (s + 1 + 1 + 1 + 1 + 1 + 1) s (s + 7) (fun _ => 0) [] (searchP n l [] 0 (fun _ => 0) ([], h + 1)))) :=
    ⟨search_run HLL.out hl12 HX.out hn.2 l.length 0 (by omega) (by omega) 0 (fun _ => 0) (List.replicate l.length 0) [] (h + 1) W HK.out (fun b => by omega) (by omega)⟩
  have HW := Lib.hid hW
  rw [← hs] at hW
  go_upto_region 10 with (fail)
  simp only [← hs]
  rw [← hW]
  clear hW hs
  have x00 := (blk_cell HK.out.hf 0).trans rfl
  go_wp2_with fail
  refine HS.out.mono ?_
  rintro e w4 ⟨rfl, gs', K2, -⟩
  obtain ⟨st, hst⟩ : ∃ st, st = searchP n l [] 0 (fun _ => 0) ([], h + 1) := ⟨_, rfl⟩
  rw [← hst] at K2
  have HST := Lib.hid hst
  have K3 := Aside0.mk K2
  obtain ⟨bv, b1, b2⟩ := K2.hb
  have HBv := Aside0.mk b2
  clear K2 hst HS HK x00 HW
  have x00 := (blk_cell b1 0).trans rfl
  have x01 := (blk_cell K3.out.hl 0).trans rfl
  clear b1 b2
  go_upto_region 11 with (fail)
  go_quiet (fail)
  go_wp2
  go_ret3
  refine ⟨bv, h, s + 7, by rw [← HST.out]; rfl, HH.out.1, HH.out.2.1, HH.out.2.2, ?_, below_step K3.out.bel (pw_below_drewN (Below.refl _ _) _)⟩
  rw [← HST.out]
  exact HBv.out.below (pw_below_drewN (Below.refl _ _) _)
end Go.Proofs.Bins
