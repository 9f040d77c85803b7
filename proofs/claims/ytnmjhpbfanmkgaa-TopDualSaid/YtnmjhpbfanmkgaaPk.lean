/- press.Pack's recursion, walked. -/
import Derived.Test.YtnmjhpbfanmkgaaBase
namespace Go.Proofs.Bins
open Go.RowKit Go.Lib Go.Proofs.YtnmjhpbfanmkgaaW.PrintWords Go.Proofs.YtnmjhpbfanmkgaaW.PrintLast Go.Proofs.YtnmjhpbfanmkgaaW.PrintMore Go.Proofs.Ytnmjhpbfanmkgaa.Q
set_option linter.unusedVariables false
set_option linter.unusedSimpArgs false
/-- The boxes as they lie. -/
def boxes (ms ts : Nat → Int) : Array Value := ((List.range 24).map fun i => Value.int .i64 (if i % 2 = 0 then ms (i / 2) else ts (i / 2))).toArray
theorem boxes_ms {ms ts : Nat → Int} {b : Nat} (h : b < 12) : (boxes ms ts)[b * 2]? = some (.int .i64 (ms b)) := by
  simp [boxes, show b * 2 < 24 by omega]
theorem boxes_ts {ms ts : Nat → Int} {b : Nat} (h : b < 12) : (boxes ms ts)[b * 2 + 1]? = some (.int .i64 (ts b)) := by
  have e : (b * 2 + 1) / 2 = b := by omega
  simp [boxes, show b * 2 + 1 < 24 by omega, e]
theorem boxes_set {ms ts : Nat → Int} {b : Nat} (h : b < 12) (v u : Int) : ((boxes ms ts).setIfInBounds (b * 2) (.int .i64 v)).setIfInBounds (b * 2 + 1) (.int .i64 u) = boxes (upd ms b v) (upd ts b u) := by
  apply Array.ext
  · simp [boxes]
  · intro i h1 h2
    simp only [boxes, Array.size_setIfInBounds, List.size_toArray, List.length_map, List.length_range] at h1 h2
    simp only [boxes, List.setIfInBounds_toArray, List.getElem_toArray, List.getElem_set, List.getElem_map, List.getElem_range, upd]
    by_cases e1 : b * 2 + 1 = i
    · subst e1
      rw [if_pos rfl, if_neg (by omega), if_pos (by omega)]
    · rw [if_neg e1]
      by_cases e2 : b * 2 = i
      · subst e2
        rw [if_pos rfl, if_pos (by omega), if_pos (by omega)]
      · rw [if_neg e2]
        by_cases e3 : i % 2 = 0
        · rw [if_pos e3, if_pos e3, if_neg (by omega)]
        · rw [if_neg e3, if_neg e3, if_neg (by omega)]
structure PK (W0 : World) (A : Option Addr) (c : Nat) (l : List Int) (most : Int) (gm gb go ge gg gf gr : Nat) (ms ts : Nat → Int) (gs : List Int) (w : World) : Prop where
  bel : Below W0.heap.size W0 w
  hm : w.heap[gm]? = some (.cells #[.slice A l.length c] 22 (0, 0))
  hb : w.heap[gb]? = some (.cells (boxes ms ts) 32 (0, 0))
  ho : w.heap[go]? = some (.cells #[.int .i64 most] 3 (0, 0))
  he : w.heap[ge]? = some (.cells #[.int .i64 12] 3 (0, 0))
  hg : w.heap[gg]? = some (.cells #[.slice (some ⟨gr, 0, none⟩) l.length l.length] 22 (0, 0))
  hr : w.heap[gr]? = some (.cells (ints gs) 3 (0, 0))
  hf : w.heap[gf]? = some (.cells #[.func (.func 9) #[] #[.pointer (some ⟨gm, 0, none⟩), .pointer (some ⟨gb, 0, none⟩), .pointer (some ⟨go, 0, none⟩), .pointer (some ⟨ge, 0, none⟩), .pointer (some ⟨gg, 0, none⟩), .pointer (some ⟨gf, 0, none⟩)]] 33 (0, 0))
  bb : W0.heap.size ≤ gb
  br : W0.heap.size ≤ gr
  no : gr ≠ go
  ne : gr ≠ ge
  hl : gs.length = l.length
theorem PK.below {W0 : World} {A : Option Addr} {c : Nat} {l : List Int} {most : Int} {gm gb go ge gg gf gr : Nat} {ms ts : Nat → Int} {gs : List Int} {w w' : World} (K : PK W0 A c l most gm gb go ge gg gf gr ms ts gs w) (h : Below w.heap.size w w') : PK W0 A c l most gm gb go ge gg gf gr ms ts gs w' :=
  ⟨below_step K.bel h, blk_below K.hm h, blk_below K.hb h, blk_below K.ho h, blk_below K.he h, blk_below K.hg h, blk_below K.hr h, blk_below K.hf h, K.bb, K.br, K.no, K.ne, K.hl⟩
theorem PK.cell {W0 : World} {ad : Addr} {c : Nat} {l : List Int} {most : Int} {gm gb go ge gg gf gr : Nat} {ms ts : Nat → Int} {gs : List Int} {w : World} (K : PK W0 (some ad) c l most gm gb go ge gg gf gr ms ts gs w) (HL : Held W0 (some ad) c l) {i : Nat} (hi : i < l.length) {x : Int} (hx : x = at_ l i) : w.cell? (ad.add i) = some (.int .i64 x) := by
  obtain ⟨ad2, e2, h⟩ := (HL.below K.bel).cell (by omega)
  injection e2 with e2
  subst e2
  rw [h i hi, hx]
theorem PK.box {W0 : World} {A : Option Addr} {c : Nat} {l : List Int} {most : Int} {gm gb go ge gg gf gr : Nat} {ms ts : Nat → Int} {gs : List Int} {w : World} (K : PK W0 A c l most gm gb go ge gg gf gr ms ts gs w) {b : Nat} (h : b < 12) (v u : Int) : PK W0 A c l most gm gb go ge gg gf gr (upd ms b v) (upd ts b u) gs ((w.setCell ⟨gb, b * 2, none⟩ (.int .i64 v)).setCell ⟨gb, b * 2 + 1, none⟩ (.int .i64 u)) :=
  ⟨below_set (below_set K.bel K.bb) K.bb, blk_far (blk_far K.hm (blk_ne K.hm K.hb (by decide)) _) (blk_ne K.hm K.hb (by decide)) _,
    (boxes_set (ms := ms) (ts := ts) h v u) ▸ blk_set (blk_set K.hb _ _) _ _,
    blk_far (blk_far K.ho (blk_ne K.ho K.hb (by decide)) _) (blk_ne K.ho K.hb (by decide)) _,
    blk_far (blk_far K.he (blk_ne K.he K.hb (by decide)) _) (blk_ne K.he K.hb (by decide)) _,
    blk_far (blk_far K.hg (blk_ne K.hg K.hb (by decide)) _) (blk_ne K.hg K.hb (by decide)) _,
    blk_far (blk_far K.hr (blk_ne K.hr K.hb (by decide)) _) (blk_ne K.hr K.hb (by decide)) _,
    blk_far (blk_far K.hf (blk_ne K.hf K.hb (by decide)) _) (blk_ne K.hf K.hb (by decide)) _, K.bb, K.br, K.no, K.ne, K.hl⟩
theorem PK.give {W0 : World} {A : Option Addr} {c : Nat} {l : List Int} {most : Int} {gm gb go ge gg gf gr : Nat} {ms ts : Nat → Int} {gs : List Int} {w : World} (K : PK W0 A c l most gm gb go ge gg gf gr ms ts gs w) (i : Nat) (v : Int) : PK W0 A c l most gm gb go ge gg gf gr ms ts (gs.set i v) (w.setCell ⟨gr, i, none⟩ (.int .i64 v)) :=
  ⟨below_set K.bel K.br, blk_far K.hm (blk_ne K.hm K.hr (by decide)) _,
    blk_far K.hb (blk_ne K.hb K.hr (by decide)) _,
    blk_far K.ho (fun e => K.no e.symm) _,
    blk_far K.he (fun e => K.ne e.symm) _,
    blk_far K.hg (blk_ne K.hg K.hr (by decide)) _,
    (ints_set gs i v) ▸ blk_set K.hr i _,
    blk_far K.hf (blk_ne K.hf K.hr (by decide)) _, K.bb, K.br, K.no, K.ne, by rw [List.length_set]; exact K.hl⟩
theorem upd_upd2 (f : Nat → Int) (b : Nat) (v : Int) : upd (upd f b v) b (f b) = f := by
  funext i; unfold upd; split
  · rename_i h; rw [h]
  · rfl
theorem upd_at (f : Nat → Int) (b : Nat) (v : Int) : upd f b v b = v := by unfold upd; rw [if_pos rfl]
/-- All but the boxes and the given places is kept. -/
structure Kp (gb gr : Nat) (w w' : World) : Prop where
  size : w.heap.size ≤ w'.heap.size
  keep : ∀ k, k < w.heap.size → k ≠ gb → k ≠ gr → w'.heap[k]? = w.heap[k]?
theorem Kp.refl (gb gr : Nat) (w : World) : Kp gb gr w w := ⟨Nat.le_refl _, fun _ _ _ _ => rfl⟩
theorem Kp.trans {gb gr : Nat} {a b c : World} (h : Kp gb gr a b) (k : Kp gb gr b c) : Kp gb gr a c :=
  ⟨Nat.le_trans h.size k.size, fun i h1 h2 h3 => (k.keep i (Nat.lt_of_lt_of_le h1 h.size) h2 h3).trans (h.keep i h1 h2 h3)⟩
theorem Kp.below {gb gr : Nat} {a b c : World} (h : Kp gb gr a b) (k : Below b.heap.size b c) : Kp gb gr a c :=
  h.trans ⟨k.size, fun i h1 _ _ => k.block i h1⟩
theorem Kp.set {gb gr : Nat} {a b : World} (h : Kp gb gr a b) {p : Addr} (hp : p.block = gb ∨ p.block = gr) (v : Value) : Kp gb gr a (b.setCell p v) := by
  refine h.trans ⟨?_, fun i h1 h2 h3 => Below.heap_setCell b p v i (fun e => ?_)⟩
  · simp [World.setCell]
  · rcases hp with hp | hp <;> simp_all
theorem Kp.blk {gb gr : Nat} {a b : World} (h : Kp gb gr a b) {g : Nat} {o : Obj} (hg : a.heap[g]? = some o) (h1 : g ≠ gb) (h2 : g ≠ gr) : b.heap[g]? = some o := (h.keep g (blk_lt hg) h1 h2).trans hg
def FP (W0 : World) (A : Option Addr) (c : Nat) (l : List Int) (most : Int) (gm gb go ge gg gf gr : Nat) (ms ts : Nat → Int) (w : World) (r : Bool) (e : Ending) (w' : World) : Prop :=
  e = .returned (.bool r) ∧ ∃ ms' ts' gs', PK W0 A c l most gm gb go ge gg gf gr ms' ts' gs' w' ∧ Kp gb gr w w' ∧ (r = false → ms' = ms ∧ ts' = ts)
abbrev caps (gm gb go ge gg gf : Nat) : Array Value := #[.pointer (some ⟨gm, 0, none⟩), .pointer (some ⟨gb, 0, none⟩), .pointer (some ⟨go, 0, none⟩), .pointer (some ⟨ge, 0, none⟩), .pointer (some ⟨gg, 0, none⟩), .pointer (some ⟨gf, 0, none⟩)]
variable {W0 : World} {A : Option Addr} {c : Nat} {l : List Int} {most : Int} {gm gb go ge gg gf gr : Nat}
set_option maxHeartbeats 6400000 in
set_option maxRecDepth 100000 in
theorem fits_run (HL : Held W0 A c l) (hl12 : l.length ≤ 12) (hx : ∀ x ∈ l, 1 ≤ x ∧ x ≤ 1073741824) (hm0 : 1 ≤ most) (hm1 : most ≤ 1073741824) (limit : Nat) (hlim : limit ≤ 12) :
    ∀ (cc i used : Nat), l.length - i = cc → i ≤ l.length → used ≤ 12 → ∀ (ms ts : Nat → Int) (gs : List Int) (w : World), PK W0 A c l most gm gb go ge gg gf gr ms ts gs w → (∀ b, 0 ≤ ms b ∧ ms b ≤ 1073741824) → (∀ b, 0 ≤ ts b ∧ ts b ≤ i) →
    Calls Try.prog 9 #[.int .i64 i, .int .i64 used, .int .i64 limit, .pointer (some ⟨gm, 0, none⟩), .pointer (some ⟨gb, 0, none⟩), .pointer (some ⟨go, 0, none⟩), .pointer (some ⟨ge, 0, none⟩), .pointer (some ⟨gg, 0, none⟩), .pointer (some ⟨gf, 0, none⟩)] w (FP W0 A c l most gm gb go ge gg gf gr ms ts w (fitsP most limit (l.drop i) used ms)) := by
  intro cc
  induction cc with
  | zero =>
    intro i used hc hi hu ms ts gs w K h1 h2
    obtain rfl : i = l.length := by omega
    have e : fitsP most limit (l.drop l.length) used ms = true := by rw [List.drop_length]; rfl
    rw [e]
    have x00 := (blk_cell K.hm 0).trans rfl
    have KK := Aside0.mk K
    clear K h1 h2 hx HL e
    go_enter Try.func9, Try.ntmps9
    go_wp2
    go_ret
    exact ⟨rfl, ms, ts, gs, KK.out, Kp.refl _ _ _, fun h => by cases h⟩
  | succ cc ih =>
    intro i used hc hi hu ms ts gs w K h1 h2
    have hlt : i < l.length := by omega
    obtain ⟨ad, hA, hcell⟩ := HL.cell (by omega)
    subst hA
    have ed : l.drop i = at_ l i :: l.drop (i + 1) := drop_at hlt
    obtain ⟨x, hxe⟩ : ∃ x, x = at_ l i := ⟨_, rfl⟩
    have IH := Aside0.mk ih
    have KK := Aside0.mk K
    have hlz : (i : Int) < (l.length : Int) := by omega
    have hne : ((i : Int) == (l.length : Int)) = false := beq_false_of_ne (by omega)
    have x00 := (blk_cell K.hm 0).trans rfl
    clear ih K
    go_enter Try.func9, Try.ntmps9
    go_upto_region 3 with (fail)
    have w1 : IntKind.i64.wrap ((used : Int) + 1) = ((used + 1 : Nat) : Int) := by rw [IntKind.wrap_i64]; omega
    obtain ⟨N, hN⟩ : ∃ N : Nat, N = min (used + 1) limit := ⟨_, rfl⟩
    have hNz : min ((used : Int) + 1) (limit : Int) = (N : Int) := by omega
    have HF : Hid (fitsP most limit (l.drop i) used ms = (List.range' 0 N).any fun b => decide (ms b + x ≤ most) && fitsP most limit (l.drop (i + 1)) (max used (b + 1)) (upd ms b (ms b + x))) := by
      show _ = _
      rw [ed, fitsP, hN, hxe]
    have HN := Lib.hid hN
    have hxb : 1 ≤ x ∧ x ≤ 1073741824 := by rw [hxe]; exact hx _ (at_mem hlt)
    have HX := Lib.hid hxe
    clear hxe
    have hNl : N ≤ limit := by omega
    clear ed x00 hN
    go_wp2
    try simp only [hNz]
    go_loopg [23] N (fun kx s23 wr => ∃ (b : Nat) (gs' : List Int), s23 = .int .i64 b ∧ b ≤ N ∧ N - b ≤ kx ∧ Aside0 (PK W0 (some ad) c l most gm gb go ge gg gf gr ms ts gs' wr) ∧ Aside0 (Kp gb gr w wr) ∧ Hid ((List.range' 0 N).any (fun b => decide (ms b + x ≤ most) && fitsP most limit (l.drop (i + 1)) (max used (b + 1)) (upd ms b (ms b + x))) = (List.range' b (N - b)).any (fun b => decide (ms b + x ≤ most) && fitsP most limit (l.drop (i + 1)) (max used (b + 1)) (upd ms b (ms b + x)))))
    case atStart => exact ⟨0, gs, rfl, Nat.zero_le _, Nat.le_refl _, KK, Aside0.mk (Kp.refl _ _ _), rfl⟩
    case round =>
      obtain ⟨b, gs1, rfl, hb, hk, K1, P1, HA⟩ := hrel
      clear KK
      by_cases hbn : b < N
      · have hbz : (b : Int) < (N : Int) := by omega
        have b12 : b < 12 := by omega
        have b12z : (b : Int) < 12 := by omega
        have b0z : (0 : Int) ≤ (b : Int) := by omega
        obtain ⟨m0, m1⟩ := h1 b
        obtain ⟨t0, t1⟩ := h2 b
        have x01 := (blk_cell K1.out.hm 0).trans rfl
        have x02 := (blk_cell K1.out.hb (b * 2)).trans (boxes_ms b12)
        have x03 := (blk_cell K1.out.hb (b * 2 + 1)).trans (boxes_ts b12)
        have x04 := (blk_cell K1.out.ho 0).trans rfl
        have x05 := (blk_cell K1.out.he 0).trans rfl
        have x06 := K1.out.cell HL hlt HX.out
        obtain ⟨y, hy⟩ : ∃ y, y = ms b + x := ⟨_, rfl⟩
        have w2 : IntKind.i64.wrap (ms b + x) = y := by rw [IntKind.wrap_i64]; omega
        have e12 : (ts b == 12) = false := by rw [beq_eq_false_iff_ne]; omega
        have y1 : 1 ≤ y ∧ y ≤ 2147483648 := by omega
        have HY := Lib.hid hy
        clear hy
        by_cases hfit : y ≤ most
        · have d1 : decide (most < y) = false := decide_eq_false (by omega)
          have d2 : ¬ most < y := by omega
          go_upto_region 6 with (fail)
          go_quiet (fail)
          have K2 := Aside0.mk (K1.out.below (pw_below_drewN (Below.refl _ wr) nq))
          have P2 := Aside0.mk (P1.out.below (pw_below_drewN (Below.refl _ wr) nq))
          clear x01 x02 x03 x04 x05 x06 K1 P1 e12
          generalize wr.drewN nq = w1 at K2 P2 ⊢
          clear nq
          have x02 := (blk_cell K2.out.hb (b * 2)).trans (boxes_ms b12)
          have x03 := (blk_cell K2.out.hb (b * 2 + 1)).trans (boxes_ts b12)
          go_upto_region 8 with (fail)
          have K3 := Aside0.mk (K2.out.below (Below.alloc (Below.refl _ w1) (Nat.le_refl _) (.cells #[.int .i64 (ms b), .int .i64 (ts b)] 31)))
          have P3 := Aside0.mk (P2.out.below (Below.alloc (Below.refl _ w1) (Nat.le_refl _) (.cells #[.int .i64 (ms b), .int .i64 (ts b)] 31)))
          have HW3 := Aside0.mk (blk_new w1 (.cells #[.int .i64 (ms b), .int .i64 (ts b)] 31))
          clear x02 x03 K2 P2
          generalize w1.heap.size = gw at HW3 ⊢
          generalize w1.alloc (.cells #[.int .i64 (ms b), .int .i64 (ts b)] 31) = w2 at K3 P3 HW3 ⊢
          have x01 := (blk_cell K3.out.hm 0).trans rfl
          have x02 := (blk_cell K3.out.hb (b * 2)).trans (boxes_ms b12)
          have x03 := (blk_cell K3.out.hb (b * 2 + 1)).trans (boxes_ts b12)
          have x06 := K3.out.cell HL hlt HX.out
          have x07 := (blk_cell HW3.out 0).trans rfl
          have x08 := (blk_cell HW3.out 1).trans rfl
          have f02 := blk_frozen K3.out.hb (b * 2)
          have f03 := blk_frozen K3.out.hb (b * 2 + 1)
          go_region
          have K4 := Aside0.mk ((K3.out.box b12 y (ts b + 1)).below (below_drew1 (Below.refl _ _)))
          have P4 := Aside0.mk (((P3.out.set (p := ⟨gb, b * 2, none⟩) (Or.inl rfl) (.int .i64 y)).set (p := ⟨gb, b * 2 + 1, none⟩) (Or.inl rfl) (.int .i64 (ts b + 1))).below (below_drew1 (Below.refl _ _)))
          have HW4 := Aside0.mk (show (((w2.setCell ⟨gb, b * 2, none⟩ (.int .i64 y)).setCell ⟨gb, b * 2 + 1, none⟩ (.int .i64 (ts b + 1))).drew).heap[gw]? = _ from blk_far (blk_far HW3.out (blk_ne HW3.out K3.out.hb (by decide)) _) (blk_ne HW3.out K3.out.hb (by decide)) _)
          clear x01 x02 x03 x06 x07 x08 f02 f03 K3 P3 HW3
          generalize ((w2.setCell ⟨gb, b * 2, none⟩ (.int .i64 y)).setCell ⟨gb, b * 2 + 1, none⟩ (.int .i64 (ts b + 1))).drew = w3 at K4 P4 HW4 ⊢
          clear w2
          have x01 := (blk_cell K4.out.hg 0).trans rfl
          have f01 := blk_frozen K4.out.hr i
          have hgl : i < gs1.length := by rw [K4.out.hl]; exact hlt
          have x02 := (blk_cell K4.out.hr i).trans (ints_get hgl)
          go_upto_region 10 with (fail)
          have K5 := Aside0.mk (K4.out.give i b)
          have P5 := Aside0.mk (P4.out.set (p := ⟨gr, i, none⟩) (Or.inr rfl) (.int .i64 b))
          have HW5 := Aside0.mk (show (w3.setCell ⟨gr, i, none⟩ (.int .i64 b)).heap[gw]? = _ from blk_far HW4.out (blk_ne HW4.out K4.out.hr (by decide)) _)
          clear x01 x02 f01 K4 P4 HW4 hgl
          generalize w3.setCell ⟨gr, i, none⟩ (.int .i64 b) = w4 at K5 P5 HW5 ⊢
          clear w3
          obtain ⟨M, hM⟩ : ∃ M : Nat, M = max used (b + 1) := ⟨_, rfl⟩
          have hMz : max (used : Int) ((b : Int) + 1) = (M : Int) := by omega
          have hM12 : M ≤ 12 := by omega
          have IH1 := Aside0.mk (IH.out (i + 1) M (by omega) (by omega) hM12 (upd ms b y) (upd ts b (ts b + 1)) (gs1.set i b) w4 K5.out (fun q => by
            unfold upd; split
            · exact ⟨by omega, by omega⟩
            · exact h1 q) (fun q => by
            unfold upd; split
            · exact ⟨by omega, by omega⟩
            · have := h2 q; exact ⟨by omega, by omega⟩))
          have HM := Lib.hid hM
          clear hM
          have x01 := (blk_cell K5.out.hf 0).trans rfl
          go_wp2_with fail
          refine IH1.out.mono ?_
          rintro e w5 ⟨rfl, ms2, ts2, gs2, K6, P6, hback⟩
          have HW6 := Aside0.mk (P6.blk HW5.out (blk_ne HW5.out K5.out.hb (by decide)) (blk_ne HW5.out K5.out.hr (by decide)))
          have P7 := Aside0.mk (P5.out.trans P6)
          replace K6 := Aside0.mk K6
          clear K5 HW5 P5 P6 x01 IH1
          by_cases hr : fitsP most limit (l.drop (i + 1)) M (upd ms b y) = true
          · rw [hr]
            have HB : Hid (fitsP most limit (l.drop i) used ms = true) := by
              show _ = _
              rw [HF.out, HA.out, List.any_eq_true]
              refine ⟨b, by simp [List.mem_range'_1]; omega, ?_⟩
              rw [← HY.out, ← HM.out, hr, Bool.and_true]
              exact decide_eq_true hfit
            clear hback hr
            go_wp2
            go_ret
            exact ⟨by rw [HB.out]; rfl, ms2, ts2, gs2, K6.out, P7.out, fun h => by rw [HB.out] at h; cases h⟩
          · have hr2 : fitsP most limit (l.drop (i + 1)) M (upd ms b y) = false := by simpa using hr
            obtain ⟨rfl, rfl⟩ := hback hr2
            rw [hr2]
            have HB : Hid ((List.range' 0 N).any (fun b => decide (ms b + x ≤ most) && fitsP most limit (l.drop (i + 1)) (max used (b + 1)) (upd ms b (ms b + x))) = (List.range' (b + 1) (N - (b + 1))).any (fun b => decide (ms b + x ≤ most) && fitsP most limit (l.drop (i + 1)) (max used (b + 1)) (upd ms b (ms b + x)))) := by
              show _ = _
              rw [HA.out, show N - b = (N - (b + 1)) + 1 by omega, List.range'_succ, List.any_cons, ← HY.out, ← HM.out, hr2, Bool.and_false, Bool.false_or]
            clear hr hr2 hback
            have x01 := (blk_cell HW6.out 0).trans rfl
            have x02 := (blk_cell HW6.out 1).trans rfl
            have x03 := (blk_cell K6.out.hb (b * 2)).trans (boxes_ms b12)
            have x04 := (blk_cell K6.out.hb (b * 2 + 1)).trans (boxes_ts b12)
            have f03 := blk_frozen K6.out.hb (b * 2)
            have f04 := blk_frozen K6.out.hb (b * 2 + 1)
            go_upto_region 13 with (fail)
            have K8 := K6.out.box b12 (ms b) (ts b)
            rw [upd_upd2, upd_upd2] at K8
            replace K8 := Aside0.mk K8
            have P8 := Aside0.mk ((P7.out.set (p := ⟨gb, b * 2, none⟩) (Or.inl rfl) (.int .i64 (ms b))).set (p := ⟨gb, b * 2 + 1, none⟩) (Or.inl rfl) (.int .i64 (ts b)))
            clear x01 x02 x03 x04 f03 f04 K6 P7 HW6
            generalize (w5.setCell ⟨gb, b * 2, none⟩ (.int .i64 (ms b))).setCell ⟨gb, b * 2 + 1, none⟩ (.int .i64 (ts b)) = w6 at K8 P8 ⊢
            go_wp2
            go_roundg (N - (b + 1))
            case measure => omega
            case rel => exact ⟨b + 1, gs2, by go_num, by omega, Nat.le_refl _, K8, P8, HB⟩
        · have d1 : decide (most < y) = true := decide_eq_true (by omega)
          have d2 : most < y := by omega
          have HB : Hid ((List.range' 0 N).any (fun b => decide (ms b + x ≤ most) && fitsP most limit (l.drop (i + 1)) (max used (b + 1)) (upd ms b (ms b + x))) = (List.range' (b + 1) (N - (b + 1))).any (fun b => decide (ms b + x ≤ most) && fitsP most limit (l.drop (i + 1)) (max used (b + 1)) (upd ms b (ms b + x)))) := by
            show _ = _
            rw [HA.out, show N - b = (N - (b + 1)) + 1 by omega, List.range'_succ, List.any_cons, ← HY.out, decide_eq_false hfit, Bool.false_and, Bool.false_or]
          go_upto_region 6 with (fail)
          go_quiet (fail)
          have K2 := Aside0.mk (K1.out.below (pw_below_drewN (Below.refl _ wr) nq))
          have P2 := Aside0.mk (P1.out.below (pw_below_drewN (Below.refl _ wr) nq))
          clear x01 x02 x03 x04 x05 x06 K1 P1 e12
          generalize wr.drewN nq = w1 at K2 P2 ⊢
          clear nq
          go_wp2
          go_roundg (N - (b + 1))
          case measure => omega
          case rel => exact ⟨b + 1, gs1, by go_num, by omega, Nat.le_refl _, K2, P2, HB⟩
      · have hbz : ¬ (b : Int) < (N : Int) := by omega
        have HB : Hid (fitsP most limit (l.drop i) used ms = false) := by
          show _ = _
          rw [HF.out, HA.out, show N - b = 0 by omega]
          rfl
        go_wp2
        go_ret
        exact ⟨by rw [HB.out]; rfl, ms, ts, gs1, K1.out, P1.out, fun _ => ⟨rfl, rfl⟩⟩
end Go.Proofs.Bins
