/- press.Share's recursion, walked. -/
import Derived.Test.YtnmjhpbfanmkgaaPk
import Derived.StillTailTactics
namespace Go.Proofs.Bins
open Go.RowKit Go.Lib Go.Proofs.YtnmjhpbfanmkgaaW.PrintWords Go.Proofs.YtnmjhpbfanmkgaaW.PrintLast Go.Proofs.YtnmjhpbfanmkgaaW.PrintMore Go.Proofs.Ytnmjhpbfanmkgaa.Q
set_option linter.unusedVariables false
set_option linter.unusedSimpArgs false
/-- The loads as they lie. -/
def lds (f : Nat → Int) : Array Value := ((List.range 4).map fun i => Value.int .i64 (f i)).toArray
theorem lds_get {f : Nat → Int} {b : Nat} (h : b < 4) : (lds f)[b]? = some (.int .i64 (f b)) := by simp [lds, h]
theorem lds_set {f : Nat → Int} {b : Nat} (h : b < 4) (v : Int) : (lds f).setIfInBounds b (.int .i64 v) = lds (upd f b v) := by
  apply Array.ext
  · simp [lds]
  · intro i h1 h2
    simp only [lds, Array.size_setIfInBounds, List.size_toArray, List.length_map, List.length_range] at h1 h2
    simp only [lds, List.setIfInBounds_toArray, List.getElem_toArray, List.getElem_set, List.getElem_map, List.getElem_range, upd]
    by_cases e1 : b = i
    · subst e1; rw [if_pos rfl, if_pos rfl]
    · rw [if_neg e1, if_neg (fun e => e1 e.symm)]
def Bst (B : Nat) (w : World) (v : Value) (bs : List Int) : Prop := w.ownsRow B 3 1 v bs.length (bs.map (Value.int .i64)) ∨ (bs = [] ∧ ∃ a cp, v = .slice (some a) 0 cp)
theorem Bst.below {B : Nat} {w w' : World} {v : Value} {bs : List Int} (h : Bst B w v bs) (k : Below w.heap.size w w') : Bst B w' v bs := by
  rcases h with h | h
  · exact Or.inl (pw_own_below h k)
  · exact Or.inr h
theorem Bst.set {B : Nat} {w : World} {v : Value} {bs : List Int} (h : Bst B w v bs) {p : Addr} (hp : p.block < B) (u : Value) : Bst B (w.setCell p u) v bs := by
  rcases h with h | h
  · refine Or.inl (own_setCell h (fun e => ?_) u)
    have := own_base h _ e.symm
    omega
  · exact Or.inr h
structure SK (W0 : World) (A : Option Addr) (c : Nat) (l : List Int) (n : Int) (gl gt gg gb gp gd gf gr B : Nat) (loads : Nat → Int) (gs : List Int) (bs : List Int) (least : Int) (w : World) : Prop where
  bel : Below W0.heap.size W0 w
  hl : w.heap[gl]? = some (.cells #[.int .i64 least] 3 (0, 0))
  ht : w.heap[gt]? = some (.cells #[.slice A l.length c] 22 (0, 0))
  hg : w.heap[gg]? = some (.cells #[.slice (some ⟨gr, 0, none⟩) l.length l.length] 22 (0, 0))
  hb : ∃ bv, w.heap[gb]? = some (.cells #[bv] 22 (0, 0)) ∧ Bst B w bv bs
  hp : w.heap[gp]? = some (.cells #[.int .i64 n] 3 (0, 0))
  hd : w.heap[gd]? = some (.cells (lds loads) 38 (0, 0))
  hf : w.heap[gf]? = some (.cells #[.func (.func 13) #[] #[.pointer (some ⟨gl, 0, none⟩), .pointer (some ⟨gt, 0, none⟩), .pointer (some ⟨gg, 0, none⟩), .pointer (some ⟨gb, 0, none⟩), .pointer (some ⟨gp, 0, none⟩), .pointer (some ⟨gd, 0, none⟩), .pointer (some ⟨gf, 0, none⟩)]] 39 (0, 0))
  hr : w.heap[gr]? = some (.cells (ints gs) 3 (0, 0))
  bl : W0.heap.size ≤ gl
  bb : W0.heap.size ≤ gb
  bd : W0.heap.size ≤ gd
  br : W0.heap.size ≤ gr
  lp : gl ≠ gp
  lr : gl ≠ gr
  pr : gp ≠ gr
  tb : gt ≠ gb
  gb_ : gg ≠ gb
  ul : gl < B
  ub : gb < B
  ud : gd < B
  ur : gr < B
  uB : B ≤ w.heap.size
  len : gs.length = l.length
section
variable {W0 : World} {A : Option Addr} {c : Nat} {l : List Int} {n : Int} {gl gt gg gb gp gd gf gr B : Nat} {loads : Nat → Int} {gs : List Int} {bs : List Int} {least : Int} {w w' : World}
theorem SK.below (K : SK W0 A c l n gl gt gg gb gp gd gf gr B loads gs bs least w) (h : Below w.heap.size w w') : SK W0 A c l n gl gt gg gb gp gd gf gr B loads gs bs least w' := by
  obtain ⟨bv, h1, h2⟩ := K.hb
  exact { bel := below_step K.bel h, hl := blk_below K.hl h, ht := blk_below K.ht h, hg := blk_below K.hg h, hb := ⟨bv, blk_below h1 h, h2.below h⟩, hp := blk_below K.hp h, hd := blk_below K.hd h, hf := blk_below K.hf h, hr := blk_below K.hr h, bl := K.bl, bb := K.bb, bd := K.bd, br := K.br, lp := K.lp, lr := K.lr, pr := K.pr, tb := K.tb, gb_ := K.gb_, ul := K.ul, ub := K.ub, ud := K.ud, ur := K.ur, uB := Nat.le_trans K.uB h.size, len := K.len }
theorem SK.load (K : SK W0 A c l n gl gt gg gb gp gd gf gr B loads gs bs least w) {b : Nat} (h : b < 4) (v : Int) : SK W0 A c l n gl gt gg gb gp gd gf gr B (upd loads b v) gs bs least (w.setCell ⟨gd, b, none⟩ (.int .i64 v)) := by
  obtain ⟨bv, h1, h2⟩ := K.hb
  exact { bel := below_set K.bel K.bd, hl := blk_far K.hl (blk_ne K.hl K.hd (by decide)) _, ht := blk_far K.ht (blk_ne K.ht K.hd (by decide)) _, hg := blk_far K.hg (blk_ne K.hg K.hd (by decide)) _, hb := ⟨bv, blk_far h1 (blk_ne h1 K.hd (by decide)) _, h2.set K.ud _⟩, hp := blk_far K.hp (blk_ne K.hp K.hd (by decide)) _, hd := (lds_set (f := loads) h v) ▸ blk_set K.hd _ _, hf := blk_far K.hf (blk_ne K.hf K.hd (by decide)) _, hr := blk_far K.hr (blk_ne K.hr K.hd (by decide)) _, bl := K.bl, bb := K.bb, bd := K.bd, br := K.br, lp := K.lp, lr := K.lr, pr := K.pr, tb := K.tb, gb_ := K.gb_, ul := K.ul, ub := K.ub, ud := K.ud, ur := K.ur, uB := by simpa [World.setCell] using K.uB, len := K.len }
theorem SK.give (K : SK W0 A c l n gl gt gg gb gp gd gf gr B loads gs bs least w) (i : Nat) (v : Int) : SK W0 A c l n gl gt gg gb gp gd gf gr B loads (gs.set i v) bs least (w.setCell ⟨gr, i, none⟩ (.int .i64 v)) := by
  obtain ⟨bv, h1, h2⟩ := K.hb
  exact { bel := below_set K.bel K.br, hl := blk_far K.hl K.lr _, ht := blk_far K.ht (blk_ne K.ht K.hr (by decide)) _, hg := blk_far K.hg (blk_ne K.hg K.hr (by decide)) _, hb := ⟨bv, blk_far h1 (blk_ne h1 K.hr (by decide)) _, h2.set K.ur _⟩, hp := blk_far K.hp K.pr _, hd := blk_far K.hd (blk_ne K.hd K.hr (by decide)) _, hf := blk_far K.hf (blk_ne K.hf K.hr (by decide)) _, hr := (ints_set gs i v) ▸ blk_set K.hr i _, bl := K.bl, bb := K.bb, bd := K.bd, br := K.br, lp := K.lp, lr := K.lr, pr := K.pr, tb := K.tb, gb_ := K.gb_, ul := K.ul, ub := K.ub, ud := K.ud, ur := K.ur, uB := by simpa [World.setCell] using K.uB, len := by rw [List.length_set]; exact K.len }
theorem SK.best (K : SK W0 A c l n gl gt gg gb gp gd gf gr B loads gs bs least w) {bs' : List Int} {bv : Value} (hb : w.ownsRow B 3 1 bv bs'.length (bs'.map (Value.int .i64))) (f : Int) : SK W0 A c l n gl gt gg gb gp gd gf gr B loads gs bs' f ((w.setCell ⟨gb, 0, none⟩ bv).setCell ⟨gl, 0, none⟩ (.int .i64 f)) := by
  obtain ⟨bv0, h1, h2⟩ := K.hb
  have nb := blk_ne h1 K.hl (by decide)
  exact { bel := below_set (below_set K.bel K.bb) K.bl, hl := blk_put (blk_far K.hl (fun e => nb e.symm) _) 0 _ rfl, ht := blk_far (blk_far K.ht K.tb _) (blk_ne K.ht K.hl (by decide)) _, hg := blk_far (blk_far K.hg K.gb_ _) (blk_ne K.hg K.hl (by decide)) _, hb := ⟨bv, blk_far (blk_put h1 0 _ rfl) nb _, (Bst.set (Bst.set (Or.inl hb) (p := ⟨gb, 0, none⟩) K.ub _) (p := ⟨gl, 0, none⟩) K.ul _)⟩, hp := blk_far (blk_far K.hp (blk_ne K.hp h1 (by decide)) _) (fun e => K.lp e.symm) _, hd := blk_far (blk_far K.hd (blk_ne K.hd h1 (by decide)) _) (blk_ne K.hd K.hl (by decide)) _, hf := blk_far (blk_far K.hf (blk_ne K.hf h1 (by decide)) _) (blk_ne K.hf K.hl (by decide)) _, hr := blk_far (blk_far K.hr (blk_ne K.hr h1 (by decide)) _) (fun e => K.lr e.symm) _, bl := K.bl, bb := K.bb, bd := K.bd, br := K.br, lp := K.lp, lr := K.lr, pr := K.pr, tb := K.tb, gb_ := K.gb_, ul := K.ul, ub := K.ub, ud := K.ud, ur := K.ur, uB := by simpa [World.setCell] using K.uB, len := K.len }
theorem SK.cell {ad : Addr} (K : SK W0 (some ad) c l n gl gt gg gb gp gd gf gr B loads gs bs least w) (HL : Held W0 (some ad) c l) {i : Nat} (hi : i < l.length) {x : Int} (hx : x = at_ l i) : w.cell? (ad.add i) = some (.int .i64 x) := by
  obtain ⟨ad2, e2, h⟩ := (HL.below K.bel).cell (by omega)
  injection e2 with e2
  subst e2
  rw [h i hi, hx]
end
def SP (W0 : World) (A : Option Addr) (c : Nat) (l : List Int) (n : Int) (gl gt gg gb gp gd gf gr B : Nat) (loads : Nat → Int) (pre : List Int) (st : List Int × Int) (e : Ending) (w' : World) : Prop :=
  e = .returned (.tuple #[]) ∧ ∃ gs', SK W0 A c l n gl gt gg gb gp gd gf gr B loads gs' st.1 st.2 w' ∧ gs'.take pre.length = pre
variable {W0 : World} {A : Option Addr} {c : Nat} {l : List Int} {n : Nat} {gl gt gg gb gp gd gf gr B : Nat}
set_option maxHeartbeats 6400000 in
set_option maxRecDepth 100000 in
theorem search_run (HL : Held W0 A c l) (hl12 : l.length ≤ 12) (hx : ∀ x ∈ l, 1 ≤ x ∧ x ≤ 1073741824) (hn4 : n ≤ 4) :
    ∀ (cc i : Nat), l.length - i = cc → i ≤ l.length → ∀ (finish : Int) (loads : Nat → Int) (gs : List Int) (bs : List Int) (least : Int) (w : World), SK W0 A c l n gl gt gg gb gp gd gf gr B loads gs bs least w → (∀ b, 0 ≤ loads b ∧ loads b ≤ (i : Int) * 1073741824) → 0 ≤ finish ∧ finish ≤ (i : Int) * 1073741824 →
    Calls Try.prog 13 #[.int .i64 i, .int .i64 finish, .pointer (some ⟨gl, 0, none⟩), .pointer (some ⟨gt, 0, none⟩), .pointer (some ⟨gg, 0, none⟩), .pointer (some ⟨gb, 0, none⟩), .pointer (some ⟨gp, 0, none⟩), .pointer (some ⟨gd, 0, none⟩), .pointer (some ⟨gf, 0, none⟩)] w (SP W0 A c l n gl gt gg gb gp gd gf gr B loads (gs.take i) (searchP n (l.drop i) (gs.take i) finish loads (bs, least))) := by
  intro cc
  induction cc with
  | zero =>
    intro i hc hi finish loads gs bs least w K h1 hf
    obtain rfl : i = l.length := by omega
    rw [List.drop_length, searchP, show gs.take l.length = gs from by rw [← K.len, List.take_length]]
    have x00 := (blk_cell K.hl 0).trans rfl
    have x01 := (blk_cell K.hg 0).trans rfl
    have KK := Aside0.mk K
    have x02 := (blk_cell K.ht 0).trans rfl
    obtain ⟨bv, hb1, hb2⟩ := K.hb
    have fb := blk_frozen hb1 0
    have fl := blk_frozen K.hl 0
    have xb := (blk_cell hb1 0).trans rfl
    by_cases hle : least ≤ finish
    · rw [if_pos hle]
      have ge : decide (finish ≥ least) = true := decide_eq_true hle
      clear K h1 hx HL hb1 hb2 hc hi
      go_enter Try.func13, Try.ntmps13
      go_wp2
      go_end0
      exact ⟨rfl, gs, KK.out, by rw [List.take_length]⟩
    · rw [if_neg hle]
      have ge : decide (finish ≥ least) = false := decide_eq_false hle
      have HC := Aside0.mk (Try.slices_Clone_int gr 0 l.length l.length gs w (Nat.le_of_eq K.len.symm) (by omega) (fun j hj => by
        rw [Nat.zero_add, blk_cell K.hr, ints_get hj]; rfl))
      have HN := Lib.hid K.len
      clear K h1 hx HL hb1 hb2 hc hi xb
      go_enter Try.func13, Try.ntmps13
      go_wp2_with fail
      refine HC.out.mono ?_
      rintro e w1 ⟨bv', rfl, ho, hnn, hbl⟩
      obtain ⟨A1, c1, rfl⟩ := own_slice ho
      have K1 := Aside0.mk (KK.out.below hbl)
      clear x00 x01 x02 fb fl
      obtain ⟨bv1, hb1, hb2⟩ := K1.out.hb
      have fb := blk_frozen hb1 0
      have xb := (blk_cell hb1 0).trans rfl
      have hl2 := blk_far (p := ⟨gb, 0, none⟩) K1.out.hl (fun e => (blk_ne hb1 K1.out.hl (by decide)) e.symm) (.slice A1 l.length c1)
      have fl := blk_frozen hl2 0
      have xl := (blk_cell hl2 0).trans rfl
      have HO := Aside0.mk (K1.out.best (bs' := gs) (bv := .slice A1 l.length c1) (by rw [HN.out]; have := own_weaken ho KK.out.uB; rwa [List.take_of_length_le (Nat.le_of_eq HN.out)] at this) finish)
      clear ho hbl hnn hb1 hb2 KK hl2
      go_wp2
      go_end0
      exact ⟨rfl, gs, HO.out, by rw [List.take_length]⟩
  | succ cc ih =>
    intro i hc hi finish loads gs bs least w K h1 hf
    have hlt : i < l.length := by omega
    have hpl : (gs.take i).length = i := by rw [List.length_take, K.len]; omega
    have x00 := (blk_cell K.hl 0).trans rfl
    have x01 := (blk_cell K.hg 0).trans rfl
    have x02 := (blk_cell K.ht 0).trans rfl
    have x03 := (blk_cell K.hp 0).trans rfl
    have ed : l.drop i = at_ l i :: l.drop (i + 1) := drop_at hlt
    by_cases hle : least ≤ finish
    · have HS : Hid (searchP n (l.drop i) (gs.take i) finish loads (bs, least) = (bs, least)) := by
        show _ = _
        rw [ed, searchP, if_pos hle]
      have ge : decide (finish ≥ least) = true := decide_eq_true hle
      have KK := Aside0.mk K
      have HP := Lib.hid hpl
      clear K h1 hx HL hc hi x01 x02 x03 ed ih hpl
      go_enter Try.func13, Try.ntmps13
      go_wp2
      go_end0
      rw [HS.out]
      exact ⟨rfl, gs, KK.out, by rw [HP.out]⟩
    · obtain ⟨ad, hA, hcell⟩ := HL.cell (by omega)
      subst hA
      obtain ⟨x, hxe⟩ : ∃ x, x = at_ l i := ⟨_, rfl⟩
      have hxb : 1 ≤ x ∧ x ≤ 1073741824 := by rw [hxe]; exact hx _ (at_mem hlt)
      have ge : decide (finish ≥ least) = false := decide_eq_false hle
      have hne : ((i : Int) == (l.length : Int)) = false := beq_false_of_ne (by omega)
      obtain ⟨pre, hpe⟩ : ∃ pre, pre = gs.take i := ⟨_, rfl⟩
      have HS : Hid (searchP n (l.drop i) pre finish loads (bs, least) = brk (fun p => loads p == 0) (fun p s => searchP n (l.drop (i + 1)) (pre ++ [(p : Int)]) (max finish (loads p + x)) (upd loads p (loads p + x)) s) (List.range' 0 n) (bs, least)) := by
        show _ = _
        rw [ed, searchP, if_neg hle, hxe]
      rw [← hpe]
      rw [← hpe] at hpl
      have HPL := Lib.hid hpl
      have IH := Aside0.mk ih
      have KK := Aside0.mk K
      have HX := Lib.hid hxe
      have HPE := Lib.hid hpe.symm
      clear K ih hxe ed hpl hpe
      have hlz : (i : Int) < (l.length : Int) := by omega
      go_enter Try.func13, Try.ntmps13
      go_upto_region 3 with (fail)
      go_wp2
      clear x00 x01 x02 x03
      go_loopg [23] n (fun kx s23 wr => ∃ (p : Nat) (gs' : List Int) (st : List Int × Int), s23 = .int .i64 p ∧ p ≤ n ∧ n - p ≤ kx ∧ Aside0 (SK W0 (some ad) c l n gl gt gg gb gp gd gf gr B loads gs' st.1 st.2 wr) ∧ Hid (gs'.take i = pre) ∧ Hid (brk (fun p => loads p == 0) (fun p s => searchP n (l.drop (i + 1)) (pre ++ [(p : Int)]) (max finish (loads p + x)) (upd loads p (loads p + x)) s) (List.range' 0 n) (bs, least) = brk (fun p => loads p == 0) (fun p s => searchP n (l.drop (i + 1)) (pre ++ [(p : Int)]) (max finish (loads p + x)) (upd loads p (loads p + x)) s) (List.range' p (n - p)) st))
      case atStart => exact ⟨0, gs, (bs, least), rfl, Nat.zero_le _, Nat.le_refl _, KK, HPE, rfl⟩
      case round =>
        obtain ⟨p, gs1, ⟨bs1, least1⟩, rfl, hb, hk, K1, HG, HA⟩ := hrel
        clear KK HPE
        by_cases hbn : p < n
        · have hbz : (p : Int) < (n : Int) := by omega
          have b4 : p < 4 := by omega
          have b4z : (p : Int) < 4 := by omega
          have b0z : (0 : Int) ≤ (p : Int) := by omega
          obtain ⟨m0, m1⟩ := h1 p
          have x01 := (blk_cell K1.out.ht 0).trans rfl
          have x02 := (blk_cell K1.out.hd p).trans (lds_get b4)
          have f02 := blk_frozen K1.out.hd p
          have x03 := K1.out.cell HL hlt HX.out
          obtain ⟨y, hy⟩ : ∃ y, y = loads p + x := ⟨_, rfl⟩
          have w2 : IntKind.i64.wrap (loads p + x) = y := by rw [IntKind.wrap_i64]; omega
          have y1 : 1 ≤ y ∧ y ≤ ((i : Int) + 1) * 1073741824 := by omega
          have HY := Lib.hid hy
          clear hy
          go_upto_region 6 with (fail)
          go_region
          have K2 := Aside0.mk ((K1.out.load b4 y).below (below_drew1 (Below.refl _ _)))
          clear x01 x02 f02 x03 K1
          generalize (wr.setCell ⟨gd, p, none⟩ (.int .i64 y)).drew = w1 at K2 ⊢
          have hgl : i < gs1.length := by rw [K2.out.len]; exact hlt
          have x01 := (blk_cell K2.out.hg 0).trans rfl
          have x02 := (blk_cell K2.out.hr i).trans (ints_get hgl)
          have f02 := blk_frozen K2.out.hr i
          go_upto_region 8 with (fail)
          have K3 := Aside0.mk (K2.out.give i p)
          clear x01 x02 f02 K2
          generalize w1.setCell ⟨gr, i, none⟩ (.int .i64 p) = w3 at K3 ⊢
          clear w1
          obtain ⟨M, hM⟩ : ∃ M : Int, M = max finish y := ⟨_, rfl⟩
          have hM2 : 0 ≤ M ∧ M ≤ ((i : Int) + 1) * 1073741824 := by omega
          have hpre : Hid ((gs1.set i (p : Int)).take (i + 1) = pre ++ [(p : Int)]) := by
            show _ = _
            rw [List.take_succ_eq_append_getElem (by rw [List.length_set]; exact hgl), List.getElem_set_self, List.take_set_of_le (Nat.le_refl _), HG.out]
          have IH1 := IH.out (i + 1) (by omega) (by omega) M (upd loads p y) (gs1.set i (p : Int)) bs1 least1 (w3.drew) (K3.out.below (below_drew1 (Below.refl _ _))) (fun q => by
            unfold upd; split
            · exact ⟨by omega, by omega⟩
            · have := h1 q; exact ⟨by omega, by omega⟩) (by omega)
          rw [hpre.out] at IH1
          replace IH1 := Aside0.mk IH1
          have w4 : IntKind.i64.wrap ((i : Int) + 1) = ((i + 1 : Nat) : Int) := by rw [IntKind.wrap_i64]; omega
          have x01 := (blk_cell K3.out.hf 0).trans rfl
          have x02 := (blk_cell K3.out.hd p).trans ((lds_get b4).trans (by rw [upd_at]))
          have HM := Lib.hid hM
          have hMy : max finish y = M := hM.symm
          clear hM
          go_upto_region 8 with (fail)
          go_still_tail 8, (by kernel_rfl)
          change wpList _ _ _ _ _ w3.drew
          generalize w3.drew = w4 at IH1 ⊢
          clear x01 x02 K3
          go_wp2_with fail
          refine IH1.out.mono ?_
          rintro e w5 ⟨rfl, gs2, K5, hg2⟩
          have HG2 : Hid (gs2.take i = pre) := by
            show _ = _
            have := congrArg (List.take i) hg2
            rw [List.take_take, List.length_append, HPL.out, List.take_left' HPL.out, Nat.min_eq_left (by show i ≤ i + 1; omega)] at this
            exact this
          obtain ⟨st2, hst⟩ : ∃ st2, st2 = searchP n (l.drop (i + 1)) (pre ++ [(p : Int)]) M (upd loads p y) (bs1, least1) := ⟨_, rfl⟩
          rw [← hst] at K5
          have K6 := Aside0.mk K5
          have HST := Lib.hid hst
          clear K5 hst hg2 IH1
          have x01 := (blk_cell K6.out.ht 0).trans rfl
          have x02 := (blk_cell K6.out.hd p).trans ((lds_get b4).trans (by rw [upd_at]))
          have f02 := blk_frozen K6.out.hd p
          have x03 := K6.out.cell HL hlt HX.out
          have w6 : IntKind.i64.wrap (y - x) = loads p := by rw [IntKind.wrap_i64, HY.out]; omega
          go_upto_region 9 with (fail)
          go_region
          have K7 := (K6.out.load b4 (loads p)).below (below_drew1 (Below.refl _ _))
          rw [upd_upd2] at K7
          replace K7 := Aside0.mk K7
          clear x01 x02 f02 x03 K6
          generalize (w5.setCell ⟨gd, p, none⟩ (.int .i64 (loads p))).drew = w7 at K7 ⊢
          have x02 := (blk_cell K7.out.hd p).trans (lds_get b4)
          have HR : Hid (List.range' p (n - p) = p :: List.range' (p + 1) (n - (p + 1))) := by
            show _ = _
            rw [show n - p = (n - (p + 1)) + 1 by omega, List.range'_succ]
          by_cases hz : loads p = 0
          · have ez : (loads p == 0) = true := by simpa using hz
            have HB : Hid (searchP n (l.drop i) pre finish loads (bs, least) = st2) := by
              show _ = _
              rw [HS.out, HA.out, HR.out, brk, if_pos ez, ← HY.out, ← HM.out, HST.out]
            have HZ := Lib.hid hz
            clear hz HR HA HS
            go_wp2
            go_end0
            rw [HB.out]
            exact ⟨rfl, gs2, K7.out, by rw [HPL.out]; exact HG2.out⟩
          · have ez : (loads p == 0) = false := by simpa using hz
            have HB : Hid (brk (fun p => loads p == 0) (fun p s => searchP n (l.drop (i + 1)) (pre ++ [(p : Int)]) (max finish (loads p + x)) (upd loads p (loads p + x)) s) (List.range' 0 n) (bs, least) = brk (fun p => loads p == 0) (fun p s => searchP n (l.drop (i + 1)) (pre ++ [(p : Int)]) (max finish (loads p + x)) (upd loads p (loads p + x)) s) (List.range' (p + 1) (n - (p + 1))) st2) := by
              show _ = _
              rw [HA.out, HR.out, brk, if_neg (by rw [ez]; decide), ← HY.out, ← HM.out, HST.out]
            clear HR HA hz
            go_wp2
            go_roundg (n - (p + 1))
            case measure => omega
            case rel => exact ⟨p + 1, gs2, st2, by go_num, by omega, Nat.le_refl _, K7, HG2, HB⟩
        · have hbz : ¬ (p : Int) < (n : Int) := by omega
          have HB : Hid (searchP n (l.drop i) pre finish loads (bs, least) = (bs1, least1)) := by
            show _ = _
            rw [HS.out, HA.out, show n - p = 0 by omega]
            rfl
          clear HS HA
          go_wp2
          go_end0
          rw [HB.out]
          exact ⟨rfl, gs1, K1.out, by rw [HPL.out]; exact HG.out⟩
end Go.Proofs.Bins
