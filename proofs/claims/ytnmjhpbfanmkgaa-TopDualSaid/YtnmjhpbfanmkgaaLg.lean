/- press.longest, walked. -/
import Derived.Test.YtnmjhpbfanmkgaaSrt
import Derived.Test.YtnmjhpbfanmkgaaGreedy
namespace Go.Proofs.Bins
open Go.Shelf Go.RowKit Go.Lib Go.Proofs.YtnmjhpbfanmkgaaW.PrintWords Go.Proofs.YtnmjhpbfanmkgaaW.PrintLast Go.Proofs.YtnmjhpbfanmkgaaW.PrintMore Go.Proofs.Ytnmjhpbfanmkgaa.Q
set_option linter.unusedVariables false
set_option linter.unusedSimpArgs false
def LG (n : Nat) (l : List Int) (w : World) (e : Ending) (w' : World) : Prop :=
  ∃ (g : Nat) (h : Int), e = .returned (.tuple #[.slice (some ⟨g, 0, none⟩) l.length l.length, .int .i64 h]) ∧ can n h l (fun _ => 0) ∧ 0 ≤ h ∧ h ≤ tot id l ∧ Below w.heap.size w w'
/-- What lies before the outer loop. -/
structure LK (W0 : World) (A : Option Addr) (c : Nat) (l : List Int) (n gt go gg gd : Nat) (o gs ls : List Int) (w : World) : Prop where
  bel : Below W0.heap.size W0 w
  ht : w.heap[gt]? = some (.cells #[.slice A l.length c] 22 (0, 0))
  ho : w.heap[go]? = some (.cells (ints o) 3 (0, 0))
  hg : w.heap[gg]? = some (.cells (ints gs) 3 (0, 0))
  hd : w.heap[gd]? = some (.cells (ints ls) 3 (0, 0))
  bg : W0.heap.size ≤ gg
  bd : W0.heap.size ≤ gd
  og : go ≠ gg
  od : go ≠ gd
  gd_ : gg ≠ gd
  lo : o.length = l.length
  lg : gs.length = l.length
  ld : ls.length = n
theorem LK.below {W0 : World} {A : Option Addr} {c : Nat} {l : List Int} {n gt go gg gd : Nat} {o gs ls : List Int} {w w' : World} (K : LK W0 A c l n gt go gg gd o gs ls w) (h : Below w.heap.size w w') : LK W0 A c l n gt go gg gd o gs ls w' :=
  { bel := below_step K.bel h, ht := blk_below K.ht h, ho := blk_below K.ho h, hg := blk_below K.hg h, hd := blk_below K.hd h, bg := K.bg, bd := K.bd, og := K.og, od := K.od, gd_ := K.gd_, lo := K.lo, lg := K.lg, ld := K.ld }
theorem LK.give {W0 : World} {A : Option Addr} {c : Nat} {l : List Int} {n gt go gg gd : Nat} {o gs ls : List Int} {w : World} (K : LK W0 A c l n gt go gg gd o gs ls w) (i : Nat) (v : Int) : LK W0 A c l n gt go gg gd o (gs.set i v) ls (w.setCell ⟨gg, i, none⟩ (.int .i64 v)) :=
  { bel := below_set K.bel K.bg, ht := blk_far K.ht (blk_ne K.ht K.hg (by decide)) _, ho := blk_far K.ho K.og _, hg := blk_put K.hg i _ (ints_set gs i v), hd := blk_far K.hd (fun e => K.gd_ e.symm) _, bg := K.bg, bd := K.bd, og := K.og, od := K.od, gd_ := K.gd_, lo := K.lo, lg := by rw [List.length_set]; exact K.lg, ld := K.ld }
theorem LK.load {W0 : World} {A : Option Addr} {c : Nat} {l : List Int} {n gt go gg gd : Nat} {o gs ls : List Int} {w : World} (K : LK W0 A c l n gt go gg gd o gs ls w) (i : Nat) (v : Int) : LK W0 A c l n gt go gg gd o gs (ls.set i v) (w.setCell ⟨gd, i, none⟩ (.int .i64 v)) :=
  { bel := below_set K.bel K.bd, ht := blk_far K.ht (blk_ne K.ht K.hd (by decide)) _, ho := blk_far K.ho K.od _, hd := blk_put K.hd i _ (ints_set ls i v), hg := blk_far K.hg K.gd_ _, bg := K.bg, bd := K.bd, og := K.og, od := K.od, gd_ := K.gd_, lo := K.lo, lg := K.lg, ld := by rw [List.length_set]; exact K.ld }
theorem LK.cell {W0 : World} {ad : Addr} {c : Nat} {l : List Int} {n gt go gg gd : Nat} {o gs ls : List Int} {w : World} (K : LK W0 (some ad) c l n gt go gg gd o gs ls w) (HL : Held W0 (some ad) c l) {i : Nat} (hi : i < l.length) {x : Int} (hx : x = at_ l i) : w.cell? (ad.add i) = some (.int .i64 x) := by
  obtain ⟨ad2, e2, h⟩ := (HL.below K.bel).cell (by omega)
  injection e2 with e2
  subst e2
  rw [h i hi, hx]
theorem new2 (w : World) (o1 o2 : Obj) : ((w.alloc o1).alloc o2).drew.heap[w.heap.size + 1]? = some o2 := by
  have := blk_new (w.alloc o1) o2
  rw [show (w.alloc o1).heap.size = w.heap.size + 1 by simp] at this
  exact this
theorem iota_map (l : List Int) : (iota l.length).map (fun i => at_ l i.toNat) = l := by
  apply List.ext_getElem
  · simp [iota]
  · intro i h1 h2
    simp [iota, at_, List.getD_eq_getElem?_getD, h2]
set_option maxHeartbeats 3200000 in
theorem longest_run (A : Option Addr) (c : Nat) (l : List Int) (n : Nat) (w : World) (HL : Held w A c l) (hl12 : l.length ≤ 12) (hx : ∀ x ∈ l, 1 ≤ x ∧ x ≤ 1073741824) (hn : 1 ≤ n ∧ n ≤ 4) :
    Calls Try.prog 12 #[.slice A l.length c, .int .i64 n] w (LG n l w) := by
  have hmk1 := print_make (P := Try.prog) 22 3 .i64 8 Try.underlying22 info3 (by decide) l.length (by omega)
  have hmk2 := print_make (P := Try.prog) 22 3 .i64 8 Try.underlying22 info3 (by decide) n (by omega)
  rw [made_ints] at hmk1 hmk2
  have HM1 := Aside0.mk hmk1
  have HM2 := Aside0.mk hmk2
  have HB := Aside0.mk (below_alloc (Below.refl w.heap.size w) (.cells #[.slice A l.length c] 22))
  have HT := Aside0.mk (blk_new w (.cells #[.slice A l.length c] 22))
  have HLL := Aside0.mk HL
  clear HL hmk1 hmk2
  obtain ⟨gt, hgt⟩ : ∃ g, g = w.heap.size := ⟨_, rfl⟩
  have HGT := Lib.hid hgt
  rw [← hgt] at HT
  go_enter Try.func12, Try.ntmps12
  go_upto_region 1 with (fail)
  simp only [← hgt]
  clear hgt
  generalize w.alloc (.cells #[.slice A l.length c] 22) = w1 at HB HT ⊢
  have x00 := (blk_cell HT.out 0).trans rfl
  have HC := Aside0.mk (rising_run l.length hl12 w1)
  go_wp2_with fail
  refine HC.out.mono ?_
  rintro e w2 ⟨rfl, hr, hbl⟩
  have HR := Aside0.mk hr
  have HT2 := Aside0.mk (blk_below HT.out hbl)
  have HB2 := Aside0.mk (below_step HB.out hbl)
  have hgo := Aside0.mk (show w.heap.size ≤ w1.heap.size from HB.out.size)
  clear hr hbl HC x00 HT HB
  generalize w1.heap.size = go at HR hgo ⊢
  clear w1
  have HC := Aside0.mk (sort_run (cap := l.length) HLL.out HB2.out hgo.out hl12 HT2.out HR.out)
  go_wp2_with fail
  refine HC.out.mono ?_
  rintro e w3 ⟨rfl, o, hp, ho, hsz, hk, ho1, ho2, ho3⟩
  have HO := Aside0.mk ho
  have HT3 := Aside0.mk ((hk gt (blk_ne HT2.out HR.out (by decide))).trans HT2.out)
  have HB3 := Aside0.mk (show Below w.heap.size w w3 from ⟨ho1.trans HB2.out.os, ho2.trans HB2.out.tape, ho3.trans HB2.out.output, by rw [hsz]; exact HB2.out.size, fun k hk2 => by
    rw [hk k (by have := hgo.out; omega)]; exact HB2.out.block k hk2⟩)
  have HP := Aside0.mk hp
  clear HC ho hsz hk ho1 ho2 ho3 hp HT2 HB2 HR
  have x00 := (blk_cell HT3.out 0).trans rfl
  have x01 := (blk_cell (blk_alloc HT3.out (.cells (ints (List.replicate n 0)) 3)) 0).trans rfl
  have hmk1 := HM1.out
  have hmk2 := HM2.out
  clear w2
  go_upto_region 3 with (fail)
  go_cut [7, 8] (fun v7 v8 wc => ∃ gg gd : Nat, v7 = .slice (some ⟨gg, 0, none⟩) l.length l.length ∧ v8 = .slice (some ⟨gd, 0, none⟩) n n ∧ Aside0 (LK w A c l n gt go gg gd o (List.replicate l.length 0) (List.replicate n 0) wc))
  case first =>
    have ol : o.length = l.length := by rw [HP.out.length_eq, iota_length]
    have hsz3 : w.heap.size ≤ w3.heap.size := HB3.out.size
    have hgo3 : go < w3.heap.size := blk_lt HO.out
    have K1 := Aside0.mk (show LK w A c l n gt go w3.heap.size (w3.heap.size + 1) o (List.replicate l.length 0) (List.replicate n 0) ((w3.alloc (.cells (ints (List.replicate l.length 0)) 3)).alloc (.cells (ints (List.replicate n 0)) 3)).drew from
      { bel := below_drew1 (below_alloc (below_alloc HB3.out _) _), ht := blk_alloc (blk_alloc HT3.out _) _, ho := blk_alloc (blk_alloc HO.out _) _, hg := blk_alloc (blk_new _ _) _, hd := new2 _ _ _, bg := hsz3, bd := by omega, og := by omega, od := by omega, gd_ := by omega, lo := ol, lg := by simp, ld := by simp })
    have K2 := Aside0.mk (show LK w A c l n gt go (w3.heap.size + 1) w3.heap.size o (List.replicate l.length 0) (List.replicate n 0) ((w3.alloc (.cells (ints (List.replicate n 0)) 3)).alloc (.cells (ints (List.replicate l.length 0)) 3)).drew from
      { bel := below_drew1 (below_alloc (below_alloc HB3.out _) _), ht := blk_alloc (blk_alloc HT3.out _) _, ho := blk_alloc (blk_alloc HO.out _) _, hd := blk_alloc (blk_new _ _) _, hg := new2 _ _ _, bg := by omega, bd := hsz3, og := by omega, od := by omega, gd_ := by omega, lo := ol, lg := by simp, ld := by simp })
    clear ol hsz3 hgo3
    go_region
    · go_wp2
      go_meet
      case rel => exact ⟨_, _, rfl, rfl, K1⟩
    · go_wp2
      go_meet
      case rel => exact ⟨_, _, rfl, rfl, K2⟩
  case rest =>
    obtain ⟨gg, gd, rfl, rfl, K⟩ := hcut
    clear hmk1 hmk2 HM1 HM2 x00 x01 HO HT3 HB3 hgo HGT
    obtain ⟨xs, hxs⟩ : ∃ xs, xs = o.map (fun i => at_ l i.toNat) := ⟨_, rfl⟩
    have hperm : xs.Perm l := by rw [hxs]; exact (HP.out.map _).trans (List.Perm.of_eq (iota_map l))
    have hxl : xs.length = l.length := hperm.length_eq
    have HXP := Aside0.mk hperm
    have hxat : ∀ k, k < l.length → ∃ i : Nat, i < l.length ∧ at_ o k = (i : Int) ∧ at_ xs k = at_ l i := fun k hk => by
      have ho : k < o.length := by rw [K.out.lo]; exact hk
      have hm : at_ o k ∈ iota l.length := HP.out.mem_iff.1 (at_mem ho)
      obtain ⟨i, hi, e⟩ := List.mem_map.1 hm
      rw [List.mem_range] at hi
      refine ⟨i, hi, e.symm, ?_⟩
      rw [hxs]
      have : at_ (o.map fun i => at_ l i.toNat) k = at_ l (at_ o k).toNat := by
        simp [at_, List.getD_eq_getElem?_getD, ho]
      rw [this, ← e]
      rfl
    have HXA := Aside0.mk hxat
    have hx1 : ∀ x ∈ xs, 0 ≤ x := fun x h => by have := hx x (hperm.mem_iff.1 h); omega
    have HX1 := Aside0.mk hx1
    have HXL := Lib.hid hxl
    have HXM := Aside0.mk (show tot id xs ≤ 12 * 1073741824 from by
      have := tot_le (M := 1073741824) (xs := xs) (fun x h => (hx x (hperm.mem_iff.1 h)).2)
      omega)
    clear hxs hperm hxl hxat hx1 HP
    go_wp2
    go_loopg [27] l.length (fun kx s27 wr => ∃ (k : Nat) (gs ls : List Int), s27 = .int .i64 k ∧ k ≤ l.length ∧ l.length - k ≤ kx ∧ Aside0 (LK w A c l n gt go gg gd o gs ls wr) ∧ Aside0 (Placed n xs k (at_ ls)))
    case atStart => exact ⟨0, _, _, rfl, Nat.zero_le _, Nat.le_refl _, K, ⟨by rw [at_replicate]; exact Placed.start n xs⟩⟩
    case round =>
      obtain ⟨k, gs, ls, rfl, hk, hkx, K1, P1⟩ := hrel
      clear K
      by_cases hlt : k < l.length
      · have hkz : (k : Int) < (l.length : Int) := by omega
        obtain ⟨i, hi, e1, e2⟩ := HXA.out k hlt
        have x01 := (blk_cell K1.out.ho k).trans (ints_get (by rw [K1.out.lo]; exact hlt))
        rw [e1] at x01
        have E2 := Lib.hid e2
        have hn1 := hn.1
        have hn4 := hn.2
        clear e1 e2
        go_wp2
        clear x01
        obtain ⟨wo, hwo⟩ : ∃ wo : World, wo = wr := ⟨_, rfl⟩
        rw [← hwo] at K1 ⊢
        clear hwo
        go_loopg [11, 33] n (fun ky s11 s33 wi => ∃ (p j : Nat), s11 = .int .i64 p ∧ s33 = .int .i64 j ∧ p < n ∧ j ≤ n ∧ n - j ≤ ky ∧ wi = wo)
        case atStart => exact ⟨0, 0, rfl, rfl, by omega, by omega, by omega, rfl⟩
        case round =>
          obtain ⟨p, j, rfl, rfl, hp, hj, hky, rfl⟩ := hrel
          by_cases hjn : j < n
          · have hjz : (j : Int) < (n : Int) := by omega
            have hpz : (p : Int) < (n : Int) := by omega
            have x01 := (blk_cell K1.out.hd j).trans (ints_get (by rw [K1.out.ld]; exact hjn))
            have x02 := (blk_cell K1.out.hd p).trans (ints_get (by rw [K1.out.ld]; exact hp))
            by_cases hc : at_ ls j < at_ ls p
            · have hc2 : decide (at_ ls j < at_ ls p) = true := decide_eq_true hc
              go_wp2
              go_roundg (n - (j + 1))
              case measure => omega
              case rel => exact ⟨j, j + 1, rfl, by go_num, hjn, by omega, Nat.le_refl _, rfl⟩
            · have hc2 : decide (at_ ls j < at_ ls p) = false := decide_eq_false hc
              go_wp2
              go_roundg (n - (j + 1))
              case measure => omega
              case rel => exact ⟨p, j + 1, rfl, by go_num, hp, by omega, Nat.le_refl _, rfl⟩
          · have hjz : ¬ (j : Int) < (n : Int) := by omega
            have f01 := blk_frozen K1.out.hg i
            have x01 := (blk_cell K1.out.hg i).trans (ints_get (by rw [K1.out.lg]; exact hi))
            have hiz : (i : Int) < (l.length : Int) := by omega
            have hpz : (p : Int) < (n : Int) := by omega
            go_upto_region 15 with (fail)
            have K2 := Aside0.mk (K1.out.give i p)
            clear f01 x01 K1
            generalize wr.setCell ⟨gg, i, none⟩ (.int .i64 p) = w4 at K2 ⊢
            obtain ⟨ad, hA, -⟩ := HLL.out.cell (by omega)
            subst hA
            obtain ⟨x, hxe⟩ : ∃ x, x = at_ l i := ⟨_, rfl⟩
            have hxb : 1 ≤ x ∧ x ≤ 1073741824 := by rw [hxe]; exact hx _ (at_mem hi)
            have x02 := K2.out.cell HLL.out hi hxe
            have HXE := Lib.hid hxe
            clear hxe
            have x01 := (blk_cell K2.out.ht 0).trans rfl
            have hpl : p < ls.length := by rw [K2.out.ld]; exact hp
            have x03 := (blk_cell K2.out.hd p).trans (ints_get hpl)
            have f03 := blk_frozen K2.out.hd p
            have b0 := P1.out.lo p
            have b1 : at_ ls p ≤ 12 * 1073741824 := Int.le_trans (Int.le_trans (P1.out.hi p) (tot_take HX1.out k)) HXM.out
            have P2 := Aside0.mk (show Placed n xs (k + 1) (at_ (ls.set p (at_ ls p + x))) from by
              rw [at_set hpl]
              exact P1.out.step (by rw [HXL.out]; exact hlt) (by rw [HXE.out, E2.out]) (by omega) hp)
            obtain ⟨y, hy⟩ : ∃ y, y = at_ ls p + x := ⟨_, rfl⟩
            have hyw : IntKind.i64.wrap (at_ ls p + x) = y := by rw [IntKind.wrap_i64]; omega
            rw [← hy] at P2
            clear hy b0 b1
            go_region
            have K3 := Aside0.mk ((K2.out.load p y).below (below_drew1 (Below.refl _ _)))
            clear x01 x02 x03 f03 K2 hyw
            generalize (w4.setCell ⟨gd, p, none⟩ (.int .i64 y)).drew = w5 at K3 ⊢
            go_wp2
            go_roundg (l.length - (k + 1))
            case measure => omega
            case rel => exact ⟨k + 1, _, _, by go_num, by omega, Nat.le_refl _, K3, P2⟩
      · obtain rfl : k = l.length := by omega
        have hm := maxOf_spec (zs := ls) (by rw [K1.out.ld]; omega)
        rw [K1.out.ld] at hm
        obtain ⟨m1, q, m2, m3⟩ := hm
        have hfin := P1.out
        rw [← HXL.out] at hfin
        have hcan := can_perm HXP.out HX1.out _ (hfin.finish m1)
        have hhi : Lib.maxOf ls ≤ tot id l := by
          rw [m3, ← tot_perm HXP.out]
          exact Int.le_trans (P1.out.hi q) (tot_take HX1.out _)
        have hlo : 0 ≤ Lib.maxOf ls := by rw [m3]; exact P1.out.lo q
        have HC := Aside0.mk (Try.slices_Max_int gd 0 n n ls wr (by omega) (Nat.le_of_eq K1.out.ld.symm) (by omega) (fun j hj => by
          rw [Nat.zero_add, blk_cell K1.out.hd, ints_get hj]; rfl))
        have hls : ls.take n = ls := List.take_of_length_le (Nat.le_of_eq K1.out.ld)
        rw [hls] at HC
        generalize Lib.maxOf ls = h at HC hcan hhi hlo
        clear m1 m2 m3 hfin hls
        have HH := Aside0.mk (And.intro hcan (And.intro hlo hhi))
        clear hcan hlo hhi
        go_wp2_with (go_at_call 21; refine HC.out.mono ?_; rintro e w1 ⟨rfl, rfl⟩)
        go_ret2
        exact ⟨gg, h, rfl, HH.out.1, HH.out.2.1, HH.out.2.2, K1.out.bel⟩
end Go.Proofs.Bins
