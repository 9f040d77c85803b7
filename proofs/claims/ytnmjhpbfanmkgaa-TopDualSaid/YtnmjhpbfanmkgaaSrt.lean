/- press.rising and the stable sort of at most 12 places, walked. -/
import Derived.Test.YtnmjhpbfanmkgaaBase
namespace Go.Proofs.Bins
open Go.Shelf Go.RowKit Go.Lib Go.Proofs.YtnmjhpbfanmkgaaW.PrintWords Go.Proofs.YtnmjhpbfanmkgaaW.PrintLast Go.Proofs.YtnmjhpbfanmkgaaW.PrintMore Go.Proofs.Ytnmjhpbfanmkgaa.Q
set_option linter.unusedVariables false
set_option linter.unusedSimpArgs false
def iota (n : Nat) : List Int := (List.range n).map fun (i : Nat) => (i : Int)
theorem iota_length (n : Nat) : (iota n).length = n := by simp [iota]
theorem made_ints (m : Nat) : madeCells #[.int .i64 0] m = ints (List.replicate m 0) := by
  apply Array.ext
  · simp [madeCells, ints]
  · intro i h1 h2
    simp [madeCells, ints, Nat.mod_one]
def upto (n k : Nat) : List Int := (List.range n).map fun (i : Nat) => if i < k then (i : Int) else 0
theorem upto_zero (n : Nat) : upto n 0 = List.replicate n 0 := by
  apply List.ext_getElem
  · simp [upto]
  · intro i h1 h2; simp [upto]
theorem upto_full (n : Nat) : upto n n = iota n := by
  apply List.ext_getElem
  · simp [upto, iota]
  · intro i h1 h2
    simp [upto] at h1
    simp [upto, iota, h1]
theorem upto_set (n k : Nat) (h : k < n) : (upto n k).set k (k : Int) = upto n (k + 1) := by
  apply List.ext_getElem
  · simp [upto]
  · intro i h1 h2
    simp [upto] at h1 h2
    simp only [upto, List.getElem_set, List.getElem_map, List.getElem_range]
    by_cases e : k = i
    · subst e; rw [if_pos rfl, if_pos (by omega)]
    · rw [if_neg e]
      by_cases g : i < k
      · rw [if_pos g, if_pos (by omega)]
      · rw [if_neg g, if_neg (by omega)]
def RI (n g : Nat) (W0 : World) (e : Ending) (w' : World) : Prop := e = .returned (.slice (some ⟨g, 0, none⟩) n n) ∧ w'.heap[g]? = some (.cells (ints (iota n)) 3 (0, 0)) ∧ Below W0.heap.size W0 w'
set_option maxHeartbeats 1600000 in
theorem rising_run (n : Nat) (hn : n ≤ 12) (w : World) : Calls Try.prog 17 #[.int .i64 n] w (RI n w.heap.size w) := by
  have hmk := print_make (P := Try.prog) 22 3 .i64 8 Try.underlying22 info3 (by decide) n (by omega)
  have HB := Aside0.mk (below_alloc (Below.refl w.heap.size w) (.cells (ints (upto n 0)) 3))
  have HG := Aside0.mk (blk_new w (.cells (ints (upto n 0)) 3))
  rw [made_ints, ← upto_zero] at hmk
  obtain ⟨g, hg⟩ : ∃ g, g = w.heap.size := ⟨_, rfl⟩
  have HGE := Lib.hid hg
  rw [← hg] at HG ⊢
  have hge : w.heap.size ≤ g := Nat.le_of_eq hg.symm
  go_enter Try.func17, Try.ntmps17
  go_upto_region 2 with (fail)
  simp only [← hg]
  generalize w.alloc (.cells (ints (upto n 0)) 3) = w1 at HB HG ⊢
  clear hmk hg HGE
  go_wp2
  go_loopg [9] n (fun kx s9 wr => ∃ k : Nat, s9 = .int .i64 k ∧ k ≤ n ∧ n - k ≤ kx ∧ Aside0 (wr.heap[g]? = some (.cells (ints (upto n k)) 3 (0, 0))) ∧ Aside0 (Below w.heap.size w wr))
  case atStart => exact ⟨0, rfl, Nat.zero_le _, Nat.le_refl _, HG, HB⟩
  case round =>
    obtain ⟨k, rfl, hk, hx, HG1, HB1⟩ := hrel
    clear HG HB
    by_cases hlt : k < n
    · have hkz : (k : Int) < (n : Int) := by omega
      have f01 := blk_frozen HG1.out k
      have x01 := (blk_cell HG1.out k).trans (ints_get (by simpa [upto] using hlt))
      have HG2 := Aside0.mk (blk_put HG1.out k (.int .i64 k) (by rw [ints_set, upto_set n k hlt]))
      have HB2 := Aside0.mk (below_set (j := k) (v := .int .i64 k) HB1.out hge)
      go_wp2
      go_roundg (n - (k + 1))
      case measure => omega
      case rel => exact ⟨k + 1, by go_num, by omega, Nat.le_refl _, HG2, HB2⟩
    · obtain rfl : k = n := by omega
      go_wp2
      go_ret
      exact ⟨rfl, by have := HG1.out; rwa [upto_full] at this, HB1.out⟩
/-- The comparing function, called. -/
theorem cmp_run {A : Option Addr} {c : Nat} {l : List Int} {gt : Nat} {W : World} (HL : Held W A c l) (hl12 : l.length ≤ 12) (ht : W.heap[gt]? = some (.cells #[.slice A l.length c] 22 (0, 0))) {i j : Nat} (hi : i < l.length) (hj : j < l.length) :
    Calls Try.prog 19 #[.int .i64 i, .int .i64 j, .pointer (some ⟨gt, 0, none⟩)] W fun e w' => e = .returned (.int .i64 (Lib.compareInt (at_ l j) (at_ l i))) ∧ ∃ q, w' = W.drewN q := by
  obtain ⟨ad, rfl, hc⟩ := HL.cell (by omega)
  have ci := hc i hi
  have cj := hc j hj
  obtain ⟨x, hx⟩ : ∃ x, x = at_ l i := ⟨_, rfl⟩
  obtain ⟨y, hy⟩ : ∃ y, y = at_ l j := ⟨_, rfl⟩
  rw [← hx, ← hy]
  rw [← hx] at ci
  rw [← hy] at cj
  have hiz : (i : Int) < (l.length : Int) := by omega
  have hjz : (j : Int) < (l.length : Int) := by omega
  have hi0 : (0 : Int) ≤ (i : Int) := by omega
  have hj0 : (0 : Int) ≤ (j : Int) := by omega
  have x00 := (blk_cell ht 0).trans rfl
  clear hc HL ht hx hy
  generalize hr : Lib.compareInt y x = r
  have HC : Aside0 (∀ w, Calls Try.prog 20 #[.int .i64 y, .int .i64 x] w fun e w' => e = .returned (.int .i64 r) ∧ w' = w) := ⟨by rw [← hr]; exact fun w => Try.cmp_Compare_int y x w⟩
  clear hr
  go_enter Try.func19, Try.ntmps19
  go_upto_region 1 with (fail)
  go_quiet ((go_at_call 20; exact Calls.quiet_of_same ((HC.out _).mono fun _ _ h => ⟨h.1, h.2⟩)))
  go_wp2
  go_ret
  exact ⟨rfl, nq, rfl⟩
section
variable {n : Nat}
def encF (i : Fin n) : Value := .int .i64 (i.val : Int)
def cfF (l : List Int) (i j : Fin n) : Int := Lib.compareInt (at_ l j.val) (at_ l i.val)
theorem swo (l : List Int) : Sort.SWO (ltOf (cfF (n := n) l)) := by
  have key : ∀ i j : Fin n, ltOf (cfF l) i j = decide (at_ l j.val < at_ l i.val) := fun i j => by
    unfold ltOf cfF Lib.compareInt
    by_cases h : at_ l j.val < at_ l i.val
    · rw [if_pos h, decide_eq_true h]; rfl
    · rw [if_neg h, decide_eq_false h]; split <;> rfl
  refine ⟨fun x => ?_, fun x y z => ?_, fun x y z => ?_⟩
  · rw [key]; simp
  · rw [key, key, key]; simp only [decide_eq_true_eq]; omega
  · rw [key, key, key]; simp only [decide_eq_false_iff_not]; omega
end
theorem other_block {α : Type} [Inhabited α] (enc : α → Value) (w : World) (blk off m : Nat) (dk : Array α) (os : Array Obj) {k : Nat} (hk : k < w.heap.size) (hne : k ≠ blk) : (sortWorld enc w blk off m dk os).heap[k]? = w.heap[k]? := by
  unfold sortWorld
  rw [Sort.heap_grow_old _ os (by simpa using hk)]
  show ((w.heap).modify blk _)[k]? = _
  rw [Array.getElem?_modify, if_neg (fun e => hne e.symm)]
/-- Below but for one block. -/
def SS (go : Nat) (n : Nat) (w : World) (e : Ending) (w' : World) : Prop :=
  e = .returned (.tuple #[]) ∧ ∃ o : List Int, o.Perm (iota n) ∧ w'.heap[go]? = some (.cells (ints o) 3 (0, 0)) ∧ w'.heap.size = w.heap.size ∧ (∀ k, k ≠ go → w'.heap[k]? = w.heap[k]?) ∧ w'.os = w.os ∧ w'.tape = w.tape ∧ w'.output = w.output
theorem insertion_run {W0 w : World} {A : Option Addr} {c : Nat} {l : List Int} {gt go cap : Nat} (HL : Held W0 A c l) (hb : Below W0.heap.size W0 w) (hgo : W0.heap.size ≤ go) (hl12 : l.length ≤ 12) (h0 : 0 < l.length)
    (ht : w.heap[gt]? = some (.cells #[.slice A l.length c] 22 (0, 0))) (hr : w.heap[go]? = some (.cells (ints (iota l.length)) 3 (0, 0))) :
    Calls Try.prog 25 #[.slice (some ⟨go, 0, none⟩) l.length cap, .int .i64 ((0 : Nat) : Int), .int .i64 l.length, .func (.func 19) #[] #[.pointer (some ⟨gt, 0, none⟩)]] w (SS go l.length w) := by
  have inh : Inhabited (Fin l.length) := ⟨⟨0, h0⟩⟩
  have hne : gt ≠ go := blk_ne ht hr (by decide)
  obtain ⟨d, hd⟩ : ∃ d : Array (Fin l.length), d = Array.ofFn id := ⟨_, rfl⟩
  have hds : d.size = l.length := by rw [hd]; simp
  have hdi : ∀ i (h : i < l.length), d[i]! = ⟨i, h⟩ := fun i h => by
    rw [getElem!_pos d i (by omega)]
    subst hd
    simp
  have eg : ∀ args w, (callFunc 19 args).run Try.prog w = .ok (.enter 19 args) w := enters_of Try.func19 (by kernel_rfl) rfl
  have hcmp : CmpReads Try.prog 19 #[.pointer (some ⟨gt, 0, none⟩)] (encF (n := l.length)) (cfF l) go 0 d.size w := by
    intro m os dk hdk x y
    have ht2 : (sortWorld (encF (n := l.length)) w go 0 m dk os).heap[gt]? = _ := (other_block (encF (n := l.length)) w go 0 m dk os (blk_lt ht) hne).trans ht
    have HL2 : Held (sortWorld (encF (n := l.length)) w go 0 m dk os) A c l := by
      refine ⟨?_, HL.2⟩
      refine Kd.C_below HL.1 (w1 := sortWorld (encF (n := l.length)) w go 0 m dk os) ⟨hb.os, hb.tape, hb.output, ?_, fun k hk => ?_⟩
      · have := hb.size
        simp [sortWorld]
        omega
      · rw [other_block (encF (n := l.length)) w go 0 m dk os (by have := hb.size; omega) (by omega)]
        exact hb.block k hk
    exact cmp_run HL2 hl12 ht2 x.isLt y.isLt
  have hH : Sort.Holds (encF (n := l.length)) w go 0 d := by
    intro j hj
    rw [hds] at hj
    rw [hdi j hj, Nat.zero_add]
    refine ⟨(blk_cell hr j).trans ?_, blk_frozen hr j⟩
    rw [ints_get (by rw [iota_length]; exact hj)]
    simp [encF, at_, iota, hj, List.getD_eq_getElem?_getD]
  have R := Try.insertionSortCmpFunc_one (encF (n := l.length)) (fun _ => rfl) (cfF l) 19 #[.pointer (some ⟨gt, 0, none⟩)] go 0 cap 0 d.size d w eg hcmp hH (Nat.zero_le _) (Nat.le_refl _) (by omega)
  rw [hds] at R
  refine R.mono ?_
  rintro e w' ⟨rfl, q, rfl⟩
  obtain ⟨s, hs⟩ : ∃ s, s = Sort.insertionSort (ltOf (cfF (n := l.length) l)) d 0 l.length := ⟨_, rfl⟩
  have hp := (Sort.insertionSort_holds (swo (n := l.length) l) d 0 l.length (Nat.zero_le _) (by omega)).1
  rw [← hs] at hp ⊢
  obtain ⟨p1, p2, p3⟩ := hp
  refine ⟨rfl, s.toList.map (fun i => ((i.val : Nat) : Int)), ?_, ?_, ?_, ?_, rfl, rfl, rfl⟩
  · have e1 : (s.extract 0 l.length).toList = s.toList := by simp [← hds, ← p1]
    have e2 : (d.extract 0 l.length).toList = d.toList := by simp [← hds]
    rw [e1, e2] at p3
    refine (p3.map _).trans ?_
    refine List.Perm.of_eq ?_
    subst hd
    apply List.ext_getElem
    · simp [iota]
    · intro i h1 h2
      simp [iota]
  · show ((w.heap).modify go _)[go]? = _
    rw [Array.getElem?_modify, if_pos rfl, hr]
    show some (Obj.cells (Sort.putCells (encF (n := l.length)) 0 s (ints (iota l.length))) 3 (0, 0)) = _
    congr 2
    apply Array.ext
    · simp [Sort.putCells, ints, iota, p1, hds]
    · intro i h1 h2
      simp [ints] at h2
      have hi : i < l.length := by omega
      simp only [Sort.putCells, Array.getElem_mapIdx]
      rw [if_pos ⟨Nat.zero_le _, by omega⟩]
      simp only [Nat.sub_zero, ints, List.getElem_toArray, List.getElem_map, Array.getElem_toList]
      rw [getElem!_pos s i h2]
      rfl
  · exact Sort.size_putRow _ _ _ _ _
  · intro k hk
    show ((w.heap).modify go _)[k]? = _
    rw [Array.getElem?_modify, if_neg (fun e => hk e.symm)]
theorem insertion_zero {w : World} {go cap : Nat} {f : Value} (hr : w.heap[go]? = some (.cells (ints (iota 0)) 3 (0, 0))) :
    Calls Try.prog 25 #[.slice (some ⟨go, 0, none⟩) 0 cap, .int .i64 ((0 : Nat) : Int), .int .i64 ((0 : Nat) : Int), f] w (SS go 0 w) := by
  have H := Aside0.mk hr
  clear hr
  go_enter Try.func25, Try.ntmps25
  go_wp2
  go_loopg [8] 0 (fun kx s8 wr => s8 = .int .i64 1 ∧ wr = w)
  case atStart => exact ⟨rfl, rfl⟩
  case round =>
    obtain ⟨rfl, rfl⟩ := hrel
    go_wp2
    go_end0
    exact ⟨rfl, iota 0, List.Perm.refl _, H.out, rfl, fun _ _ => rfl, rfl, rfl, rfl⟩
theorem insertion_any {W0 w : World} {A : Option Addr} {c : Nat} {l : List Int} {gt go cap : Nat} (HL : Held W0 A c l) (hb : Below W0.heap.size W0 w) (hgo : W0.heap.size ≤ go) (hl12 : l.length ≤ 12)
    (ht : w.heap[gt]? = some (.cells #[.slice A l.length c] 22 (0, 0))) (hr : w.heap[go]? = some (.cells (ints (iota l.length)) 3 (0, 0))) :
    Calls Try.prog 25 #[.slice (some ⟨go, 0, none⟩) l.length cap, .int .i64 0, .int .i64 l.length, .func (.func 19) #[] #[.pointer (some ⟨gt, 0, none⟩)]] w (SS go l.length w) := by
  rcases Nat.eq_zero_or_pos l.length with h | h
  · rw [h] at hr ⊢
    exact insertion_zero hr
  · exact insertion_run HL hb hgo hl12 h ht hr
theorem stable_run {W0 w : World} {A : Option Addr} {c : Nat} {l : List Int} {gt go cap : Nat} (HL : Held W0 A c l) (hb : Below W0.heap.size W0 w) (hgo : W0.heap.size ≤ go) (hl12 : l.length ≤ 12)
    (ht : w.heap[gt]? = some (.cells #[.slice A l.length c] 22 (0, 0))) (hr : w.heap[go]? = some (.cells (ints (iota l.length)) 3 (0, 0))) :
    Calls Try.prog 23 #[.slice (some ⟨go, 0, none⟩) l.length cap, .int .i64 l.length, .func (.func 19) #[] #[.pointer (some ⟨gt, 0, none⟩)]] w (SS go l.length w) := by
  have HC := Aside0.mk (insertion_any (cap := cap) HL hb hgo hl12 ht hr)
  have hz : ¬ (20 : Int) ≤ (l.length : Int) := by omega
  have hz2 : ¬ (20 : Int) < (l.length : Int) := by omega
  clear HL hb hgo ht hr
  go_enter Try.func23, Try.ntmps23
  go_wp2
  go_loopg [7, 8] 0 (fun kx s7 s8 wr => s7 = .int .i64 0 ∧ s8 = .int .i64 20 ∧ wr = w)
  case atStart => exact ⟨rfl, rfl, rfl⟩
  case round =>
    obtain ⟨rfl, rfl, rfl⟩ := hrel
    go_wp2_with fail
    refine HC.out.mono ?_
    rintro e w1 ⟨rfl, hS⟩
    replace hS := Aside0.mk hS
    go_wp2
    go_loopg [6] 0 (fun kx s6 wr => s6 = .int .i64 20 ∧ wr = w1)
    case atStart => exact ⟨rfl, rfl⟩
    case round =>
      obtain ⟨rfl, rfl⟩ := hrel
      go_wp2
      go_end0
      exact ⟨rfl, hS.out⟩
theorem sort_run {W0 w : World} {A : Option Addr} {c : Nat} {l : List Int} {gt go cap : Nat} (HL : Held W0 A c l) (hb : Below W0.heap.size W0 w) (hgo : W0.heap.size ≤ go) (hl12 : l.length ≤ 12)
    (ht : w.heap[gt]? = some (.cells #[.slice A l.length c] 22 (0, 0))) (hr : w.heap[go]? = some (.cells (ints (iota l.length)) 3 (0, 0))) :
    Calls Try.prog 18 #[.slice (some ⟨go, 0, none⟩) l.length cap, .func (.func 19) #[] #[.pointer (some ⟨gt, 0, none⟩)]] w (SS go l.length w) := by
  have HC := Aside0.mk (stable_run (cap := cap) HL hb hgo hl12 ht hr)
  clear HL hb hgo ht hr
  go_enter Try.func18, Try.ntmps18
  go_wp2_with fail
  refine HC.out.mono ?_
  rintro e w1 ⟨rfl, hS⟩
  replace hS := Aside0.mk hS
  go_wp2
  go_end0
  exact ⟨rfl, hS.out⟩
end Go.Proofs.Bins
