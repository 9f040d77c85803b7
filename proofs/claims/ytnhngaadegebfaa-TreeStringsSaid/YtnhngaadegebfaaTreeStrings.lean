/- The law TreeStrings, walked. -/
import Derived.Test.YtnhngaadegebfaaStrState
import Derived.Test.YtnhngaadegebfaaB7
import Derived.Test.YtnhngaadegebfaaB89
import Derived.Test.YtnhngaadegebfaaB12
import Derived.Test.YtnhngaadegebfaaSame
import Derived.Test.YtnhngaadegebfaaA89
import Derived.Test.YtnhngaadegebfaaCC
import Derived.Deep.DeepCutAuto
import Derived.Deep.CutBlock
import Derived.Test.YtnhngaadegebfaaWLast
namespace Go.Proofs.MT
open Go.RowKit Go.Proofs.YtnhngaadegebfaaW.PrintLast
set_option linter.unusedVariables false
set_option linter.unusedSimpArgs false

/-- The row's cells are truth values. -/
def Bools (w : World) (A : Option Addr) (n : Nat) : Prop :=
  n = 0 ∨ ∃ b o, A = some ⟨b, o, none⟩ ∧ b < w.heap.size ∧ ∀ i, i < n → ∃ v : Bool, w.cell? ⟨b, o + i, none⟩ = some (.bool v)

theorem rank_any (l : List ByteArray) (hl : l.length ≤ 1099511627776) (A : Option Addr) (c : Nat) (hc : l.length ≤ c) (s : ByteArray) (w : World) (hr : Row1 w A l) :
    Calls Try.prog 20 #[.slice A l.length c, .string s] w fun e w' => e = .returned (.int .i64 (rk l s)) ∧ Below w.heap.size w w' :=
  (rank_calls l hl A c hc s w hr).mono fun e w' ⟨h1, n, h2⟩ => ⟨h1, by rw [h2]; exact below_draws (Below.refl _ _) n⟩

set_option maxRecDepth 100000 in
set_option maxHeartbeats 800000 in
theorem TreeStrings_walk (l : List ByteArray) (A : Option Addr) (c : Nat) (hc : l.length ≤ c) (G : Option Addr) (gl gc : Nat) (hgc : gl ≤ gc) (cut : ByteArray) (w : World) (hr : Row1 w A l) (hg : Bools w G gl) :
    Calls Try.prog 4 #[.slice A l.length c, .slice G gl gc, .string cut] w fun e w' => e = .returned (.bool true) ∧ Below w.heap.size w w' := by
  go_enter Try.func4, Try.ntmps4
  by_cases h60 : (60 : Int) < (l.length : Int)
  · go_wp2_with (go_at_call 13; refine (IS.alive_any _).mono ?_; rintro e x ⟨rfl, hk⟩)
    go_ret
    exact ⟨rfl, hk⟩
  by_cases h100 : (100 : Int) < (cut.size : Int)
  · go_wp2_with (go_at_call 13; refine (IS.alive_any _).mono ?_; rintro e x ⟨rfl, hk⟩)
    go_ret
    exact ⟨rfl, hk⟩
  have st0 := Pair2.start w
  go_wp2_with fail
  generalize (w.alloc (.cells #[.pointer none] 44)).alloc (.cells #[.pointer none] 28) = W at st0 ⊢
  have hl : l.length ≤ 1099511627776 := by omega
  go_loopg [9] l.length (fun k x9 wr => ∃ i : Nat, x9 = .int .i64 i ∧ i ≤ l.length ∧ (∃ p q m n, Pair2 w wr w.heap.size (w.heap.size + 1) p q m n ∧ Twins l m n i) ∧ Hid (l.length - i = k))
  case atStart => exact ⟨0, rfl, by omega, ⟨none, none, .nil, .nil, st0, Twins.zero l⟩, rfl⟩
  case round =>
    clear st0
    obtain ⟨i, rfl, hi, ⟨p, q, m, n, st, tw⟩, HN⟩ := hrel
    by_cases hlt : i < l.length
    · obtain ⟨k, hk⟩ : ∃ k, l[i]? = some k := ⟨_, List.getElem?_eq_getElem hlt⟩
      have hkl : k ∈ l := List.mem_of_getElem? hk
      have hlt' : (i : Int) < (l.length : Int) := by omega
      have hi0 : (0 : Int) ≤ (i : Int) := by omega
      have hi1 : IntKind.i64.wrap ((i : Int) + 1) = ((i + 1 : Nat) : Int) := by rw [IntKind.wrap_i64]; push_cast; omega
      obtain ⟨cb, co, hA, hcb, hcc⟩ : ∃ b o, A = some ⟨b, o, none⟩ ∧ b < w.heap.size ∧ ∀ i x, l[i]? = some x → w.cell? ⟨b, o + i, none⟩ = some (.string x) := by
        rcases hr with rfl | h
        · simp at hlt
        · exact h
      have hrow := hr
      subst hA
      have hw : ∀ x, Below w.heap.size w x → x.cell? ⟨cb, co + i, none⟩ = some (.string k) := fun x hx => (hx.cell (p := ⟨cb, co + i, none⟩) hcb).trans (hcc i k hk)
      have e0 := hw _ st.below
      by_cases hbig : (100 : Int) < (k.size : Int)
      · go_wp2_with (go_at_call 13; refine (IS.alive_any _).mono ?_; rintro e x ⟨rfl, hx⟩)
        go_ret
        exact ⟨rfl, st.below.trans (hx.mono st.below.size)⟩
      go_upto_region 11 with (go_at_call 20; refine (rank_any l hl _ c hc k _ (hrow.later st.below)).mono ?_; rintro e x ⟨rfl, hx⟩)
      have st := st.later hx
      clear hx e0
      have e0 := hw _ st.below
      have hm : m.size ≤ 1099511627776 := by have := tw.size; omega
      have hn : n.size ≤ 1099511627776 := by have := tw.size'; omega
      have hm1 : m.size + 1 ≤ 1099511627776 := by have := tw.size; omega
      have hn1 : n.size + 1 ≤ 1099511627776 := by have := tw.size'; omega
      have st0' := st
      by_cases hgl : i < gl
      · obtain ⟨gb, go, rfl, hgb, hgg⟩ : ∃ b o, G = some ⟨b, o, none⟩ ∧ b < w.heap.size ∧ ∀ i, i < gl → ∃ v : Bool, w.cell? ⟨b, o + i, none⟩ = some (.bool v) := by
          rcases hg with h | h
          · omega
          · exact h
        obtain ⟨v, hv⟩ := hgg i hgl
        have eg := (st.below.cell (p := ⟨gb, go + i, none⟩) hgb).trans hv
        have hgl' : (i : Int) < (gl : Int) := by omega
        cases v with
        | true =>
          go_upto_region 12 with fail
          have sOf : ∀ y, Below x.heap.size x y → y.cell? ⟨w.heap.size, 0, none⟩ = some (.pointer p) ∧ y.cell? ⟨cb, co + i, none⟩ = some (.string k) := fun y hy => ⟨(st.later hy).bm.cell, hw _ (st.later hy).below⟩
          have hw0 : Below x.heap.size x x.drew := Below.drew (Below.refl _ _)
          refine start_ (n := 12) (S := fun w' => w'.cell? ⟨w.heap.size, 0, none⟩ = some (.pointer p) ∧ w'.cell? ⟨cb, co + i, none⟩ = some (.string k)) (ds := [10]) #[false, false, false, false, false, false, false, false, false, false, false, false] (by kernel_rfl) rfl rfl (sOf _ (Below.drew (Below.refl _ _))) (fun hHeld => ?_)
          refine take_ (i := 0) (N := some 61) (v := ?_) (a' := ?_) #[true, false, false, false, false, false, false, false, false, false, false, false] rfl rfl (by kernel_rfl) (fun _ _ _ h => h) (Or.inl ⟨by rfl, ?_⟩) hHeld ?_ ?_
          rotate_left
          · rintro w' ⟨s0, s1⟩
            go_simp
            with_reducible rfl
          rotate_left
          · simp only [Act.put, List.setIfInBounds_toArray, List.set_cons_zero, List.set_cons_succ, i64_w, i32_w]
            rfl
          refine pure_ (i := 1) (N := some 62) (v := ?_) (a' := ?_) #[true, true, false, false, false, false, false, false, false, false, false, false] rfl rfl (by kernel_rfl) (fun _ _ _ h => h) (Or.inl ⟨by rfl, ?_⟩) ?_ ?_
          rotate_left
          · intro w'
            go_simp
            with_reducible rfl
          rotate_left
          · simp only [Act.put, List.setIfInBounds_toArray, List.set_cons_zero, List.set_cons_succ, i64_w, i32_w]
            rfl
          refine pure_ (i := 2) (N := some 63) (v := ?_) (a' := ?_) #[true, true, true, false, false, false, false, false, false, false, false, false] rfl rfl (by kernel_rfl) (fun _ _ _ h => h) (Or.inl ⟨by rfl, ?_⟩) ?_ ?_
          rotate_left
          · intro w'
            go_simp
            with_reducible rfl
          rotate_left
          · simp only [Act.put, List.setIfInBounds_toArray, List.set_cons_zero, List.set_cons_succ, i64_w, i32_w]
            rfl
          refine pure_ (i := 3) (N := some 64) (v := ?_) (a' := ?_) #[true, true, true, true, false, false, false, false, false, false, false, false] rfl rfl (by kernel_rfl) (fun _ _ _ h => h) (Or.inl ⟨by rfl, ?_⟩) ?_ ?_
          rotate_left
          · intro w'
            go_simp
            with_reducible rfl
          rotate_left
          · simp only [Act.put, List.setIfInBounds_toArray, List.set_cons_zero, List.set_cons_succ, i64_w, i32_w]
            rfl
          refine take_ (i := 4) (N := some 65) (v := ?_) (a' := ?_) #[true, true, true, true, true, false, false, false, false, false, false, false] rfl rfl (by kernel_rfl) (fun _ _ _ h => h) (Or.inl ⟨by rfl, ?_⟩) hHeld ?_ ?_
          rotate_left
          · rintro w' ⟨s0, s1⟩
            go_simp
            with_reducible rfl
          rotate_left
          · simp only [Act.put, List.setIfInBounds_toArray, List.set_cons_zero, List.set_cons_succ, i64_w, i32_w]
            rfl
          refine join_ (σ := Option Addr × Bool × Nat × T ByteArray Int) 2 #[true, true, true, true, true, true, true, true, true, true, false, false] (fun s => [(66, .tuple #[.agg #[.pointer s.1], .bool s.2.1]), (60, .tuple #[.agg #[.pointer s.1], .bool s.2.1]), (67, .agg #[.pointer s.1]), (68, .bool s.2.1), (11, .pointer (some ⟨s.2.2.1, 0, none⟩))]) (fun s y => Below x.heap.size x y ∧ SI.Tr y.heap.size y s.1 s.2.2.2 ∧ Gone m k s.2.1 s.2.2.2 ∧ SI.MBox w.heap.size y s.2.2.1 none .nil ∧ x.heap.size ≤ s.2.2.1) ?_ (fun hJ => ?_)
          rotate_left
          · refine two_ (i := 5) (j := 9) (Ni := some 66) (Nj := some 11) #[true, true, true, true, true, true, false, false, false, false, false, false] #[true, true, true, true, true, false, false, false, false, true, false, false] rfl rfl rfl rfl (by kernel_rfl) (by decide) (by decide) (fun K hK => ?_) (fun K hK => ?_)
            · refine goes_ Try.func21 (by kernel_rfl) rfl #[.agg #[.pointer p], .string k] (by rfl) rfl rfl (by (try simp only [List.map_toArray, List.map_cons, List.map_nil]); first | done | rfl) ?_
              refine (delS (st.later hw0).bm.tree hm).mono ?_
              rintro e y ⟨p', b, t', rfl, hG, ht, hy⟩
              refine ⟨_, rfl, ?_⟩
              refine hK.out _ _ (sOf _ (hw0.trans (hy.mono hw0.size))) (fun hHeld => ?_)
              clear hK K
              refine norm_ (a' := ?_) ?_ ?_
              rotate_left
              · show Act.put _ (some 66) _ = _
                simp only [Act.put, List.setIfInBounds_toArray, List.set_cons_zero, List.set_cons_succ, i64_w, i32_w]
                rfl
              refine pure_ (i := 6) (N := some 60) (v := ?_) (a' := ?_) #[true, true, true, true, true, true, true, false, false, false, false, false] rfl rfl (by kernel_rfl) (fun _ _ _ h => h) (Or.inl ⟨by rfl, ?_⟩) ?_ ?_
              rotate_left
              · intro w'
                go_simp
                with_reducible rfl
              rotate_left
              · simp only [Act.put, List.setIfInBounds_toArray, List.set_cons_zero, List.set_cons_succ, i64_w, i32_w]
                rfl
              refine pure_ (i := 7) (N := some 67) (v := ?_) (a' := ?_) #[true, true, true, true, true, true, true, true, false, false, false, false] rfl rfl (by kernel_rfl) (fun _ _ _ h => h) (Or.inl ⟨by rfl, ?_⟩) ?_ ?_
              rotate_left
              · intro w'
                go_simp
                with_reducible rfl
              rotate_left
              · simp only [Act.put, List.setIfInBounds_toArray, List.set_cons_zero, List.set_cons_succ, i64_w, i32_w]
                rfl
              refine pure_ (i := 8) (N := some 68) (v := ?_) (a' := ?_) #[true, true, true, true, true, true, true, true, true, false, false, false] rfl rfl (by kernel_rfl) (fun _ _ _ h => h) (Or.inl ⟨by rfl, ?_⟩) ?_ ?_
              rotate_left
              · intro w'
                go_simp
                with_reducible rfl
              rotate_left
              · simp only [Act.put, List.setIfInBounds_toArray, List.set_cons_zero, List.set_cons_succ, i64_w, i32_w]
                rfl
              have hy0 := hw0.trans (hy.mono hw0.size)
              refine one_ (i := 9) (N := some 11) #[true, true, true, true, true, true, true, true, true, true, false, false] rfl rfl (by kernel_rfl) (by decide) (fun K hK => ?_)
              refine value_ (w1 := ?_) (v := ?_) (by rfl) rfl ?_ ?_
              rotate_left 2
              · go_simp
                constructor <;> with_reducible rfl
              refine hK.out _ _ (sOf _ (hy0.trans ((SI.below_one y (.cells #[.pointer none] 44)).mono hy0.size))) (fun hHeld => ?_)
              clear hK K
              refine norm_ (a' := ?_) ?_ ?_
              rotate_left
              · show Act.put _ (some 11) _ = _
                simp only [Act.put, List.setIfInBounds_toArray, List.set_cons_zero, List.set_cons_succ, i64_w, i32_w]
                rfl
              refine norm_ (a' := putAll _ _) ?_ (hJ (p', b, y.heap.size, t') _ ⟨hy0.trans ((SI.below_one y (.cells #[.pointer none] 44)).mono hy0.size), ht.later (SI.below_one y (.cells #[.pointer none] 44)), hG, SI.MBox.new (st.later hy0).below.size rfl, hy0.size⟩)
              simp only [putAll, Act.put, List.setIfInBounds_toArray, List.set_cons_zero, List.set_cons_succ, i64_w, i32_w]
            · refine value_ (w1 := ?_) (v := ?_) (by rfl) rfl ?_ ?_
              rotate_left 2
              · go_simp
                constructor <;> with_reducible rfl
              have hw1 : Below x.heap.size x (x.alloc (.cells #[.pointer none] 44)).drew := Below.drew (SI.below_one x (.cells #[.pointer none] 44))
              refine hK.out _ _ (sOf _ hw1) (fun hHeld => ?_)
              clear hK K
              refine norm_ (a' := ?_) ?_ ?_
              rotate_left
              · show Act.put _ (some 11) _ = _
                simp only [Act.put, List.setIfInBounds_toArray, List.set_cons_zero, List.set_cons_succ, i64_w, i32_w]
                rfl
              refine one_ (i := 5) (N := some 66) #[true, true, true, true, true, true, false, false, false, true, false, false] rfl rfl (by kernel_rfl) (by decide) (fun K hK => ?_)
              refine goes_ Try.func21 (by kernel_rfl) rfl #[.agg #[.pointer p], .string k] (by rfl) rfl rfl (by (try simp only [List.map_toArray, List.map_cons, List.map_nil]); first | done | rfl) ?_
              refine (delS (st.later hw1).bm.tree hm).mono ?_
              rintro e y ⟨p', b, t', rfl, hG, ht, hy⟩
              refine ⟨_, rfl, ?_⟩
              refine hK.out _ _ (sOf _ (hw1.trans (hy.mono hw1.size))) (fun hHeld => ?_)
              clear hK K
              refine norm_ (a' := ?_) ?_ ?_
              rotate_left
              · show Act.put _ (some 66) _ = _
                simp only [Act.put, List.setIfInBounds_toArray, List.set_cons_zero, List.set_cons_succ, i64_w, i32_w]
                rfl
              refine pure_ (i := 6) (N := some 60) (v := ?_) (a' := ?_) #[true, true, true, true, true, true, true, false, false, true, false, false] rfl rfl (by kernel_rfl) (fun _ _ _ h => h) (Or.inl ⟨by rfl, ?_⟩) ?_ ?_
              rotate_left
              · intro w'
                go_simp
                with_reducible rfl
              rotate_left
              · simp only [Act.put, List.setIfInBounds_toArray, List.set_cons_zero, List.set_cons_succ, i64_w, i32_w]
                rfl
              refine pure_ (i := 7) (N := some 67) (v := ?_) (a' := ?_) #[true, true, true, true, true, true, true, true, false, true, false, false] rfl rfl (by kernel_rfl) (fun _ _ _ h => h) (Or.inl ⟨by rfl, ?_⟩) ?_ ?_
              rotate_left
              · intro w'
                go_simp
                with_reducible rfl
              rotate_left
              · simp only [Act.put, List.setIfInBounds_toArray, List.set_cons_zero, List.set_cons_succ, i64_w, i32_w]
                rfl
              refine pure_ (i := 8) (N := some 68) (v := ?_) (a' := ?_) #[true, true, true, true, true, true, true, true, true, true, false, false] rfl rfl (by kernel_rfl) (fun _ _ _ h => h) (Or.inl ⟨by rfl, ?_⟩) ?_ ?_
              rotate_left
              · intro w'
                go_simp
                with_reducible rfl
              rotate_left
              · simp only [Act.put, List.setIfInBounds_toArray, List.set_cons_zero, List.set_cons_succ, i64_w, i32_w]
                rfl
              have hy0 := hw1.trans (hy.mono hw1.size)
              have hbx : SI.MBox w.heap.size (x.alloc (.cells #[.pointer none] 44)).drew x.heap.size none .nil := (SI.MBox.new (p := none) (t := .nil) st.below.size rfl).below (Below.drew (Below.refl _ _))
              refine norm_ (a' := putAll _ _) ?_ (hJ (p', b, x.heap.size, t') _ ⟨hy0, ht, hG, hbx.below hy, Nat.le_refl _⟩)
              simp only [putAll, Act.put, List.setIfInBounds_toArray, List.set_cons_zero, List.set_cons_succ, i64_w, i32_w]
          rintro ⟨p', b, B, t'⟩ y ⟨hy, ht, hG, hB, hxB⟩
          refine norm_ (a' := ?_) ?_ ?_
          rotate_left
          · simp only [putAll, Act.put, List.setIfInBounds_toArray, List.set_cons_zero, List.set_cons_succ, i64_w, i32_w]
            rfl
          have eB := hB.cell
          have fB := hB.fr
          refine last_ (i := 10) (N := none) #[true, true, true, true, true, true, true, true, true, true, true, false] rfl rfl (by kernel_rfl) (by decide) (fun K hK => ?_)
          refine skip_ (w1 := ?_) (by rfl) rfl ?_ ?_
          rotate_left
          · go_simp
            with_reducible rfl
          refine hK.out _ _ ?_
          clear hK K
          refine pure_ (i := 11) (N := some 12) (v := ?_) (a' := ?_) #[true, true, true, true, true, true, true, true, true, true, true, true] rfl rfl (by kernel_rfl) (fun _ _ _ h => h) (Or.inl ⟨by rfl, ?_⟩) ?_ ?_
          rotate_left
          · intro w'
            go_simp
            with_reducible rfl
          rotate_left
          · simp only [Act.put, List.setIfInBounds_toArray, List.set_cons_zero, List.set_cons_succ, i64_w, i32_w]
            rfl
          refine done_ (by kernel_rfl) ?_
          have st := (st.later hy).farM hB (by have := st.bm.lt; omega) (by have := st.bn.lt; omega) (.pointer p')
          have mB := hB.set ht
          have lB : w.heap.size + 1 < B := Nat.lt_of_lt_of_le (st0'.bn.lt) hxB
          generalize y.setCell ⟨B, 0, none⟩ (.pointer p') = x1 at st mB ⊢
          clear hB ht hy hxB sOf hw0 e0 eB fB
          have ec := st.bn.cell
          go_upto_region 14 with (go_at_call 22; refine (delI st.bn.tree hn).mono ?_; rintro e y ⟨q', d, n', rfl, hD, ht, hy⟩)
          obtain ⟨rfl, tw⟩ := gone_both tw hkl hG hD
          have st := st.later hy
          have mB := mB.below hy
          have mC : II.MBox w.heap.size (y.alloc (.cells #[.pointer q'] 28)) y.heap.size q' n' := II.MBox.new st.below.size ht
          have lC := st.bn.lt
          have lC2 := mB.lt
          have st := st.later (II.below_one y (.cells #[.pointer q'] 28))
          have mB := mB.below (II.below_one y (.cells #[.pointer q'] 28))
          obtain ⟨C, hC⟩ : ∃ C, C = y.heap.size := ⟨_, rfl⟩
          rw [← hC] at lC lC2 mC ⊢
          clear ht hy ec
          generalize y.alloc (.cells #[.pointer q'] 28) = x2 at st mB mC ⊢
          clear hC
          go_upto_region 16 with fail
          have sOf : ∀ y, Below x2.heap.size x2 y → y.cell? ⟨B, 0, none⟩ = some (.pointer p') ∧ y.cell? ⟨C, 0, none⟩ = some (.pointer q') := fun y hy => ⟨(mB.below hy).cell, (mC.below hy).cell⟩
          have hv0 : Below x2.heap.size x2 x2.drew := Below.drew (Below.refl _ _)
          refine start_ (n := 4) (S := fun w' => w'.cell? ⟨B, 0, none⟩ = some (.pointer p') ∧ w'.cell? ⟨C, 0, none⟩ = some (.pointer q')) (ds := []) #[false, false, false, false] (by kernel_rfl) rfl rfl (sOf _ (Below.drew (Below.refl _ _))) (fun hHeld => ?_)
          refine take_ (i := 0) (N := some 78) (v := ?_) (a' := ?_) #[true, false, false, false] rfl rfl (by kernel_rfl) (fun _ _ _ h => h) (Or.inl ⟨by rfl, ?_⟩) hHeld ?_ ?_
          rotate_left
          · rintro w' ⟨s0, s1⟩
            go_simp
            with_reducible rfl
          rotate_left
          · simp only [Act.put, List.setIfInBounds_toArray, List.set_cons_zero, List.set_cons_succ, i64_w, i32_w]
            rfl
          refine take_ (i := 1) (N := some 79) (v := ?_) (a' := ?_) #[true, true, false, false] rfl rfl (by kernel_rfl) (fun _ _ _ h => h) (Or.inl ⟨by rfl, ?_⟩) hHeld ?_ ?_
          rotate_left
          · rintro w' ⟨s0, s1⟩
            go_simp
            with_reducible rfl
          rotate_left
          · simp only [Act.put, List.setIfInBounds_toArray, List.set_cons_zero, List.set_cons_succ, i64_w, i32_w]
            rfl
          have e16 := st.bn.cell
          have f16 := st.bn.fr
          have st := st.later hv0
          have mB := mB.below hv0
          have mC := mC.below hv0
          have eb := st.bm.cell
          have fb := st.bm.fr
          refine one_ (i := 2) (N := none) #[true, true, true, false] rfl rfl (by kernel_rfl) (by decide) (fun K hK => ?_)
          refine skip_ (w1 := ?_) (by rfl) rfl ?_ ?_
          rotate_left
          · go_simp
            with_reducible rfl
          refine hK.out _ _ ⟨(mB.far st.bm.tag (by omega) _).cell, (mC.farS st.bm.tag (by omega) _).cell⟩ (fun hHeld => ?_)
          clear hK K
          have st2 := st.setM mB.tree
          have mB2 := mB.far st.bm.tag (by omega) (.pointer p')
          have mC2 := mC.farS st.bm.tag (by omega) (.pointer p')
          have ec := st2.bn.cell
          have fc := st2.bn.fr
          refine one_ (i := 3) (N := none) #[true, true, true, true] rfl rfl (by kernel_rfl) (by decide) (fun K hK => ?_)
          refine skip_ (w1 := ?_) (by rfl) rfl ?_ ?_
          rotate_left
          · go_simp
            with_reducible rfl
          refine hK.out _ _ ⟨(mB2.farI st2.bn.tag (by omega) _).cell, (mC2.far st2.bn.tag (by omega) _).cell⟩ (fun hHeld => ?_)
          clear hK K
          refine done_ (by kernel_rfl) ?_
          have st := st2.setN mC2.tree
          go_wp2
          go_roundg (l.length - (i + 1))
          case measure => have := HN.out; omega
          case rel => exact ⟨i + 1, rfl, by omega, ⟨_, _, _, _, st, tw⟩, rfl⟩
        | false =>
          go_upto_region 17 with fail
          have sOf : ∀ y, Below x.heap.size x y → y.cell? ⟨w.heap.size, 0, none⟩ = some (.pointer p) ∧ y.cell? ⟨w.heap.size + 1, 0, none⟩ = some (.pointer q) ∧ y.cell? ⟨cb, co + i, none⟩ = some (.string k) := fun y hy => ⟨(st.later hy).bm.cell, (st.later hy).bn.cell, hw _ (st.later hy).below⟩
          have hw0 : Below x.heap.size x x.drew := Below.drew (Below.refl _ _)
          have tw := tw.put hkl (i : Int)
          refine start_ (n := 13) (S := fun w' => w'.cell? ⟨w.heap.size, 0, none⟩ = some (.pointer p) ∧ w'.cell? ⟨w.heap.size + 1, 0, none⟩ = some (.pointer q) ∧ w'.cell? ⟨cb, co + i, none⟩ = some (.string k)) (ds := [11, 12]) #[false, false, false, false, false, false, false, false, false, false, false, false, false] (by kernel_rfl) rfl rfl (sOf _ (Below.drew (Below.refl _ _))) (fun hHeld => ?_)
          refine take_ (i := 0) (N := some 80) (v := ?_) (a' := ?_) #[true, false, false, false, false, false, false, false, false, false, false, false, false] rfl rfl (by kernel_rfl) (fun _ _ _ h => h) (Or.inl ⟨by rfl, ?_⟩) hHeld ?_ ?_
          rotate_left
          · rintro w' ⟨s0, s1, s2⟩
            go_simp
            with_reducible rfl
          rotate_left
          · simp only [Act.put, List.setIfInBounds_toArray, List.set_cons_zero, List.set_cons_succ, i64_w, i32_w]
            rfl
          refine pure_ (i := 1) (N := some 81) (v := ?_) (a' := ?_) #[true, true, false, false, false, false, false, false, false, false, false, false, false] rfl rfl (by kernel_rfl) (fun _ _ _ h => h) (Or.inl ⟨by rfl, ?_⟩) ?_ ?_
          rotate_left
          · intro w'
            go_simp
            with_reducible rfl
          rotate_left
          · simp only [Act.put, List.setIfInBounds_toArray, List.set_cons_zero, List.set_cons_succ, i64_w, i32_w]
            rfl
          refine pure_ (i := 2) (N := some 82) (v := ?_) (a' := ?_) #[true, true, true, false, false, false, false, false, false, false, false, false, false] rfl rfl (by kernel_rfl) (fun _ _ _ h => h) (Or.inl ⟨by rfl, ?_⟩) ?_ ?_
          rotate_left
          · intro w'
            go_simp
            with_reducible rfl
          rotate_left
          · simp only [Act.put, List.setIfInBounds_toArray, List.set_cons_zero, List.set_cons_succ, i64_w, i32_w]
            rfl
          refine pure_ (i := 3) (N := some 83) (v := ?_) (a' := ?_) #[true, true, true, true, false, false, false, false, false, false, false, false, false] rfl rfl (by kernel_rfl) (fun _ _ _ h => h) (Or.inl ⟨by rfl, ?_⟩) ?_ ?_
          rotate_left
          · intro w'
            go_simp
            with_reducible rfl
          rotate_left
          · simp only [Act.put, List.setIfInBounds_toArray, List.set_cons_zero, List.set_cons_succ, i64_w, i32_w]
            rfl
          refine take_ (i := 4) (N := some 84) (v := ?_) (a' := ?_) #[true, true, true, true, true, false, false, false, false, false, false, false, false] rfl rfl (by kernel_rfl) (fun _ _ _ h => h) (Or.inl ⟨by rfl, ?_⟩) hHeld ?_ ?_
          rotate_left
          · rintro w' ⟨s0, s1, s2⟩
            go_simp
            with_reducible rfl
          rotate_left
          · simp only [Act.put, List.setIfInBounds_toArray, List.set_cons_zero, List.set_cons_succ, i64_w, i32_w]
            rfl
          refine pure_ (i := 5) (N := some 85) (v := ?_) (a' := ?_) #[true, true, true, true, true, true, false, false, false, false, false, false, false] rfl rfl (by kernel_rfl) (fun _ _ _ h => h) (Or.inl ⟨by rfl, ?_⟩) ?_ ?_
          rotate_left
          · intro w'
            go_simp
            with_reducible rfl
          rotate_left
          · simp only [Act.put, List.setIfInBounds_toArray, List.set_cons_zero, List.set_cons_succ, i64_w, i32_w]
            rfl
          refine take_ (i := 7) (N := some 87) (v := ?_) (a' := ?_) #[true, true, true, true, true, true, false, true, false, false, false, false, false] rfl rfl (by kernel_rfl) (fun _ _ _ h => h) (Or.inl ⟨by rfl, ?_⟩) hHeld ?_ ?_
          rotate_left
          · rintro w' ⟨s0, s1, s2⟩
            go_simp
            with_reducible rfl
          rotate_left
          · simp only [Act.put, List.setIfInBounds_toArray, List.set_cons_zero, List.set_cons_succ, i64_w, i32_w]
            rfl
          refine pure_ (i := 8) (N := some 88) (v := ?_) (a' := ?_) #[true, true, true, true, true, true, false, true, true, false, false, false, false] rfl rfl (by kernel_rfl) (fun _ _ _ h => h) (Or.inl ⟨by rfl, ?_⟩) ?_ ?_
          rotate_left
          · intro w'
            go_simp
            with_reducible rfl
          rotate_left
          · simp only [Act.put, List.setIfInBounds_toArray, List.set_cons_zero, List.set_cons_succ, i64_w, i32_w]
            rfl
          refine pure_ (i := 9) (N := some 89) (v := ?_) (a' := ?_) #[true, true, true, true, true, true, false, true, true, true, false, false, false] rfl rfl (by kernel_rfl) (fun _ _ _ h => h) (Or.inl ⟨by rfl, ?_⟩) ?_ ?_
          rotate_left
          · intro w'
            go_simp
            with_reducible rfl
          rotate_left
          · simp only [Act.put, List.setIfInBounds_toArray, List.set_cons_zero, List.set_cons_succ, i64_w, i32_w]
            rfl
          refine one_ (i := 6) (N := some 86) #[true, true, true, true, true, true, true, true, true, true, false, false, false] rfl rfl (by kernel_rfl) (by decide) (fun K hK => ?_)
          refine goes_ Try.func23 (by kernel_rfl) rfl #[.agg #[.pointer p], .string k, .int .i64 i] (by rfl) rfl rfl (by (try simp only [List.map_toArray, List.map_cons, List.map_nil]); first | done | rfl) ?_
          refine (SI.Put_any m k i p _ (st.later hw0).bm.tree (by omega)).mono ?_
          rintro e x1 ⟨p', rfl, hp', hx1⟩
          refine ⟨_, rfl, ?_⟩
          refine hK.out _ _ (sOf _ (hw0.trans (hx1.mono hw0.size))) (fun hHeld => ?_)
          clear hK K
          refine norm_ (a' := ?_) ?_ ?_
          rotate_left
          · show Act.put _ (some 86) _ = _
            simp only [Act.put, List.setIfInBounds_toArray, List.set_cons_zero, List.set_cons_succ, i64_w, i32_w]
            rfl
          have hw1 := hw0.trans (hx1.mono hw0.size)
          refine one_ (i := 10) (N := some 90) #[true, true, true, true, true, true, true, true, true, true, true, false, false] rfl rfl (by kernel_rfl) (by decide) (fun K hK => ?_)
          refine goes_ Try.func24 (by kernel_rfl) rfl #[.agg #[.pointer q], .int .i64 (rk l k), .int .i64 i] (by rfl) rfl rfl (by (try simp only [List.map_toArray, List.map_cons, List.map_nil]); first | done | rfl) ?_
          refine (II.Put_any n (rk l k) i q _ (st.later hw1).bn.tree (by omega)).mono ?_
          rintro e x2 ⟨q', rfl, hq', hx2⟩
          refine ⟨_, rfl, ?_⟩
          refine hK.out _ _ (sOf _ (hw1.trans (hx2.mono hw1.size))) (fun hHeld => ?_)
          clear hK K
          refine norm_ (a' := ?_) ?_ ?_
          rotate_left
          · show Act.put _ (some 90) _ = _
            simp only [Act.put, List.setIfInBounds_toArray, List.set_cons_zero, List.set_cons_succ, i64_w, i32_w]
            rfl
          have hw2 := hw1.trans (hx2.mono hw1.size)
          have st := st.later hw2
          have eb := st.bm.cell
          have fb := st.bm.fr
          have tb := st.bm.tag
          refine last_ (i := 11) (N := none) #[true, true, true, true, true, true, true, true, true, true, true, true, false] rfl rfl (by kernel_rfl) (by decide) (fun K hK => ?_)
          refine skip_ (w1 := ?_) (by rfl) rfl ?_ ?_
          rotate_left
          · go_simp
            with_reducible rfl
          refine hK.out _ _ ?_
          clear hK K
          have st := st.setM (hp'.later hx2)
          have ec := st.bn.cell
          have fc := st.bn.fr
          refine last_ (i := 12) (N := none) #[true, true, true, true, true, true, true, true, true, true, true, true, true] rfl rfl (by kernel_rfl) (by decide) (fun K hK => ?_)
          refine skip_ (w1 := ?_) (by rfl) rfl ?_ ?_
          rotate_left
          · go_simp
            with_reducible rfl
          refine hK.out _ _ ?_
          clear hK K
          refine done_ (by kernel_rfl) ?_
          have st := st.setN (hq'.stored (a := ⟨w.heap.size, 0, none⟩) tb (by decide) _)
          go_wp2
          go_roundg (l.length - (i + 1))
          case measure => have := HN.out; omega
          case rel => exact ⟨i + 1, rfl, by omega, ⟨_, _, _, _, st, tw⟩, rfl⟩
      · have hgl' : ¬ (i : Int) < (gl : Int) := by omega
        go_upto_region 17 with fail
        have sOf : ∀ y, Below x.heap.size x y → y.cell? ⟨w.heap.size, 0, none⟩ = some (.pointer p) ∧ y.cell? ⟨w.heap.size + 1, 0, none⟩ = some (.pointer q) ∧ y.cell? ⟨cb, co + i, none⟩ = some (.string k) := fun y hy => ⟨(st.later hy).bm.cell, (st.later hy).bn.cell, hw _ (st.later hy).below⟩
        have hw0 : Below x.heap.size x x.drew := Below.drew (Below.refl _ _)
        have tw := tw.put hkl (i : Int)
        refine start_ (n := 13) (S := fun w' => w'.cell? ⟨w.heap.size, 0, none⟩ = some (.pointer p) ∧ w'.cell? ⟨w.heap.size + 1, 0, none⟩ = some (.pointer q) ∧ w'.cell? ⟨cb, co + i, none⟩ = some (.string k)) (ds := [11, 12]) #[false, false, false, false, false, false, false, false, false, false, false, false, false] (by kernel_rfl) rfl rfl (sOf _ (Below.drew (Below.refl _ _))) (fun hHeld => ?_)
        refine take_ (i := 0) (N := some 80) (v := ?_) (a' := ?_) #[true, false, false, false, false, false, false, false, false, false, false, false, false] rfl rfl (by kernel_rfl) (fun _ _ _ h => h) (Or.inl ⟨by rfl, ?_⟩) hHeld ?_ ?_
        rotate_left
        · rintro w' ⟨s0, s1, s2⟩
          go_simp
          with_reducible rfl
        rotate_left
        · simp only [Act.put, List.setIfInBounds_toArray, List.set_cons_zero, List.set_cons_succ, i64_w, i32_w]
          rfl
        refine pure_ (i := 1) (N := some 81) (v := ?_) (a' := ?_) #[true, true, false, false, false, false, false, false, false, false, false, false, false] rfl rfl (by kernel_rfl) (fun _ _ _ h => h) (Or.inl ⟨by rfl, ?_⟩) ?_ ?_
        rotate_left
        · intro w'
          go_simp
          with_reducible rfl
        rotate_left
        · simp only [Act.put, List.setIfInBounds_toArray, List.set_cons_zero, List.set_cons_succ, i64_w, i32_w]
          rfl
        refine pure_ (i := 2) (N := some 82) (v := ?_) (a' := ?_) #[true, true, true, false, false, false, false, false, false, false, false, false, false] rfl rfl (by kernel_rfl) (fun _ _ _ h => h) (Or.inl ⟨by rfl, ?_⟩) ?_ ?_
        rotate_left
        · intro w'
          go_simp
          with_reducible rfl
        rotate_left
        · simp only [Act.put, List.setIfInBounds_toArray, List.set_cons_zero, List.set_cons_succ, i64_w, i32_w]
          rfl
        refine pure_ (i := 3) (N := some 83) (v := ?_) (a' := ?_) #[true, true, true, true, false, false, false, false, false, false, false, false, false] rfl rfl (by kernel_rfl) (fun _ _ _ h => h) (Or.inl ⟨by rfl, ?_⟩) ?_ ?_
        rotate_left
        · intro w'
          go_simp
          with_reducible rfl
        rotate_left
        · simp only [Act.put, List.setIfInBounds_toArray, List.set_cons_zero, List.set_cons_succ, i64_w, i32_w]
          rfl
        refine take_ (i := 4) (N := some 84) (v := ?_) (a' := ?_) #[true, true, true, true, true, false, false, false, false, false, false, false, false] rfl rfl (by kernel_rfl) (fun _ _ _ h => h) (Or.inl ⟨by rfl, ?_⟩) hHeld ?_ ?_
        rotate_left
        · rintro w' ⟨s0, s1, s2⟩
          go_simp
          with_reducible rfl
        rotate_left
        · simp only [Act.put, List.setIfInBounds_toArray, List.set_cons_zero, List.set_cons_succ, i64_w, i32_w]
          rfl
        refine pure_ (i := 5) (N := some 85) (v := ?_) (a' := ?_) #[true, true, true, true, true, true, false, false, false, false, false, false, false] rfl rfl (by kernel_rfl) (fun _ _ _ h => h) (Or.inl ⟨by rfl, ?_⟩) ?_ ?_
        rotate_left
        · intro w'
          go_simp
          with_reducible rfl
        rotate_left
        · simp only [Act.put, List.setIfInBounds_toArray, List.set_cons_zero, List.set_cons_succ, i64_w, i32_w]
          rfl
        refine take_ (i := 7) (N := some 87) (v := ?_) (a' := ?_) #[true, true, true, true, true, true, false, true, false, false, false, false, false] rfl rfl (by kernel_rfl) (fun _ _ _ h => h) (Or.inl ⟨by rfl, ?_⟩) hHeld ?_ ?_
        rotate_left
        · rintro w' ⟨s0, s1, s2⟩
          go_simp
          with_reducible rfl
        rotate_left
        · simp only [Act.put, List.setIfInBounds_toArray, List.set_cons_zero, List.set_cons_succ, i64_w, i32_w]
          rfl
        refine pure_ (i := 8) (N := some 88) (v := ?_) (a' := ?_) #[true, true, true, true, true, true, false, true, true, false, false, false, false] rfl rfl (by kernel_rfl) (fun _ _ _ h => h) (Or.inl ⟨by rfl, ?_⟩) ?_ ?_
        rotate_left
        · intro w'
          go_simp
          with_reducible rfl
        rotate_left
        · simp only [Act.put, List.setIfInBounds_toArray, List.set_cons_zero, List.set_cons_succ, i64_w, i32_w]
          rfl
        refine pure_ (i := 9) (N := some 89) (v := ?_) (a' := ?_) #[true, true, true, true, true, true, false, true, true, true, false, false, false] rfl rfl (by kernel_rfl) (fun _ _ _ h => h) (Or.inl ⟨by rfl, ?_⟩) ?_ ?_
        rotate_left
        · intro w'
          go_simp
          with_reducible rfl
        rotate_left
        · simp only [Act.put, List.setIfInBounds_toArray, List.set_cons_zero, List.set_cons_succ, i64_w, i32_w]
          rfl
        refine one_ (i := 6) (N := some 86) #[true, true, true, true, true, true, true, true, true, true, false, false, false] rfl rfl (by kernel_rfl) (by decide) (fun K hK => ?_)
        refine goes_ Try.func23 (by kernel_rfl) rfl #[.agg #[.pointer p], .string k, .int .i64 i] (by rfl) rfl rfl (by (try simp only [List.map_toArray, List.map_cons, List.map_nil]); first | done | rfl) ?_
        refine (SI.Put_any m k i p _ (st.later hw0).bm.tree (by omega)).mono ?_
        rintro e x1 ⟨p', rfl, hp', hx1⟩
        refine ⟨_, rfl, ?_⟩
        refine hK.out _ _ (sOf _ (hw0.trans (hx1.mono hw0.size))) (fun hHeld => ?_)
        clear hK K
        refine norm_ (a' := ?_) ?_ ?_
        rotate_left
        · show Act.put _ (some 86) _ = _
          simp only [Act.put, List.setIfInBounds_toArray, List.set_cons_zero, List.set_cons_succ, i64_w, i32_w]
          rfl
        have hw1 := hw0.trans (hx1.mono hw0.size)
        refine one_ (i := 10) (N := some 90) #[true, true, true, true, true, true, true, true, true, true, true, false, false] rfl rfl (by kernel_rfl) (by decide) (fun K hK => ?_)
        refine goes_ Try.func24 (by kernel_rfl) rfl #[.agg #[.pointer q], .int .i64 (rk l k), .int .i64 i] (by rfl) rfl rfl (by (try simp only [List.map_toArray, List.map_cons, List.map_nil]); first | done | rfl) ?_
        refine (II.Put_any n (rk l k) i q _ (st.later hw1).bn.tree (by omega)).mono ?_
        rintro e x2 ⟨q', rfl, hq', hx2⟩
        refine ⟨_, rfl, ?_⟩
        refine hK.out _ _ (sOf _ (hw1.trans (hx2.mono hw1.size))) (fun hHeld => ?_)
        clear hK K
        refine norm_ (a' := ?_) ?_ ?_
        rotate_left
        · show Act.put _ (some 90) _ = _
          simp only [Act.put, List.setIfInBounds_toArray, List.set_cons_zero, List.set_cons_succ, i64_w, i32_w]
          rfl
        have hw2 := hw1.trans (hx2.mono hw1.size)
        have st := st.later hw2
        have eb := st.bm.cell
        have fb := st.bm.fr
        have tb := st.bm.tag
        refine last_ (i := 11) (N := none) #[true, true, true, true, true, true, true, true, true, true, true, true, false] rfl rfl (by kernel_rfl) (by decide) (fun K hK => ?_)
        refine skip_ (w1 := ?_) (by rfl) rfl ?_ ?_
        rotate_left
        · go_simp
          with_reducible rfl
        refine hK.out _ _ ?_
        clear hK K
        have st := st.setM (hp'.later hx2)
        have ec := st.bn.cell
        have fc := st.bn.fr
        refine last_ (i := 12) (N := none) #[true, true, true, true, true, true, true, true, true, true, true, true, true] rfl rfl (by kernel_rfl) (by decide) (fun K hK => ?_)
        refine skip_ (w1 := ?_) (by rfl) rfl ?_ ?_
        rotate_left
        · go_simp
          with_reducible rfl
        refine hK.out _ _ ?_
        clear hK K
        refine done_ (by kernel_rfl) ?_
        have st := st.setN (hq'.stored (a := ⟨w.heap.size, 0, none⟩) tb (by decide) _)
        go_wp2
        go_roundg (l.length - (i + 1))
        case measure => have := HN.out; omega
        case rel => exact ⟨i + 1, rfl, by omega, ⟨_, _, _, _, st, tw⟩, rfl⟩
    · obtain rfl : i = l.length := by omega
      clear hlt hi HN hg
      have hm : m.size ≤ 1099511627776 := by have := tw.size; omega
      have hn : n.size ≤ 1099511627776 := by have := tw.size'; omega
      have hm1 : m.size + 1 ≤ 1099511627776 := by have := tw.size; omega
      have hlenX := T.length_toList m
      obtain ⟨cz1, cz2⟩ := cut_rank cut m tw.sorted
      have zs := (size_img tw.img).symm
      have zr := (rank_img cut tw.sorted tw.keys tw.img).symm
      have him := tw.img
      have c0 : ∀ y, Below wr.heap.size wr y → y.cell? ⟨w.heap.size, 0, none⟩ = some (.pointer p) := fun y h => (st.later h).bm.cell
      have c1 : ∀ y, Below wr.heap.size wr y → y.cell? ⟨w.heap.size + 1, 0, none⟩ = some (.pointer q) := fun y h => (st.later h).bn.cell
      go_upto_region 18 with fail
      go_region_held3 (fun w' => Below wr.heap.size wr w') (repeat (first | assumption | exact Below.refl _ _ | apply Below.drew)) (first
        | (go_at_call 25; refine (st.pairsM hm (by assumption)).mono ?_; rintro e x1 ⟨P, cp, rfl, hcp, rP, hk1⟩)
        | (go_at_call 18; refine ((st.later hk1).pairsN hn l him (Below.refl _ _)).mono ?_; rintro e x2 ⟨Q, cq, rfl, hcq, rQ, hx2⟩; have hk2 := hk1.trans (hx2.mono hk1.size)))
      have st := st.later hk2
      have rP := rP.later hx2
      clear hk1 hx2 hk2 c0 c1
      have c0 : ∀ y, Below x2.heap.size x2 y → y.cell? ⟨w.heap.size, 0, none⟩ = some (.pointer p) := fun y h => (st.later h).bm.cell
      have c1 : ∀ y, Below x2.heap.size x2 y → y.cell? ⟨w.heap.size + 1, 0, none⟩ = some (.pointer q) := fun y h => (st.later h).bn.cell
      have hrow : ∀ y, Below x2.heap.size x2 y → Row1 y A l := fun y h => hr.later (st.later h).below
      go_upto_region 19 with fail
      go_region_held3 (fun w' => Below x2.heap.size x2 w') (repeat (first | assumption | exact Below.refl _ _ | apply Below.drew)) (first
        | (go_at_call 26; refine (st.lenM (by assumption)).mono ?_; rintro e x3 ⟨rfl, hk4⟩)
        | (go_at_call 17; refine (st.lenN zs (by assumption)).mono ?_; rintro e x4 ⟨rfl, hk5⟩)
        | (go_at_call 27; refine (st.rankM hm cut (by assumption)).mono ?_; rintro e x5 ⟨rfl, hk6⟩)
        | (go_at_call 20; refine (rank_any l hl A c hc cut _ (hrow _ (by assumption))).mono ?_; rintro e x6 ⟨rfl, hx6⟩; have hk7 := hk6.trans (hx6.mono hk6.size))
        | (go_at_call 28; refine (st.rankN hn cut _ zr (by assumption)).mono ?_; rintro e x7 ⟨rfl, hk8⟩))
      have st := st.later hk8
      have rP := rP.later hk8
      have rQ := rQ.later hk8
      clear hk4 hk5 hk6 hx6 hk7 hk8 c0 c1 hrow
      have hcp : m.size ≤ cp := by omega
      have hcq : m.size ≤ cq := by omega
      obtain ⟨X, hX⟩ : ∃ X, X = m.toList := ⟨_, rfl⟩
      rw [← hX] at hlenX rP rQ
      obtain ⟨N, hN⟩ : ∃ N, N = m.size := ⟨_, rfl⟩
      have HNX : Hid (X.length = N) := by rw [hN]; exact hlenX
      have hN' := Lib.hid hN
      have HX := Lib.hid hX
      have hNle : N ≤ 1099511627776 := by omega
      clear hlenX hX
      go_wp2_with fail
      simp only [← hN]
      rw [← hN] at hcp hcq
      clear hN
      go_loopg [17] N (fun k x17 wz => Below x7.heap.size x7 wz ∧ ∃ j : Nat, x17 = .int .i64 j ∧ j ≤ N ∧ Hid (N - j = k))
      case atStart => exact ⟨Below.refl _ _, 0, rfl, by omega, rfl⟩
      case round =>
        obtain ⟨hz, j, rfl, hj, HN⟩ := hrel
        have st := st.later hz
        have rP := rP.later hz
        have rQ := rQ.later hz
        by_cases hlt : j < N
        · have a1 : (j : Int) < (N : Int) := by omega
          have a2 : (0 : Int) ≤ (j : Int) := by omega
          have a3 : (j : Int) ≤ (N : Int) := by omega
          have a4 : IntKind.i64.wrap ((j : Int) + 1) = ((j + 1 : Nat) : Int) := by rw [IntKind.wrap_i64]; push_cast; omega
          obtain ⟨⟨s, v⟩, hx⟩ : ∃ x, X[j]? = some x := ⟨X[j]'(by have := HNX.out; omega), List.getElem?_eq_getElem (by have := HNX.out; omega)⟩
          have hx' : (img l X)[j]? = some ((rk l s : Int), v) := by rw [img, List.getElem?_map, hx]; rfl
          rcases rP with h0 | ⟨bP, oP, rfl, hbP, hcP⟩
          · exfalso; have := HNX.out; rw [h0] at this; simp at this; omega
          rcases rQ with h0 | ⟨bQ, oQ, rfl, hbQ, hcQ⟩
          · exfalso; rw [h0] at hx'; cases hx'
          have d0 : ∀ y, Below wr.heap.size wr y → y.cell? ⟨bP, oP + j * 2, none⟩ = some (.string s) := fun y h => (h.cell (p := ⟨bP, _, none⟩) hbP).trans (hcP j _ hx).1
          have d1 : ∀ y, Below wr.heap.size wr y → y.cell? ⟨bP, oP + j * 2 + 1, none⟩ = some (.int .i64 v) := fun y h => (h.cell (p := ⟨bP, _, none⟩) hbP).trans (hcP j _ hx).2
          have d2 : ∀ y, Below wr.heap.size wr y → y.cell? ⟨bQ, oQ + j * 2, none⟩ = some (.int .i64 (rk l s)) := fun y h => (h.cell (p := ⟨bQ, _, none⟩) hbQ).trans (hcQ j _ hx').1
          have d3 : ∀ y, Below wr.heap.size wr y → y.cell? ⟨bQ, oQ + j * 2 + 1, none⟩ = some (.int .i64 v) := fun y h => (h.cell (p := ⟨bQ, _, none⟩) hbQ).trans (hcQ j _ hx').2
          have hrow : ∀ y, Below wr.heap.size wr y → Row1 y A l := fun y h => hr.later (st.later h).below
          clear hcP hcQ
          go_upto_region 24 with fail
          go_region_held3 (fun w' => Below wr.heap.size wr w') (repeat (first | assumption | exact Below.refl _ _ | apply Below.drew)) (first
            | (go_at_call 20; refine (rank_any l hl A c hc s _ (hrow _ (by assumption))).mono ?_; rintro e x8 ⟨rfl, hx8⟩; have hk9 : Below wr.heap.size wr x8 := Below.trans (by assumption) (hx8.mono (Below.size (by assumption)))))
          go_wp2
          go_roundg (N - (j + 1))
          case measure => have := HN.out; omega
          case rel => exact ⟨hz.trans (Below.mono (by assumption) hz.size), j + 1, rfl, by omega, rfl⟩
        · obtain rfl : j = N := by omega
          clear hlt hj HN rP rQ hcp hcq HNX HX
          have c0 := st.bm.cell
          go_upto_region 27 with (go_at_call 29; refine (SI.Split_any m cut p _ st.bm.tree hm).mono ?_; rintro e x ⟨p1, p2, rfl, t1, t2, hx⟩)
          have st := st.later hx
          have hba := below_two x (.cells #[.pointer p1] 44) (.cells #[.pointer p2] 44)
          have b1 : SI.MBox w.heap.size ((x.alloc (.cells #[.pointer p1] 44)).alloc (.cells #[.pointer p2] 44)) x.heap.size p1 (T.cut cut m).1 := (SI.MBox.new (W := x) st.below.size t1).below (SI.below_one _ _)
          have b2 : SI.MBox w.heap.size ((x.alloc (.cells #[.pointer p1] 44)).alloc (.cells #[.pointer p2] 44)) (x.heap.size + 1) p2 (T.cut cut m).2.2 := by
            have := SI.MBox.new (n₀ := w.heap.size) (W := x.alloc (.cells #[.pointer p1] 44)) (by have := st.below.size; simp; omega) (t2.later (SI.below_one x (.cells #[.pointer p1] 44)))
            simpa using this
          have st := st.later hba
          generalize (x.alloc (.cells #[.pointer p1] 44)).alloc (.cells #[.pointer p2] 44) = W3 at st b1 b2 ⊢
          generalize x.heap.size = B1 at b1 b2 ⊢
          clear hx hba t1 t2 c0
          have hhi := SI.cut_sizes cut m
          obtain ⟨LO, hLO⟩ : ∃ X, X = (T.cut cut m).1 := ⟨_, rfl⟩
          obtain ⟨HI, hHI⟩ : ∃ X, X = (T.cut cut m).2.2 := ⟨_, rfl⟩
          rw [← hLO] at b1 cz1 cz2 hhi
          rw [← hHI] at b2 cz2 hhi
          clear hLO hHI hN'
          obtain ⟨R, hR⟩ : ∃ R, T.rank cut m = R := ⟨_, rfl⟩
          rw [hR] at cz1
          rw [cz1] at cz2 hhi
          obtain ⟨H, hH⟩ : ∃ H, HI.size = H := ⟨_, rfl⟩
          rw [hH] at cz2 hhi
          obtain ⟨M, hM⟩ : ∃ M, m.size = M := ⟨_, rfl⟩
          have hm' := hm
          rw [hM] at cz2 hhi hm'
          have hw1 : IntKind.i64.wrap ((R : Int) + (H : Int)) = (R : Int) + (H : Int) := by rw [IntKind.wrap_i64]; omega
          have hw2 : IntKind.i64.wrap ((M : Int) - 1) = (M : Int) - 1 := by rw [IntKind.wrap_i64]; omega
          have hge : (M : Int) - 1 ≤ (R : Int) + (H : Int) := by omega
          have HR := Lib.hid hR
          have HM := Lib.hid hM
          have HHI := Lib.hid hH
          have HLO := Lib.hid cz1
          clear hR hM hH cz1 cz2 hhi hm' zr zs him hr
          have f0 : ∀ y, Below W3.heap.size W3 y → y.cell? ⟨w.heap.size, 0, none⟩ = some (.pointer p) := fun y h => (st.later h).bm.cell
          have f1 : ∀ y, Below W3.heap.size W3 y → y.cell? ⟨B1, 0, none⟩ = some (.pointer p1) := fun y h => (b1.below h).cell
          have f2 : ∀ y, Below W3.heap.size W3 y → y.cell? ⟨B1 + 1, 0, none⟩ = some (.pointer p2) := fun y h => (b2.below h).cell
          go_region_held3 (fun w' => Below W3.heap.size W3 w') (repeat (first | assumption | exact Below.refl _ _ | apply Below.drew)) (first
            | (go_at_call 26; (with_reducible refine (lenBoxN b1 HLO.out (by assumption)).mono ?_); rintro e y1 ⟨rfl, hk1⟩)
            | (go_at_call 26; (with_reducible refine (lenBoxN b2 HHI.out (by assumption)).mono ?_); rintro e y2 ⟨rfl, hk2⟩)
            | (go_at_call 26; (with_reducible refine (lenBoxN st.bm HM.out (by assumption)).mono ?_); rintro e y3 ⟨rfl, hk3⟩)
            | (go_at_call 26; (with_reducible refine (lenNone (by assumption)).mono ?_); rintro e y6 ⟨rfl, hk6⟩)
            | (go_at_call 27; refine (rankBoxN st.bm hm cut HR.out (by assumption)).mono ?_; rintro e y4 ⟨rfl, hk4⟩)
            | (go_at_call 30; refine (st.none hm1 cut (by assumption)).mono ?_; rintro e y5 ⟨rfl, hk5⟩)
            | (go_at_call 13; refine (alive_later (by assumption)).mono ?_; rintro e y7 ⟨rfl, hk7⟩))
          go_wp2
          go_ret
          exact ⟨rfl, st.below.trans (Below.mono (by assumption) st.below.size)⟩
end Go.Proofs.MT
