/- The law TreeOf answers true for every list of rows, and the list reads as it did: no condition. Its argument is opened, the walk called, the argument shut. -/
import Derived.Test.YtnhngaadegebfaaRows
import Derived.Test.YtnhngaadegebfaaTreeOf
import Derived.WalkKit
import Derived.ProofKit
import Derived.OpenShut
import Derived.ShutString
import Derived.ChangeOld
import Derived.Below
import Derived.SizedLaws
import Derived.Deep.SlicePairs
namespace Go.Proofs.Ytnhngaadegebfaa.treeOf
open Go.ChangeShapes Go.WideShapes Go.ChangeAt Go.RowKit Go.Deep Go.Proofs.MT
open Go.Proofs.MT.II (ek ev)

theorem own : ownKnob Try.prog.godebug = none := by kernel_rfl
theorem laidOut : laidOutB Try.prog = true := by kernel_rfl

theorem open_rows {H : Type} {enc : TypeId × Value → H} {W : World} {sp : Nat → Bool} {a : Option Addr} {len cap fuel : Nat} {x : DataW H × List MemPlace}
    (h : DataW.trod enc Try.prog W 0 sp true fuel 22 [.slice a len cap] = some x) : ∃ l : List (Int × Int), l.length = len ∧ len ≤ cap ∧ Row2 ek ev W.heap.size W a l := by
  rcases open_slice_pairs Try.underlying22 Try.underlying38 (by kernel_rfl) rfl rfl (by kernel_rfl) (by kernel_rfl) h with ⟨hcs, _⟩ | ⟨a', len', cap', m, n, V0, V1, D0, D1, P0, P1, hcs, _, hl, hm, hmm, _, hall⟩
  · injection hcs with hcs
    injection hcs with h1 h2 h3
    subst h1 h2 h3
    exact ⟨[], rfl, Nat.le_refl _, .inl rfl⟩
  · injection hcs with hcs
    injection hcs with h1 h2 h3
    subst h1 h2 h3
    have hlm : len ≤ m := by rw [hmm]; split <;> omega
    have hint : ∀ i, i < len → ∃ x y : Int, V0 i = .int .i64 x ∧ V1 i = .int .i64 y := fun i hi => by
      obtain ⟨N0, h0, _, _⟩ := DataW.trod_int Try.underlying3 (hall i (by omega)).2.2.1
      obtain ⟨N1, h1, _, _⟩ := DataW.trod_int Try.underlying3 (hall i (by omega)).2.2.2
      simp only [List.cons.injEq, and_true] at h0 h1
      exact ⟨N0, N1, h0, h1⟩
    rcases Nat.eq_zero_or_pos len with h0 | h0
    · subst h0
      exact ⟨[], rfl, hl, .inl rfl⟩
    obtain ⟨f, hf⟩ := Go.Deep.choose_lt (n := len) (p := fun i (q : Int × Int) => V0 i = .int .i64 q.1 ∧ V1 i = .int .i64 q.2) fun i hi => by
      obtain ⟨x, y, h1, h2⟩ := hint i hi
      exact ⟨(x, y), h1, h2⟩
    obtain ⟨b, o, spot⟩ := a'
    have hspot : spot = none := by simpa [Addr.add] using World.cell?_spot (hall 0 (by omega)).1
    subst hspot
    have hb : b < W.heap.size := by
      have h00 := (hall 0 (by omega)).1
      rcases Nat.lt_or_ge b W.heap.size with h | h
      · exact h
      · exfalso
        simp [Addr.add, World.cell?, Array.getElem?_eq_none h] at h00
    refine ⟨(List.range len).map f, by simp, hl, .inr ⟨b, o, rfl, hb, fun i x hx => ?_⟩⟩
    rw [List.getElem?_map] at hx
    rcases Nat.lt_or_ge i len with hi | hi
    · rw [List.getElem?_range hi] at hx
      injection hx with hx
      subst hx
      obtain ⟨c0, c1, _, _⟩ := hall i (by omega)
      obtain ⟨e0, e1⟩ := hf i hi
      rw [e0, Go.WideShapes.add_plain] at c0
      rw [e1, Go.WideShapes.add_plain] at c1
      exact ⟨c0, c1⟩
    · rw [List.getElem?_eq_none (by simpa using hi)] at hx
      cases hx

set_option maxRecDepth 100000 in
theorem lifted (os : Os) (started : os.Started) (H : Type) (enc : TypeId × Value → H) :
    ReturnsInHanded {} Try.checked os 3 .any (Rows.treeOfSpec.pre6 enc Try.prog Try.f3 Rows.treeOfRow.domain false) (Rows.treeOfSpec.post enc Try.prog Try.f3 false true false false) := by
  refine returnsInHanded_of_change_sized (C := Try.checked) own started (by kernel_rfl) Try.func3
    (ChangeSpec.witness6 (enc := enc) (C := Try.checked) false ⟨#[], #[.slice none 0 0], []⟩ 8 (by kernel_rfl) (by kernel_rfl) (by kernel_rfl) (by kernel_rfl)) ?_
  intro W base args ds gs before hval0 hW hcnd hsz0 _
  have hval : ∀ (j : Nat) t v, Try.f3.params[j]? = some t → args[j]? = some v → Value.okWide Try.prog W .any base t v := hval0
  have hW' := hW
  obtain ⟨p, q, hA0, hV, rfl, hfz, hnd⟩ := hW
  have hA : DataW.TrodAll enc Try.prog W 0 (fun _ => true) true Try.f3.params.toList args.toList ds p := hA0
  rw [Try.params3] at hA hval
  obtain ⟨v0, vs0, d0, ds0, p0, q0, hargs, rfl, rfl, h0, r0⟩ := trodAll_cons hA
  obtain ⟨rfl, rfl, rfl⟩ := trodAll_nil r0
  obtain rfl : args = #[v0] := by cases args; simp_all
  obtain ⟨rfl, rfl⟩ := trodVars_none hV
  obtain ⟨a0, len0, cap0, rfl⟩ := okWide_slice Try.underlying22 (hval 0 22 v0 rfl rfl)
  have k0 := h0
  have lt0 : ∀ x ∈ p0, x.block < W.heap.size := by obtain ⟨m, hm⟩ := k0; exact DataW.trod_lt m _ _ _ hm
  obtain ⟨l, rfl, hc, hr⟩ : ∃ l : List (Int × Int), l.length = len0 ∧ len0 ≤ cap0 ∧ Row2 ek ev W.heap.size W a0 l := by
    obtain ⟨fuel, hf⟩ := h0
    exact open_rows hf
  clear hA0 hval0 hsz0
  refine (MT.II.TreeOf_any l a0 cap0 W hc hr).mono fun e W' ⟨he, bel⟩ => ?_
  subst he
  exact ⟨_, rfl, _, _, _, [], _, [], hW', trodAll_mk1 (shut_bool Try.underlying4 _), (trodAll_cons_mk (Below.trod laidOut (by kernel_rfl) (of_decide_eq_true (by kernel_rfl)) k0 bel lt0) trodAll_mk0), rfl, bel.frame _, fun h => by cases h⟩

theorem over : Rows.treeOfRow.holds Try.pinned (OpenSpec.ofChange Rows.treeOfSpec) :=
  OpenClaim.holds_of_wide 3 Try.f3 rfl rfl rfl rfl rfl rfl rfl ⟨rfl, rfl, rfl, rfl, rfl⟩ rfl rfl rfl rfl rfl (by kernel_rfl) Try.func3 (by kernel_rfl)
    (of_decide_eq_true (by kernel_rfl)) (by unfold Func.isWrapper; first | (rw [if_pos (by decide +kernel)]; kernel_rfl) | (rw [if_neg (by decide +kernel)]; exact ⟨rfl, rfl⟩))
    (fun os started H enc _ => lifted os started H enc)
theorem proved : Rows.TreeOfSaid := over
#print axioms proved
end Go.Proofs.Ytnhngaadegebfaa.treeOf
namespace Go.Proofs.Ytnhngaadegebfaa
/-- The row, under a short name, for the claim. -/
theorem treeOf_holds : Rows.TreeOfSaid := treeOf.proved
end Go.Proofs.Ytnhngaadegebfaa
