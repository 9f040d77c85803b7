/- The law TopDual answers true for every list of masses and every capacity, and the list reads as it did: no condition. Its arguments are opened, the walk called, the arguments shut. -/
import Derived.Test.YtnmjhpbfanmkgaaRows
import Derived.Test.YtnmjhpbfanmkgaaTd
import Derived.WalkKit
import Derived.ProofKit
import Derived.OpenShut
import Derived.ShutString
import Derived.ChangeOld
import Derived.Below
import Derived.SizedLaws
namespace Go.Proofs.Ytnmjhpbfanmkgaa.topDual
open Go.ChangeShapes Go.WideShapes Go.ChangeAt Go.RowKit Go.Proofs.Bins

theorem own : ownKnob Try.prog.godebug = none := by kernel_rfl
theorem laidOut : laidOutB Try.prog = true := by kernel_rfl

theorem open_held {H : Type} {enc : TypeId × Value → H} {W : World} {sp : Nat → Bool} {a : Option Addr} {len cap fuel : Nat} {x : DataW H × List MemPlace}
    (h : DataW.trod enc Try.prog W 0 sp true fuel 22 [.slice a len cap] = some x) : len ≤ 9223372036854775807 ∧ ∃ l : List Int, l.length = len ∧ Held W a cap l := by
  rcases open_ints Try.underlying22 Try.underlying3 (by kernel_rfl) h with ⟨hcs, _⟩ | ⟨x, l, c, zs, hcs, _, hl, hm, hz, _, hcell, hwz⟩
  · injection hcs with hcs
    injection hcs with h1 h2 h3
    subst h1 h2 h3
    exact ⟨by omega, [], rfl, ⟨rfl, by simp, fun h => by simp at h⟩, Nat.le_refl _⟩
  · injection hcs with hcs
    injection hcs with h1 h2 h3
    subst h1 h2 h3
    have hm2 : len ≤ 9223372036854775807 := by simp [maxLen] at hm; omega
    have hlen : ∀ i, i < len → i < zs.length := fun i hi => by rw [hz]; split <;> omega
    refine ⟨hm2, (List.range len).map (fun i => zs.getD i 0), by simp, ⟨by simp, by simpa using hm2, fun _ => ⟨x, rfl, fun j p hj => ?_⟩⟩, by simpa using hl⟩
    have hjl : j < len := by
      rcases Nat.lt_or_ge j len with g | g
      · exact g
      · rw [List.getElem?_eq_none (by simpa using g)] at hj; cases hj
    have hp : p = zs.getD j 0 := by
      rw [List.getElem?_eq_getElem (by simpa using hjl)] at hj
      injection hj with hj
      rw [← hj]; simp
    subst hp
    refine ⟨[.int .i64 (zs.getD j 0)], rfl, rfl, fun i u hu => ?_⟩
    cases i with
    | succ i => simp at hu
    | zero =>
      have e : Value.int .i64 (zs.getD j 0) = u := by simpa using hu
      subst e
      have := hcell j (hlen j hjl)
      show W.cell? (x.add (j * 1 + 0)) = _
      rwa [show j * 1 + 0 = j by omega]

set_option maxRecDepth 100000 in
theorem lifted (os : Os) (started : os.Started) (H : Type) (enc : TypeId × Value → H) :
    ReturnsInHanded {} Try.checked os 3 .any (Rows.topDualSpec.pre6 enc Try.prog Try.f3 Rows.topDualRow.domain false) (Rows.topDualSpec.post enc Try.prog Try.f3 false true false false) := by
  refine returnsInHanded_of_change_sized (C := Try.checked) own started (by kernel_rfl) Try.func3
    (ChangeSpec.witness6 (enc := enc) (C := Try.checked) false ⟨#[], #[.slice none 0 0, .int .i64 0], []⟩ 8 (by kernel_rfl) (by kernel_rfl) (by kernel_rfl) (by kernel_rfl)) ?_
  intro W base args ds gs before hval0 hW hcnd hsz0 _
  have hval : ∀ (j : Nat) t v, Try.f3.params[j]? = some t → args[j]? = some v → Value.okWide Try.prog W .any base t v := hval0
  have hW' := hW
  obtain ⟨p, q, hA0, hV, rfl, hfz, hnd⟩ := hW
  have hA : DataW.TrodAll enc Try.prog W 0 (fun _ => true) true Try.f3.params.toList args.toList ds p := hA0
  rw [Try.params3] at hA hval
  obtain ⟨v0, vs0, d0, ds0, p0, q0, hargs, rfl, rfl, h0, r0⟩ := trodAll_cons hA
  obtain ⟨v1, vs1, d1, ds1, p1, q1, rfl, rfl, rfl, h1, r1⟩ := trodAll_cons r0
  obtain ⟨rfl, rfl, rfl⟩ := trodAll_nil r1
  obtain rfl : args = #[v0, v1] := by cases args; simp_all
  obtain ⟨rfl, rfl⟩ := trodVars_none hV
  obtain ⟨a0, len0, cap0, rfl⟩ := okWide_slice Try.underlying22 (hval 0 22 v0 rfl rfl)
  obtain ⟨a1, rfl, rfl, rfl, w1⟩ := open_int Try.underlying3 (hval 1 3 v1 rfl rfl) h1
  have k0 := h0
  have lt0 : ∀ x ∈ p0, x.block < W.heap.size := by obtain ⟨m, hm⟩ := k0; exact DataW.trod_lt m _ _ _ hm
  obtain ⟨hlen, l, rfl, hl⟩ : len0 ≤ 9223372036854775807 ∧ ∃ l : List Int, l.length = len0 ∧ Held W a0 cap0 l := by
    obtain ⟨fuel, hf⟩ := h0
    exact open_held hf
  clear hA0 hval0 hsz0
  refine (topDual_run a0 cap0 l a1 W hl hlen).mono fun e W' ⟨he, bel⟩ => ?_
  subst he
  exact ⟨_, rfl, _, _, _, [], _, [], hW', trodAll_mk1 (shut_bool Try.underlying4 _), (trodAll_cons_mk (Below.trod laidOut (by kernel_rfl) (of_decide_eq_true (by kernel_rfl)) k0 bel lt0) (trodAll_cons_mk (shut_int Try.underlying3 w1) trodAll_mk0)), rfl, bel.frame _, fun h => by cases h⟩

theorem over : Rows.topDualRow.holds Try.pinned (OpenSpec.ofChange Rows.topDualSpec) :=
  OpenClaim.holds_of_wide 3 Try.f3 rfl rfl rfl rfl rfl rfl rfl ⟨rfl, rfl, rfl, rfl, rfl⟩ rfl rfl rfl rfl rfl (by kernel_rfl) Try.func3 (by kernel_rfl)
    (of_decide_eq_true (by kernel_rfl)) (by unfold Func.isWrapper; first | (rw [if_pos (by decide +kernel)]; kernel_rfl) | (rw [if_neg (by decide +kernel)]; exact ⟨rfl, rfl⟩))
    (fun os started H enc _ => lifted os started H enc)
theorem proved : Rows.TopDualSaid := over
#print axioms proved
end Go.Proofs.Ytnmjhpbfanmkgaa.topDual
namespace Go.Proofs.Ytnmjhpbfanmkgaa
/-- The row, under a short name, for the claim. -/
theorem topDual_holds : Rows.TopDualSaid := topDual.proved
end Go.Proofs.Ytnmjhpbfanmkgaa
