/- The law NumWhole answers true whatever its arguments: they are opened, the walk is called, they are shut. -/
import Derived.Test.YtdjnneflpkllmaaDoorMNumWhole6
import Derived.Test.YtdjnneflpkllmaaDoorTie
import Derived.Test.YtdjnneflpkllmaaDoorCards
import Derived.SevenTiedAt

namespace Go.Proofs.YtdjnneflpkllmaaDoor.Num.NumWhole
open Go.ChangeShapes Go.WideShapes Go.ChangeAt Go.RowKit Go.Proofs.YtdjnneflpkllmaaDoor.Q Go.Proofs.YtdjnneflpkllmaaDoorW.PrintWords Go.Proofs.YtdjnneflpkllmaaDoorW.PrintLast Go.Proofs.YtdjnneflpkllmaaDoorW.PrintMore
set_option maxRecDepth 100000 in
theorem lifted (os : Os) (started : os.Started) (H : Type) (enc : TypeId × Value → H) :
    ReturnsInHanded {} Tryd.checked os 18 .any (fun w args => (Rows.numWholeSpec.pre enc Tryd.prog Tryd.f18 [] false w args ∧ laidMetH Tryd.prog laid3 w) ∧ sizedMet enc Tryd.prog Tryd.f18 (OpenSpec.ofChange Rows.numWholeSpec) false w args)
      (Rows.numWholeSpec.post enc Tryd.prog Tryd.f18 false true false false) := by
  refine returnsInHanded_of_change_and (C := Tryd.checked) (X := fun w _ => laidMetH Tryd.prog laid3 w) (fun _ _ _ hh h => h.of_heap hh) own started (by kernel_rfl) Tryd.func18
    (ChangeSpec.witness_shaped (enc := enc) (C := Tryd.checked) (os := os) (X := fun w _ => laidMetH Tryd.prog laid3 w) false (World.doorLaid Tryd.prog 400 os) #[.int .i64 0, .slice none 0 0] 8 rfl (door_shaped os _) (by kernel_rfl) (by kernel_rfl) (by kernel_rfl) (door_met os _)) ?_
  intro W base args ds gs before hval0 hW _ _ hL _
  have hval : ∀ (j : Nat) t v, Tryd.f18.params[j]? = some t → args[j]? = some v → Value.okWide Tryd.prog W .any base t v := hval0
  have hW' := hW
  obtain ⟨p, q, hA0, hV, rfl, hfz, hnd⟩ := hW
  have hA : DataW.TrodAll enc Tryd.prog W 0 (fun _ => true) true Tryd.f18.params.toList args.toList ds p := hA0
  rw [Tryd.params18] at hA hval
  obtain ⟨v0, vs0, d0, ds0, p0, q0, hargs, rfl, rfl, h0, r0⟩ := trodAll_cons hA
  obtain ⟨v1, vs1, d1, ds1, p1, q1, rfl, rfl, rfl, h1, r1⟩ := trodAll_cons r0
  obtain ⟨rfl, rfl, rfl⟩ := trodAll_nil r1
  obtain rfl : args = #[v0, v1] := by cases args; simp_all
  obtain ⟨rfl, rfl⟩ := trodVars_none hV
  obtain ⟨a0, rfl, rfl, rfl, wa0⟩ := open_int Tryd.underlying3 (hval 0 3 v0 rfl rfl) h0
  have ba0 := i64_bounds wa0
  obtain ⟨a1, len1, cap1, rfl⟩ := okWide_slice Tryd.underlying29 (hval 1 29 v1 rfl rfl)
  have k1 := h1
  have lt1 : ∀ x ∈ p1, x.block < W.heap.size := by obtain ⟨m, hm⟩ := k1; exact DataW.trod_lt m _ _ _ hm
  obtain ⟨l1, hl1, hr1, hc1, hb1⟩ : ∃ l1 : List Int, len1 = l1.length ∧ Kd.C (Kd.int .i64) W a1 l1.length l1 ∧ l1.length ≤ cap1 ∧ ∀ i, -9223372036854775808 ≤ Go.Proofs.Num.at_ l1 i ∧ Go.Proofs.Num.at_ l1 i ≤ 9223372036854775807 := by
    obtain ⟨fuel, hf⟩ := h1
    have w1 : ∃ z1 : List Int, (a1 = none ∧ len1 = 0 ∧ cap1 = 0 ∧ z1 = []) ∨ ∃ x, a1 = some x ∧ len1 ≤ cap1 ∧ cap1 ≤ maxLen ∧ z1.length = cap1 ∧ (∀ i, i < z1.length → W.cell? (x.add i) = some (.int .i64 (z1.getD i 0))) ∧ ∀ n ∈ z1, (Lit.int .i64 n).wf = true := by
      rcases open_ints Tryd.underlying29 Tryd.underlying3 (by kernel_rfl) hf with ⟨hcs, _⟩ | ⟨x, l, c, zs, hcs, _, hl, hm, hz, _, hcell, hwz⟩
      · injection hcs with hcs
        injection hcs with e1 e2 e3
        subst e1 e2 e3
        exact ⟨[], .inl ⟨rfl, rfl, rfl, rfl⟩⟩
      · injection hcs with hcs
        injection hcs with e1 e2 e3
        subst e1 e2 e3
        exact ⟨zs, .inr ⟨x, rfl, hl, hm, by simpa using hz, hcell, hwz⟩⟩
    obtain ⟨z1, w1⟩ := w1
    obtain ⟨l1, e, hr1, hm1, hw1, hc1⟩ := ReadsInt.ofRowC w1
    subst e
    refine ⟨l1, rfl, Kd.C_of_reads (d := (0 : Int)) (h1 := fun _ => rfl) hr1, hc1, fun i => ?_⟩
    rcases Nat.lt_or_ge i l1.length with hi | hi
    · have := i64_bounds (hw1 _ (List.getElem_mem hi))
      unfold Go.Proofs.Num.at_
      rw [List.getD_eq_getElem?_getD, List.getElem?_eq_getElem hi]
      exact this
    · unfold Go.Proofs.Num.at_
      rw [List.getD_eq_getElem?_getD, List.getElem?_eq_none hi]
      decide
  subst hl1
  clear hA0 hval0
  refine (Go.Proofs.Num.walk_NumWhole a0 a1 cap1 l1 W hr1 hc1).mono fun e W' ⟨he, bel⟩ => ?_
  subst he
  exact ⟨_, rfl, _, _, _, [], _, [], hW', trodAll_mk1 (shut_bool Tryd.underlying4 _), (trodAll_cons_mk (shut_int Tryd.underlying3 wa0) (trodAll_cons_mk (Below.trod laidOut (by kernel_rfl) (of_decide_eq_true (by kernel_rfl)) k1 bel lt1) trodAll_mk0)), rfl, bel.frame _, fun h => by cases h⟩
theorem over : Rows.numWholeRow.holds Tryd.pinned (OpenSpec.ofChange Rows.numWholeSpec) :=
  OpenClaim.holds_of_wide 18 Tryd.f18 rfl rfl rfl rfl rfl rfl rfl ⟨rfl, rfl, rfl, rfl, rfl⟩ rfl rfl rfl rfl rfl (by kernel_rfl) Tryd.func18 (by kernel_rfl)
    (of_decide_eq_true (by kernel_rfl)) (by unfold Func.isWrapper; first | (rw [if_pos (by decide +kernel)]; kernel_rfl) | (rw [if_neg (by decide +kernel)]; exact ⟨rfl, rfl⟩))
    (fun os started H enc _ => lifted os started H enc)
theorem card : Rows.NumWholeCardSaid :=
  Claim7.holds_tied_plain_at .later [] [.data, .data, .data] true (true, "c4d784d3af0786ebba60338a2eb94c2ca72ce7bdba7b39204aca8207213a9cc5") false
    over (fun _ h => by cases h) (by kernel_rfl) (fun _ h => by cases h) numWhole_row_tie rfl ⟨rfl, rfl⟩ (by kernel_rfl) rfl
    (fun f fn hf hfn => by
      obtain rfl : f = 18 := Option.some.inj ((show Tryd.prog.funcNamed "merino/merinolaw01.NumWhole" = some 18 by kernel_rfl).symm.trans hf) |>.symm
      obtain rfl : fn = Tryd.f18 := (Option.some.inj (Tryd.func18.symm.trans hfn)).symm
      exact ⟨by kernel_rfl, fun j t ht => by
        rw [Tryd.params18] at ht
        have hm : t ∈ [3, 29] := by simpa using Array.mem_of_getElem? ht
        have hall : ([3, 29].all fun u => !Tryd.prog.wantsStandIn u) = true := by kernel_rfl
        exact (show Tryd.prog.wantsStandIn t = false by simpa using List.all_eq_true.1 hall t hm)⟩)
    (by kernel_rfl)
#print axioms card
end Go.Proofs.YtdjnneflpkllmaaDoor.Num.NumWhole
namespace Go.Proofs.YtdjnneflpkllmaaDoor
theorem numWhole_card : Rows.NumWholeCardSaid := Num.NumWhole.card
end Go.Proofs.YtdjnneflpkllmaaDoor
