/- The law TreePlays, walked. -/
import Derived.Test.YtnhngaadegebfaaPlayed
import Derived.Test.YtnhngaadegebfaaCC
namespace Go.Proofs.MT.II
open Go.RowKit Go.Proofs.YtnhngaadegebfaaW.PrintLast Go.Proofs.YtnhngaadegebfaaW.PrintWords
set_option linter.unusedVariables false
set_option linter.unusedSimpArgs false

theorem alive_true {W W' : World} (hb : Below W.heap.size W W') : Calls Try.prog 13 #[] W' fun e y => e = .returned (.bool true) ∧ Below W.heap.size W y :=
  (IS.alive_any W').mono fun _ _ ⟨h1, h2⟩ => ⟨h1, hb.trans (h2.mono hb.size)⟩
theorem few_any (A : Option Addr) (n c : Nat) (w : World) : Calls Try.prog 37 #[.slice A n c] w fun e w' => e = .returned (.bool (decide ((n : Int) ≤ 200))) ∧ w' = w := by
  go_enter Try.func37, Try.ntmps37
  go_wp2
  go_ret
  exact ⟨by simp, rfl⟩

/-- The world's two rows, read later. -/
theorem Wd.opened {n₀ : Nat} {W : World} {B : Nat} {vm vl : Value} {ks : List Int} {es : List En} (h : Wd n₀ W B vm vl ks es es) (hne : 0 < es.length) :
    ∃ bm cm bl cl, vm = .slice (some ⟨bm, 0, none⟩) es.length cm ∧ vl = .slice (some ⟨bl, 0, none⟩) es.length cl ∧ es.length ≤ cm ∧ es.length ≤ cl ∧
      ∀ y, Below W.heap.size W y → y.cell? ⟨B, 0, none⟩ = some vm ∧ y.cell? ⟨B, 1, none⟩ = some vl ∧ ∀ i e, es[i]? = some e → y.cell? ⟨bm, i, none⟩ = some (.pointer e.p) ∧ y.cell? ⟨bl, i, none⟩ = some e.s := by
  obtain ⟨bm, cm, h1, hcm, -, hbm, hm⟩ := row1_open h.om hne
  obtain ⟨bl, cl, h2, hcl, -, hbl, hl⟩ := row1_open h.ol hne
  refine ⟨bm, cm, bl, cl, h1, h2, hcm, hcl, fun y hy => ⟨(h.later hy).c0, (h.later hy).c1, fun i e he => ⟨?_, ?_⟩⟩⟩
  · exact (hy.cell (p := ⟨bm, i, none⟩) hbm).trans (hm i _ (by rw [List.getElem?_map, he]; rfl))
  · exact (hy.cell (p := ⟨bl, i, none⟩) hbl).trans (hl i _ (by rw [List.getElem?_map, he]; rfl))
/-- One map of the world, with its row written out. -/
theorem Wd.entry {n₀ : Nat} {W : World} {B : Nat} {vm vl : Value} {ks : List Int} {es : List En} (h : Wd n₀ W B vm vl ks es es) (hk : ks.length ≤ 1000) {i : Nat} (hi : i < es.length) :
    ∃ p A c t, es[i]? = some ⟨p, .slice A t.toList.length c, t⟩ ∧ Good W (Bad B vm vl) ks ⟨p, .slice A t.toList.length c, t⟩ ∧ t.toList.length ≤ c ∧ t.size ≤ 1000 ∧ Sorted t.toList := by
  obtain ⟨⟨p, s, t⟩, he⟩ : ∃ e, es[i]? = some e := ⟨_, List.getElem?_eq_getElem hi⟩
  have g := h.all _ (List.mem_of_getElem? he)
  have hz : t.size ≤ 1000 := Nat.le_trans g.size hk
  obtain ⟨A, c, hs, hc, -, -⟩ := g.row.reads (by have := T.length_toList t; show t.toList.length ≤ _; omega)
  have hs : s = .slice A t.toList.length c := hs
  subst hs
  exact ⟨p, A, c, t, he, g, hc, hz, g.sorted⟩

set_option maxRecDepth 100000 in
set_option maxHeartbeats 1600000 in
theorem TreePlays_walk (l : List Step) (hok : ∀ o ∈ l, o.ok) (A : Option Addr) (c : Nat) (hc : l.length ≤ c) (w : World) (hr : Steps5 w A l) :
    Calls Try.prog 6 #[.slice A l.length c] w fun e w' => e = .returned (.bool true) ∧ Below w.heap.size w w' := by
  go_enter Try.func6, Try.ntmps6
  by_cases h200 : (l.length : Int) ≤ 200
  · go_upto_region 5 with (first
      | (go_at_call 37; refine (few_any _ _ _ _).mono ?_; rw [decide_eq_true h200]; rintro e x ⟨rfl, rfl⟩)
      | (go_at_call 38; refine (played_any l (by omega) hok A c hc _ hr).mono ?_; rintro e x ⟨B, vm, vl, ks, es, rfl, hx, wd, hes, hks⟩))
    obtain ⟨bm, cm, bl, cl, rfl, rfl, hcm, hcl, rd⟩ := wd.opened (by omega)
    go_loopg [4, 5] es.length (fun k x4 x5 wr => x4 = .bool true ∧ ∃ i : Nat, x5 = .int .i64 i ∧ i ≤ es.length ∧ Below x.heap.size x wr ∧ Hid (es.length - i = k))
    case atStart => exact ⟨rfl, 0, rfl, by omega, Below.refl _ _, rfl⟩
    case round =>
      obtain ⟨rfl, i, rfl, hi, hb, HN⟩ := hrel
      obtain ⟨c0, c1, -⟩ := rd wr hb
      by_cases hlt : i < es.length
      · have a1 : (i : Int) < (es.length : Int) := by omega
        have a2 : (0 : Int) ≤ (i : Int) := by omega
        have a3 : IntKind.i64.wrap ((i : Int) + 1) = ((i + 1 : Nat) : Int) := by rw [IntKind.wrap_i64]; push_cast; omega
        obtain ⟨p, A1, c1', t, he, g, hc1, hz, hs⟩ := wd.entry (by omega) hlt
        have hz' : t.size ≤ 1099511627776 := by omega
        have f0 : ∀ y, Below x.heap.size x y → y.cell? ⟨B, 0, none⟩ = some (.slice (some ⟨bm, 0, none⟩) es.length cm) := fun y h => (rd y h).1
        have f1 : ∀ y, Below x.heap.size x y → y.cell? ⟨B, 1, none⟩ = some (.slice (some ⟨bl, 0, none⟩) es.length cl) := fun y h => (rd y h).2.1
        have f2 : ∀ y, Below x.heap.size x y → y.cell? ⟨bm, i, none⟩ = some (.pointer p) := fun y h => ((rd y h).2.2 i _ he).1
        have f3 : ∀ y, Below x.heap.size x y → y.cell? ⟨bl, i, none⟩ = some (.slice A1 t.toList.length c1') := fun y h => ((rd y h).2.2 i _ he).2
        go_upto_region 7 with fail
        clear c0 c1
        go_region_held3 (fun w' => Below x.heap.size x w') (repeat (first | assumption | exact Below.refl _ _ | apply Below.drew)) (first
          | (go_at_call 19; refine (same_true (g.later (by assumption)).tree hz' (g.later (by assumption)).row).mono ?_; rintro e y ⟨rfl, hy⟩; have hk1 : Below x.heap.size x y := Below.trans (by assumption) (hy.mono (Below.size (by assumption)))))
        go_wp2
        go_roundg (es.length - (i + 1))
        case measure => have := HN.out; omega
        case rel => exact ⟨rfl, i + 1, rfl, by omega, hk1, rfl⟩
      · obtain rfl : i = es.length := by omega
        go_wp2_with (go_at_call 13; refine (alive_true (Below.refl _ _)).mono ?_; rintro e y ⟨rfl, hy⟩)
        go_ret
        exact ⟨rfl, hx.trans ((hb.trans (hy.mono hb.size)).mono hx.size)⟩
  · go_wp2_with (first
      | (go_at_call 37; refine (few_any _ _ _ _).mono ?_; rw [decide_eq_false h200]; rintro e x ⟨rfl, rfl⟩)
      | (go_at_call 13; refine (alive_true (Below.refl _ _)).mono ?_; rintro e x ⟨rfl, hx⟩))
    go_ret
    exact ⟨rfl, hx⟩
end Go.Proofs.MT.II
