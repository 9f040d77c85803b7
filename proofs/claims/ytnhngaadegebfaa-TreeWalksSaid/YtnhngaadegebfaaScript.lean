/- A script: a row of steps, read. -/
import Derived.Test.YtnhngaadegebfaaProg
import Derived.KernelRfl
import Derived.WalkKit
import Derived.Deep.Slices
import Derived.OpenShut
import Derived.ShutString
import Derived.ChangeOld
namespace Go.Proofs.MT
open Go.RowKit Go.ChangeShapes Go.WideShapes Go.Deep

/-- A step: kind, two maps, a key, a value. -/
structure Step where
  kind : Int
  a : Int
  b : Int
  K : Int
  V : Int

instance : Inhabited Step := ⟨⟨0, 0, 0, 0, 0⟩⟩
def Step.ok (o : Step) : Prop := (0 ≤ o.kind ∧ o.kind ≤ 255) ∧ (0 ≤ o.a ∧ o.a ≤ 255) ∧ (0 ≤ o.b ∧ o.b ≤ 255)

/-- The row's cells are the steps. -/
def Steps5 (w : World) (A : Option Addr) (l : List Step) : Prop :=
  l = [] ∨ ∃ b o, A = some ⟨b, o, none⟩ ∧ b < w.heap.size ∧ ∀ i x, l[i]? = some x → w.cell? ⟨b, o + i * 5, none⟩ = some (.int .u8 x.kind) ∧ w.cell? ⟨b, o + i * 5 + 1, none⟩ = some (.int .u8 x.a) ∧
    w.cell? ⟨b, o + i * 5 + 2, none⟩ = some (.int .u8 x.b) ∧ w.cell? ⟨b, o + i * 5 + 3, none⟩ = some (.int .i64 x.K) ∧ w.cell? ⟨b, o + i * 5 + 4, none⟩ = some (.int .i64 x.V)

theorem Steps5.later {w w' : World} {A : Option Addr} {l : List Step} (h : Steps5 w A l) (hb : Below w.heap.size w w') : Steps5 w' A l := by
  rcases h with h | ⟨b, o, h1, h2, h3⟩
  · exact .inl h
  · refine .inr ⟨b, o, h1, Nat.lt_of_lt_of_le h2 hb.size, fun i x hx => ?_⟩
    obtain ⟨c0, c1, c2, c3, c4⟩ := h3 i x hx
    exact ⟨(hb.cell (p := ⟨b, _, none⟩) h2).trans c0, (hb.cell (p := ⟨b, _, none⟩) h2).trans c1, (hb.cell (p := ⟨b, _, none⟩) h2).trans c2, (hb.cell (p := ⟨b, _, none⟩) h2).trans c3, (hb.cell (p := ⟨b, _, none⟩) h2).trans c4⟩

theorem u8_bounds {x : Int} (h : (Lit.int .u8 x).wf) : 0 ≤ x ∧ x ≤ 255 := by
  have m0 : IntKind.u8.min = 0 := by decide
  have m1 : IntKind.u8.max = 255 := by decide
  simp [Lit.wf] at h
  omega

set_option maxRecDepth 100000 in
theorem open_script {H : Type} {enc : TypeId × Value → H} {W : World} {sp : Nat → Bool} {a : Option Addr} {len cap fuel : Nat} {x : DataW H × List MemPlace}
    (h : DataW.trod enc Try.prog W 0 sp true fuel 70 [.slice a len cap] = some x) : ∃ l : List Step, l.length = len ∧ len ≤ cap ∧ Steps5 W a l ∧ ∀ o ∈ l, o.ok := by
  rcases open_slice Try.underlying70 h with ⟨hcs, _⟩ | ⟨a', len', cap', m, n, D, Pl, hcs, _, hl, hm, hmm, _, hx⟩
  · injection hcs with hcs
    injection hcs with h1 h2 h3
    subst h1 h2 h3
    exact ⟨[], rfl, Nat.le_refl _, .inl rfl, fun _ h => by cases h⟩
  · injection hcs with hcs
    injection hcs with h1 h2 h3
    subst h1 h2 h3
    have hlm : len ≤ m := by rw [hmm]; split <;> omega
    have ce : Try.prog.cellsOf 136 = 5 := by kernel_rfl
    have each : ∀ i, i < len → ∃ q : Step, q.ok ∧ W.cell? (a'.add (i * 5)) = some (.int .u8 q.kind) ∧ W.cell? (a'.add (i * 5 + 1)) = some (.int .u8 q.a) ∧ W.cell? (a'.add (i * 5 + 2)) = some (.int .u8 q.b) ∧
        W.cell? (a'.add (i * 5 + 3)) = some (.int .i64 q.K) ∧ W.cell? (a'.add (i * 5 + 4)) = some (.int .i64 q.V) := by
      intro i hi
      obtain ⟨cs', h1, h2⟩ := hx i (by omega)
      rw [ce] at h1
      obtain ⟨_, hlen, hcell⟩ := World.cells?_some h1
      obtain ⟨xs, k, hk, hxy, _, hxl, hf⟩ := DataW.trod_struct Try.underlying136 h2
      match xs, hxl, cs', hlen with
      | [y0, y1, y2, y3, y4], _, [v0, v1, v2, v3, v4], _ =>
        have g0 := hf 0 _ rfl
        have g1 := hf 1 _ rfl
        have g2 := hf 2 _ rfl
        have g3 := hf 3 _ rfl
        have g4 := hf 4 _ rfl
        have c5 : Try.prog.cellsOf 5 = 1 := by kernel_rfl
        have c3 : Try.prog.cellsOf 3 = 1 := by kernel_rfl
        simp [c5, c3] at g0 g1 g2 g3 g4
        obtain ⟨N0, r0, _, w0⟩ := DataW.trod_int Try.underlying5 g0
        obtain ⟨N1, r1, _, w1⟩ := DataW.trod_int Try.underlying5 g1
        obtain ⟨N2, r2, _, w2⟩ := DataW.trod_int Try.underlying5 g2
        obtain ⟨N3, r3, _, w3⟩ := DataW.trod_int Try.underlying3 g3
        obtain ⟨N4, r4, _, w4⟩ := DataW.trod_int Try.underlying3 g4
        injection r0 with r0
        injection r1 with r1
        injection r2 with r2
        injection r3 with r3
        injection r4 with r4
        subst r0 r1 r2 r3 r4
        have e0 := hcell 0 (by omega)
        have e1 := hcell 1 (by omega)
        have e2 := hcell 2 (by omega)
        have e3 := hcell 3 (by omega)
        have e4 := hcell 4 (by omega)
        rw [add_add] at e0 e1 e2 e3 e4
        exact ⟨⟨N0, N1, N2, N3, N4⟩, ⟨u8_bounds w0, u8_bounds w1, u8_bounds w2⟩, by simpa using e0, by simpa using e1, by simpa using e2, by simpa using e3, by simpa using e4⟩
    rcases Nat.eq_zero_or_pos len with h0 | h0
    · subst h0
      exact ⟨[], rfl, hl, .inl rfl, fun _ h => by cases h⟩
    obtain ⟨f, hf⟩ := Go.Deep.choose_lt (α := Step) (p := fun i q => q.ok ∧ W.cell? (a'.add (i * 5)) = some (.int .u8 q.kind) ∧ W.cell? (a'.add (i * 5 + 1)) = some (.int .u8 q.a) ∧ W.cell? (a'.add (i * 5 + 2)) = some (.int .u8 q.b) ∧ W.cell? (a'.add (i * 5 + 3)) = some (.int .i64 q.K) ∧ W.cell? (a'.add (i * 5 + 4)) = some (.int .i64 q.V)) each
    obtain ⟨b, o, spot⟩ := a'
    have hspot : spot = none := by simpa [Addr.add] using World.cell?_spot (hf 0 (by omega)).2.1
    subst hspot
    have hb : b < W.heap.size := by
      have h00 := (hf 0 (by omega)).2.1
      rcases Nat.lt_or_ge b W.heap.size with h | h
      · exact h
      · exfalso
        simp [Addr.add, World.cell?, Array.getElem?_eq_none h] at h00
    refine ⟨(List.range len).map f, by simp, hl, .inr ⟨b, o, rfl, hb, fun i x hx => ?_⟩, fun x hx => ?_⟩
    · rw [List.getElem?_map] at hx
      rcases Nat.lt_or_ge i len with hi | hi
      · rw [List.getElem?_range hi] at hx
        injection hx with hx
        subst hx
        obtain ⟨_, c0, c1, c2, c3, c4⟩ := hf i hi
        rw [add_plain] at c0 c1 c2 c3 c4
        exact ⟨c0, c1, c2, c3, c4⟩
      · rw [List.getElem?_eq_none (by simpa using hi)] at hx
        cases hx
    · obtain ⟨i, hi, rfl⟩ := List.mem_map.1 hx
      exact (hf i (List.mem_range.1 hi)).1
end Go.Proofs.MT
