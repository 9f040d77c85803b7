/- Words for the walks of press: rows of whole numbers in blocks. -/
import Derived.Test.YtnmjhpbfanmkgaaRT
import Derived.Test.YtnmjhpbfanmkgaaShelf
import Derived.Test.YtnmjhpbfanmkgaaBins
import Derived.Lib.Hide
namespace Go.Proofs.Bins
open Go.RowKit Go.Proofs.YtnmjhpbfanmkgaaW.PrintWords Go.Proofs.YtnmjhpbfanmkgaaW.PrintLast Go.Proofs.YtnmjhpbfanmkgaaW.PrintMore Go.Proofs.Ytnmjhpbfanmkgaa.Q
set_option linter.unusedVariables false
set_option linter.unusedSimpArgs false
theorem w64 {x : Int} (h0 : -9223372036854775808 ≤ x) (h1 : x ≤ 9223372036854775807) : wrap64 x = x := by unfold wrap64; omega
def at_ (l : List Int) (i : Nat) : Int := l.getD i 0
theorem rd_nat (l : List Int) (i : Nat) : rd l (i : Int) = at_ l i := by simp [rd, at_]
theorem at_cons_zero (x : Int) (t : List Int) : at_ (x :: t) 0 = x := rfl
theorem at_cons_succ (x : Int) (t : List Int) (i : Nat) : at_ (x :: t) (i + 1) = at_ t i := by simp [at_]
theorem drop_at {l : List Int} {i : Nat} (h : i < l.length) : l.drop i = at_ l i :: l.drop (i + 1) := by
  rw [List.drop_eq_getElem_cons h]
  simp [at_, List.getD_eq_getElem?_getD, List.getElem?_eq_getElem h]
theorem at_mem {l : List Int} {i : Nat} (h : i < l.length) : at_ l i ∈ l := by
  unfold at_
  rw [List.getD_eq_getElem?_getD, List.getElem?_eq_getElem h]
  exact List.getElem_mem h
/-- A list in cells. -/
def Held (w : World) (A : Option Addr) (c : Nat) (l : List Int) : Prop := Kd.C (Kd.int .i64) w A l.length l ∧ l.length ≤ c
theorem Held.below {w w' : World} {A : Option Addr} {c : Nat} {l : List Int} (h : Held w A c l) (hb : Below w.heap.size w w') : Held w' A c l := ⟨Kd.C_below h.1 hb, h.2⟩
theorem Held.cell {w : World} {A : Option Addr} {c : Nat} {l : List Int} (h : Held w A c l) (hl : 0 < l.length) : ∃ ad, A = some ad ∧ ∀ i, i < l.length → w.cell? (ad.add i) = some (.int .i64 (at_ l i)) := by
  obtain ⟨ad, e, hc⟩ := h.1.2.2 hl
  refine ⟨ad, e, fun i hi => ?_⟩
  obtain ⟨cs, h1, h2, h3⟩ := hc i _ (List.getElem?_eq_getElem hi)
  have h2' : cs = [.int .i64 l[i]] := h2
  subst h2'
  have := h3 0 _ rfl
  rw [show i * (Kd.int .i64).sz + 0 = i from Nat.mul_one i] at this
  rw [this]
  simp [at_, List.getD_eq_getElem?_getD, List.getElem?_eq_getElem hi]
/-- A row of whole numbers as it lies in a block. -/
def ints (l : List Int) : Array Value := (l.map (Value.int .i64)).toArray
theorem ints_size (l : List Int) : (ints l).size = l.length := by simp [ints]
theorem ints_get {l : List Int} {i : Nat} (h : i < l.length) : (ints l)[i]? = some (.int .i64 (at_ l i)) := by
  simp [ints, at_, h, List.getD_eq_getElem?_getD, List.getElem?_eq_getElem h]
theorem ints_set (l : List Int) (i : Nat) (v : Int) : (ints l).setIfInBounds i (.int .i64 v) = ints (l.set i v) := by
  simp [ints, List.map_set]
end Go.Proofs.Bins
