/- The iterator over a tree in ascending order, and the list of its pairs (II). -/
import Derived.RangeFuncBox
import Derived.RangeFuncKeeps
import Derived.RangeFuncBound
import Derived.RangeFuncLeaves
import Derived.Shelf.Abstract
import Derived.WalkSmall
import Derived.OwnWalkIn
import Derived.TacticsInMore
import Derived.LoopNIn
import Derived.LoopIn
import Derived.Sort.QuietIn
import Derived.Maps.AppendAt
import Derived.Test.YtnhngaadegebfaaSteps
import Derived.Test.YtnhngaadegebfaaBase
import Derived.Test.YtnhngaadegebfaaAA
namespace Go.Proofs.MT.II
open Go.RowKit Go.Shelf

attribute [local go_sem] Oper.semAt_some

def WalkSaid (l n₀ : Nat) (J Jx : List (Int × Int) → World → Prop) (t : T Int Int) : Prop :=
  ∀ (n : Nat) (p : Option Addr) (pre : List (Int × Int)) (W : World), Tr n₀ W p t → J pre W →
      CallsIn Fence.wide n Try.prog 93 #[.pointer p, .pointer none, .func (.yield l) #[] #[]] W fun e W' =>
        (e = .returned (.bool true) ∧ J (pre ++ t.toList) W' ∧ Below n₀ W W') ∨ (e = .returned (.bool false) ∧ ∃ q, q <+: t.toList ∧ Jx (pre ++ q) W')

/-- What a round does, as the iterator is told. -/
def YieldSaid (l n₀ : Nat) (J Jx : List (Int × Int) → World → Prop) (N : Nat) : Prop :=
  ∀ m pre x W, J pre W → pre.length < N → YieldAt Fence.wide m Try.prog l #[.int .i64 x.1, .int .i64 x.2] W fun e W' =>
      (e = .returned (.bool true) ∧ J (pre ++ [x]) W' ∧ Below n₀ W W') ∨ (e = .returned (.bool false) ∧ Jx (pre ++ [x]) W')

theorem walk_nil (l n₀ : Nat) (J Jx : List (Int × Int) → World → Prop) : WalkSaid l n₀ J Jx .nil := by
  intro n p pre W ht hJ
  obtain rfl : p = none := ht
  refine callsIn_of_wp Try.func93 rfl trivial ?_ rfl
  simp only [Try.ntmps93, List.size_toArray, List.length_cons, List.length_nil, Nat.reduceAdd, Nat.reduceSub, Array.replicate_succ, Array.replicate_zero, List.push_toArray, List.append_toArray, List.nil_append, List.cons_append]
  gi_wp2
  go_ret
  exact .inl ⟨rfl, by simpa [T.toList] using hJ, Below.refl _ _⟩

set_option maxRecDepth 100000 in
set_option maxHeartbeats 2000000 in
theorem walk_node (l n₀ N : Nat) (J Jx : List (Int × Int) → World → Prop)
    (hJd : ∀ pre W m, J pre W → J pre (W.drewN m)) (hY : YieldSaid l n₀ J Jx N)
    (tl : T Int Int) (k : Int) (v : Int) (tr : T Int Int) (n : Nat) (p : Option Addr) (pre : List (Int × Int)) (W : World) (ht : Tr n₀ W p (.node tl k v tr)) (hJ : J pre W)
    (hN : pre.length + (tl.toList.length + 1 + tr.toList.length) ≤ N)
    (ihl : ∀ (n : Nat) (p : Option Addr) (pre : List (Int × Int)) (W : World), Tr n₀ W p tl → J pre W → pre.length + tl.toList.length ≤ N →
      CallsIn Fence.wide n Try.prog 93 #[.pointer p, .pointer none, .func (.yield l) #[] #[]] W fun e W' =>
        (e = .returned (.bool true) ∧ J (pre ++ tl.toList) W' ∧ Below n₀ W W') ∨ (e = .returned (.bool false) ∧ ∃ q, q <+: tl.toList ∧ Jx (pre ++ q) W'))
    (ihr : ∀ (n : Nat) (p : Option Addr) (pre : List (Int × Int)) (W : World), Tr n₀ W p tr → J pre W → pre.length + tr.toList.length ≤ N →
      CallsIn Fence.wide n Try.prog 93 #[.pointer p, .pointer none, .func (.yield l) #[] #[]] W fun e W' =>
        (e = .returned (.bool true) ∧ J (pre ++ tr.toList) W' ∧ Below n₀ W W') ∨ (e = .returned (.bool false) ∧ ∃ q, q <+: tr.toList ∧ Jx (pre ++ q) W')) :
      CallsIn Fence.wide n Try.prog 93 #[.pointer p, .pointer none, .func (.yield l) #[] #[]] W fun e W' =>
        (e = .returned (.bool true) ∧ J (pre ++ (T.node tl k v tr).toList) W' ∧ Below n₀ W W') ∨ (e = .returned (.bool false) ∧ ∃ q, q <+: (T.node tl k v tr).toList ∧ Jx (pre ++ q) W') := by
  have IHl := Lib.hid ihl
  have IHr := Lib.hid ihr
  have HY := Lib.hid hY
  have HJD := Lib.hid hJd
  have HJ := Lib.hid hJ
  clear ihl ihr hY hJd hJ
  obtain ⟨b, pl, pr, rfl, hb, c0, c1, c2, c3, c4, hl, hr⟩ := ht
  refine callsIn_of_wp Try.func93 rfl trivial ?_ rfl
  simp only [Try.ntmps93, List.size_toArray, List.length_cons, List.length_nil, Nat.reduceAdd, Nat.reduceSub, Array.replicate_succ, Array.replicate_zero, List.push_toArray, List.append_toArray, List.nil_append, List.cons_append]
  gi_wp2
  gi_quiet (fail)
  gi_wp2
  refine wpIn_region_any (by kernel_rfl) ?_
  have hS0 : Below n₀ W (W.drewN (nq + 1)) := below_draws (Below.refl _ _) _
  have hJ0 : J pre (W.drewN (nq + 1)) := HJD.out pre W (nq + 1) HJ.out
  have hl0 := hl.below hS0
  have f2 : (W.drewN (nq + 1)).cell? ⟨b, 2, none⟩ = some (.pointer pl) := (hS0.cell (p := ⟨b, 2, none⟩) hb).trans c2
  clear c4
  show wpAnyIn _ _ _ _ _ _ _ _ _ (W.drewN (nq + 1))
  refine wpAnyIn_take (i := 0) (oi := { dst := some 28, op := Op.move (Operand.tmp 0), type := 26, pos := "node.go:177", after := #[], guard := none }) (v := .pointer (some ⟨b, 0, none⟩)) rfl rfl (by kernel_rfl) (by kernel_rfl) (by kernel_rfl) (fun _ _ _ h => h) ⟨Or.inl ⟨by rfl, ?_⟩, fun _ => rfl⟩ ?_
  · intro w; go_simp
  simp only [Act.put, List.setIfInBounds_toArray, List.set_cons_zero, List.set_cons_succ]
  refine wpAnyIn_take (i := 1) (oi := { dst := some 29, op := Op.nilCheck (Operand.tmp 28), type := 0, pos := "node.go:177", after := #[{ on := 0, ground := Ground.data }], guard := none }) (v := .pointer (some ⟨b, 0, none⟩)) rfl rfl (by kernel_rfl) (by kernel_rfl) (by kernel_rfl) (fun _ _ _ h => h) ⟨Or.inl ⟨by rfl, ?_⟩, fun _ => rfl⟩ ?_
  · intro w; go_simp
  simp only [Act.put, List.setIfInBounds_toArray, List.set_cons_zero, List.set_cons_succ]
  refine wpAnyIn_take (i := 2) (oi := { dst := some 30, op := Op.fieldAddr 121 (Operand.tmp 29) 2, type := 0, pos := "node.go:177", after := #[{ on := 1, ground := Ground.data }], guard := none }) (v := .pointer (some ⟨b, 2, none⟩)) rfl rfl (by kernel_rfl) (by kernel_rfl) (by kernel_rfl) (fun _ _ _ h => h) ⟨Or.inl ⟨by rfl, ?_⟩, fun _ => rfl⟩ ?_
  · intro w; go_simp
  simp only [Act.put, List.setIfInBounds_toArray, List.set_cons_zero, List.set_cons_succ]
  refine wpAnyIn_take (i := 4) (oi := { dst := some 32, op := Op.move (Operand.tmp 1), type := 158, pos := "node.go:177", after := #[], guard := none }) (v := .pointer none) rfl rfl (by kernel_rfl) (by kernel_rfl) (by kernel_rfl) (fun _ _ _ h => h) ⟨Or.inl ⟨by rfl, ?_⟩, fun _ => rfl⟩ ?_
  · intro w; go_simp
  simp only [Act.put, List.setIfInBounds_toArray, List.set_cons_zero, List.set_cons_succ]
  refine wpAnyIn_take (i := 5) (oi := { dst := some 33, op := Op.move (Operand.tmp 2), type := 147, pos := "node.go:177", after := #[], guard := none }) (v := .func (.yield l) #[] #[]) rfl rfl (by kernel_rfl) (by kernel_rfl) (by kernel_rfl) (fun _ _ _ h => h) ⟨Or.inl ⟨by rfl, ?_⟩, fun _ => rfl⟩ ?_
  · intro w; go_simp
  simp only [Act.put, List.setIfInBounds_toArray, List.set_cons_zero, List.set_cons_succ]
  refine readP (i := 3) (o := { dst := some 31, op := Op.load 26 (Operand.tmp 30), type := 26, pos := "node.go:177", after := #[{ on := 2, ground := Ground.data }], guard := none }) (v := .pointer pl) rfl rfl (by kernel_rfl) (by rfl) rfl (by go_simp) ?_
  simp only [Act.put, List.setIfInBounds_toArray, List.set_cons_zero, List.set_cons_succ]
  refine onlyP (i := 6) (o := { dst := some 34, op := Op.call { callee := Callee.value (Operand.func 93), args := #[Operand.tmp 31, Operand.tmp 32, Operand.tmp 33], argTypes := #[26, 158, 147] }, type := 4, pos := "node.go:177", after := #[{ on := 3, ground := Ground.data }, { on := 4, ground := Ground.data }, { on := 5, ground := Ground.data }], guard := none }) rfl (by kernel_rfl) (by rfl) (fun K hK => ?_)
  go_simp
  refine ⟨trivial, (fun h => (by cases h)), ?_⟩
  refine (IHl.out (n - 1) pl pre _ hl0 hJ0 (by omega)).mono ?_
  rintro e W1 (⟨rfl, hJ1, hb1⟩ | ⟨rfl, q, hq, hx1⟩)
  · have hS1 : Below n₀ W W1 := hS0.trans hb1
    refine hK _ _ ?_
    clear hK K
    try simp only [Act.put, List.setIfInBounds_toArray, List.set_cons_zero, List.set_cons_succ]
    refine wpAnyIn_take (i := 7) (oi := { dst := some 35, op := Op.move (Operand.tmp 34), type := 4, pos := "node.go:177", after := #[{ on := 6, ground := Ground.data }, { on := 6, ground := Ground.chain }], guard := none }) (v := .bool true) rfl rfl (by kernel_rfl) (by kernel_rfl) (by kernel_rfl) (fun _ _ _ h => h) ⟨Or.inl ⟨by rfl, ?_⟩, fun _ => rfl⟩ ?_
    · intro w; go_simp
    simp only [Act.put, List.setIfInBounds_toArray, List.set_cons_zero, List.set_cons_succ]
    have g0 : W1.cell? ⟨b, 0, none⟩ = some (ek k) := (hS1.cell (p := ⟨b, 0, none⟩) hb).trans c0
    have g1 : W1.cell? ⟨b, 1, none⟩ = some (ev v) := (hS1.cell (p := ⟨b, 1, none⟩) hb).trans c1
    refine wpAnyIn_take (i := 8) (oi := { dst := some 36, op := Op.move (Operand.tmp 2), type := 147, pos := "node.go:177", after := #[{ on := 7, ground := Ground.guard }], guard := some (7, true) }) (v := .func (.yield l) #[] #[]) rfl rfl (by kernel_rfl) (by kernel_rfl) (by kernel_rfl) (fun _ _ _ h => h) ⟨Or.inl ⟨by rfl, ?_⟩, fun _ => rfl⟩ ?_
    · intro w; go_simp
    simp only [Act.put, List.setIfInBounds_toArray, List.set_cons_zero, List.set_cons_succ]
    refine wpAnyIn_take (i := 9) (oi := { dst := some 37, op := Op.move (Operand.tmp 0), type := 26, pos := "node.go:177", after := #[{ on := 7, ground := Ground.guard }], guard := some (7, true) }) (v := .pointer (some ⟨b, 0, none⟩)) rfl rfl (by kernel_rfl) (by kernel_rfl) (by kernel_rfl) (fun _ _ _ h => h) ⟨Or.inl ⟨by rfl, ?_⟩, fun _ => rfl⟩ ?_
    · intro w; go_simp
    simp only [Act.put, List.setIfInBounds_toArray, List.set_cons_zero, List.set_cons_succ]
    refine wpAnyIn_take (i := 10) (oi := { dst := some 38, op := Op.nilCheck (Operand.tmp 37), type := 0, pos := "node.go:177", after := #[{ on := 9, ground := Ground.data }, { on := 7, ground := Ground.guard }], guard := some (7, true) }) (v := .pointer (some ⟨b, 0, none⟩)) rfl rfl (by kernel_rfl) (by kernel_rfl) (by kernel_rfl) (fun _ _ _ h => h) ⟨Or.inl ⟨by rfl, ?_⟩, fun _ => rfl⟩ ?_
    · intro w; go_simp
    simp only [Act.put, List.setIfInBounds_toArray, List.set_cons_zero, List.set_cons_succ]
    refine wpAnyIn_take (i := 11) (oi := { dst := some 39, op := Op.fieldAddr 121 (Operand.tmp 38) 0, type := 0, pos := "node.go:177", after := #[{ on := 10, ground := Ground.data }, { on := 7, ground := Ground.guard }], guard := some (7, true) }) (v := .pointer (some ⟨b, 0, none⟩)) rfl rfl (by kernel_rfl) (by kernel_rfl) (by kernel_rfl) (fun _ _ _ h => h) ⟨Or.inl ⟨by rfl, ?_⟩, fun _ => rfl⟩ ?_
    · intro w; go_simp
    simp only [Act.put, List.setIfInBounds_toArray, List.set_cons_zero, List.set_cons_succ]
    refine wpAnyIn_take (i := 13) (oi := { dst := some 41, op := Op.move (Operand.tmp 0), type := 26, pos := "node.go:177", after := #[{ on := 7, ground := Ground.guard }], guard := some (7, true) }) (v := .pointer (some ⟨b, 0, none⟩)) rfl rfl (by kernel_rfl) (by kernel_rfl) (by kernel_rfl) (fun _ _ _ h => h) ⟨Or.inl ⟨by rfl, ?_⟩, fun _ => rfl⟩ ?_
    · intro w; go_simp
    simp only [Act.put, List.setIfInBounds_toArray, List.set_cons_zero, List.set_cons_succ]
    refine wpAnyIn_take (i := 14) (oi := { dst := some 42, op := Op.nilCheck (Operand.tmp 41), type := 0, pos := "node.go:177", after := #[{ on := 13, ground := Ground.data }, { on := 7, ground := Ground.guard }], guard := some (7, true) }) (v := .pointer (some ⟨b, 0, none⟩)) rfl rfl (by kernel_rfl) (by kernel_rfl) (by kernel_rfl) (fun _ _ _ h => h) ⟨Or.inl ⟨by rfl, ?_⟩, fun _ => rfl⟩ ?_
    · intro w; go_simp
    simp only [Act.put, List.setIfInBounds_toArray, List.set_cons_zero, List.set_cons_succ]
    refine wpAnyIn_take (i := 15) (oi := { dst := some 43, op := Op.fieldAddr 121 (Operand.tmp 42) 1, type := 0, pos := "node.go:177", after := #[{ on := 14, ground := Ground.data }, { on := 7, ground := Ground.guard }], guard := some (7, true) }) (v := .pointer (some ⟨b, 1, none⟩)) rfl rfl (by kernel_rfl) (by kernel_rfl) (by kernel_rfl) (fun _ _ _ h => h) ⟨Or.inl ⟨by rfl, ?_⟩, fun _ => rfl⟩ ?_
    · intro w; go_simp
    simp only [Act.put, List.setIfInBounds_toArray, List.set_cons_zero, List.set_cons_succ]
    refine twoP (i := 12) (j := 16) (oi := { dst := some 40, op := Op.load 3 (Operand.tmp 39), type := 3, pos := "node.go:177", after := #[{ on := 11, ground := Ground.data }, { on := 7, ground := Ground.guard }], guard := some (7, true) }) (oj := { dst := some 44, op := Op.load 3 (Operand.tmp 43), type := 3, pos := "node.go:177", after := #[{ on := 15, ground := Ground.data }, { on := 7, ground := Ground.guard }], guard := some (7, true) }) (di := 40) (dj := 44) (vi := ek k) (vj := ev v) rfl rfl rfl rfl rfl (by decide) (by decide) (by kernel_rfl) (by kernel_rfl) (by kernel_rfl) (by rfl) (by rfl) (by rfl) (by rfl) (fun _ => rfl) (fun _ => rfl) (by go_simp) (by go_simp) (by simp only [Act.put, List.setIfInBounds_toArray, List.set_cons_zero, List.set_cons_succ]; go_simp) (by simp only [Act.put, List.setIfInBounds_toArray, List.set_cons_zero, List.set_cons_succ]; go_simp) ?_
    simp only [Act.put, List.setIfInBounds_toArray, List.set_cons_zero, List.set_cons_succ]
    obtain ⟨fn, tmps, assign, body, hy, hR⟩ := HY.out (n - 1) (pre ++ tl.toList) (k, v) W1 hJ1 (by rw [List.length_append]; omega)
    refine onlyP (i := 17) (o := { dst := some 45, op := Op.call { callee := Callee.value (Operand.tmp 36), args := #[Operand.tmp 40, Operand.tmp 44], argTypes := #[3, 3] }, type := 4, pos := "node.go:177", after := #[{ on := 8, ground := Ground.data }, { on := 12, ground := Ground.data }, { on := 16, ground := Ground.data }, { on := 7, ground := Ground.chain }, { on := 7, ground := Ground.guard }], guard := some (7, true) }) rfl (by kernel_rfl) (by rfl) (fun K hK => ?_)
    go_simp
    refine ⟨(fun h => (by cases h)), ?_⟩
    refine hR.mono ?_
    clear hR hy
    rintro e W2 (⟨rfl, hJ2, hb2⟩ | ⟨rfl, hx2⟩)
    · have hS2 : Below n₀ W W2 := hS1.trans hb2
      refine hK _ _ ?_
      clear hK K
      try simp only [Act.put, List.setIfInBounds_toArray, List.set_cons_zero, List.set_cons_succ]
      have g3 : W2.cell? ⟨b, 3, none⟩ = some (.pointer pr) := (hS2.cell (p := ⟨b, 3, none⟩) hb).trans c3
      refine wpAnyIn_take (i := 18) (oi := { dst := some 46, op := Op.pick (Operand.tmp 35) (Operand.tmp 45) (Operand.const (Value.bool false)), type := 4, pos := "node.go:177", after := #[{ on := 7, ground := Ground.data }, { on := 17, ground := Ground.data }], guard := none }) (v := .bool true) rfl rfl (by kernel_rfl) (by kernel_rfl) (by kernel_rfl) (fun _ _ _ h => h) ⟨Or.inl ⟨by rfl, ?_⟩, fun _ => rfl⟩ ?_
      · intro w; go_simp
      simp only [Act.put, List.setIfInBounds_toArray, List.set_cons_zero, List.set_cons_succ]
      refine wpAnyIn_take (i := 19) (oi := { dst := some 47, op := Op.move (Operand.tmp 46), type := 4, pos := "node.go:177", after := #[{ on := 18, ground := Ground.data }, { on := 17, ground := Ground.chain }], guard := none }) (v := .bool true) rfl rfl (by kernel_rfl) (by kernel_rfl) (by kernel_rfl) (fun _ _ _ h => h) ⟨Or.inl ⟨by rfl, ?_⟩, fun _ => rfl⟩ ?_
      · intro w; go_simp
      simp only [Act.put, List.setIfInBounds_toArray, List.set_cons_zero, List.set_cons_succ]
      refine wpAnyIn_take (i := 20) (oi := { dst := some 48, op := Op.move (Operand.tmp 0), type := 26, pos := "node.go:177", after := #[{ on := 19, ground := Ground.guard }], guard := some (19, true) }) (v := .pointer (some ⟨b, 0, none⟩)) rfl rfl (by kernel_rfl) (by kernel_rfl) (by kernel_rfl) (fun _ _ _ h => h) ⟨Or.inl ⟨by rfl, ?_⟩, fun _ => rfl⟩ ?_
      · intro w; go_simp
      simp only [Act.put, List.setIfInBounds_toArray, List.set_cons_zero, List.set_cons_succ]
      refine wpAnyIn_take (i := 21) (oi := { dst := some 49, op := Op.nilCheck (Operand.tmp 48), type := 0, pos := "node.go:177", after := #[{ on := 20, ground := Ground.data }, { on := 19, ground := Ground.guard }], guard := some (19, true) }) (v := .pointer (some ⟨b, 0, none⟩)) rfl rfl (by kernel_rfl) (by kernel_rfl) (by kernel_rfl) (fun _ _ _ h => h) ⟨Or.inl ⟨by rfl, ?_⟩, fun _ => rfl⟩ ?_
      · intro w; go_simp
      simp only [Act.put, List.setIfInBounds_toArray, List.set_cons_zero, List.set_cons_succ]
      refine wpAnyIn_take (i := 22) (oi := { dst := some 50, op := Op.fieldAddr 121 (Operand.tmp 49) 3, type := 0, pos := "node.go:177", after := #[{ on := 21, ground := Ground.data }, { on := 19, ground := Ground.guard }], guard := some (19, true) }) (v := .pointer (some ⟨b, 3, none⟩)) rfl rfl (by kernel_rfl) (by kernel_rfl) (by kernel_rfl) (fun _ _ _ h => h) ⟨Or.inl ⟨by rfl, ?_⟩, fun _ => rfl⟩ ?_
      · intro w; go_simp
      simp only [Act.put, List.setIfInBounds_toArray, List.set_cons_zero, List.set_cons_succ]
      refine wpAnyIn_take (i := 24) (oi := { dst := some 52, op := Op.move (Operand.tmp 2), type := 147, pos := "node.go:177", after := #[{ on := 19, ground := Ground.guard }], guard := some (19, true) }) (v := .func (.yield l) #[] #[]) rfl rfl (by kernel_rfl) (by kernel_rfl) (by kernel_rfl) (fun _ _ _ h => h) ⟨Or.inl ⟨by rfl, ?_⟩, fun _ => rfl⟩ ?_
      · intro w; go_simp
      simp only [Act.put, List.setIfInBounds_toArray, List.set_cons_zero, List.set_cons_succ]
      refine readP (i := 23) (o := { dst := some 51, op := Op.load 26 (Operand.tmp 50), type := 26, pos := "node.go:177", after := #[{ on := 22, ground := Ground.data }, { on := 19, ground := Ground.guard }], guard := some (19, true) }) (v := .pointer pr) rfl rfl (by kernel_rfl) (by rfl) rfl (by go_simp) ?_
      simp only [Act.put, List.setIfInBounds_toArray, List.set_cons_zero, List.set_cons_succ]
      refine onlyP (i := 25) (o := { dst := some 53, op := Op.call { callee := Callee.value (Operand.func 93), args := #[Operand.tmp 51, Operand.const (Value.pointer none), Operand.tmp 52], argTypes := #[26, 158, 147] }, type := 4, pos := "node.go:177", after := #[{ on := 23, ground := Ground.data }, { on := 24, ground := Ground.data }, { on := 19, ground := Ground.chain }, { on := 19, ground := Ground.guard }], guard := some (19, true) }) rfl (by kernel_rfl) (by rfl) (fun K hK => ?_)
      go_simp
      refine ⟨trivial, (fun h => (by cases h)), ?_⟩
      refine (IHr.out (n - 1) pr _ _ (hr.below hS2) hJ2 (by simp only [List.length_append, List.length_cons, List.length_nil]; omega)).mono ?_
      rintro e W3 (⟨rfl, hJ3, hb3⟩ | ⟨rfl, q, hq, hx3⟩)
      · refine hK _ _ ?_
        clear hK K
        try simp only [Act.put, List.setIfInBounds_toArray, List.set_cons_zero, List.set_cons_succ]
        refine wpAnyIn_take (i := 26) (oi := { dst := some 54, op := Op.pick (Operand.tmp 47) (Operand.tmp 53) (Operand.const (Value.bool false)), type := 4, pos := "node.go:177", after := #[{ on := 19, ground := Ground.data }, { on := 25, ground := Ground.data }], guard := none }) (v := .bool true) rfl rfl (by kernel_rfl) (by kernel_rfl) (by kernel_rfl) (fun _ _ _ h => h) ⟨Or.inl ⟨by rfl, ?_⟩, fun _ => rfl⟩ ?_
        · intro w; go_simp
        simp only [Act.put, List.setIfInBounds_toArray, List.set_cons_zero, List.set_cons_succ]
        refine wpAnyIn_take (i := 27) (oi := { dst := some 6, op := Op.assign (Operand.tmp 54), type := 4, pos := "node.go:177", after := #[{ on := 26, ground := Ground.data }, { on := 25, ground := Ground.chain }, { on := 0, ground := Ground.phase }, { on := 1, ground := Ground.phase }, { on := 2, ground := Ground.phase }, { on := 3, ground := Ground.phase }, { on := 4, ground := Ground.phase }, { on := 5, ground := Ground.phase }, { on := 6, ground := Ground.phase }, { on := 7, ground := Ground.phase }, { on := 8, ground := Ground.phase }, { on := 9, ground := Ground.phase }, { on := 10, ground := Ground.phase }, { on := 11, ground := Ground.phase }, { on := 12, ground := Ground.phase }, { on := 13, ground := Ground.phase }, { on := 14, ground := Ground.phase }, { on := 15, ground := Ground.phase }, { on := 16, ground := Ground.phase }, { on := 17, ground := Ground.phase }, { on := 18, ground := Ground.phase }, { on := 19, ground := Ground.phase }, { on := 20, ground := Ground.phase }, { on := 21, ground := Ground.phase }, { on := 22, ground := Ground.phase }, { on := 23, ground := Ground.phase }, { on := 24, ground := Ground.phase }, { on := 25, ground := Ground.phase }, { on := 26, ground := Ground.phase }], guard := none }) (v := .bool true) rfl rfl (by kernel_rfl) (by kernel_rfl) (by kernel_rfl) (fun _ _ _ h => h) ⟨Or.inl ⟨by rfl, ?_⟩, fun _ => rfl⟩ ?_
        · intro w; go_simp
        simp only [Act.put, List.setIfInBounds_toArray, List.set_cons_zero, List.set_cons_succ]
        refine wpAnyIn_done (by kernel_rfl) ?_ _
        gi_wp2
        go_ret
        exact .inl ⟨rfl, by simpa [T.toList, List.append_assoc] using hJ3, hS2.trans hb3⟩
      · refine hK _ _ ?_
        clear hK K
        try simp only [Act.put, List.setIfInBounds_toArray, List.set_cons_zero, List.set_cons_succ]
        refine wpAnyIn_take (i := 26) (oi := { dst := some 54, op := Op.pick (Operand.tmp 47) (Operand.tmp 53) (Operand.const (Value.bool false)), type := 4, pos := "node.go:177", after := #[{ on := 19, ground := Ground.data }, { on := 25, ground := Ground.data }], guard := none }) (v := .bool false) rfl rfl (by kernel_rfl) (by kernel_rfl) (by kernel_rfl) (fun _ _ _ h => h) ⟨Or.inl ⟨by rfl, ?_⟩, fun _ => rfl⟩ ?_
        · intro w; go_simp
        simp only [Act.put, List.setIfInBounds_toArray, List.set_cons_zero, List.set_cons_succ]
        refine wpAnyIn_take (i := 27) (oi := { dst := some 6, op := Op.assign (Operand.tmp 54), type := 4, pos := "node.go:177", after := #[{ on := 26, ground := Ground.data }, { on := 25, ground := Ground.chain }, { on := 0, ground := Ground.phase }, { on := 1, ground := Ground.phase }, { on := 2, ground := Ground.phase }, { on := 3, ground := Ground.phase }, { on := 4, ground := Ground.phase }, { on := 5, ground := Ground.phase }, { on := 6, ground := Ground.phase }, { on := 7, ground := Ground.phase }, { on := 8, ground := Ground.phase }, { on := 9, ground := Ground.phase }, { on := 10, ground := Ground.phase }, { on := 11, ground := Ground.phase }, { on := 12, ground := Ground.phase }, { on := 13, ground := Ground.phase }, { on := 14, ground := Ground.phase }, { on := 15, ground := Ground.phase }, { on := 16, ground := Ground.phase }, { on := 17, ground := Ground.phase }, { on := 18, ground := Ground.phase }, { on := 19, ground := Ground.phase }, { on := 20, ground := Ground.phase }, { on := 21, ground := Ground.phase }, { on := 22, ground := Ground.phase }, { on := 23, ground := Ground.phase }, { on := 24, ground := Ground.phase }, { on := 25, ground := Ground.phase }, { on := 26, ground := Ground.phase }], guard := none }) (v := .bool false) rfl rfl (by kernel_rfl) (by kernel_rfl) (by kernel_rfl) (fun _ _ _ h => h) ⟨Or.inl ⟨by rfl, ?_⟩, fun _ => rfl⟩ ?_
        · intro w; go_simp
        simp only [Act.put, List.setIfInBounds_toArray, List.set_cons_zero, List.set_cons_succ]
        refine wpAnyIn_done (by kernel_rfl) ?_ _
        gi_wp2
        go_ret
        obtain ⟨r, hr'⟩ := hq
        exact .inr ⟨rfl, tl.toList ++ (k, v) :: q, ⟨r, by simp [T.toList, ← hr']⟩, by simpa [List.append_assoc] using hx3⟩
    · refine hK _ _ ?_
      clear hK K
      try simp only [Act.put, List.setIfInBounds_toArray, List.set_cons_zero, List.set_cons_succ]
      refine wpAnyIn_take (i := 18) (oi := { dst := some 46, op := Op.pick (Operand.tmp 35) (Operand.tmp 45) (Operand.const (Value.bool false)), type := 4, pos := "node.go:177", after := #[{ on := 7, ground := Ground.data }, { on := 17, ground := Ground.data }], guard := none }) (v := .bool false) rfl rfl (by kernel_rfl) (by kernel_rfl) (by kernel_rfl) (fun _ _ _ h => h) ⟨Or.inl ⟨by rfl, ?_⟩, fun _ => rfl⟩ ?_
      · intro w; go_simp
      simp only [Act.put, List.setIfInBounds_toArray, List.set_cons_zero, List.set_cons_succ]
      refine wpAnyIn_take (i := 19) (oi := { dst := some 47, op := Op.move (Operand.tmp 46), type := 4, pos := "node.go:177", after := #[{ on := 18, ground := Ground.data }, { on := 17, ground := Ground.chain }], guard := none }) (v := .bool false) rfl rfl (by kernel_rfl) (by kernel_rfl) (by kernel_rfl) (fun _ _ _ h => h) ⟨Or.inl ⟨by rfl, ?_⟩, fun _ => rfl⟩ ?_
      · intro w; go_simp
      simp only [Act.put, List.setIfInBounds_toArray, List.set_cons_zero, List.set_cons_succ]
      refine wpAnyIn_take (i := 20) (oi := { dst := some 48, op := Op.move (Operand.tmp 0), type := 26, pos := "node.go:177", after := #[{ on := 19, ground := Ground.guard }], guard := some (19, true) }) (v := undef) rfl rfl (by kernel_rfl) (by kernel_rfl) (by kernel_rfl) (fun _ _ _ h => h) ⟨Or.inr ⟨by rfl, rfl⟩, fun _ => rfl⟩ ?_
      simp only [Act.put, List.setIfInBounds_toArray, List.set_cons_zero, List.set_cons_succ]
      refine wpAnyIn_take (i := 21) (oi := { dst := some 49, op := Op.nilCheck (Operand.tmp 48), type := 0, pos := "node.go:177", after := #[{ on := 20, ground := Ground.data }, { on := 19, ground := Ground.guard }], guard := some (19, true) }) (v := undef) rfl rfl (by kernel_rfl) (by kernel_rfl) (by kernel_rfl) (fun _ _ _ h => h) ⟨Or.inr ⟨by rfl, rfl⟩, fun _ => rfl⟩ ?_
      simp only [Act.put, List.setIfInBounds_toArray, List.set_cons_zero, List.set_cons_succ]
      refine wpAnyIn_take (i := 22) (oi := { dst := some 50, op := Op.fieldAddr 121 (Operand.tmp 49) 3, type := 0, pos := "node.go:177", after := #[{ on := 21, ground := Ground.data }, { on := 19, ground := Ground.guard }], guard := some (19, true) }) (v := undef) rfl rfl (by kernel_rfl) (by kernel_rfl) (by kernel_rfl) (fun _ _ _ h => h) ⟨Or.inr ⟨by rfl, rfl⟩, fun _ => rfl⟩ ?_
      simp only [Act.put, List.setIfInBounds_toArray, List.set_cons_zero, List.set_cons_succ]
      refine wpAnyIn_take (i := 23) (oi := { dst := some 51, op := Op.load 26 (Operand.tmp 50), type := 26, pos := "node.go:177", after := #[{ on := 22, ground := Ground.data }, { on := 19, ground := Ground.guard }], guard := some (19, true) }) (v := undef) rfl rfl (by kernel_rfl) (by kernel_rfl) (by kernel_rfl) (fun _ _ _ h => h) ⟨Or.inr ⟨by rfl, rfl⟩, fun _ => rfl⟩ ?_
      simp only [Act.put, List.setIfInBounds_toArray, List.set_cons_zero, List.set_cons_succ]
      refine wpAnyIn_take (i := 24) (oi := { dst := some 52, op := Op.move (Operand.tmp 2), type := 147, pos := "node.go:177", after := #[{ on := 19, ground := Ground.guard }], guard := some (19, true) }) (v := undef) rfl rfl (by kernel_rfl) (by kernel_rfl) (by kernel_rfl) (fun _ _ _ h => h) ⟨Or.inr ⟨by rfl, rfl⟩, fun _ => rfl⟩ ?_
      simp only [Act.put, List.setIfInBounds_toArray, List.set_cons_zero, List.set_cons_succ]
      refine skipP (i := 25) (o := { dst := some 53, op := Op.call { callee := Callee.value (Operand.func 93), args := #[Operand.tmp 51, Operand.const (Value.pointer none), Operand.tmp 52], argTypes := #[26, 158, 147] }, type := 4, pos := "node.go:177", after := #[{ on := 23, ground := Ground.data }, { on := 24, ground := Ground.data }, { on := 19, ground := Ground.chain }, { on := 19, ground := Ground.guard }], guard := some (19, true) }) rfl (by kernel_rfl) (by rfl) (fun _ => trivial) ?_
      simp only [Act.put, List.setIfInBounds_toArray, List.set_cons_zero, List.set_cons_succ]
      refine wpAnyIn_take (i := 26) (oi := { dst := some 54, op := Op.pick (Operand.tmp 47) (Operand.tmp 53) (Operand.const (Value.bool false)), type := 4, pos := "node.go:177", after := #[{ on := 19, ground := Ground.data }, { on := 25, ground := Ground.data }], guard := none }) (v := .bool false) rfl rfl (by kernel_rfl) (by kernel_rfl) (by kernel_rfl) (fun _ _ _ h => h) ⟨Or.inl ⟨by rfl, ?_⟩, fun _ => rfl⟩ ?_
      · intro w; go_simp
      simp only [Act.put, List.setIfInBounds_toArray, List.set_cons_zero, List.set_cons_succ]
      refine wpAnyIn_take (i := 27) (oi := { dst := some 6, op := Op.assign (Operand.tmp 54), type := 4, pos := "node.go:177", after := #[{ on := 26, ground := Ground.data }, { on := 25, ground := Ground.chain }, { on := 0, ground := Ground.phase }, { on := 1, ground := Ground.phase }, { on := 2, ground := Ground.phase }, { on := 3, ground := Ground.phase }, { on := 4, ground := Ground.phase }, { on := 5, ground := Ground.phase }, { on := 6, ground := Ground.phase }, { on := 7, ground := Ground.phase }, { on := 8, ground := Ground.phase }, { on := 9, ground := Ground.phase }, { on := 10, ground := Ground.phase }, { on := 11, ground := Ground.phase }, { on := 12, ground := Ground.phase }, { on := 13, ground := Ground.phase }, { on := 14, ground := Ground.phase }, { on := 15, ground := Ground.phase }, { on := 16, ground := Ground.phase }, { on := 17, ground := Ground.phase }, { on := 18, ground := Ground.phase }, { on := 19, ground := Ground.phase }, { on := 20, ground := Ground.phase }, { on := 21, ground := Ground.phase }, { on := 22, ground := Ground.phase }, { on := 23, ground := Ground.phase }, { on := 24, ground := Ground.phase }, { on := 25, ground := Ground.phase }, { on := 26, ground := Ground.phase }], guard := none }) (v := .bool false) rfl rfl (by kernel_rfl) (by kernel_rfl) (by kernel_rfl) (fun _ _ _ h => h) ⟨Or.inl ⟨by rfl, ?_⟩, fun _ => rfl⟩ ?_
      · intro w; go_simp
      simp only [Act.put, List.setIfInBounds_toArray, List.set_cons_zero, List.set_cons_succ]
      refine wpAnyIn_done (by kernel_rfl) ?_ _
      gi_wp2
      go_ret
      exact .inr ⟨rfl, tl.toList ++ [(k, v)], ⟨tr.toList, by simp [T.toList]⟩, by simpa [List.append_assoc] using hx2⟩
  · refine hK _ _ ?_
    clear hK K
    try simp only [Act.put, List.setIfInBounds_toArray, List.set_cons_zero, List.set_cons_succ]
    refine wpAnyIn_take (i := 7) (oi := { dst := some 35, op := Op.move (Operand.tmp 34), type := 4, pos := "node.go:177", after := #[{ on := 6, ground := Ground.data }, { on := 6, ground := Ground.chain }], guard := none }) (v := .bool false) rfl rfl (by kernel_rfl) (by kernel_rfl) (by kernel_rfl) (fun _ _ _ h => h) ⟨Or.inl ⟨by rfl, ?_⟩, fun _ => rfl⟩ ?_
    · intro w; go_simp
    simp only [Act.put, List.setIfInBounds_toArray, List.set_cons_zero, List.set_cons_succ]
    refine wpAnyIn_take (i := 8) (oi := { dst := some 36, op := Op.move (Operand.tmp 2), type := 147, pos := "node.go:177", after := #[{ on := 7, ground := Ground.guard }], guard := some (7, true) }) (v := undef) rfl rfl (by kernel_rfl) (by kernel_rfl) (by kernel_rfl) (fun _ _ _ h => h) ⟨Or.inr ⟨by rfl, rfl⟩, fun _ => rfl⟩ ?_
    simp only [Act.put, List.setIfInBounds_toArray, List.set_cons_zero, List.set_cons_succ]
    refine wpAnyIn_take (i := 9) (oi := { dst := some 37, op := Op.move (Operand.tmp 0), type := 26, pos := "node.go:177", after := #[{ on := 7, ground := Ground.guard }], guard := some (7, true) }) (v := undef) rfl rfl (by kernel_rfl) (by kernel_rfl) (by kernel_rfl) (fun _ _ _ h => h) ⟨Or.inr ⟨by rfl, rfl⟩, fun _ => rfl⟩ ?_
    simp only [Act.put, List.setIfInBounds_toArray, List.set_cons_zero, List.set_cons_succ]
    refine wpAnyIn_take (i := 10) (oi := { dst := some 38, op := Op.nilCheck (Operand.tmp 37), type := 0, pos := "node.go:177", after := #[{ on := 9, ground := Ground.data }, { on := 7, ground := Ground.guard }], guard := some (7, true) }) (v := undef) rfl rfl (by kernel_rfl) (by kernel_rfl) (by kernel_rfl) (fun _ _ _ h => h) ⟨Or.inr ⟨by rfl, rfl⟩, fun _ => rfl⟩ ?_
    simp only [Act.put, List.setIfInBounds_toArray, List.set_cons_zero, List.set_cons_succ]
    refine wpAnyIn_take (i := 11) (oi := { dst := some 39, op := Op.fieldAddr 121 (Operand.tmp 38) 0, type := 0, pos := "node.go:177", after := #[{ on := 10, ground := Ground.data }, { on := 7, ground := Ground.guard }], guard := some (7, true) }) (v := undef) rfl rfl (by kernel_rfl) (by kernel_rfl) (by kernel_rfl) (fun _ _ _ h => h) ⟨Or.inr ⟨by rfl, rfl⟩, fun _ => rfl⟩ ?_
    simp only [Act.put, List.setIfInBounds_toArray, List.set_cons_zero, List.set_cons_succ]
    refine wpAnyIn_take (i := 12) (oi := { dst := some 40, op := Op.load 3 (Operand.tmp 39), type := 3, pos := "node.go:177", after := #[{ on := 11, ground := Ground.data }, { on := 7, ground := Ground.guard }], guard := some (7, true) }) (v := undef) rfl rfl (by kernel_rfl) (by kernel_rfl) (by kernel_rfl) (fun _ _ _ h => h) ⟨Or.inr ⟨by rfl, rfl⟩, fun _ => rfl⟩ ?_
    simp only [Act.put, List.setIfInBounds_toArray, List.set_cons_zero, List.set_cons_succ]
    refine wpAnyIn_take (i := 13) (oi := { dst := some 41, op := Op.move (Operand.tmp 0), type := 26, pos := "node.go:177", after := #[{ on := 7, ground := Ground.guard }], guard := some (7, true) }) (v := undef) rfl rfl (by kernel_rfl) (by kernel_rfl) (by kernel_rfl) (fun _ _ _ h => h) ⟨Or.inr ⟨by rfl, rfl⟩, fun _ => rfl⟩ ?_
    simp only [Act.put, List.setIfInBounds_toArray, List.set_cons_zero, List.set_cons_succ]
    refine wpAnyIn_take (i := 14) (oi := { dst := some 42, op := Op.nilCheck (Operand.tmp 41), type := 0, pos := "node.go:177", after := #[{ on := 13, ground := Ground.data }, { on := 7, ground := Ground.guard }], guard := some (7, true) }) (v := undef) rfl rfl (by kernel_rfl) (by kernel_rfl) (by kernel_rfl) (fun _ _ _ h => h) ⟨Or.inr ⟨by rfl, rfl⟩, fun _ => rfl⟩ ?_
    simp only [Act.put, List.setIfInBounds_toArray, List.set_cons_zero, List.set_cons_succ]
    refine wpAnyIn_take (i := 15) (oi := { dst := some 43, op := Op.fieldAddr 121 (Operand.tmp 42) 1, type := 0, pos := "node.go:177", after := #[{ on := 14, ground := Ground.data }, { on := 7, ground := Ground.guard }], guard := some (7, true) }) (v := undef) rfl rfl (by kernel_rfl) (by kernel_rfl) (by kernel_rfl) (fun _ _ _ h => h) ⟨Or.inr ⟨by rfl, rfl⟩, fun _ => rfl⟩ ?_
    simp only [Act.put, List.setIfInBounds_toArray, List.set_cons_zero, List.set_cons_succ]
    refine wpAnyIn_take (i := 16) (oi := { dst := some 44, op := Op.load 3 (Operand.tmp 43), type := 3, pos := "node.go:177", after := #[{ on := 15, ground := Ground.data }, { on := 7, ground := Ground.guard }], guard := some (7, true) }) (v := undef) rfl rfl (by kernel_rfl) (by kernel_rfl) (by kernel_rfl) (fun _ _ _ h => h) ⟨Or.inr ⟨by rfl, rfl⟩, fun _ => rfl⟩ ?_
    simp only [Act.put, List.setIfInBounds_toArray, List.set_cons_zero, List.set_cons_succ]
    refine skipP (i := 17) (o := { dst := some 45, op := Op.call { callee := Callee.value (Operand.tmp 36), args := #[Operand.tmp 40, Operand.tmp 44], argTypes := #[3, 3] }, type := 4, pos := "node.go:177", after := #[{ on := 8, ground := Ground.data }, { on := 12, ground := Ground.data }, { on := 16, ground := Ground.data }, { on := 7, ground := Ground.chain }, { on := 7, ground := Ground.guard }], guard := some (7, true) }) rfl (by kernel_rfl) (by rfl) (fun _ => trivial) ?_
    simp only [Act.put, List.setIfInBounds_toArray, List.set_cons_zero, List.set_cons_succ]
    refine wpAnyIn_take (i := 18) (oi := { dst := some 46, op := Op.pick (Operand.tmp 35) (Operand.tmp 45) (Operand.const (Value.bool false)), type := 4, pos := "node.go:177", after := #[{ on := 7, ground := Ground.data }, { on := 17, ground := Ground.data }], guard := none }) (v := .bool false) rfl rfl (by kernel_rfl) (by kernel_rfl) (by kernel_rfl) (fun _ _ _ h => h) ⟨Or.inl ⟨by rfl, ?_⟩, fun _ => rfl⟩ ?_
    · intro w; go_simp
    simp only [Act.put, List.setIfInBounds_toArray, List.set_cons_zero, List.set_cons_succ]
    refine wpAnyIn_take (i := 19) (oi := { dst := some 47, op := Op.move (Operand.tmp 46), type := 4, pos := "node.go:177", after := #[{ on := 18, ground := Ground.data }, { on := 17, ground := Ground.chain }], guard := none }) (v := .bool false) rfl rfl (by kernel_rfl) (by kernel_rfl) (by kernel_rfl) (fun _ _ _ h => h) ⟨Or.inl ⟨by rfl, ?_⟩, fun _ => rfl⟩ ?_
    · intro w; go_simp
    simp only [Act.put, List.setIfInBounds_toArray, List.set_cons_zero, List.set_cons_succ]
    refine wpAnyIn_take (i := 20) (oi := { dst := some 48, op := Op.move (Operand.tmp 0), type := 26, pos := "node.go:177", after := #[{ on := 19, ground := Ground.guard }], guard := some (19, true) }) (v := undef) rfl rfl (by kernel_rfl) (by kernel_rfl) (by kernel_rfl) (fun _ _ _ h => h) ⟨Or.inr ⟨by rfl, rfl⟩, fun _ => rfl⟩ ?_
    simp only [Act.put, List.setIfInBounds_toArray, List.set_cons_zero, List.set_cons_succ]
    refine wpAnyIn_take (i := 21) (oi := { dst := some 49, op := Op.nilCheck (Operand.tmp 48), type := 0, pos := "node.go:177", after := #[{ on := 20, ground := Ground.data }, { on := 19, ground := Ground.guard }], guard := some (19, true) }) (v := undef) rfl rfl (by kernel_rfl) (by kernel_rfl) (by kernel_rfl) (fun _ _ _ h => h) ⟨Or.inr ⟨by rfl, rfl⟩, fun _ => rfl⟩ ?_
    simp only [Act.put, List.setIfInBounds_toArray, List.set_cons_zero, List.set_cons_succ]
    refine wpAnyIn_take (i := 22) (oi := { dst := some 50, op := Op.fieldAddr 121 (Operand.tmp 49) 3, type := 0, pos := "node.go:177", after := #[{ on := 21, ground := Ground.data }, { on := 19, ground := Ground.guard }], guard := some (19, true) }) (v := undef) rfl rfl (by kernel_rfl) (by kernel_rfl) (by kernel_rfl) (fun _ _ _ h => h) ⟨Or.inr ⟨by rfl, rfl⟩, fun _ => rfl⟩ ?_
    simp only [Act.put, List.setIfInBounds_toArray, List.set_cons_zero, List.set_cons_succ]
    refine wpAnyIn_take (i := 23) (oi := { dst := some 51, op := Op.load 26 (Operand.tmp 50), type := 26, pos := "node.go:177", after := #[{ on := 22, ground := Ground.data }, { on := 19, ground := Ground.guard }], guard := some (19, true) }) (v := undef) rfl rfl (by kernel_rfl) (by kernel_rfl) (by kernel_rfl) (fun _ _ _ h => h) ⟨Or.inr ⟨by rfl, rfl⟩, fun _ => rfl⟩ ?_
    simp only [Act.put, List.setIfInBounds_toArray, List.set_cons_zero, List.set_cons_succ]
    refine wpAnyIn_take (i := 24) (oi := { dst := some 52, op := Op.move (Operand.tmp 2), type := 147, pos := "node.go:177", after := #[{ on := 19, ground := Ground.guard }], guard := some (19, true) }) (v := undef) rfl rfl (by kernel_rfl) (by kernel_rfl) (by kernel_rfl) (fun _ _ _ h => h) ⟨Or.inr ⟨by rfl, rfl⟩, fun _ => rfl⟩ ?_
    simp only [Act.put, List.setIfInBounds_toArray, List.set_cons_zero, List.set_cons_succ]
    refine skipP (i := 25) (o := { dst := some 53, op := Op.call { callee := Callee.value (Operand.func 93), args := #[Operand.tmp 51, Operand.const (Value.pointer none), Operand.tmp 52], argTypes := #[26, 158, 147] }, type := 4, pos := "node.go:177", after := #[{ on := 23, ground := Ground.data }, { on := 24, ground := Ground.data }, { on := 19, ground := Ground.chain }, { on := 19, ground := Ground.guard }], guard := some (19, true) }) rfl (by kernel_rfl) (by rfl) (fun _ => trivial) ?_
    simp only [Act.put, List.setIfInBounds_toArray, List.set_cons_zero, List.set_cons_succ]
    refine wpAnyIn_take (i := 26) (oi := { dst := some 54, op := Op.pick (Operand.tmp 47) (Operand.tmp 53) (Operand.const (Value.bool false)), type := 4, pos := "node.go:177", after := #[{ on := 19, ground := Ground.data }, { on := 25, ground := Ground.data }], guard := none }) (v := .bool false) rfl rfl (by kernel_rfl) (by kernel_rfl) (by kernel_rfl) (fun _ _ _ h => h) ⟨Or.inl ⟨by rfl, ?_⟩, fun _ => rfl⟩ ?_
    · intro w; go_simp
    simp only [Act.put, List.setIfInBounds_toArray, List.set_cons_zero, List.set_cons_succ]
    refine wpAnyIn_take (i := 27) (oi := { dst := some 6, op := Op.assign (Operand.tmp 54), type := 4, pos := "node.go:177", after := #[{ on := 26, ground := Ground.data }, { on := 25, ground := Ground.chain }, { on := 0, ground := Ground.phase }, { on := 1, ground := Ground.phase }, { on := 2, ground := Ground.phase }, { on := 3, ground := Ground.phase }, { on := 4, ground := Ground.phase }, { on := 5, ground := Ground.phase }, { on := 6, ground := Ground.phase }, { on := 7, ground := Ground.phase }, { on := 8, ground := Ground.phase }, { on := 9, ground := Ground.phase }, { on := 10, ground := Ground.phase }, { on := 11, ground := Ground.phase }, { on := 12, ground := Ground.phase }, { on := 13, ground := Ground.phase }, { on := 14, ground := Ground.phase }, { on := 15, ground := Ground.phase }, { on := 16, ground := Ground.phase }, { on := 17, ground := Ground.phase }, { on := 18, ground := Ground.phase }, { on := 19, ground := Ground.phase }, { on := 20, ground := Ground.phase }, { on := 21, ground := Ground.phase }, { on := 22, ground := Ground.phase }, { on := 23, ground := Ground.phase }, { on := 24, ground := Ground.phase }, { on := 25, ground := Ground.phase }, { on := 26, ground := Ground.phase }], guard := none }) (v := .bool false) rfl rfl (by kernel_rfl) (by kernel_rfl) (by kernel_rfl) (fun _ _ _ h => h) ⟨Or.inl ⟨by rfl, ?_⟩, fun _ => rfl⟩ ?_
    · intro w; go_simp
    simp only [Act.put, List.setIfInBounds_toArray, List.set_cons_zero, List.set_cons_succ]
    refine wpAnyIn_done (by kernel_rfl) ?_ _
    gi_wp2
    go_ret
    exact .inr ⟨rfl, q, hq.trans (by simp [T.toList]), hx1⟩

theorem walk_any (l n₀ N : Nat) (J Jx : List (Int × Int) → World → Prop) (hJd : ∀ pre W m, J pre W → J pre (W.drewN m)) (hY : YieldSaid l n₀ J Jx N) (t : T Int Int) :
    ∀ (n : Nat) (p : Option Addr) (pre : List (Int × Int)) (W : World), Tr n₀ W p t → J pre W → pre.length + t.toList.length ≤ N →
      CallsIn Fence.wide n Try.prog 93 #[.pointer p, .pointer none, .func (.yield l) #[] #[]] W fun e W' =>
        (e = .returned (.bool true) ∧ J (pre ++ t.toList) W' ∧ Below n₀ W W') ∨ (e = .returned (.bool false) ∧ ∃ q, q <+: t.toList ∧ Jx (pre ++ q) W') := by
  induction t with
  | nil => intro n p pre W ht hJ _; exact walk_nil l n₀ J Jx n p pre W ht hJ
  | node tl k v tr ihl ihr =>
    intro n p pre W ht hJ hN
    exact walk_node l n₀ N J Jx hJd hY tl k v tr n p pre W ht hJ (by simpa [T.toList, Nat.add_assoc, Nat.add_comm 1] using hN) ihl ihr

/-- The closure that All returns. -/
theorem all1_in (n : Nat) (l Bt n₀ : Nat) (p0 : Option Addr) (t : T Int Int) (J Jx : List (Int × Int) → World → Prop) (hJd : ∀ pre W m, J pre W → J pre (W.drewN m)) (hY : YieldSaid l n₀ J Jx t.toList.length)
    (W : World) (hBt : W.cell? ⟨Bt, 0, none⟩ = some (.pointer p0)) (hT : Tr n₀ W p0 t) (h0 : J [] W) :
    CallsIn Fence.wide n Try.prog 92 #[.func (.yield l) #[] #[], .pointer (some ⟨Bt, 0, none⟩)] W fun e W' => (∃ v, e = .returned v) ∧
      ((∃ ys, ys = t.toList ∧ J ys W') ∨ (∃ pre, pre <+: t.toList ∧ Jx pre W')) := by
  have hp := walk_any l n₀ t.toList.length J Jx hJd hY t (n - 1) p0 [] W hT h0 (by simp)
  refine callsIn_of_wp Try.func92 rfl trivial ?_ rfl
  simp only [Try.ntmps92, List.size_toArray, List.length_cons, List.length_nil, Nat.reduceAdd, Nat.reduceSub, Array.replicate_succ, Array.replicate_zero, List.push_toArray, List.append_toArray, List.nil_append, List.cons_append]
  gi_wp2_with (refine ⟨trivial, ?_⟩; (try refine ⟨(fun h => (by cases h)), ?_⟩); gi_at_call 93; refine hp.mono ?_; clear hp; rintro e W1 (⟨rfl, hJ1, _⟩ | ⟨rfl, q, hq, hx⟩))
  · go_end0
    exact ⟨⟨_, rfl⟩, .inl ⟨_, rfl, by simpa using hJ1⟩⟩
  · go_end0
    exact ⟨⟨_, rfl⟩, .inr ⟨q, hq, by simpa using hx⟩⟩

theorem all_in (n : Nat) (p0 : Option Addr) (w : World) :
    CallsIn Fence.wide n Try.prog 55 #[.agg #[.pointer p0]] w fun e w' => e = .returned (.func (.func 92) #[] #[.pointer (some ⟨w.heap.size, 0, none⟩)]) ∧ w' = w.alloc (.cells #[.pointer p0] 28) := by
  refine callsIn_of_wp Try.func55 rfl trivial ?_ rfl
  simp only [Try.ntmps55, List.size_toArray, List.length_cons, List.length_nil, Nat.reduceAdd, Nat.reduceSub, Array.replicate_succ, Array.replicate_zero, List.push_toArray, List.append_toArray, List.nil_append, List.cons_append]
  gi_wp2
  go_ret
  exact ⟨rfl, rfl⟩

theorem all_stops (n : Nat) (Bt n₀ : Nat) (p0 : Option Addr) (t : T Int Int) (w : World) (hBt : Bt < w.heap.size) (hn₀ : n₀ ≤ w.heap.size)
    (hc : w.cell? ⟨Bt, 0, none⟩ = some (.pointer p0)) (hT : Tr n₀ w p0 t) :
    SeqStopsK Fence.wide n Try.prog 92 #[.pointer (some ⟨Bt, 0, none⟩)] (fun x : Int × Int => #[.int .i64 x.1, .int .i64 x.2]) (Below n₀) (fun ys => ys = t.toList) (fun pre => pre <+: t.toList) t.toList.length w :=
  fun l J Jx W hW hJ _ hY h0 => all1_in n l Bt n₀ p0 t J Jx (fun pre W m h => hJ pre W _ none h ⟨rfl, rfl, rfl, Nat.le_refl _, fun _ _ _ => rfl⟩ (fun r e => (by cases e)))
    (fun m pre x W hj hl => yield_any m (hY pre x W hj hl)) W ((hW.cell (p := ⟨Bt, 0, none⟩) hBt).trans hc) (hT.below (hW.mono hn₀)) h0

/-- The cells of a list of pairs. -/
def flat (l : List (Int × Int)) : List Value := l.flatMap fun x => [ek x.1, ev x.2]
theorem flat_snoc (pre : List (Int × Int)) (x : Int × Int) : flat (pre ++ [x]) = flat pre ++ [.int .i64 x.1, .int .i64 x.2] := by simp [flat]

theorem infoPair : (Try.prog.info? 36).map (fun i => (i.zero, i.size, i.bytes)) = some (some (.agg #[.int .i64 0, .int .i64 0]), 2, 16) := by kernel_rfl


set_option maxRecDepth 100000 in
set_option maxHeartbeats 2000000 in
theorem pairs_in (n : Nat) (hn : 3 ≤ n) (p0 : Option Addr) (t : T Int Int) (hlen : t.size ≤ 1099511627776) (w : World) (hL : Tr w.heap.size w p0 t) :
    CallsIn Fence.wide n Try.prog 18 #[.agg #[.pointer p0]] w fun e W' => ∃ v, e = .returned v ∧ W'.ownsRow w.heap.size 36 2 v t.toList.length (flat t.toList) ∧ (v = .slice none 0 0 ↔ t.toList = []) ∧ Below w.heap.size w W' := by
  have h1 : 1 ≤ n := by omega
  have hsz : t.toList.length ≤ 1099511627776 := by rw [T.length_toList]; exact hlen
  obtain ⟨i0, hi, hz0, hz1, hz2⟩ := info_parts infoPair
  refine callsIn_of_wp_marks Try.func18 rfl trivial ?_ rfl
  simp only [Try.ntmps18, List.size_toArray, List.length_cons, List.length_nil, Nat.reduceAdd, Nat.reduceSub, Array.replicate_succ, Array.replicate_zero, List.push_toArray, List.append_toArray, List.nil_append, List.cons_append]
  gi_wp2_with (refine ⟨trivial, ?_⟩; (try refine ⟨(fun h => (by cases h)), ?_⟩); gi_at_call 55; refine (all_in (n - 1) _ _).mono ?_; rintro e w' ⟨rfl, rfl⟩)
  have bO := (Boxed.new (w.alloc (.cells #[.pointer p0] 28)) 24 (.slice none 0 0)).alloc (.cells #[.pointer p0] 28)
  have bN := Boxed.new ((w.alloc (.cells #[.pointer p0] 28)).alloc (.cells #[.slice none 0 0] 24)) 28 (.pointer p0)
  simp only [World.size_alloc] at bO bN
  have hB0 : Below w.heap.size w (((w.alloc (.cells #[.pointer p0] 28)).alloc (.cells #[.slice none 0 0] 24)).alloc (.cells #[.pointer p0] 28)) := below_three _ _ _ _
  refine wpIn_rangeFunc_ownG rfl h1 (gf := 92) (lb := #[.pointer (some ⟨w.heap.size + 1 + 1, 0, none⟩)]) rfl trivial (enters_of Try.func92 (by kernel_rfl) rfl)
    (all_stops (n - 1) (w.heap.size + 1 + 1) w.heap.size p0 t _ (by simp) (by simp; omega) bN.cell (hL.below hB0)) belowK_t (belowK_b (by simp; omega)) (Below.refl _ _) (fun _ => rfl)
    (fun pre W => (∃ v, Boxed W (w.heap.size + 1) 24 v ∧ W.ownsRow w.heap.size 36 2 v pre.length (flat pre) ∧ (v = .slice none 0 0 ↔ pre = [])) ∧ Below w.heap.size w W)
    (fun _ _ _ => False)
    (OwnFrom.and (Own.from (holdsRow_own w.heap.size (w.heap.size + 1) 24 36 2 (fun pre => pre.length) (fun pre => flat pre) (fun pre v => v = .slice none 0 0 ↔ pre = [])) _) (ownFrom_below (Nat.le_refl _) (by simp; omega)))
    (fun _ _ _ _ _ hs _ _ => hs)
    ⟨⟨_, bO, World.ownsRow_nil _ _ _ _, by simp⟩, hB0⟩
    (fun x => { tmps := #[.agg #[.pointer p0], .pointer (some ⟨w.heap.size, 0, none⟩), .slice none 0 0, .pointer (some ⟨w.heap.size + 1, 0, none⟩), .int .i64 x.1, .int .i64 x.2, .agg #[.pointer p0], .func (.func 92) #[] #[.pointer (some ⟨w.heap.size + 1 + 1, 0, none⟩)], .int .i64 x.1, .int .i64 x.2, undef, undef, undef, undef, undef, undef, undef], defers := [] }) ?assign ?body ?done ?stop
  case assign =>
    intro l x W K hK
    gi_wp2
    exact hK
  case body =>
    rintro l pre x W ⟨⟨v, hv, hrow, hnil⟩, hB⟩ hlt
    have hc := hv.cell
    gi_wp2_with (gi_at_builtin; refine wpListIn_append_own _ rfl _ _ 24 rfl w.heap.size 36 i0 (.agg #[.int .i64 0, .int .i64 0]) 2 16 Try.underlying24 hi hz0 hz1 hz2 rfl (by decide) _ _ _ rfl (hrow.alloc _) ⟨W.heap.size, 0, none⟩ 1 1 [.int .i64 x.1, .int .i64 x.2] rfl rfl (cell_two_new _ _ _ _) (by simp [Value.oneCell']) (by unfold maxLen; omega) (by omega) (by have := hB.size; simp; omega) ?_; intro v' w1 hown' hgrow _; obtain ⟨g', cap', rfl⟩ := ownsRow_succ hown'; obtain ⟨hv1, hv2, hr2, hk2, hb2⟩ := hv.appended (by decide) hrow hB.size (by omega) hown' hgrow; have hc1 := hv1.cell; have hf1 := hv1.frozen)
    exact ⟨hk2.from _, hb2, ⟨_, hv2, by rw [flat_snoc]; simpa using hr2, by simp⟩, hB.trans hb2⟩
  case done =>
    rintro D ys W hD rfl ⟨⟨v, hv, hrow, hnil⟩, hB⟩ hK
    have hc := hv.cell
    gi_wp2
    refine ⟨by simp, .inl ⟨_, _, rfl, run_takeDeferred hK, ?_⟩⟩
    exact ⟨_, results_tmp rfl _ _ _, v, rfl, ownsRow_putObj hrow _ hK rfl, hnil, hB.trans (belowK_b (w := w) (Nat.le_refl _) W D _ _ (by simp at hD; omega) hK rfl rfl)⟩
  case stop =>
    rintro D c pre W _ _ h _
    exact h.elim

theorem Pairs_any (p0 : Option Addr) (t : T Int Int) (hlen : t.size ≤ 1099511627776) (w : World) (hL : Tr w.heap.size w p0 t) :
    Calls Try.prog 18 #[.agg #[.pointer p0]] w fun e W' => ∃ v, e = .returned v ∧ W'.ownsRow w.heap.size 36 2 v t.toList.length (flat t.toList) ∧ (v = .slice none 0 0 ↔ t.toList = []) ∧ Below w.heap.size w W' :=
  (callsIn_wide (n := 3)).1 (pairs_in 3 (Nat.le_refl _) p0 t hlen w hL)
end Go.Proofs.MT.II
