/- The iterators over a tree from a key on, and in descending order. -/
import Derived.Test.YtnhngaadegebfaaA7
namespace Go.Proofs.MT.II
open Go.RowKit Go.Shelf
set_option linter.unusedVariables false
set_option linter.unusedSimpArgs false

attribute [local go_sem] Oper.semAt_some

/-- What comes from a key on. -/
def fromL (q : Int) : T Int Int → List (Int × Int)
  | .nil => []
  | .node l k v r => if k < q then fromL q r else fromL q l ++ (k, v) :: r.toList
theorem fromL_le (q : Int) : ∀ t : T Int Int, (fromL q t).length ≤ t.toList.length
  | .nil => by simp [fromL]
  | .node l k v r => by
    have h1 := fromL_le q l
    have h2 := fromL_le q r
    unfold fromL
    by_cases h : k < q <;> simp [h, T.toList] <;> omega

theorem from_nil (l n₀ Bk : Nat) (key : Int) (J Jx : List (Int × Int) → World → Prop) (n : Nat) (p : Option Addr) (pre : List (Int × Int)) (W : World) (ht : Tr n₀ W p (.nil : T Int Int)) (hJ : J pre W) :
      CallsIn Fence.wide n Try.prog 93 #[.pointer p, .pointer (some ⟨Bk, 0, none⟩), .func (.yield l) #[] #[]] W fun e W' =>
        (e = .returned (.bool true) ∧ J (pre ++ (fromL key .nil)) W' ∧ Below n₀ W W') ∨ (e = .returned (.bool false) ∧ ∃ q, q <+: (fromL key .nil) ∧ Jx (pre ++ q) W') := by
  obtain rfl : p = none := ht
  refine callsIn_of_wp Try.func93 rfl trivial ?_ rfl
  simp only [Try.ntmps93, List.size_toArray, List.length_cons, List.length_nil, Nat.reduceAdd, Nat.reduceSub, Array.replicate_succ, Array.replicate_zero, List.push_toArray, List.append_toArray, List.nil_append, List.cons_append]
  gi_wp2
  go_ret
  exact .inl ⟨rfl, by simpa [fromL] using hJ, Below.refl _ _⟩

set_option maxRecDepth 100000 in
set_option maxHeartbeats 2000000 in
theorem from_right (l n₀ N Bk : Nat) (key : Int) (J Jx : List (Int × Int) → World → Prop)
    (hJd : ∀ pre W m, J pre W → J pre (W.drewN m)) (hJk : ∀ pre W, J pre W → W.cell? ⟨Bk, 0, none⟩ = some (.int .i64 key)) (hY : YieldSaid l n₀ J Jx N)
    (tl : T Int Int) (k : Int) (v : Int) (tr : T Int Int) (n : Nat) (p : Option Addr) (pre : List (Int × Int)) (W : World) (ht : Tr n₀ W p (.node tl k v tr)) (hJ : J pre W)
    (hkk : k < key) (hN : pre.length + (fromL key tr).length ≤ N)
    (ihr : ∀ (n : Nat) (p : Option Addr) (pre : List (Int × Int)) (W : World), Tr n₀ W p tr → J pre W → pre.length + ((fromL key tr)).length ≤ N →
      CallsIn Fence.wide n Try.prog 93 #[.pointer p, .pointer (some ⟨Bk, 0, none⟩), .func (.yield l) #[] #[]] W fun e W' =>
        (e = .returned (.bool true) ∧ J (pre ++ (fromL key tr)) W' ∧ Below n₀ W W') ∨ (e = .returned (.bool false) ∧ ∃ q, q <+: (fromL key tr) ∧ Jx (pre ++ q) W'))
    :
      CallsIn Fence.wide n Try.prog 93 #[.pointer p, .pointer (some ⟨Bk, 0, none⟩), .func (.yield l) #[] #[]] W fun e W' =>
        (e = .returned (.bool true) ∧ J (pre ++ (fromL key tr)) W' ∧ Below n₀ W W') ∨ (e = .returned (.bool false) ∧ ∃ q, q <+: (fromL key tr) ∧ Jx (pre ++ q) W') := by
  have IHr := Lib.hid ihr
  have HY := Lib.hid hY
  have HJD := Lib.hid hJd
  have HJ := Lib.hid hJ
  have ck := hJk _ _ hJ
  have HJK := Lib.hid hJk
  clear ihr hY hJd hJ hJk
  obtain ⟨b, pl, pr, rfl, hb, c0, c1, c2, c3, c4, hl, hr⟩ := ht
  clear c4 c1 c2
  have c0' : W.cell? ⟨b, 0, none⟩ = some (.int .i64 k) := c0
  clear c0
  refine callsIn_of_wp Try.func93 rfl trivial ?_ rfl
  simp only [Try.ntmps93, List.size_toArray, List.length_cons, List.length_nil, Nat.reduceAdd, Nat.reduceSub, Array.replicate_succ, Array.replicate_zero, List.push_toArray, List.append_toArray, List.nil_append, List.cons_append]
  gi_wp2
  gi_quiet (fail)
  have hS0 : Below n₀ W (W.drewN nq) := below_draws (Below.refl _ _) _
  have hJ0 : J pre (W.drewN nq) := HJD.out pre W nq HJ.out
  have hr0 := hr.below hS0
  gi_wp2_with (refine ⟨trivial, ?_⟩; (try refine ⟨(fun h => (by cases h)), ?_⟩); gi_at_call 93; refine (IHr.out (n - 1) pr pre _ hr0 hJ0 (by omega)).mono ?_; rintro e W1 (⟨rfl, hJ1, hb1⟩ | ⟨rfl, q, hq, hx1⟩))
  · go_ret
    exact .inl ⟨rfl, hJ1, hS0.trans hb1⟩
  · go_ret
    exact .inr ⟨rfl, q, hq, hx1⟩

set_option maxRecDepth 100000 in
set_option maxHeartbeats 2000000 in
theorem from_left (l n₀ N Bk : Nat) (key : Int) (J Jx : List (Int × Int) → World → Prop)
    (hJd : ∀ pre W m, J pre W → J pre (W.drewN m)) (hJk : ∀ pre W, J pre W → W.cell? ⟨Bk, 0, none⟩ = some (.int .i64 key)) (hY : YieldSaid l n₀ J Jx N)
    (tl : T Int Int) (k : Int) (v : Int) (tr : T Int Int) (n : Nat) (p : Option Addr) (pre : List (Int × Int)) (W : World) (ht : Tr n₀ W p (.node tl k v tr)) (hJ : J pre W)
    (hkk : ¬ k < key) (hN : pre.length + ((fromL key tl).length + 1 + tr.toList.length) ≤ N)
    (ihl : ∀ (n : Nat) (p : Option Addr) (pre : List (Int × Int)) (W : World), Tr n₀ W p tl → J pre W → pre.length + ((fromL key tl)).length ≤ N →
      CallsIn Fence.wide n Try.prog 93 #[.pointer p, .pointer (some ⟨Bk, 0, none⟩), .func (.yield l) #[] #[]] W fun e W' =>
        (e = .returned (.bool true) ∧ J (pre ++ (fromL key tl)) W' ∧ Below n₀ W W') ∨ (e = .returned (.bool false) ∧ ∃ q, q <+: (fromL key tl) ∧ Jx (pre ++ q) W'))
    (ihr : ∀ (n : Nat) (p : Option Addr) (pre : List (Int × Int)) (W : World), Tr n₀ W p tr → J pre W → pre.length + (tr.toList).length ≤ N →
      CallsIn Fence.wide n Try.prog 93 #[.pointer p, .pointer none, .func (.yield l) #[] #[]] W fun e W' =>
        (e = .returned (.bool true) ∧ J (pre ++ tr.toList) W' ∧ Below n₀ W W') ∨ (e = .returned (.bool false) ∧ ∃ q, q <+: tr.toList ∧ Jx (pre ++ q) W'))
    :
      CallsIn Fence.wide n Try.prog 93 #[.pointer p, .pointer (some ⟨Bk, 0, none⟩), .func (.yield l) #[] #[]] W fun e W' =>
        (e = .returned (.bool true) ∧ J (pre ++ (fromL key tl ++ (k, v) :: tr.toList)) W' ∧ Below n₀ W W') ∨ (e = .returned (.bool false) ∧ ∃ q, q <+: (fromL key tl ++ (k, v) :: tr.toList) ∧ Jx (pre ++ q) W') := by
  have IHl := Lib.hid ihl
  have IHr := Lib.hid ihr
  have HY := Lib.hid hY
  have HJD := Lib.hid hJd
  have HJ := Lib.hid hJ
  have ck := hJk _ _ hJ
  clear ihl ihr hY hJd hJ hJk
  obtain ⟨b, pl, pr, rfl, hb, c0, c1, c2, c3, c4, hl, hr⟩ := ht
  clear c4
  have C0 := Lib.hid c0
  have c0' : W.cell? ⟨b, 0, none⟩ = some (.int .i64 k) := c0
  clear c0
  refine callsIn_of_wp Try.func93 rfl trivial ?_ rfl
  simp only [Try.ntmps93, List.size_toArray, List.length_cons, List.length_nil, Nat.reduceAdd, Nat.reduceSub, Array.replicate_succ, Array.replicate_zero, List.push_toArray, List.append_toArray, List.nil_append, List.cons_append]
  gi_wp2
  gi_quiet (fail)
  clear ck c0'
  have c0 := C0.out
  gi_wp2
  refine wpIn_region_any (by kernel_rfl) ?_
  have hS0 : Below n₀ W (W.drewN (nq + 1)) := below_draws (Below.refl _ _) _
  have hJ0 : J pre (W.drewN (nq + 1)) := HJD.out pre W (nq + 1) HJ.out
  have hl0 := hl.below hS0
  have f2 : (W.drewN (nq + 1)).cell? ⟨b, 2, none⟩ = some (.pointer pl) := (hS0.cell (p := ⟨b, 2, none⟩) hb).trans c2
  show wpAnyIn _ _ _ _ _ _ _ _ _ (W.drewN (nq + 1))
  refine wpAnyIn_take (i := 0) (oi := { dst := some 28, op := Op.move (Operand.tmp 0), type := 26, pos := "node.go:177", after := #[], guard := none }) (v := .pointer (some ⟨b, 0, none⟩)) rfl rfl (by kernel_rfl) (by kernel_rfl) (by kernel_rfl) (fun _ _ _ h => h) ⟨Or.inl ⟨by rfl, ?_⟩, fun _ => rfl⟩ ?_
  · intro w; go_simp
  simp only [Act.put, List.setIfInBounds_toArray, List.set_cons_zero, List.set_cons_succ]
  refine wpAnyIn_take (i := 1) (oi := { dst := some 29, op := Op.nilCheck (Operand.tmp 28), type := 0, pos := "node.go:177", after := #[{ on := 0, ground := Ground.data }], guard := none }) (v := .pointer (some ⟨b, 0, none⟩)) rfl rfl (by kernel_rfl) (by kernel_rfl) (by kernel_rfl) (fun _ _ _ h => h) ⟨Or.inl ⟨by rfl, ?_⟩, fun _ => rfl⟩ ?_
  · intro w; go_simp
  simp only [Act.put, List.setIfInBounds_toArray, List.set_cons_zero, List.set_cons_succ]
  refine wpAnyIn_take (i := 2) (oi := { dst := some 30, op := Op.fieldAddr 121 (Operand.tmp 29) 2, type := 0, pos := "node.go:177", after := #[{ on := 1, ground := Ground.data }], guard := none }) (v := .pointer (some ⟨b, 2, none⟩)) rfl rfl (by kernel_rfl) (by kernel_rfl) (by kernel_rfl) (fun _ _ _ h => h) ⟨Or.inl ⟨by rfl, ?_⟩, fun _ => rfl⟩ ?_
  · intro w; go_simp
  simp only [Act.put, List.setIfInBounds_toArray, List.set_cons_zero, List.set_cons_succ]
  refine wpAnyIn_take (i := 4) (oi := { dst := some 32, op := Op.move (Operand.tmp 1), type := 158, pos := "node.go:177", after := #[], guard := none }) (v := .pointer (some ⟨Bk, 0, none⟩)) rfl rfl (by kernel_rfl) (by kernel_rfl) (by kernel_rfl) (fun _ _ _ h => h) ⟨Or.inl ⟨by rfl, ?_⟩, fun _ => rfl⟩ ?_
  · intro w; go_simp
  simp only [Act.put, List.setIfInBounds_toArray, List.set_cons_zero, List.set_cons_succ]
  refine wpAnyIn_take (i := 5) (oi := { dst := some 33, op := Op.move (Operand.tmp 2), type := 147, pos := "node.go:177", after := #[], guard := none }) (v := .func (.yield l) #[] #[]) rfl rfl (by kernel_rfl) (by kernel_rfl) (by kernel_rfl) (fun _ _ _ h => h) ⟨Or.inl ⟨by rfl, ?_⟩, fun _ => rfl⟩ ?_
  · intro w; go_simp
  simp only [Act.put, List.setIfInBounds_toArray, List.set_cons_zero, List.set_cons_succ]
  refine readP (i := 3) (o := { dst := some 31, op := Op.load 26 (Operand.tmp 30), type := 26, pos := "node.go:177", after := #[{ on := 2, ground := Ground.data }], guard := none }) (v := .pointer pl) rfl rfl (by kernel_rfl) (by rfl) rfl (by go_simp) ?_
  simp only [Act.put, List.setIfInBounds_toArray, List.set_cons_zero, List.set_cons_succ]
  refine onlyP (i := 6) (o := { dst := some 34, op := Op.call { callee := Callee.value (Operand.func 93), args := #[Operand.tmp 31, Operand.tmp 32, Operand.tmp 33], argTypes := #[26, 158, 147] }, type := 4, pos := "node.go:177", after := #[{ on := 3, ground := Ground.data }, { on := 4, ground := Ground.data }, { on := 5, ground := Ground.data }], guard := none }) rfl (by kernel_rfl) (by rfl) (fun K hK => ?_)
  go_simp
  refine ⟨trivial, (fun h => (by cases h)), ?_⟩
  refine (IHl.out (n - 1) pl pre _ hl0 hJ0 (by omega)).mono ?_
  rintro e W1 (⟨rfl, hJ1, hb1⟩ | ⟨rfl, q, hq, hx1⟩)
  · have hS1 : Below n₀ W W1 := hS0.trans hb1
    refine hK _ _ ?_
    clear hK K
    try simp only [Act.put, List.setIfInBounds_toArray, List.set_cons_zero, List.set_cons_succ]
    refine wpAnyIn_take (i := 7) (oi := { dst := some 35, op := Op.move (Operand.tmp 34), type := 4, pos := "node.go:177", after := #[{ on := 6, ground := Ground.data }, { on := 6, ground := Ground.chain }], guard := none }) (v := .bool true) rfl rfl (by kernel_rfl) (by kernel_rfl) (by kernel_rfl) (fun _ _ _ h => h) ⟨Or.inl ⟨by rfl, ?_⟩, fun _ => rfl⟩ ?_
    · intro w; go_simp
    simp only [Act.put, List.setIfInBounds_toArray, List.set_cons_zero, List.set_cons_succ]
    have g0 : W1.cell? ⟨b, 0, none⟩ = some (ek k) := (hS1.cell (p := ⟨b, 0, none⟩) hb).trans c0
    have g1 : W1.cell? ⟨b, 1, none⟩ = some (ev v) := (hS1.cell (p := ⟨b, 1, none⟩) hb).trans c1
    refine wpAnyIn_take (i := 8) (oi := { dst := some 36, op := Op.move (Operand.tmp 2), type := 147, pos := "node.go:177", after := #[{ on := 7, ground := Ground.guard }], guard := some (7, true) }) (v := .func (.yield l) #[] #[]) rfl rfl (by kernel_rfl) (by kernel_rfl) (by kernel_rfl) (fun _ _ _ h => h) ⟨Or.inl ⟨by rfl, ?_⟩, fun _ => rfl⟩ ?_
    · intro w; go_simp
    simp only [Act.put, List.setIfInBounds_toArray, List.set_cons_zero, List.set_cons_succ]
    refine wpAnyIn_take (i := 9) (oi := { dst := some 37, op := Op.move (Operand.tmp 0), type := 26, pos := "node.go:177", after := #[{ on := 7, ground := Ground.guard }], guard := some (7, true) }) (v := .pointer (some ⟨b, 0, none⟩)) rfl rfl (by kernel_rfl) (by kernel_rfl) (by kernel_rfl) (fun _ _ _ h => h) ⟨Or.inl ⟨by rfl, ?_⟩, fun _ => rfl⟩ ?_
    · intro w; go_simp
    simp only [Act.put, List.setIfInBounds_toArray, List.set_cons_zero, List.set_cons_succ]
    refine wpAnyIn_take (i := 10) (oi := { dst := some 38, op := Op.nilCheck (Operand.tmp 37), type := 0, pos := "node.go:177", after := #[{ on := 9, ground := Ground.data }, { on := 7, ground := Ground.guard }], guard := some (7, true) }) (v := .pointer (some ⟨b, 0, none⟩)) rfl rfl (by kernel_rfl) (by kernel_rfl) (by kernel_rfl) (fun _ _ _ h => h) ⟨Or.inl ⟨by rfl, ?_⟩, fun _ => rfl⟩ ?_
    · intro w; go_simp
    simp only [Act.put, List.setIfInBounds_toArray, List.set_cons_zero, List.set_cons_succ]
    refine wpAnyIn_take (i := 11) (oi := { dst := some 39, op := Op.fieldAddr 121 (Operand.tmp 38) 0, type := 0, pos := "node.go:177", after := #[{ on := 10, ground := Ground.data }, { on := 7, ground := Ground.guard }], guard := some (7, true) }) (v := .pointer (some ⟨b, 0, none⟩)) rfl rfl (by kernel_rfl) (by kernel_rfl) (by kernel_rfl) (fun _ _ _ h => h) ⟨Or.inl ⟨by rfl, ?_⟩, fun _ => rfl⟩ ?_
    · intro w; go_simp
    simp only [Act.put, List.setIfInBounds_toArray, List.set_cons_zero, List.set_cons_succ]
    refine wpAnyIn_take (i := 13) (oi := { dst := some 41, op := Op.move (Operand.tmp 0), type := 26, pos := "node.go:177", after := #[{ on := 7, ground := Ground.guard }], guard := some (7, true) }) (v := .pointer (some ⟨b, 0, none⟩)) rfl rfl (by kernel_rfl) (by kernel_rfl) (by kernel_rfl) (fun _ _ _ h => h) ⟨Or.inl ⟨by rfl, ?_⟩, fun _ => rfl⟩ ?_
    · intro w; go_simp
    simp only [Act.put, List.setIfInBounds_toArray, List.set_cons_zero, List.set_cons_succ]
    refine wpAnyIn_take (i := 14) (oi := { dst := some 42, op := Op.nilCheck (Operand.tmp 41), type := 0, pos := "node.go:177", after := #[{ on := 13, ground := Ground.data }, { on := 7, ground := Ground.guard }], guard := some (7, true) }) (v := .pointer (some ⟨b, 0, none⟩)) rfl rfl (by kernel_rfl) (by kernel_rfl) (by kernel_rfl) (fun _ _ _ h => h) ⟨Or.inl ⟨by rfl, ?_⟩, fun _ => rfl⟩ ?_
    · intro w; go_simp
    simp only [Act.put, List.setIfInBounds_toArray, List.set_cons_zero, List.set_cons_succ]
    refine wpAnyIn_take (i := 15) (oi := { dst := some 43, op := Op.fieldAddr 121 (Operand.tmp 42) 1, type := 0, pos := "node.go:177", after := #[{ on := 14, ground := Ground.data }, { on := 7, ground := Ground.guard }], guard := some (7, true) }) (v := .pointer (some ⟨b, 1, none⟩)) rfl rfl (by kernel_rfl) (by kernel_rfl) (by kernel_rfl) (fun _ _ _ h => h) ⟨Or.inl ⟨by rfl, ?_⟩, fun _ => rfl⟩ ?_
    · intro w; go_simp
    simp only [Act.put, List.setIfInBounds_toArray, List.set_cons_zero, List.set_cons_succ]
    refine twoP (i := 12) (j := 16) (oi := { dst := some 40, op := Op.load 3 (Operand.tmp 39), type := 3, pos := "node.go:177", after := #[{ on := 11, ground := Ground.data }, { on := 7, ground := Ground.guard }], guard := some (7, true) }) (oj := { dst := some 44, op := Op.load 3 (Operand.tmp 43), type := 3, pos := "node.go:177", after := #[{ on := 15, ground := Ground.data }, { on := 7, ground := Ground.guard }], guard := some (7, true) }) (di := 40) (dj := 44) (vi := ek k) (vj := ev v) rfl rfl rfl rfl rfl (by decide) (by decide) (by kernel_rfl) (by kernel_rfl) (by kernel_rfl) (by rfl) (by rfl) (by rfl) (by rfl) (fun _ => rfl) (fun _ => rfl) (by go_simp) (by go_simp) (by simp only [Act.put, List.setIfInBounds_toArray, List.set_cons_zero, List.set_cons_succ]; go_simp) (by simp only [Act.put, List.setIfInBounds_toArray, List.set_cons_zero, List.set_cons_succ]; go_simp) ?_
    simp only [Act.put, List.setIfInBounds_toArray, List.set_cons_zero, List.set_cons_succ]
    obtain ⟨fn, tmps, assign, body, hy, hR⟩ := HY.out (n - 1) (pre ++ fromL key tl) (k, v) W1 hJ1 (by rw [List.length_append]; omega)
    refine onlyP (i := 17) (o := { dst := some 45, op := Op.call { callee := Callee.value (Operand.tmp 36), args := #[Operand.tmp 40, Operand.tmp 44], argTypes := #[3, 3] }, type := 4, pos := "node.go:177", after := #[{ on := 8, ground := Ground.data }, { on := 12, ground := Ground.data }, { on := 16, ground := Ground.data }, { on := 7, ground := Ground.chain }, { on := 7, ground := Ground.guard }], guard := some (7, true) }) rfl (by kernel_rfl) (by rfl) (fun K hK => ?_)
    go_simp
    refine ⟨(fun h => (by cases h)), ?_⟩
    refine hR.mono ?_
    clear hR hy
    rintro e W2 (⟨rfl, hJ2, hb2⟩ | ⟨rfl, hx2⟩)
    · have hS2 : Below n₀ W W2 := hS1.trans hb2
      refine hK _ _ ?_
      clear hK K
      try simp only [Act.put, List.setIfInBounds_toArray, List.set_cons_zero, List.set_cons_succ]
      have g3 : W2.cell? ⟨b, 3, none⟩ = some (.pointer pr) := (hS2.cell (p := ⟨b, 3, none⟩) hb).trans c3
      refine wpAnyIn_take (i := 18) (oi := { dst := some 46, op := Op.pick (Operand.tmp 35) (Operand.tmp 45) (Operand.const (Value.bool false)), type := 4, pos := "node.go:177", after := #[{ on := 7, ground := Ground.data }, { on := 17, ground := Ground.data }], guard := none }) (v := .bool true) rfl rfl (by kernel_rfl) (by kernel_rfl) (by kernel_rfl) (fun _ _ _ h => h) ⟨Or.inl ⟨by rfl, ?_⟩, fun _ => rfl⟩ ?_
      · intro w; go_simp
      simp only [Act.put, List.setIfInBounds_toArray, List.set_cons_zero, List.set_cons_succ]
      refine wpAnyIn_take (i := 19) (oi := { dst := some 47, op := Op.move (Operand.tmp 46), type := 4, pos := "node.go:177", after := #[{ on := 18, ground := Ground.data }, { on := 17, ground := Ground.chain }], guard := none }) (v := .bool true) rfl rfl (by kernel_rfl) (by kernel_rfl) (by kernel_rfl) (fun _ _ _ h => h) ⟨Or.inl ⟨by rfl, ?_⟩, fun _ => rfl⟩ ?_
      · intro w; go_simp
      simp only [Act.put, List.setIfInBounds_toArray, List.set_cons_zero, List.set_cons_succ]
      refine wpAnyIn_take (i := 20) (oi := { dst := some 48, op := Op.move (Operand.tmp 0), type := 26, pos := "node.go:177", after := #[{ on := 19, ground := Ground.guard }], guard := some (19, true) }) (v := .pointer (some ⟨b, 0, none⟩)) rfl rfl (by kernel_rfl) (by kernel_rfl) (by kernel_rfl) (fun _ _ _ h => h) ⟨Or.inl ⟨by rfl, ?_⟩, fun _ => rfl⟩ ?_
      · intro w; go_simp
      simp only [Act.put, List.setIfInBounds_toArray, List.set_cons_zero, List.set_cons_succ]
      refine wpAnyIn_take (i := 21) (oi := { dst := some 49, op := Op.nilCheck (Operand.tmp 48), type := 0, pos := "node.go:177", after := #[{ on := 20, ground := Ground.data }, { on := 19, ground := Ground.guard }], guard := some (19, true) }) (v := .pointer (some ⟨b, 0, none⟩)) rfl rfl (by kernel_rfl) (by kernel_rfl) (by kernel_rfl) (fun _ _ _ h => h) ⟨Or.inl ⟨by rfl, ?_⟩, fun _ => rfl⟩ ?_
      · intro w; go_simp
      simp only [Act.put, List.setIfInBounds_toArray, List.set_cons_zero, List.set_cons_succ]
      refine wpAnyIn_take (i := 22) (oi := { dst := some 50, op := Op.fieldAddr 121 (Operand.tmp 49) 3, type := 0, pos := "node.go:177", after := #[{ on := 21, ground := Ground.data }, { on := 19, ground := Ground.guard }], guard := some (19, true) }) (v := .pointer (some ⟨b, 3, none⟩)) rfl rfl (by kernel_rfl) (by kernel_rfl) (by kernel_rfl) (fun _ _ _ h => h) ⟨Or.inl ⟨by rfl, ?_⟩, fun _ => rfl⟩ ?_
      · intro w; go_simp
      simp only [Act.put, List.setIfInBounds_toArray, List.set_cons_zero, List.set_cons_succ]
      refine wpAnyIn_take (i := 24) (oi := { dst := some 52, op := Op.move (Operand.tmp 2), type := 147, pos := "node.go:177", after := #[{ on := 19, ground := Ground.guard }], guard := some (19, true) }) (v := .func (.yield l) #[] #[]) rfl rfl (by kernel_rfl) (by kernel_rfl) (by kernel_rfl) (fun _ _ _ h => h) ⟨Or.inl ⟨by rfl, ?_⟩, fun _ => rfl⟩ ?_
      · intro w; go_simp
      simp only [Act.put, List.setIfInBounds_toArray, List.set_cons_zero, List.set_cons_succ]
      refine readP (i := 23) (o := { dst := some 51, op := Op.load 26 (Operand.tmp 50), type := 26, pos := "node.go:177", after := #[{ on := 22, ground := Ground.data }, { on := 19, ground := Ground.guard }], guard := some (19, true) }) (v := .pointer pr) rfl rfl (by kernel_rfl) (by rfl) rfl (by go_simp) ?_
      simp only [Act.put, List.setIfInBounds_toArray, List.set_cons_zero, List.set_cons_succ]
      refine onlyP (i := 25) (o := { dst := some 53, op := Op.call { callee := Callee.value (Operand.func 93), args := #[Operand.tmp 51, Operand.const (Value.pointer none), Operand.tmp 52], argTypes := #[26, 158, 147] }, type := 4, pos := "node.go:177", after := #[{ on := 23, ground := Ground.data }, { on := 24, ground := Ground.data }, { on := 19, ground := Ground.chain }, { on := 19, ground := Ground.guard }], guard := some (19, true) }) rfl (by kernel_rfl) (by rfl) (fun K hK => ?_)
      go_simp
      refine ⟨trivial, (fun h => (by cases h)), ?_⟩
      refine (IHr.out (n - 1) pr _ _ (hr.below hS2) hJ2 (by simp only [List.length_append, List.length_cons, List.length_nil]; omega)).mono ?_
      rintro e W3 (⟨rfl, hJ3, hb3⟩ | ⟨rfl, q, hq, hx3⟩)
      · refine hK _ _ ?_
        clear hK K
        try simp only [Act.put, List.setIfInBounds_toArray, List.set_cons_zero, List.set_cons_succ]
        refine wpAnyIn_take (i := 26) (oi := { dst := some 54, op := Op.pick (Operand.tmp 47) (Operand.tmp 53) (Operand.const (Value.bool false)), type := 4, pos := "node.go:177", after := #[{ on := 19, ground := Ground.data }, { on := 25, ground := Ground.data }], guard := none }) (v := .bool true) rfl rfl (by kernel_rfl) (by kernel_rfl) (by kernel_rfl) (fun _ _ _ h => h) ⟨Or.inl ⟨by rfl, ?_⟩, fun _ => rfl⟩ ?_
        · intro w; go_simp
        simp only [Act.put, List.setIfInBounds_toArray, List.set_cons_zero, List.set_cons_succ]
        refine wpAnyIn_take (i := 27) (oi := { dst := some 6, op := Op.assign (Operand.tmp 54), type := 4, pos := "node.go:177", after := #[{ on := 26, ground := Ground.data }, { on := 25, ground := Ground.chain }, { on := 0, ground := Ground.phase }, { on := 1, ground := Ground.phase }, { on := 2, ground := Ground.phase }, { on := 3, ground := Ground.phase }, { on := 4, ground := Ground.phase }, { on := 5, ground := Ground.phase }, { on := 6, ground := Ground.phase }, { on := 7, ground := Ground.phase }, { on := 8, ground := Ground.phase }, { on := 9, ground := Ground.phase }, { on := 10, ground := Ground.phase }, { on := 11, ground := Ground.phase }, { on := 12, ground := Ground.phase }, { on := 13, ground := Ground.phase }, { on := 14, ground := Ground.phase }, { on := 15, ground := Ground.phase }, { on := 16, ground := Ground.phase }, { on := 17, ground := Ground.phase }, { on := 18, ground := Ground.phase }, { on := 19, ground := Ground.phase }, { on := 20, ground := Ground.phase }, { on := 21, ground := Ground.phase }, { on := 22, ground := Ground.phase }, { on := 23, ground := Ground.phase }, { on := 24, ground := Ground.phase }, { on := 25, ground := Ground.phase }, { on := 26, ground := Ground.phase }], guard := none }) (v := .bool true) rfl rfl (by kernel_rfl) (by kernel_rfl) (by kernel_rfl) (fun _ _ _ h => h) ⟨Or.inl ⟨by rfl, ?_⟩, fun _ => rfl⟩ ?_
        · intro w; go_simp
        simp only [Act.put, List.setIfInBounds_toArray, List.set_cons_zero, List.set_cons_succ]
        refine wpAnyIn_done (by kernel_rfl) ?_ _
        gi_wp2
        go_ret
        exact .inl ⟨rfl, by simpa [List.append_assoc] using hJ3, hS2.trans hb3⟩
      · refine hK _ _ ?_
        clear hK K
        try simp only [Act.put, List.setIfInBounds_toArray, List.set_cons_zero, List.set_cons_succ]
        refine wpAnyIn_take (i := 26) (oi := { dst := some 54, op := Op.pick (Operand.tmp 47) (Operand.tmp 53) (Operand.const (Value.bool false)), type := 4, pos := "node.go:177", after := #[{ on := 19, ground := Ground.data }, { on := 25, ground := Ground.data }], guard := none }) (v := .bool false) rfl rfl (by kernel_rfl) (by kernel_rfl) (by kernel_rfl) (fun _ _ _ h => h) ⟨Or.inl ⟨by rfl, ?_⟩, fun _ => rfl⟩ ?_
        · intro w; go_simp
        simp only [Act.put, List.setIfInBounds_toArray, List.set_cons_zero, List.set_cons_succ]
        refine wpAnyIn_take (i := 27) (oi := { dst := some 6, op := Op.assign (Operand.tmp 54), type := 4, pos := "node.go:177", after := #[{ on := 26, ground := Ground.data }, { on := 25, ground := Ground.chain }, { on := 0, ground := Ground.phase }, { on := 1, ground := Ground.phase }, { on := 2, ground := Ground.phase }, { on := 3, ground := Ground.phase }, { on := 4, ground := Ground.phase }, { on := 5, ground := Ground.phase }, { on := 6, ground := Ground.phase }, { on := 7, ground := Ground.phase }, { on := 8, ground := Ground.phase }, { on := 9, ground := Ground.phase }, { on := 10, ground := Ground.phase }, { on := 11, ground := Ground.phase }, { on := 12, ground := Ground.phase }, { on := 13, ground := Ground.phase }, { on := 14, ground := Ground.phase }, { on := 15, ground := Ground.phase }, { on := 16, ground := Ground.phase }, { on := 17, ground := Ground.phase }, { on := 18, ground := Ground.phase }, { on := 19, ground := Ground.phase }, { on := 20, ground := Ground.phase }, { on := 21, ground := Ground.phase }, { on := 22, ground := Ground.phase }, { on := 23, ground := Ground.phase }, { on := 24, ground := Ground.phase }, { on := 25, ground := Ground.phase }, { on := 26, ground := Ground.phase }], guard := none }) (v := .bool false) rfl rfl (by kernel_rfl) (by kernel_rfl) (by kernel_rfl) (fun _ _ _ h => h) ⟨Or.inl ⟨by rfl, ?_⟩, fun _ => rfl⟩ ?_
        · intro w; go_simp
        simp only [Act.put, List.setIfInBounds_toArray, List.set_cons_zero, List.set_cons_succ]
        refine wpAnyIn_done (by kernel_rfl) ?_ _
        gi_wp2
        go_ret
        obtain ⟨r, hr'⟩ := hq
        exact .inr ⟨rfl, fromL key tl ++ (k, v) :: q, ⟨r, by simp [← hr']⟩, by simpa [List.append_assoc] using hx3⟩
    · refine hK _ _ ?_
      clear hK K
      try simp only [Act.put, List.setIfInBounds_toArray, List.set_cons_zero, List.set_cons_succ]
      refine wpAnyIn_take (i := 18) (oi := { dst := some 46, op := Op.pick (Operand.tmp 35) (Operand.tmp 45) (Operand.const (Value.bool false)), type := 4, pos := "node.go:177", after := #[{ on := 7, ground := Ground.data }, { on := 17, ground := Ground.data }], guard := none }) (v := .bool false) rfl rfl (by kernel_rfl) (by kernel_rfl) (by kernel_rfl) (fun _ _ _ h => h) ⟨Or.inl ⟨by rfl, ?_⟩, fun _ => rfl⟩ ?_
      · intro w; go_simp
      simp only [Act.put, List.setIfInBounds_toArray, List.set_cons_zero, List.set_cons_succ]
      refine wpAnyIn_take (i := 19) (oi := { dst := some 47, op := Op.move (Operand.tmp 46), type := 4, pos := "node.go:177", after := #[{ on := 18, ground := Ground.data }, { on := 17, ground := Ground.chain }], guard := none }) (v := .bool false) rfl rfl (by kernel_rfl) (by kernel_rfl) (by kernel_rfl) (fun _ _ _ h => h) ⟨Or.inl ⟨by rfl, ?_⟩, fun _ => rfl⟩ ?_
      · intro w; go_simp
      simp only [Act.put, List.setIfInBounds_toArray, List.set_cons_zero, List.set_cons_succ]
      refine wpAnyIn_take (i := 20) (oi := { dst := some 48, op := Op.move (Operand.tmp 0), type := 26, pos := "node.go:177", after := #[{ on := 19, ground := Ground.guard }], guard := some (19, true) }) (v := undef) rfl rfl (by kernel_rfl) (by kernel_rfl) (by kernel_rfl) (fun _ _ _ h => h) ⟨Or.inr ⟨by rfl, rfl⟩, fun _ => rfl⟩ ?_
      simp only [Act.put, List.setIfInBounds_toArray, List.set_cons_zero, List.set_cons_succ]
      refine wpAnyIn_take (i := 21) (oi := { dst := some 49, op := Op.nilCheck (Operand.tmp 48), type := 0, pos := "node.go:177", after := #[{ on := 20, ground := Ground.data }, { on := 19, ground := Ground.guard }], guard := some (19, true) }) (v := undef) rfl rfl (by kernel_rfl) (by kernel_rfl) (by kernel_rfl) (fun _ _ _ h => h) ⟨Or.inr ⟨by rfl, rfl⟩, fun _ => rfl⟩ ?_
      simp only [Act.put, List.setIfInBounds_toArray, List.set_cons_zero, List.set_cons_succ]
      refine wpAnyIn_take (i := 22) (oi := { dst := some 50, op := Op.fieldAddr 121 (Operand.tmp 49) 3, type := 0, pos := "node.go:177", after := #[{ on := 21, ground := Ground.data }, { on := 19, ground := Ground.guard }], guard := some (19, true) }) (v := undef) rfl rfl (by kernel_rfl) (by kernel_rfl) (by kernel_rfl) (fun _ _ _ h => h) ⟨Or.inr ⟨by rfl, rfl⟩, fun _ => rfl⟩ ?_
      simp only [Act.put, List.setIfInBounds_toArray, List.set_cons_zero, List.set_cons_succ]
      refine wpAnyIn_take (i := 23) (oi := { dst := some 51, op := Op.load 26 (Operand.tmp 50), type := 26, pos := "node.go:177", after := #[{ on := 22, ground := Ground.data }, { on := 19, ground := Ground.guard }], guard := some (19, true) }) (v := undef) rfl rfl (by kernel_rfl) (by kernel_rfl) (by kernel_rfl) (fun _ _ _ h => h) ⟨Or.inr ⟨by rfl, rfl⟩, fun _ => rfl⟩ ?_
      simp only [Act.put, List.setIfInBounds_toArray, List.set_cons_zero, List.set_cons_succ]
      refine wpAnyIn_take (i := 24) (oi := { dst := some 52, op := Op.move (Operand.tmp 2), type := 147, pos := "node.go:177", after := #[{ on := 19, ground := Ground.guard }], guard := some (19, true) }) (v := undef) rfl rfl (by kernel_rfl) (by kernel_rfl) (by kernel_rfl) (fun _ _ _ h => h) ⟨Or.inr ⟨by rfl, rfl⟩, fun _ => rfl⟩ ?_
      simp only [Act.put, List.setIfInBounds_toArray, List.set_cons_zero, List.set_cons_succ]
      refine skipP (i := 25) (o := { dst := some 53, op := Op.call { callee := Callee.value (Operand.func 93), args := #[Operand.tmp 51, Operand.const (Value.pointer none), Operand.tmp 52], argTypes := #[26, 158, 147] }, type := 4, pos := "node.go:177", after := #[{ on := 23, ground := Ground.data }, { on := 24, ground := Ground.data }, { on := 19, ground := Ground.chain }, { on := 19, ground := Ground.guard }], guard := some (19, true) }) rfl (by kernel_rfl) (by rfl) (fun _ => trivial) ?_
      simp only [Act.put, List.setIfInBounds_toArray, List.set_cons_zero, List.set_cons_succ]
      refine wpAnyIn_take (i := 26) (oi := { dst := some 54, op := Op.pick (Operand.tmp 47) (Operand.tmp 53) (Operand.const (Value.bool false)), type := 4, pos := "node.go:177", after := #[{ on := 19, ground := Ground.data }, { on := 25, ground := Ground.data }], guard := none }) (v := .bool false) rfl rfl (by kernel_rfl) (by kernel_rfl) (by kernel_rfl) (fun _ _ _ h => h) ⟨Or.inl ⟨by rfl, ?_⟩, fun _ => rfl⟩ ?_
      · intro w; go_simp
      simp only [Act.put, List.setIfInBounds_toArray, List.set_cons_zero, List.set_cons_succ]
      refine wpAnyIn_take (i := 27) (oi := { dst := some 6, op := Op.assign (Operand.tmp 54), type := 4, pos := "node.go:177", after := #[{ on := 26, ground := Ground.data }, { on := 25, ground := Ground.chain }, { on := 0, ground := Ground.phase }, { on := 1, ground := Ground.phase }, { on := 2, ground := Ground.phase }, { on := 3, ground := Ground.phase }, { on := 4, ground := Ground.phase }, { on := 5, ground := Ground.phase }, { on := 6, ground := Ground.phase }, { on := 7, ground := Ground.phase }, { on := 8, ground := Ground.phase }, { on := 9, ground := Ground.phase }, { on := 10, ground := Ground.phase }, { on := 11, ground := Ground.phase }, { on := 12, ground := Ground.phase }, { on := 13, ground := Ground.phase }, { on := 14, ground := Ground.phase }, { on := 15, ground := Ground.phase }, { on := 16, ground := Ground.phase }, { on := 17, ground := Ground.phase }, { on := 18, ground := Ground.phase }, { on := 19, ground := Ground.phase }, { on := 20, ground := Ground.phase }, { on := 21, ground := Ground.phase }, { on := 22, ground := Ground.phase }, { on := 23, ground := Ground.phase }, { on := 24, ground := Ground.phase }, { on := 25, ground := Ground.phase }, { on := 26, ground := Ground.phase }], guard := none }) (v := .bool false) rfl rfl (by kernel_rfl) (by kernel_rfl) (by kernel_rfl) (fun _ _ _ h => h) ⟨Or.inl ⟨by rfl, ?_⟩, fun _ => rfl⟩ ?_
      · intro w; go_simp
      simp only [Act.put, List.setIfInBounds_toArray, List.set_cons_zero, List.set_cons_succ]
      refine wpAnyIn_done (by kernel_rfl) ?_ _
      gi_wp2
      go_ret
      exact .inr ⟨rfl, fromL key tl ++ [(k, v)], ⟨tr.toList, by simp⟩, by simpa [List.append_assoc] using hx2⟩
  · refine hK _ _ ?_
    clear hK K
    try simp only [Act.put, List.setIfInBounds_toArray, List.set_cons_zero, List.set_cons_succ]
    refine wpAnyIn_take (i := 7) (oi := { dst := some 35, op := Op.move (Operand.tmp 34), type := 4, pos := "node.go:177", after := #[{ on := 6, ground := Ground.data }, { on := 6, ground := Ground.chain }], guard := none }) (v := .bool false) rfl rfl (by kernel_rfl) (by kernel_rfl) (by kernel_rfl) (fun _ _ _ h => h) ⟨Or.inl ⟨by rfl, ?_⟩, fun _ => rfl⟩ ?_
    · intro w; go_simp
    simp only [Act.put, List.setIfInBounds_toArray, List.set_cons_zero, List.set_cons_succ]
    refine wpAnyIn_take (i := 8) (oi := { dst := some 36, op := Op.move (Operand.tmp 2), type := 147, pos := "node.go:177", after := #[{ on := 7, ground := Ground.guard }], guard := some (7, true) }) (v := undef) rfl rfl (by kernel_rfl) (by kernel_rfl) (by kernel_rfl) (fun _ _ _ h => h) ⟨Or.inr ⟨by rfl, rfl⟩, fun _ => rfl⟩ ?_
    simp only [Act.put, List.setIfInBounds_toArray, List.set_cons_zero, List.set_cons_succ]
    refine wpAnyIn_take (i := 9) (oi := { dst := some 37, op := Op.move (Operand.tmp 0), type := 26, pos := "node.go:177", after := #[{ on := 7, ground := Ground.guard }], guard := some (7, true) }) (v := undef) rfl rfl (by kernel_rfl) (by kernel_rfl) (by kernel_rfl) (fun _ _ _ h => h) ⟨Or.inr ⟨by rfl, rfl⟩, fun _ => rfl⟩ ?_
    simp only [Act.put, List.setIfInBounds_toArray, List.set_cons_zero, List.set_cons_succ]
    refine wpAnyIn_take (i := 10) (oi := { dst := some 38, op := Op.nilCheck (Operand.tmp 37), type := 0, pos := "node.go:177", after := #[{ on := 9, ground := Ground.data }, { on := 7, ground := Ground.guard }], guard := some (7, true) }) (v := undef) rfl rfl (by kernel_rfl) (by kernel_rfl) (by kernel_rfl) (fun _ _ _ h => h) ⟨Or.inr ⟨by rfl, rfl⟩, fun _ => rfl⟩ ?_
    simp only [Act.put, List.setIfInBounds_toArray, List.set_cons_zero, List.set_cons_succ]
    refine wpAnyIn_take (i := 11) (oi := { dst := some 39, op := Op.fieldAddr 121 (Operand.tmp 38) 0, type := 0, pos := "node.go:177", after := #[{ on := 10, ground := Ground.data }, { on := 7, ground := Ground.guard }], guard := some (7, true) }) (v := undef) rfl rfl (by kernel_rfl) (by kernel_rfl) (by kernel_rfl) (fun _ _ _ h => h) ⟨Or.inr ⟨by rfl, rfl⟩, fun _ => rfl⟩ ?_
    simp only [Act.put, List.setIfInBounds_toArray, List.set_cons_zero, List.set_cons_succ]
    refine wpAnyIn_take (i := 12) (oi := { dst := some 40, op := Op.load 3 (Operand.tmp 39), type := 3, pos := "node.go:177", after := #[{ on := 11, ground := Ground.data }, { on := 7, ground := Ground.guard }], guard := some (7, true) }) (v := undef) rfl rfl (by kernel_rfl) (by kernel_rfl) (by kernel_rfl) (fun _ _ _ h => h) ⟨Or.inr ⟨by rfl, rfl⟩, fun _ => rfl⟩ ?_
    simp only [Act.put, List.setIfInBounds_toArray, List.set_cons_zero, List.set_cons_succ]
    refine wpAnyIn_take (i := 13) (oi := { dst := some 41, op := Op.move (Operand.tmp 0), type := 26, pos := "node.go:177", after := #[{ on := 7, ground := Ground.guard }], guard := some (7, true) }) (v := undef) rfl rfl (by kernel_rfl) (by kernel_rfl) (by kernel_rfl) (fun _ _ _ h => h) ⟨Or.inr ⟨by rfl, rfl⟩, fun _ => rfl⟩ ?_
    simp only [Act.put, List.setIfInBounds_toArray, List.set_cons_zero, List.set_cons_succ]
    refine wpAnyIn_take (i := 14) (oi := { dst := some 42, op := Op.nilCheck (Operand.tmp 41), type := 0, pos := "node.go:177", after := #[{ on := 13, ground := Ground.data }, { on := 7, ground := Ground.guard }], guard := some (7, true) }) (v := undef) rfl rfl (by kernel_rfl) (by kernel_rfl) (by kernel_rfl) (fun _ _ _ h => h) ⟨Or.inr ⟨by rfl, rfl⟩, fun _ => rfl⟩ ?_
    simp only [Act.put, List.setIfInBounds_toArray, List.set_cons_zero, List.set_cons_succ]
    refine wpAnyIn_take (i := 15) (oi := { dst := some 43, op := Op.fieldAddr 121 (Operand.tmp 42) 1, type := 0, pos := "node.go:177", after := #[{ on := 14, ground := Ground.data }, { on := 7, ground := Ground.guard }], guard := some (7, true) }) (v := undef) rfl rfl (by kernel_rfl) (by kernel_rfl) (by kernel_rfl) (fun _ _ _ h => h) ⟨Or.inr ⟨by rfl, rfl⟩, fun _ => rfl⟩ ?_
    simp only [Act.put, List.setIfInBounds_toArray, List.set_cons_zero, List.set_cons_succ]
    refine wpAnyIn_take (i := 16) (oi := { dst := some 44, op := Op.load 3 (Operand.tmp 43), type := 3, pos := "node.go:177", after := #[{ on := 15, ground := Ground.data }, { on := 7, ground := Ground.guard }], guard := some (7, true) }) (v := undef) rfl rfl (by kernel_rfl) (by kernel_rfl) (by kernel_rfl) (fun _ _ _ h => h) ⟨Or.inr ⟨by rfl, rfl⟩, fun _ => rfl⟩ ?_
    simp only [Act.put, List.setIfInBounds_toArray, List.set_cons_zero, List.set_cons_succ]
    refine skipP (i := 17) (o := { dst := some 45, op := Op.call { callee := Callee.value (Operand.tmp 36), args := #[Operand.tmp 40, Operand.tmp 44], argTypes := #[3, 3] }, type := 4, pos := "node.go:177", after := #[{ on := 8, ground := Ground.data }, { on := 12, ground := Ground.data }, { on := 16, ground := Ground.data }, { on := 7, ground := Ground.chain }, { on := 7, ground := Ground.guard }], guard := some (7, true) }) rfl (by kernel_rfl) (by rfl) (fun _ => trivial) ?_
    simp only [Act.put, List.setIfInBounds_toArray, List.set_cons_zero, List.set_cons_succ]
    refine wpAnyIn_take (i := 18) (oi := { dst := some 46, op := Op.pick (Operand.tmp 35) (Operand.tmp 45) (Operand.const (Value.bool false)), type := 4, pos := "node.go:177", after := #[{ on := 7, ground := Ground.data }, { on := 17, ground := Ground.data }], guard := none }) (v := .bool false) rfl rfl (by kernel_rfl) (by kernel_rfl) (by kernel_rfl) (fun _ _ _ h => h) ⟨Or.inl ⟨by rfl, ?_⟩, fun _ => rfl⟩ ?_
    · intro w; go_simp
    simp only [Act.put, List.setIfInBounds_toArray, List.set_cons_zero, List.set_cons_succ]
    refine wpAnyIn_take (i := 19) (oi := { dst := some 47, op := Op.move (Operand.tmp 46), type := 4, pos := "node.go:177", after := #[{ on := 18, ground := Ground.data }, { on := 17, ground := Ground.chain }], guard := none }) (v := .bool false) rfl rfl (by kernel_rfl) (by kernel_rfl) (by kernel_rfl) (fun _ _ _ h => h) ⟨Or.inl ⟨by rfl, ?_⟩, fun _ => rfl⟩ ?_
    · intro w; go_simp
    simp only [Act.put, List.setIfInBounds_toArray, List.set_cons_zero, List.set_cons_succ]
    refine wpAnyIn_take (i := 20) (oi := { dst := some 48, op := Op.move (Operand.tmp 0), type := 26, pos := "node.go:177", after := #[{ on := 19, ground := Ground.guard }], guard := some (19, true) }) (v := undef) rfl rfl (by kernel_rfl) (by kernel_rfl) (by kernel_rfl) (fun _ _ _ h => h) ⟨Or.inr ⟨by rfl, rfl⟩, fun _ => rfl⟩ ?_
    simp only [Act.put, List.setIfInBounds_toArray, List.set_cons_zero, List.set_cons_succ]
    refine wpAnyIn_take (i := 21) (oi := { dst := some 49, op := Op.nilCheck (Operand.tmp 48), type := 0, pos := "node.go:177", after := #[{ on := 20, ground := Ground.data }, { on := 19, ground := Ground.guard }], guard := some (19, true) }) (v := undef) rfl rfl (by kernel_rfl) (by kernel_rfl) (by kernel_rfl) (fun _ _ _ h => h) ⟨Or.inr ⟨by rfl, rfl⟩, fun _ => rfl⟩ ?_
    simp only [Act.put, List.setIfInBounds_toArray, List.set_cons_zero, List.set_cons_succ]
    refine wpAnyIn_take (i := 22) (oi := { dst := some 50, op := Op.fieldAddr 121 (Operand.tmp 49) 3, type := 0, pos := "node.go:177", after := #[{ on := 21, ground := Ground.data }, { on := 19, ground := Ground.guard }], guard := some (19, true) }) (v := undef) rfl rfl (by kernel_rfl) (by kernel_rfl) (by kernel_rfl) (fun _ _ _ h => h) ⟨Or.inr ⟨by rfl, rfl⟩, fun _ => rfl⟩ ?_
    simp only [Act.put, List.setIfInBounds_toArray, List.set_cons_zero, List.set_cons_succ]
    refine wpAnyIn_take (i := 23) (oi := { dst := some 51, op := Op.load 26 (Operand.tmp 50), type := 26, pos := "node.go:177", after := #[{ on := 22, ground := Ground.data }, { on := 19, ground := Ground.guard }], guard := some (19, true) }) (v := undef) rfl rfl (by kernel_rfl) (by kernel_rfl) (by kernel_rfl) (fun _ _ _ h => h) ⟨Or.inr ⟨by rfl, rfl⟩, fun _ => rfl⟩ ?_
    simp only [Act.put, List.setIfInBounds_toArray, List.set_cons_zero, List.set_cons_succ]
    refine wpAnyIn_take (i := 24) (oi := { dst := some 52, op := Op.move (Operand.tmp 2), type := 147, pos := "node.go:177", after := #[{ on := 19, ground := Ground.guard }], guard := some (19, true) }) (v := undef) rfl rfl (by kernel_rfl) (by kernel_rfl) (by kernel_rfl) (fun _ _ _ h => h) ⟨Or.inr ⟨by rfl, rfl⟩, fun _ => rfl⟩ ?_
    simp only [Act.put, List.setIfInBounds_toArray, List.set_cons_zero, List.set_cons_succ]
    refine skipP (i := 25) (o := { dst := some 53, op := Op.call { callee := Callee.value (Operand.func 93), args := #[Operand.tmp 51, Operand.const (Value.pointer none), Operand.tmp 52], argTypes := #[26, 158, 147] }, type := 4, pos := "node.go:177", after := #[{ on := 23, ground := Ground.data }, { on := 24, ground := Ground.data }, { on := 19, ground := Ground.chain }, { on := 19, ground := Ground.guard }], guard := some (19, true) }) rfl (by kernel_rfl) (by rfl) (fun _ => trivial) ?_
    simp only [Act.put, List.setIfInBounds_toArray, List.set_cons_zero, List.set_cons_succ]
    refine wpAnyIn_take (i := 26) (oi := { dst := some 54, op := Op.pick (Operand.tmp 47) (Operand.tmp 53) (Operand.const (Value.bool false)), type := 4, pos := "node.go:177", after := #[{ on := 19, ground := Ground.data }, { on := 25, ground := Ground.data }], guard := none }) (v := .bool false) rfl rfl (by kernel_rfl) (by kernel_rfl) (by kernel_rfl) (fun _ _ _ h => h) ⟨Or.inl ⟨by rfl, ?_⟩, fun _ => rfl⟩ ?_
    · intro w; go_simp
    simp only [Act.put, List.setIfInBounds_toArray, List.set_cons_zero, List.set_cons_succ]
    refine wpAnyIn_take (i := 27) (oi := { dst := some 6, op := Op.assign (Operand.tmp 54), type := 4, pos := "node.go:177", after := #[{ on := 26, ground := Ground.data }, { on := 25, ground := Ground.chain }, { on := 0, ground := Ground.phase }, { on := 1, ground := Ground.phase }, { on := 2, ground := Ground.phase }, { on := 3, ground := Ground.phase }, { on := 4, ground := Ground.phase }, { on := 5, ground := Ground.phase }, { on := 6, ground := Ground.phase }, { on := 7, ground := Ground.phase }, { on := 8, ground := Ground.phase }, { on := 9, ground := Ground.phase }, { on := 10, ground := Ground.phase }, { on := 11, ground := Ground.phase }, { on := 12, ground := Ground.phase }, { on := 13, ground := Ground.phase }, { on := 14, ground := Ground.phase }, { on := 15, ground := Ground.phase }, { on := 16, ground := Ground.phase }, { on := 17, ground := Ground.phase }, { on := 18, ground := Ground.phase }, { on := 19, ground := Ground.phase }, { on := 20, ground := Ground.phase }, { on := 21, ground := Ground.phase }, { on := 22, ground := Ground.phase }, { on := 23, ground := Ground.phase }, { on := 24, ground := Ground.phase }, { on := 25, ground := Ground.phase }, { on := 26, ground := Ground.phase }], guard := none }) (v := .bool false) rfl rfl (by kernel_rfl) (by kernel_rfl) (by kernel_rfl) (fun _ _ _ h => h) ⟨Or.inl ⟨by rfl, ?_⟩, fun _ => rfl⟩ ?_
    · intro w; go_simp
    simp only [Act.put, List.setIfInBounds_toArray, List.set_cons_zero, List.set_cons_succ]
    refine wpAnyIn_done (by kernel_rfl) ?_ _
    gi_wp2
    go_ret
    exact .inr ⟨rfl, q, hq.trans (by simp), hx1⟩

theorem from_any (l n₀ N Bk : Nat) (key : Int) (J Jx : List (Int × Int) → World → Prop) (hJd : ∀ pre W m, J pre W → J pre (W.drewN m)) (hJk : ∀ pre W, J pre W → W.cell? ⟨Bk, 0, none⟩ = some (.int .i64 key)) (hY : YieldSaid l n₀ J Jx N) (t : T Int Int) :
    ∀ (n : Nat) (p : Option Addr) (pre : List (Int × Int)) (W : World), Tr n₀ W p t → J pre W → pre.length + (fromL key t).length ≤ N →
      CallsIn Fence.wide n Try.prog 93 #[.pointer p, .pointer (some ⟨Bk, 0, none⟩), .func (.yield l) #[] #[]] W fun e W' =>
        (e = .returned (.bool true) ∧ J (pre ++ (fromL key t)) W' ∧ Below n₀ W W') ∨ (e = .returned (.bool false) ∧ ∃ q, q <+: (fromL key t) ∧ Jx (pre ++ q) W') := by
  induction t with
  | nil => intro n p pre W ht hJ _; exact from_nil l n₀ Bk key J Jx n p pre W ht hJ
  | node tl k v tr ihl ihr =>
    intro n p pre W ht hJ hN
    by_cases hk : k < key
    · have e : fromL key (.node tl k v tr) = fromL key tr := by simp [fromL, hk]
      rw [e] at hN ⊢
      exact from_right l n₀ N Bk key J Jx hJd hJk hY tl k v tr n p pre W ht hJ hk hN ihr
    · have e : fromL key (.node tl k v tr) = fromL key tl ++ (k, v) :: tr.toList := by simp [fromL, hk]
      rw [e] at hN ⊢
      rw [List.length_append, List.length_cons] at hN
      exact from_left l n₀ N Bk key J Jx hJd hJk hY tl k v tr n p pre W ht hJ hk (by omega) ihl (walk_any l n₀ N J Jx hJd hY tr)

/-- The closure that From returns. -/
theorem from1_in (n : Nat) (l Bt Bk n₀ : Nat) (p0 : Option Addr) (t : T Int Int) (key : Int) (J Jx : List (Int × Int) → World → Prop) (hJd : ∀ pre W m, J pre W → J pre (W.drewN m)) (hJk : ∀ pre W, J pre W → W.cell? ⟨Bk, 0, none⟩ = some (.int .i64 key)) (hY : YieldSaid l n₀ J Jx (fromL key t).length)
    (W : World) (hBt : W.cell? ⟨Bt, 0, none⟩ = some (.pointer p0)) (hT : Tr n₀ W p0 t) (h0 : J [] W) :
    CallsIn Fence.wide n Try.prog 112 #[.func (.yield l) #[] #[], .pointer (some ⟨Bt, 0, none⟩), .pointer (some ⟨Bk, 0, none⟩)] W fun e W' => (∃ v, e = .returned v) ∧
      ((∃ ys, ys = fromL key t ∧ J ys W') ∨ (∃ pre, pre <+: fromL key t ∧ Jx pre W')) := by
  have hp := from_any l n₀ (fromL key t).length Bk key J Jx hJd hJk hY t (n - 1) p0 [] W hT h0 (by simp)
  clear hJk
  refine callsIn_of_wp Try.func112 rfl trivial ?_ rfl
  simp only [Try.ntmps112, List.size_toArray, List.length_cons, List.length_nil, Nat.reduceAdd, Nat.reduceSub, Array.replicate_succ, Array.replicate_zero, List.push_toArray, List.append_toArray, List.nil_append, List.cons_append]
  gi_wp2_with (refine ⟨trivial, ?_⟩; (try refine ⟨(fun h => (by cases h)), ?_⟩); gi_at_call 93; refine hp.mono ?_; clear hp; rintro e W1 (⟨rfl, hJ1, _⟩ | ⟨rfl, q, hq, hx⟩))
  · go_end0
    exact ⟨⟨_, rfl⟩, .inl ⟨_, rfl, by simpa using hJ1⟩⟩
  · go_end0
    exact ⟨⟨_, rfl⟩, .inr ⟨q, hq, by simpa using hx⟩⟩

theorem from_in (n : Nat) (p0 : Option Addr) (key : Int) (w : World) :
    CallsIn Fence.wide n Try.prog 79 #[.agg #[.pointer p0], .int .i64 key] w fun e w' => e = .returned (.func (.func 112) #[] #[.pointer (some ⟨w.heap.size, 0, none⟩), .pointer (some ⟨w.heap.size + 1, 0, none⟩)]) ∧ w' = (w.alloc (.cells #[.pointer p0] 28)).alloc (.cells #[.int .i64 key] 3) := by
  refine callsIn_of_wp Try.func79 rfl trivial ?_ rfl
  simp only [Try.ntmps79, List.size_toArray, List.length_cons, List.length_nil, Nat.reduceAdd, Nat.reduceSub, Array.replicate_succ, Array.replicate_zero, List.push_toArray, List.append_toArray, List.nil_append, List.cons_append]
  gi_wp2
  go_ret
  exact ⟨rfl, rfl⟩

/-- What a round keeps: what lay below, and the key's own box. -/
def KB (n₀ Bk : Nat) (W W' : World) : Prop := Below n₀ W W' ∧ W'.heap[Bk]? = W.heap[Bk]?
theorem KB.t {n₀ Bk : Nat} {A B C : World} (h : KB n₀ Bk A B) (k : KB n₀ Bk B C) : KB n₀ Bk A C := ⟨h.1.trans k.1, k.2.trans h.2⟩
theorem KB.b {n₀ Bk : Nat} {w : World} (hn : n₀ ≤ w.heap.size) (hk : Bk < w.heap.size) (W : World) (l : Nat) (o o' : Obj) (hl : w.heap.size ≤ l) (h : W.heap[l]? = some o) (h1 : o.isCells = false) (h2 : o.isWalk = false) : KB n₀ Bk W (W.putObj l o') :=
  ⟨belowK_b hn W l o o' hl h h1 h2, World.putObj_heap_other (by omega)⟩

theorem from_stops (n : Nat) (Bt Bk n₀ : Nat) (p0 : Option Addr) (t : T Int Int) (key : Int) (w : World) (hBt : Bt < w.heap.size) (hBk : Boxed w Bk 3 (.int .i64 key)) (hn₀ : n₀ ≤ w.heap.size)
    (hc : w.cell? ⟨Bt, 0, none⟩ = some (.pointer p0)) (hT : Tr n₀ w p0 t) :
    SeqStopsK Fence.wide n Try.prog 112 #[.pointer (some ⟨Bt, 0, none⟩), .pointer (some ⟨Bk, 0, none⟩)] (fun x : Int × Int => #[.int .i64 x.1, .int .i64 x.2]) (KB n₀ Bk) (fun ys => ys = fromL key t) (fun pre => pre <+: fromL key t) (fromL key t).length w := by
  intro l J Jx W hW hJ hJx hY h0
  have hb : Boxed W Bk 3 (.int .i64 key) := (hW.block Bk hBk.lt).trans hBk
  refine (from1_in n l Bt Bk n₀ p0 t key (fun pre W => J pre W ∧ Boxed W Bk 3 (.int .i64 key)) Jx
    (fun pre W m h => ⟨hJ pre W _ none h.1 ⟨rfl, rfl, rfl, Nat.le_refl _, fun _ _ _ => rfl⟩ (fun r e => (by cases e)), h.2⟩)
    (fun pre W h => h.2.cell)
    (fun m pre x W hj hl => (yield_any m (hY pre x W hj.1 hl)).mono fun e W' h => ?_) W ((hW.cell (p := ⟨Bt, 0, none⟩) hBt).trans hc) (hT.below (hW.mono hn₀)) ⟨h0, hb⟩).mono fun e W' h => ⟨h.1, ?_⟩
  · rcases h with ⟨h1, h2, h3⟩ | h
    · exact .inl ⟨h1, ⟨h2, h3.2.trans hj.2⟩, h3.1⟩
    · exact .inr h
  · rcases h.2 with ⟨ys, h1, h2⟩ | h
    · exact .inl ⟨ys, h1, h2.1⟩
    · exact .inr h

set_option maxRecDepth 100000 in
set_option maxHeartbeats 2000000 in
theorem back_node (l n₀ N : Nat) (J Jx : List (Int × Int) → World → Prop)
    (hJd : ∀ pre W m, J pre W → J pre (W.drewN m)) (hY : YieldSaid l n₀ J Jx N)
    (tl : T Int Int) (k : Int) (v : Int) (tr : T Int Int) (n : Nat) (p : Option Addr) (pre : List (Int × Int)) (W : World) (ht : Tr n₀ W p (.node tl k v tr)) (hJ : J pre W)
    (hN : pre.length + (tl.toList.length + 1 + tr.toList.length) ≤ N)
    (ihl : ∀ (n : Nat) (p : Option Addr) (pre : List (Int × Int)) (W : World), Tr n₀ W p tl → J pre W → pre.length + (tl.toList.reverse).length ≤ N →
      CallsIn Fence.wide n Try.prog 114 #[.pointer p, .func (.yield l) #[] #[]] W fun e W' =>
        (e = .returned (.bool true) ∧ J (pre ++ tl.toList.reverse) W' ∧ Below n₀ W W') ∨ (e = .returned (.bool false) ∧ ∃ q, q <+: tl.toList.reverse ∧ Jx (pre ++ q) W'))
    (ihr : ∀ (n : Nat) (p : Option Addr) (pre : List (Int × Int)) (W : World), Tr n₀ W p tr → J pre W → pre.length + (tr.toList.reverse).length ≤ N →
      CallsIn Fence.wide n Try.prog 114 #[.pointer p, .func (.yield l) #[] #[]] W fun e W' =>
        (e = .returned (.bool true) ∧ J (pre ++ tr.toList.reverse) W' ∧ Below n₀ W W') ∨ (e = .returned (.bool false) ∧ ∃ q, q <+: tr.toList.reverse ∧ Jx (pre ++ q) W'))
    :
      CallsIn Fence.wide n Try.prog 114 #[.pointer p, .func (.yield l) #[] #[]] W fun e W' =>
        (e = .returned (.bool true) ∧ J (pre ++ (tr.toList.reverse ++ (k, v) :: tl.toList.reverse)) W' ∧ Below n₀ W W') ∨ (e = .returned (.bool false) ∧ ∃ q, q <+: (tr.toList.reverse ++ (k, v) :: tl.toList.reverse) ∧ Jx (pre ++ q) W') := by
  have IHl := Lib.hid ihl
  have IHr := Lib.hid ihr
  have HY := Lib.hid hY
  have HJD := Lib.hid hJd
  have HJ := Lib.hid hJ
  clear ihl ihr hY hJd hJ
  obtain ⟨b, pl, pr, rfl, hb, c0, c1, c2, c3, c4, hl, hr⟩ := ht
  clear c4
  refine callsIn_of_wp Try.func114 rfl trivial ?_ rfl
  simp only [Try.ntmps114, List.size_toArray, List.length_cons, List.length_nil, Nat.reduceAdd, Nat.reduceSub, Array.replicate_succ, Array.replicate_zero, List.push_toArray, List.append_toArray, List.nil_append, List.cons_append]
  gi_wp2
  refine wpIn_region_any (by kernel_rfl) ?_
  have hS0 : Below n₀ W (W.drewN 1) := below_draws (Below.refl _ _) _
  have hJ0 : J pre (W.drewN 1) := HJD.out pre W 1 HJ.out
  have hr0 := hr.below hS0
  have f3 : (W.drewN 1).cell? ⟨b, 3, none⟩ = some (.pointer pr) := (hS0.cell (p := ⟨b, 3, none⟩) hb).trans c3
  show wpAnyIn _ _ _ _ _ _ _ _ _ (W.drewN 1)
  refine wpAnyIn_take (i := 0) (oi := { dst := some 5, op := Op.move (Operand.tmp 0), type := 26, pos := "node.go:182", after := #[], guard := none }) (v := .pointer (some ⟨b, 0, none⟩)) rfl rfl (by kernel_rfl) (by kernel_rfl) (by kernel_rfl) (fun _ _ _ h => h) ⟨Or.inl ⟨by rfl, ?_⟩, fun _ => rfl⟩ ?_
  · intro w; go_simp
  simp only [Act.put, List.setIfInBounds_toArray, List.set_cons_zero, List.set_cons_succ]
  refine wpAnyIn_take (i := 1) (oi := { dst := some 6, op := Op.binOp BinOp.eql 26 (Operand.tmp 5) (Operand.const (Value.pointer none)) 26, type := 4, pos := "node.go:182", after := #[{ on := 0, ground := Ground.data }], guard := none }) (v := .bool false) rfl rfl (by kernel_rfl) (by kernel_rfl) (by kernel_rfl) (fun _ _ _ h => h) ⟨Or.inl ⟨by rfl, ?_⟩, fun _ => rfl⟩ ?_
  · intro w; go_simp
  simp only [Act.put, List.setIfInBounds_toArray, List.set_cons_zero, List.set_cons_succ]
  refine wpAnyIn_take (i := 2) (oi := { dst := some 7, op := Op.move (Operand.tmp 6), type := 4, pos := "node.go:182", after := #[{ on := 1, ground := Ground.data }], guard := none }) (v := .bool false) rfl rfl (by kernel_rfl) (by kernel_rfl) (by kernel_rfl) (fun _ _ _ h => h) ⟨Or.inl ⟨by rfl, ?_⟩, fun _ => rfl⟩ ?_
  · intro w; go_simp
  simp only [Act.put, List.setIfInBounds_toArray, List.set_cons_zero, List.set_cons_succ]
  refine wpAnyIn_take (i := 3) (oi := { dst := some 8, op := Op.move (Operand.tmp 0), type := 26, pos := "node.go:182", after := #[{ on := 2, ground := Ground.guard }], guard := some (2, false) }) (v := .pointer (some ⟨b, 0, none⟩)) rfl rfl (by kernel_rfl) (by kernel_rfl) (by kernel_rfl) (fun _ _ _ h => h) ⟨Or.inl ⟨by rfl, ?_⟩, fun _ => rfl⟩ ?_
  · intro w; go_simp
  simp only [Act.put, List.setIfInBounds_toArray, List.set_cons_zero, List.set_cons_succ]
  refine wpAnyIn_take (i := 4) (oi := { dst := some 9, op := Op.nilCheck (Operand.tmp 8), type := 0, pos := "node.go:182", after := #[{ on := 3, ground := Ground.data }, { on := 2, ground := Ground.guard }], guard := some (2, false) }) (v := .pointer (some ⟨b, 0, none⟩)) rfl rfl (by kernel_rfl) (by kernel_rfl) (by kernel_rfl) (fun _ _ _ h => h) ⟨Or.inl ⟨by rfl, ?_⟩, fun _ => rfl⟩ ?_
  · intro w; go_simp
  simp only [Act.put, List.setIfInBounds_toArray, List.set_cons_zero, List.set_cons_succ]
  refine wpAnyIn_take (i := 5) (oi := { dst := some 10, op := Op.fieldAddr 121 (Operand.tmp 9) 3, type := 0, pos := "node.go:182", after := #[{ on := 4, ground := Ground.data }, { on := 2, ground := Ground.guard }], guard := some (2, false) }) (v := .pointer (some ⟨b, 3, none⟩)) rfl rfl (by kernel_rfl) (by kernel_rfl) (by kernel_rfl) (fun _ _ _ h => h) ⟨Or.inl ⟨by rfl, ?_⟩, fun _ => rfl⟩ ?_
  · intro w; go_simp
  simp only [Act.put, List.setIfInBounds_toArray, List.set_cons_zero, List.set_cons_succ]
  refine wpAnyIn_take (i := 7) (oi := { dst := some 12, op := Op.move (Operand.tmp 1), type := 147, pos := "node.go:182", after := #[{ on := 2, ground := Ground.guard }], guard := some (2, false) }) (v := .func (.yield l) #[] #[]) rfl rfl (by kernel_rfl) (by kernel_rfl) (by kernel_rfl) (fun _ _ _ h => h) ⟨Or.inl ⟨by rfl, ?_⟩, fun _ => rfl⟩ ?_
  · intro w; go_simp
  simp only [Act.put, List.setIfInBounds_toArray, List.set_cons_zero, List.set_cons_succ]
  refine readP (i := 6) (o := { dst := some 11, op := Op.load 26 (Operand.tmp 10), type := 26, pos := "node.go:182", after := #[{ on := 5, ground := Ground.data }, { on := 2, ground := Ground.guard }], guard := some (2, false) }) (v := .pointer pr) rfl rfl (by kernel_rfl) (by rfl) rfl (by go_simp) ?_
  simp only [Act.put, List.setIfInBounds_toArray, List.set_cons_zero, List.set_cons_succ]
  refine onlyP (i := 8) (o := { dst := some 13, op := Op.call { callee := Callee.value (Operand.func 114), args := #[Operand.tmp 11, Operand.tmp 12], argTypes := #[26, 147] }, type := 4, pos := "node.go:182", after := #[{ on := 6, ground := Ground.data }, { on := 7, ground := Ground.data }, { on := 2, ground := Ground.chain }, { on := 2, ground := Ground.guard }], guard := some (2, false) }) rfl (by kernel_rfl) (by rfl) (fun K hK => ?_)
  go_simp
  refine ⟨trivial, (fun h => (by cases h)), ?_⟩
  refine (IHr.out (n - 1) pr pre _ hr0 hJ0 (by rw [List.length_reverse]; omega)).mono ?_
  rintro e W1 (⟨rfl, hJ1, hb1⟩ | ⟨rfl, q, hq, hx1⟩)
  · have hS1 : Below n₀ W W1 := hS0.trans hb1
    refine hK _ _ ?_
    clear hK K
    try simp only [Act.put, List.setIfInBounds_toArray, List.set_cons_zero, List.set_cons_succ]
    refine wpAnyIn_take (i := 9) (oi := { dst := some 14, op := Op.move (Operand.tmp 13), type := 4, pos := "node.go:182", after := #[{ on := 8, ground := Ground.data }, { on := 8, ground := Ground.chain }, { on := 2, ground := Ground.guard }], guard := some (2, false) }) (v := .bool true) rfl rfl (by kernel_rfl) (by kernel_rfl) (by kernel_rfl) (fun _ _ _ h => h) ⟨Or.inl ⟨by rfl, ?_⟩, fun _ => rfl⟩ ?_
    · intro w; go_simp
    simp only [Act.put, List.setIfInBounds_toArray, List.set_cons_zero, List.set_cons_succ]
    have g0 : W1.cell? ⟨b, 0, none⟩ = some (ek k) := (hS1.cell (p := ⟨b, 0, none⟩) hb).trans c0
    have g1 : W1.cell? ⟨b, 1, none⟩ = some (ev v) := (hS1.cell (p := ⟨b, 1, none⟩) hb).trans c1
    refine wpAnyIn_take (i := 10) (oi := { dst := some 15, op := Op.move (Operand.tmp 1), type := 147, pos := "node.go:182", after := #[{ on := 9, ground := Ground.guard }], guard := some (9, true) }) (v := .func (.yield l) #[] #[]) rfl rfl (by kernel_rfl) (by kernel_rfl) (by kernel_rfl) (fun _ _ _ h => h) ⟨Or.inl ⟨by rfl, ?_⟩, fun _ => rfl⟩ ?_
    · intro w; go_simp
    simp only [Act.put, List.setIfInBounds_toArray, List.set_cons_zero, List.set_cons_succ]
    refine wpAnyIn_take (i := 11) (oi := { dst := some 16, op := Op.move (Operand.tmp 0), type := 26, pos := "node.go:182", after := #[{ on := 9, ground := Ground.guard }], guard := some (9, true) }) (v := .pointer (some ⟨b, 0, none⟩)) rfl rfl (by kernel_rfl) (by kernel_rfl) (by kernel_rfl) (fun _ _ _ h => h) ⟨Or.inl ⟨by rfl, ?_⟩, fun _ => rfl⟩ ?_
    · intro w; go_simp
    simp only [Act.put, List.setIfInBounds_toArray, List.set_cons_zero, List.set_cons_succ]
    refine wpAnyIn_take (i := 12) (oi := { dst := some 17, op := Op.nilCheck (Operand.tmp 16), type := 0, pos := "node.go:182", after := #[{ on := 11, ground := Ground.data }, { on := 9, ground := Ground.guard }], guard := some (9, true) }) (v := .pointer (some ⟨b, 0, none⟩)) rfl rfl (by kernel_rfl) (by kernel_rfl) (by kernel_rfl) (fun _ _ _ h => h) ⟨Or.inl ⟨by rfl, ?_⟩, fun _ => rfl⟩ ?_
    · intro w; go_simp
    simp only [Act.put, List.setIfInBounds_toArray, List.set_cons_zero, List.set_cons_succ]
    refine wpAnyIn_take (i := 13) (oi := { dst := some 18, op := Op.fieldAddr 121 (Operand.tmp 17) 0, type := 0, pos := "node.go:182", after := #[{ on := 12, ground := Ground.data }, { on := 9, ground := Ground.guard }], guard := some (9, true) }) (v := .pointer (some ⟨b, 0, none⟩)) rfl rfl (by kernel_rfl) (by kernel_rfl) (by kernel_rfl) (fun _ _ _ h => h) ⟨Or.inl ⟨by rfl, ?_⟩, fun _ => rfl⟩ ?_
    · intro w; go_simp
    simp only [Act.put, List.setIfInBounds_toArray, List.set_cons_zero, List.set_cons_succ]
    refine wpAnyIn_take (i := 15) (oi := { dst := some 20, op := Op.move (Operand.tmp 0), type := 26, pos := "node.go:182", after := #[{ on := 9, ground := Ground.guard }], guard := some (9, true) }) (v := .pointer (some ⟨b, 0, none⟩)) rfl rfl (by kernel_rfl) (by kernel_rfl) (by kernel_rfl) (fun _ _ _ h => h) ⟨Or.inl ⟨by rfl, ?_⟩, fun _ => rfl⟩ ?_
    · intro w; go_simp
    simp only [Act.put, List.setIfInBounds_toArray, List.set_cons_zero, List.set_cons_succ]
    refine wpAnyIn_take (i := 16) (oi := { dst := some 21, op := Op.nilCheck (Operand.tmp 20), type := 0, pos := "node.go:182", after := #[{ on := 15, ground := Ground.data }, { on := 9, ground := Ground.guard }], guard := some (9, true) }) (v := .pointer (some ⟨b, 0, none⟩)) rfl rfl (by kernel_rfl) (by kernel_rfl) (by kernel_rfl) (fun _ _ _ h => h) ⟨Or.inl ⟨by rfl, ?_⟩, fun _ => rfl⟩ ?_
    · intro w; go_simp
    simp only [Act.put, List.setIfInBounds_toArray, List.set_cons_zero, List.set_cons_succ]
    refine wpAnyIn_take (i := 17) (oi := { dst := some 22, op := Op.fieldAddr 121 (Operand.tmp 21) 1, type := 0, pos := "node.go:182", after := #[{ on := 16, ground := Ground.data }, { on := 9, ground := Ground.guard }], guard := some (9, true) }) (v := .pointer (some ⟨b, 1, none⟩)) rfl rfl (by kernel_rfl) (by kernel_rfl) (by kernel_rfl) (fun _ _ _ h => h) ⟨Or.inl ⟨by rfl, ?_⟩, fun _ => rfl⟩ ?_
    · intro w; go_simp
    simp only [Act.put, List.setIfInBounds_toArray, List.set_cons_zero, List.set_cons_succ]
    refine twoP (i := 14) (j := 18) (oi := { dst := some 19, op := Op.load 3 (Operand.tmp 18), type := 3, pos := "node.go:182", after := #[{ on := 13, ground := Ground.data }, { on := 9, ground := Ground.guard }], guard := some (9, true) }) (oj := { dst := some 23, op := Op.load 3 (Operand.tmp 22), type := 3, pos := "node.go:182", after := #[{ on := 17, ground := Ground.data }, { on := 9, ground := Ground.guard }], guard := some (9, true) }) (di := 19) (dj := 23) (vi := ek k) (vj := ev v) rfl rfl rfl rfl rfl (by decide) (by decide) (by kernel_rfl) (by kernel_rfl) (by kernel_rfl) (by rfl) (by rfl) (by rfl) (by rfl) (fun _ => rfl) (fun _ => rfl) (by go_simp) (by go_simp) (by simp only [Act.put, List.setIfInBounds_toArray, List.set_cons_zero, List.set_cons_succ]; go_simp) (by simp only [Act.put, List.setIfInBounds_toArray, List.set_cons_zero, List.set_cons_succ]; go_simp) ?_
    simp only [Act.put, List.setIfInBounds_toArray, List.set_cons_zero, List.set_cons_succ]
    obtain ⟨fn, tmps, assign, body, hy, hR⟩ := HY.out (n - 1) (pre ++ tr.toList.reverse) (k, v) W1 hJ1 (by rw [List.length_append, List.length_reverse]; omega)
    refine onlyP (i := 19) (o := { dst := some 24, op := Op.call { callee := Callee.value (Operand.tmp 15), args := #[Operand.tmp 19, Operand.tmp 23], argTypes := #[3, 3] }, type := 4, pos := "node.go:182", after := #[{ on := 10, ground := Ground.data }, { on := 14, ground := Ground.data }, { on := 18, ground := Ground.data }, { on := 9, ground := Ground.chain }, { on := 9, ground := Ground.guard }], guard := some (9, true) }) rfl (by kernel_rfl) (by rfl) (fun K hK => ?_)
    go_simp
    refine ⟨(fun h => (by cases h)), ?_⟩
    refine hR.mono ?_
    clear hR hy
    rintro e W2 (⟨rfl, hJ2, hb2⟩ | ⟨rfl, hx2⟩)
    · have hS2 : Below n₀ W W2 := hS1.trans hb2
      refine hK _ _ ?_
      clear hK K
      try simp only [Act.put, List.setIfInBounds_toArray, List.set_cons_zero, List.set_cons_succ]
      have g3 : W2.cell? ⟨b, 2, none⟩ = some (.pointer pl) := (hS2.cell (p := ⟨b, 2, none⟩) hb).trans c2
      refine wpAnyIn_take (i := 20) (oi := { dst := some 25, op := Op.pick (Operand.tmp 14) (Operand.tmp 24) (Operand.const (Value.bool false)), type := 4, pos := "node.go:182", after := #[{ on := 9, ground := Ground.data }, { on := 19, ground := Ground.data }, { on := 2, ground := Ground.guard }], guard := some (2, false) }) (v := .bool true) rfl rfl (by kernel_rfl) (by kernel_rfl) (by kernel_rfl) (fun _ _ _ h => h) ⟨Or.inl ⟨by rfl, ?_⟩, fun _ => rfl⟩ ?_
      · intro w; go_simp
      simp only [Act.put, List.setIfInBounds_toArray, List.set_cons_zero, List.set_cons_succ]
      refine wpAnyIn_take (i := 21) (oi := { dst := some 26, op := Op.move (Operand.tmp 25), type := 4, pos := "node.go:182", after := #[{ on := 20, ground := Ground.data }, { on := 19, ground := Ground.chain }, { on := 2, ground := Ground.guard }], guard := some (2, false) }) (v := .bool true) rfl rfl (by kernel_rfl) (by kernel_rfl) (by kernel_rfl) (fun _ _ _ h => h) ⟨Or.inl ⟨by rfl, ?_⟩, fun _ => rfl⟩ ?_
      · intro w; go_simp
      simp only [Act.put, List.setIfInBounds_toArray, List.set_cons_zero, List.set_cons_succ]
      refine wpAnyIn_take (i := 22) (oi := { dst := some 27, op := Op.move (Operand.tmp 0), type := 26, pos := "node.go:182", after := #[{ on := 21, ground := Ground.guard }], guard := some (21, true) }) (v := .pointer (some ⟨b, 0, none⟩)) rfl rfl (by kernel_rfl) (by kernel_rfl) (by kernel_rfl) (fun _ _ _ h => h) ⟨Or.inl ⟨by rfl, ?_⟩, fun _ => rfl⟩ ?_
      · intro w; go_simp
      simp only [Act.put, List.setIfInBounds_toArray, List.set_cons_zero, List.set_cons_succ]
      refine wpAnyIn_take (i := 23) (oi := { dst := some 28, op := Op.nilCheck (Operand.tmp 27), type := 0, pos := "node.go:182", after := #[{ on := 22, ground := Ground.data }, { on := 21, ground := Ground.guard }], guard := some (21, true) }) (v := .pointer (some ⟨b, 0, none⟩)) rfl rfl (by kernel_rfl) (by kernel_rfl) (by kernel_rfl) (fun _ _ _ h => h) ⟨Or.inl ⟨by rfl, ?_⟩, fun _ => rfl⟩ ?_
      · intro w; go_simp
      simp only [Act.put, List.setIfInBounds_toArray, List.set_cons_zero, List.set_cons_succ]
      refine wpAnyIn_take (i := 24) (oi := { dst := some 29, op := Op.fieldAddr 121 (Operand.tmp 28) 2, type := 0, pos := "node.go:182", after := #[{ on := 23, ground := Ground.data }, { on := 21, ground := Ground.guard }], guard := some (21, true) }) (v := .pointer (some ⟨b, 2, none⟩)) rfl rfl (by kernel_rfl) (by kernel_rfl) (by kernel_rfl) (fun _ _ _ h => h) ⟨Or.inl ⟨by rfl, ?_⟩, fun _ => rfl⟩ ?_
      · intro w; go_simp
      simp only [Act.put, List.setIfInBounds_toArray, List.set_cons_zero, List.set_cons_succ]
      refine wpAnyIn_take (i := 26) (oi := { dst := some 31, op := Op.move (Operand.tmp 1), type := 147, pos := "node.go:182", after := #[{ on := 21, ground := Ground.guard }], guard := some (21, true) }) (v := .func (.yield l) #[] #[]) rfl rfl (by kernel_rfl) (by kernel_rfl) (by kernel_rfl) (fun _ _ _ h => h) ⟨Or.inl ⟨by rfl, ?_⟩, fun _ => rfl⟩ ?_
      · intro w; go_simp
      simp only [Act.put, List.setIfInBounds_toArray, List.set_cons_zero, List.set_cons_succ]
      refine readP (i := 25) (o := { dst := some 30, op := Op.load 26 (Operand.tmp 29), type := 26, pos := "node.go:182", after := #[{ on := 24, ground := Ground.data }, { on := 21, ground := Ground.guard }], guard := some (21, true) }) (v := .pointer pl) rfl rfl (by kernel_rfl) (by rfl) rfl (by go_simp) ?_
      simp only [Act.put, List.setIfInBounds_toArray, List.set_cons_zero, List.set_cons_succ]
      refine onlyP (i := 27) (o := { dst := some 32, op := Op.call { callee := Callee.value (Operand.func 114), args := #[Operand.tmp 30, Operand.tmp 31], argTypes := #[26, 147] }, type := 4, pos := "node.go:182", after := #[{ on := 25, ground := Ground.data }, { on := 26, ground := Ground.data }, { on := 21, ground := Ground.chain }, { on := 21, ground := Ground.guard }], guard := some (21, true) }) rfl (by kernel_rfl) (by rfl) (fun K hK => ?_)
      go_simp
      refine ⟨trivial, (fun h => (by cases h)), ?_⟩
      refine (IHl.out (n - 1) pl _ _ (hl.below hS2) hJ2 (by simp only [List.length_append, List.length_cons, List.length_nil, List.length_reverse]; omega)).mono ?_
      rintro e W3 (⟨rfl, hJ3, hb3⟩ | ⟨rfl, q, hq, hx3⟩)
      · refine hK _ _ ?_
        clear hK K
        try simp only [Act.put, List.setIfInBounds_toArray, List.set_cons_zero, List.set_cons_succ]
        refine wpAnyIn_take (i := 28) (oi := { dst := some 33, op := Op.pick (Operand.tmp 26) (Operand.tmp 32) (Operand.const (Value.bool false)), type := 4, pos := "node.go:182", after := #[{ on := 21, ground := Ground.data }, { on := 27, ground := Ground.data }, { on := 2, ground := Ground.guard }], guard := some (2, false) }) (v := .bool true) rfl rfl (by kernel_rfl) (by kernel_rfl) (by kernel_rfl) (fun _ _ _ h => h) ⟨Or.inl ⟨by rfl, ?_⟩, fun _ => rfl⟩ ?_
        · intro w; go_simp
        simp only [Act.put, List.setIfInBounds_toArray, List.set_cons_zero, List.set_cons_succ]
        refine wpAnyIn_take (i := 29) (oi := { dst := some 34, op := Op.pick (Operand.tmp 7) (Operand.const (Value.bool true)) (Operand.tmp 33), type := 4, pos := "node.go:182", after := #[{ on := 2, ground := Ground.data }, { on := 28, ground := Ground.data }], guard := none }) (v := .bool true) rfl rfl (by kernel_rfl) (by kernel_rfl) (by kernel_rfl) (fun _ _ _ h => h) ⟨Or.inl ⟨by rfl, ?_⟩, fun _ => rfl⟩ ?_
        · intro w; go_simp
        simp only [Act.put, List.setIfInBounds_toArray, List.set_cons_zero, List.set_cons_succ]
        refine wpAnyIn_take (i := 30) (oi := { dst := some 4, op := Op.assign (Operand.tmp 34), type := 4, pos := "node.go:182", after := #[{ on := 29, ground := Ground.data }, { on := 27, ground := Ground.chain }, { on := 0, ground := Ground.phase }, { on := 1, ground := Ground.phase }, { on := 2, ground := Ground.phase }, { on := 3, ground := Ground.phase }, { on := 4, ground := Ground.phase }, { on := 5, ground := Ground.phase }, { on := 6, ground := Ground.phase }, { on := 7, ground := Ground.phase }, { on := 8, ground := Ground.phase }, { on := 9, ground := Ground.phase }, { on := 10, ground := Ground.phase }, { on := 11, ground := Ground.phase }, { on := 12, ground := Ground.phase }, { on := 13, ground := Ground.phase }, { on := 14, ground := Ground.phase }, { on := 15, ground := Ground.phase }, { on := 16, ground := Ground.phase }, { on := 17, ground := Ground.phase }, { on := 18, ground := Ground.phase }, { on := 19, ground := Ground.phase }, { on := 20, ground := Ground.phase }, { on := 21, ground := Ground.phase }, { on := 22, ground := Ground.phase }, { on := 23, ground := Ground.phase }, { on := 24, ground := Ground.phase }, { on := 25, ground := Ground.phase }, { on := 26, ground := Ground.phase }, { on := 27, ground := Ground.phase }, { on := 28, ground := Ground.phase }, { on := 29, ground := Ground.phase }], guard := none }) (v := .bool true) rfl rfl (by kernel_rfl) (by kernel_rfl) (by kernel_rfl) (fun _ _ _ h => h) ⟨Or.inl ⟨by rfl, ?_⟩, fun _ => rfl⟩ ?_
        · intro w; go_simp
        simp only [Act.put, List.setIfInBounds_toArray, List.set_cons_zero, List.set_cons_succ]
        refine wpAnyIn_done (by kernel_rfl) ?_ _
        gi_wp2
        go_ret
        exact .inl ⟨rfl, by simpa [List.append_assoc] using hJ3, hS2.trans hb3⟩
      · refine hK _ _ ?_
        clear hK K
        try simp only [Act.put, List.setIfInBounds_toArray, List.set_cons_zero, List.set_cons_succ]
        refine wpAnyIn_take (i := 28) (oi := { dst := some 33, op := Op.pick (Operand.tmp 26) (Operand.tmp 32) (Operand.const (Value.bool false)), type := 4, pos := "node.go:182", after := #[{ on := 21, ground := Ground.data }, { on := 27, ground := Ground.data }, { on := 2, ground := Ground.guard }], guard := some (2, false) }) (v := .bool false) rfl rfl (by kernel_rfl) (by kernel_rfl) (by kernel_rfl) (fun _ _ _ h => h) ⟨Or.inl ⟨by rfl, ?_⟩, fun _ => rfl⟩ ?_
        · intro w; go_simp
        simp only [Act.put, List.setIfInBounds_toArray, List.set_cons_zero, List.set_cons_succ]
        refine wpAnyIn_take (i := 29) (oi := { dst := some 34, op := Op.pick (Operand.tmp 7) (Operand.const (Value.bool true)) (Operand.tmp 33), type := 4, pos := "node.go:182", after := #[{ on := 2, ground := Ground.data }, { on := 28, ground := Ground.data }], guard := none }) (v := .bool false) rfl rfl (by kernel_rfl) (by kernel_rfl) (by kernel_rfl) (fun _ _ _ h => h) ⟨Or.inl ⟨by rfl, ?_⟩, fun _ => rfl⟩ ?_
        · intro w; go_simp
        simp only [Act.put, List.setIfInBounds_toArray, List.set_cons_zero, List.set_cons_succ]
        refine wpAnyIn_take (i := 30) (oi := { dst := some 4, op := Op.assign (Operand.tmp 34), type := 4, pos := "node.go:182", after := #[{ on := 29, ground := Ground.data }, { on := 27, ground := Ground.chain }, { on := 0, ground := Ground.phase }, { on := 1, ground := Ground.phase }, { on := 2, ground := Ground.phase }, { on := 3, ground := Ground.phase }, { on := 4, ground := Ground.phase }, { on := 5, ground := Ground.phase }, { on := 6, ground := Ground.phase }, { on := 7, ground := Ground.phase }, { on := 8, ground := Ground.phase }, { on := 9, ground := Ground.phase }, { on := 10, ground := Ground.phase }, { on := 11, ground := Ground.phase }, { on := 12, ground := Ground.phase }, { on := 13, ground := Ground.phase }, { on := 14, ground := Ground.phase }, { on := 15, ground := Ground.phase }, { on := 16, ground := Ground.phase }, { on := 17, ground := Ground.phase }, { on := 18, ground := Ground.phase }, { on := 19, ground := Ground.phase }, { on := 20, ground := Ground.phase }, { on := 21, ground := Ground.phase }, { on := 22, ground := Ground.phase }, { on := 23, ground := Ground.phase }, { on := 24, ground := Ground.phase }, { on := 25, ground := Ground.phase }, { on := 26, ground := Ground.phase }, { on := 27, ground := Ground.phase }, { on := 28, ground := Ground.phase }, { on := 29, ground := Ground.phase }], guard := none }) (v := .bool false) rfl rfl (by kernel_rfl) (by kernel_rfl) (by kernel_rfl) (fun _ _ _ h => h) ⟨Or.inl ⟨by rfl, ?_⟩, fun _ => rfl⟩ ?_
        · intro w; go_simp
        simp only [Act.put, List.setIfInBounds_toArray, List.set_cons_zero, List.set_cons_succ]
        refine wpAnyIn_done (by kernel_rfl) ?_ _
        gi_wp2
        go_ret
        obtain ⟨r, hr'⟩ := hq
        exact .inr ⟨rfl, tr.toList.reverse ++ (k, v) :: q, ⟨r, by simp [← hr']⟩, by simpa [List.append_assoc] using hx3⟩
    · refine hK _ _ ?_
      clear hK K
      try simp only [Act.put, List.setIfInBounds_toArray, List.set_cons_zero, List.set_cons_succ]
      refine wpAnyIn_take (i := 20) (oi := { dst := some 25, op := Op.pick (Operand.tmp 14) (Operand.tmp 24) (Operand.const (Value.bool false)), type := 4, pos := "node.go:182", after := #[{ on := 9, ground := Ground.data }, { on := 19, ground := Ground.data }, { on := 2, ground := Ground.guard }], guard := some (2, false) }) (v := .bool false) rfl rfl (by kernel_rfl) (by kernel_rfl) (by kernel_rfl) (fun _ _ _ h => h) ⟨Or.inl ⟨by rfl, ?_⟩, fun _ => rfl⟩ ?_
      · intro w; go_simp
      simp only [Act.put, List.setIfInBounds_toArray, List.set_cons_zero, List.set_cons_succ]
      refine wpAnyIn_take (i := 21) (oi := { dst := some 26, op := Op.move (Operand.tmp 25), type := 4, pos := "node.go:182", after := #[{ on := 20, ground := Ground.data }, { on := 19, ground := Ground.chain }, { on := 2, ground := Ground.guard }], guard := some (2, false) }) (v := .bool false) rfl rfl (by kernel_rfl) (by kernel_rfl) (by kernel_rfl) (fun _ _ _ h => h) ⟨Or.inl ⟨by rfl, ?_⟩, fun _ => rfl⟩ ?_
      · intro w; go_simp
      simp only [Act.put, List.setIfInBounds_toArray, List.set_cons_zero, List.set_cons_succ]
      refine wpAnyIn_take (i := 22) (oi := { dst := some 27, op := Op.move (Operand.tmp 0), type := 26, pos := "node.go:182", after := #[{ on := 21, ground := Ground.guard }], guard := some (21, true) }) (v := undef) rfl rfl (by kernel_rfl) (by kernel_rfl) (by kernel_rfl) (fun _ _ _ h => h) ⟨Or.inr ⟨by rfl, rfl⟩, fun _ => rfl⟩ ?_
      simp only [Act.put, List.setIfInBounds_toArray, List.set_cons_zero, List.set_cons_succ]
      refine wpAnyIn_take (i := 23) (oi := { dst := some 28, op := Op.nilCheck (Operand.tmp 27), type := 0, pos := "node.go:182", after := #[{ on := 22, ground := Ground.data }, { on := 21, ground := Ground.guard }], guard := some (21, true) }) (v := undef) rfl rfl (by kernel_rfl) (by kernel_rfl) (by kernel_rfl) (fun _ _ _ h => h) ⟨Or.inr ⟨by rfl, rfl⟩, fun _ => rfl⟩ ?_
      simp only [Act.put, List.setIfInBounds_toArray, List.set_cons_zero, List.set_cons_succ]
      refine wpAnyIn_take (i := 24) (oi := { dst := some 29, op := Op.fieldAddr 121 (Operand.tmp 28) 2, type := 0, pos := "node.go:182", after := #[{ on := 23, ground := Ground.data }, { on := 21, ground := Ground.guard }], guard := some (21, true) }) (v := undef) rfl rfl (by kernel_rfl) (by kernel_rfl) (by kernel_rfl) (fun _ _ _ h => h) ⟨Or.inr ⟨by rfl, rfl⟩, fun _ => rfl⟩ ?_
      simp only [Act.put, List.setIfInBounds_toArray, List.set_cons_zero, List.set_cons_succ]
      refine wpAnyIn_take (i := 25) (oi := { dst := some 30, op := Op.load 26 (Operand.tmp 29), type := 26, pos := "node.go:182", after := #[{ on := 24, ground := Ground.data }, { on := 21, ground := Ground.guard }], guard := some (21, true) }) (v := undef) rfl rfl (by kernel_rfl) (by kernel_rfl) (by kernel_rfl) (fun _ _ _ h => h) ⟨Or.inr ⟨by rfl, rfl⟩, fun _ => rfl⟩ ?_
      simp only [Act.put, List.setIfInBounds_toArray, List.set_cons_zero, List.set_cons_succ]
      refine wpAnyIn_take (i := 26) (oi := { dst := some 31, op := Op.move (Operand.tmp 1), type := 147, pos := "node.go:182", after := #[{ on := 21, ground := Ground.guard }], guard := some (21, true) }) (v := undef) rfl rfl (by kernel_rfl) (by kernel_rfl) (by kernel_rfl) (fun _ _ _ h => h) ⟨Or.inr ⟨by rfl, rfl⟩, fun _ => rfl⟩ ?_
      simp only [Act.put, List.setIfInBounds_toArray, List.set_cons_zero, List.set_cons_succ]
      refine skipP (i := 27) (o := { dst := some 32, op := Op.call { callee := Callee.value (Operand.func 114), args := #[Operand.tmp 30, Operand.tmp 31], argTypes := #[26, 147] }, type := 4, pos := "node.go:182", after := #[{ on := 25, ground := Ground.data }, { on := 26, ground := Ground.data }, { on := 21, ground := Ground.chain }, { on := 21, ground := Ground.guard }], guard := some (21, true) }) rfl (by kernel_rfl) (by rfl) (fun _ => trivial) ?_
      simp only [Act.put, List.setIfInBounds_toArray, List.set_cons_zero, List.set_cons_succ]
      refine wpAnyIn_take (i := 28) (oi := { dst := some 33, op := Op.pick (Operand.tmp 26) (Operand.tmp 32) (Operand.const (Value.bool false)), type := 4, pos := "node.go:182", after := #[{ on := 21, ground := Ground.data }, { on := 27, ground := Ground.data }, { on := 2, ground := Ground.guard }], guard := some (2, false) }) (v := .bool false) rfl rfl (by kernel_rfl) (by kernel_rfl) (by kernel_rfl) (fun _ _ _ h => h) ⟨Or.inl ⟨by rfl, ?_⟩, fun _ => rfl⟩ ?_
      · intro w; go_simp
      simp only [Act.put, List.setIfInBounds_toArray, List.set_cons_zero, List.set_cons_succ]
      refine wpAnyIn_take (i := 29) (oi := { dst := some 34, op := Op.pick (Operand.tmp 7) (Operand.const (Value.bool true)) (Operand.tmp 33), type := 4, pos := "node.go:182", after := #[{ on := 2, ground := Ground.data }, { on := 28, ground := Ground.data }], guard := none }) (v := .bool false) rfl rfl (by kernel_rfl) (by kernel_rfl) (by kernel_rfl) (fun _ _ _ h => h) ⟨Or.inl ⟨by rfl, ?_⟩, fun _ => rfl⟩ ?_
      · intro w; go_simp
      simp only [Act.put, List.setIfInBounds_toArray, List.set_cons_zero, List.set_cons_succ]
      refine wpAnyIn_take (i := 30) (oi := { dst := some 4, op := Op.assign (Operand.tmp 34), type := 4, pos := "node.go:182", after := #[{ on := 29, ground := Ground.data }, { on := 27, ground := Ground.chain }, { on := 0, ground := Ground.phase }, { on := 1, ground := Ground.phase }, { on := 2, ground := Ground.phase }, { on := 3, ground := Ground.phase }, { on := 4, ground := Ground.phase }, { on := 5, ground := Ground.phase }, { on := 6, ground := Ground.phase }, { on := 7, ground := Ground.phase }, { on := 8, ground := Ground.phase }, { on := 9, ground := Ground.phase }, { on := 10, ground := Ground.phase }, { on := 11, ground := Ground.phase }, { on := 12, ground := Ground.phase }, { on := 13, ground := Ground.phase }, { on := 14, ground := Ground.phase }, { on := 15, ground := Ground.phase }, { on := 16, ground := Ground.phase }, { on := 17, ground := Ground.phase }, { on := 18, ground := Ground.phase }, { on := 19, ground := Ground.phase }, { on := 20, ground := Ground.phase }, { on := 21, ground := Ground.phase }, { on := 22, ground := Ground.phase }, { on := 23, ground := Ground.phase }, { on := 24, ground := Ground.phase }, { on := 25, ground := Ground.phase }, { on := 26, ground := Ground.phase }, { on := 27, ground := Ground.phase }, { on := 28, ground := Ground.phase }, { on := 29, ground := Ground.phase }], guard := none }) (v := .bool false) rfl rfl (by kernel_rfl) (by kernel_rfl) (by kernel_rfl) (fun _ _ _ h => h) ⟨Or.inl ⟨by rfl, ?_⟩, fun _ => rfl⟩ ?_
      · intro w; go_simp
      simp only [Act.put, List.setIfInBounds_toArray, List.set_cons_zero, List.set_cons_succ]
      refine wpAnyIn_done (by kernel_rfl) ?_ _
      gi_wp2
      go_ret
      exact .inr ⟨rfl, tr.toList.reverse ++ [(k, v)], ⟨tl.toList.reverse, by simp⟩, by simpa [List.append_assoc] using hx2⟩
  · refine hK _ _ ?_
    clear hK K
    try simp only [Act.put, List.setIfInBounds_toArray, List.set_cons_zero, List.set_cons_succ]
    refine wpAnyIn_take (i := 9) (oi := { dst := some 14, op := Op.move (Operand.tmp 13), type := 4, pos := "node.go:182", after := #[{ on := 8, ground := Ground.data }, { on := 8, ground := Ground.chain }, { on := 2, ground := Ground.guard }], guard := some (2, false) }) (v := .bool false) rfl rfl (by kernel_rfl) (by kernel_rfl) (by kernel_rfl) (fun _ _ _ h => h) ⟨Or.inl ⟨by rfl, ?_⟩, fun _ => rfl⟩ ?_
    · intro w; go_simp
    simp only [Act.put, List.setIfInBounds_toArray, List.set_cons_zero, List.set_cons_succ]
    refine wpAnyIn_take (i := 10) (oi := { dst := some 15, op := Op.move (Operand.tmp 1), type := 147, pos := "node.go:182", after := #[{ on := 9, ground := Ground.guard }], guard := some (9, true) }) (v := undef) rfl rfl (by kernel_rfl) (by kernel_rfl) (by kernel_rfl) (fun _ _ _ h => h) ⟨Or.inr ⟨by rfl, rfl⟩, fun _ => rfl⟩ ?_
    simp only [Act.put, List.setIfInBounds_toArray, List.set_cons_zero, List.set_cons_succ]
    refine wpAnyIn_take (i := 11) (oi := { dst := some 16, op := Op.move (Operand.tmp 0), type := 26, pos := "node.go:182", after := #[{ on := 9, ground := Ground.guard }], guard := some (9, true) }) (v := undef) rfl rfl (by kernel_rfl) (by kernel_rfl) (by kernel_rfl) (fun _ _ _ h => h) ⟨Or.inr ⟨by rfl, rfl⟩, fun _ => rfl⟩ ?_
    simp only [Act.put, List.setIfInBounds_toArray, List.set_cons_zero, List.set_cons_succ]
    refine wpAnyIn_take (i := 12) (oi := { dst := some 17, op := Op.nilCheck (Operand.tmp 16), type := 0, pos := "node.go:182", after := #[{ on := 11, ground := Ground.data }, { on := 9, ground := Ground.guard }], guard := some (9, true) }) (v := undef) rfl rfl (by kernel_rfl) (by kernel_rfl) (by kernel_rfl) (fun _ _ _ h => h) ⟨Or.inr ⟨by rfl, rfl⟩, fun _ => rfl⟩ ?_
    simp only [Act.put, List.setIfInBounds_toArray, List.set_cons_zero, List.set_cons_succ]
    refine wpAnyIn_take (i := 13) (oi := { dst := some 18, op := Op.fieldAddr 121 (Operand.tmp 17) 0, type := 0, pos := "node.go:182", after := #[{ on := 12, ground := Ground.data }, { on := 9, ground := Ground.guard }], guard := some (9, true) }) (v := undef) rfl rfl (by kernel_rfl) (by kernel_rfl) (by kernel_rfl) (fun _ _ _ h => h) ⟨Or.inr ⟨by rfl, rfl⟩, fun _ => rfl⟩ ?_
    simp only [Act.put, List.setIfInBounds_toArray, List.set_cons_zero, List.set_cons_succ]
    refine wpAnyIn_take (i := 14) (oi := { dst := some 19, op := Op.load 3 (Operand.tmp 18), type := 3, pos := "node.go:182", after := #[{ on := 13, ground := Ground.data }, { on := 9, ground := Ground.guard }], guard := some (9, true) }) (v := undef) rfl rfl (by kernel_rfl) (by kernel_rfl) (by kernel_rfl) (fun _ _ _ h => h) ⟨Or.inr ⟨by rfl, rfl⟩, fun _ => rfl⟩ ?_
    simp only [Act.put, List.setIfInBounds_toArray, List.set_cons_zero, List.set_cons_succ]
    refine wpAnyIn_take (i := 15) (oi := { dst := some 20, op := Op.move (Operand.tmp 0), type := 26, pos := "node.go:182", after := #[{ on := 9, ground := Ground.guard }], guard := some (9, true) }) (v := undef) rfl rfl (by kernel_rfl) (by kernel_rfl) (by kernel_rfl) (fun _ _ _ h => h) ⟨Or.inr ⟨by rfl, rfl⟩, fun _ => rfl⟩ ?_
    simp only [Act.put, List.setIfInBounds_toArray, List.set_cons_zero, List.set_cons_succ]
    refine wpAnyIn_take (i := 16) (oi := { dst := some 21, op := Op.nilCheck (Operand.tmp 20), type := 0, pos := "node.go:182", after := #[{ on := 15, ground := Ground.data }, { on := 9, ground := Ground.guard }], guard := some (9, true) }) (v := undef) rfl rfl (by kernel_rfl) (by kernel_rfl) (by kernel_rfl) (fun _ _ _ h => h) ⟨Or.inr ⟨by rfl, rfl⟩, fun _ => rfl⟩ ?_
    simp only [Act.put, List.setIfInBounds_toArray, List.set_cons_zero, List.set_cons_succ]
    refine wpAnyIn_take (i := 17) (oi := { dst := some 22, op := Op.fieldAddr 121 (Operand.tmp 21) 1, type := 0, pos := "node.go:182", after := #[{ on := 16, ground := Ground.data }, { on := 9, ground := Ground.guard }], guard := some (9, true) }) (v := undef) rfl rfl (by kernel_rfl) (by kernel_rfl) (by kernel_rfl) (fun _ _ _ h => h) ⟨Or.inr ⟨by rfl, rfl⟩, fun _ => rfl⟩ ?_
    simp only [Act.put, List.setIfInBounds_toArray, List.set_cons_zero, List.set_cons_succ]
    refine wpAnyIn_take (i := 18) (oi := { dst := some 23, op := Op.load 3 (Operand.tmp 22), type := 3, pos := "node.go:182", after := #[{ on := 17, ground := Ground.data }, { on := 9, ground := Ground.guard }], guard := some (9, true) }) (v := undef) rfl rfl (by kernel_rfl) (by kernel_rfl) (by kernel_rfl) (fun _ _ _ h => h) ⟨Or.inr ⟨by rfl, rfl⟩, fun _ => rfl⟩ ?_
    simp only [Act.put, List.setIfInBounds_toArray, List.set_cons_zero, List.set_cons_succ]
    refine skipP (i := 19) (o := { dst := some 24, op := Op.call { callee := Callee.value (Operand.tmp 15), args := #[Operand.tmp 19, Operand.tmp 23], argTypes := #[3, 3] }, type := 4, pos := "node.go:182", after := #[{ on := 10, ground := Ground.data }, { on := 14, ground := Ground.data }, { on := 18, ground := Ground.data }, { on := 9, ground := Ground.chain }, { on := 9, ground := Ground.guard }], guard := some (9, true) }) rfl (by kernel_rfl) (by rfl) (fun _ => trivial) ?_
    simp only [Act.put, List.setIfInBounds_toArray, List.set_cons_zero, List.set_cons_succ]
    refine wpAnyIn_take (i := 20) (oi := { dst := some 25, op := Op.pick (Operand.tmp 14) (Operand.tmp 24) (Operand.const (Value.bool false)), type := 4, pos := "node.go:182", after := #[{ on := 9, ground := Ground.data }, { on := 19, ground := Ground.data }, { on := 2, ground := Ground.guard }], guard := some (2, false) }) (v := .bool false) rfl rfl (by kernel_rfl) (by kernel_rfl) (by kernel_rfl) (fun _ _ _ h => h) ⟨Or.inl ⟨by rfl, ?_⟩, fun _ => rfl⟩ ?_
    · intro w; go_simp
    simp only [Act.put, List.setIfInBounds_toArray, List.set_cons_zero, List.set_cons_succ]
    refine wpAnyIn_take (i := 21) (oi := { dst := some 26, op := Op.move (Operand.tmp 25), type := 4, pos := "node.go:182", after := #[{ on := 20, ground := Ground.data }, { on := 19, ground := Ground.chain }, { on := 2, ground := Ground.guard }], guard := some (2, false) }) (v := .bool false) rfl rfl (by kernel_rfl) (by kernel_rfl) (by kernel_rfl) (fun _ _ _ h => h) ⟨Or.inl ⟨by rfl, ?_⟩, fun _ => rfl⟩ ?_
    · intro w; go_simp
    simp only [Act.put, List.setIfInBounds_toArray, List.set_cons_zero, List.set_cons_succ]
    refine wpAnyIn_take (i := 22) (oi := { dst := some 27, op := Op.move (Operand.tmp 0), type := 26, pos := "node.go:182", after := #[{ on := 21, ground := Ground.guard }], guard := some (21, true) }) (v := undef) rfl rfl (by kernel_rfl) (by kernel_rfl) (by kernel_rfl) (fun _ _ _ h => h) ⟨Or.inr ⟨by rfl, rfl⟩, fun _ => rfl⟩ ?_
    simp only [Act.put, List.setIfInBounds_toArray, List.set_cons_zero, List.set_cons_succ]
    refine wpAnyIn_take (i := 23) (oi := { dst := some 28, op := Op.nilCheck (Operand.tmp 27), type := 0, pos := "node.go:182", after := #[{ on := 22, ground := Ground.data }, { on := 21, ground := Ground.guard }], guard := some (21, true) }) (v := undef) rfl rfl (by kernel_rfl) (by kernel_rfl) (by kernel_rfl) (fun _ _ _ h => h) ⟨Or.inr ⟨by rfl, rfl⟩, fun _ => rfl⟩ ?_
    simp only [Act.put, List.setIfInBounds_toArray, List.set_cons_zero, List.set_cons_succ]
    refine wpAnyIn_take (i := 24) (oi := { dst := some 29, op := Op.fieldAddr 121 (Operand.tmp 28) 2, type := 0, pos := "node.go:182", after := #[{ on := 23, ground := Ground.data }, { on := 21, ground := Ground.guard }], guard := some (21, true) }) (v := undef) rfl rfl (by kernel_rfl) (by kernel_rfl) (by kernel_rfl) (fun _ _ _ h => h) ⟨Or.inr ⟨by rfl, rfl⟩, fun _ => rfl⟩ ?_
    simp only [Act.put, List.setIfInBounds_toArray, List.set_cons_zero, List.set_cons_succ]
    refine wpAnyIn_take (i := 25) (oi := { dst := some 30, op := Op.load 26 (Operand.tmp 29), type := 26, pos := "node.go:182", after := #[{ on := 24, ground := Ground.data }, { on := 21, ground := Ground.guard }], guard := some (21, true) }) (v := undef) rfl rfl (by kernel_rfl) (by kernel_rfl) (by kernel_rfl) (fun _ _ _ h => h) ⟨Or.inr ⟨by rfl, rfl⟩, fun _ => rfl⟩ ?_
    simp only [Act.put, List.setIfInBounds_toArray, List.set_cons_zero, List.set_cons_succ]
    refine wpAnyIn_take (i := 26) (oi := { dst := some 31, op := Op.move (Operand.tmp 1), type := 147, pos := "node.go:182", after := #[{ on := 21, ground := Ground.guard }], guard := some (21, true) }) (v := undef) rfl rfl (by kernel_rfl) (by kernel_rfl) (by kernel_rfl) (fun _ _ _ h => h) ⟨Or.inr ⟨by rfl, rfl⟩, fun _ => rfl⟩ ?_
    simp only [Act.put, List.setIfInBounds_toArray, List.set_cons_zero, List.set_cons_succ]
    refine skipP (i := 27) (o := { dst := some 32, op := Op.call { callee := Callee.value (Operand.func 114), args := #[Operand.tmp 30, Operand.tmp 31], argTypes := #[26, 147] }, type := 4, pos := "node.go:182", after := #[{ on := 25, ground := Ground.data }, { on := 26, ground := Ground.data }, { on := 21, ground := Ground.chain }, { on := 21, ground := Ground.guard }], guard := some (21, true) }) rfl (by kernel_rfl) (by rfl) (fun _ => trivial) ?_
    simp only [Act.put, List.setIfInBounds_toArray, List.set_cons_zero, List.set_cons_succ]
    refine wpAnyIn_take (i := 28) (oi := { dst := some 33, op := Op.pick (Operand.tmp 26) (Operand.tmp 32) (Operand.const (Value.bool false)), type := 4, pos := "node.go:182", after := #[{ on := 21, ground := Ground.data }, { on := 27, ground := Ground.data }, { on := 2, ground := Ground.guard }], guard := some (2, false) }) (v := .bool false) rfl rfl (by kernel_rfl) (by kernel_rfl) (by kernel_rfl) (fun _ _ _ h => h) ⟨Or.inl ⟨by rfl, ?_⟩, fun _ => rfl⟩ ?_
    · intro w; go_simp
    simp only [Act.put, List.setIfInBounds_toArray, List.set_cons_zero, List.set_cons_succ]
    refine wpAnyIn_take (i := 29) (oi := { dst := some 34, op := Op.pick (Operand.tmp 7) (Operand.const (Value.bool true)) (Operand.tmp 33), type := 4, pos := "node.go:182", after := #[{ on := 2, ground := Ground.data }, { on := 28, ground := Ground.data }], guard := none }) (v := .bool false) rfl rfl (by kernel_rfl) (by kernel_rfl) (by kernel_rfl) (fun _ _ _ h => h) ⟨Or.inl ⟨by rfl, ?_⟩, fun _ => rfl⟩ ?_
    · intro w; go_simp
    simp only [Act.put, List.setIfInBounds_toArray, List.set_cons_zero, List.set_cons_succ]
    refine wpAnyIn_take (i := 30) (oi := { dst := some 4, op := Op.assign (Operand.tmp 34), type := 4, pos := "node.go:182", after := #[{ on := 29, ground := Ground.data }, { on := 27, ground := Ground.chain }, { on := 0, ground := Ground.phase }, { on := 1, ground := Ground.phase }, { on := 2, ground := Ground.phase }, { on := 3, ground := Ground.phase }, { on := 4, ground := Ground.phase }, { on := 5, ground := Ground.phase }, { on := 6, ground := Ground.phase }, { on := 7, ground := Ground.phase }, { on := 8, ground := Ground.phase }, { on := 9, ground := Ground.phase }, { on := 10, ground := Ground.phase }, { on := 11, ground := Ground.phase }, { on := 12, ground := Ground.phase }, { on := 13, ground := Ground.phase }, { on := 14, ground := Ground.phase }, { on := 15, ground := Ground.phase }, { on := 16, ground := Ground.phase }, { on := 17, ground := Ground.phase }, { on := 18, ground := Ground.phase }, { on := 19, ground := Ground.phase }, { on := 20, ground := Ground.phase }, { on := 21, ground := Ground.phase }, { on := 22, ground := Ground.phase }, { on := 23, ground := Ground.phase }, { on := 24, ground := Ground.phase }, { on := 25, ground := Ground.phase }, { on := 26, ground := Ground.phase }, { on := 27, ground := Ground.phase }, { on := 28, ground := Ground.phase }, { on := 29, ground := Ground.phase }], guard := none }) (v := .bool false) rfl rfl (by kernel_rfl) (by kernel_rfl) (by kernel_rfl) (fun _ _ _ h => h) ⟨Or.inl ⟨by rfl, ?_⟩, fun _ => rfl⟩ ?_
    · intro w; go_simp
    simp only [Act.put, List.setIfInBounds_toArray, List.set_cons_zero, List.set_cons_succ]
    refine wpAnyIn_done (by kernel_rfl) ?_ _
    gi_wp2
    go_ret
    exact .inr ⟨rfl, q, hq.trans (by simp), hx1⟩

theorem back_nil (l n₀ : Nat) (J Jx : List (Int × Int) → World → Prop) (hJd : ∀ pre W m, J pre W → J pre (W.drewN m)) (n : Nat) (p : Option Addr) (pre : List (Int × Int)) (W : World) (ht : Tr n₀ W p (.nil : T Int Int)) (hJ : J pre W) :
      CallsIn Fence.wide n Try.prog 114 #[.pointer p, .func (.yield l) #[] #[]] W fun e W' =>
        (e = .returned (.bool true) ∧ J (pre ++ (T.nil : T Int Int).toList.reverse) W' ∧ Below n₀ W W') ∨ (e = .returned (.bool false) ∧ ∃ q, q <+: (T.nil : T Int Int).toList.reverse ∧ Jx (pre ++ q) W') := by
  obtain rfl : p = none := ht
  have HJD := Lib.hid hJd
  have HJ := Lib.hid hJ
  clear hJd hJ
  refine callsIn_of_wp Try.func114 rfl trivial ?_ rfl
  simp only [Try.ntmps114, List.size_toArray, List.length_cons, List.length_nil, Nat.reduceAdd, Nat.reduceSub, Array.replicate_succ, Array.replicate_zero, List.push_toArray, List.append_toArray, List.nil_append, List.cons_append]
  gi_wp2
  refine wpIn_region_any (by kernel_rfl) ?_
  have hS0 : Below n₀ W (W.drewN 1) := below_draws (Below.refl _ _) _
  have hJ0 : J pre (W.drewN 1) := HJD.out pre W 1 HJ.out
  show wpAnyIn _ _ _ _ _ _ _ _ _ (W.drewN 1)
  refine wpAnyIn_take (i := 0) (oi := { dst := some 5, op := Op.move (Operand.tmp 0), type := 26, pos := "node.go:182", after := #[], guard := none }) (v := .pointer none) rfl rfl (by kernel_rfl) (by kernel_rfl) (by kernel_rfl) (fun _ _ _ h => h) ⟨Or.inl ⟨by rfl, ?_⟩, fun _ => rfl⟩ ?_
  · intro w; go_simp
  simp only [Act.put, List.setIfInBounds_toArray, List.set_cons_zero, List.set_cons_succ]
  refine wpAnyIn_take (i := 1) (oi := { dst := some 6, op := Op.binOp BinOp.eql 26 (Operand.tmp 5) (Operand.const (Value.pointer none)) 26, type := 4, pos := "node.go:182", after := #[{ on := 0, ground := Ground.data }], guard := none }) (v := .bool true) rfl rfl (by kernel_rfl) (by kernel_rfl) (by kernel_rfl) (fun _ _ _ h => h) ⟨Or.inl ⟨by rfl, ?_⟩, fun _ => rfl⟩ ?_
  · intro w; go_simp
  simp only [Act.put, List.setIfInBounds_toArray, List.set_cons_zero, List.set_cons_succ]
  refine wpAnyIn_take (i := 2) (oi := { dst := some 7, op := Op.move (Operand.tmp 6), type := 4, pos := "node.go:182", after := #[{ on := 1, ground := Ground.data }], guard := none }) (v := .bool true) rfl rfl (by kernel_rfl) (by kernel_rfl) (by kernel_rfl) (fun _ _ _ h => h) ⟨Or.inl ⟨by rfl, ?_⟩, fun _ => rfl⟩ ?_
  · intro w; go_simp
  simp only [Act.put, List.setIfInBounds_toArray, List.set_cons_zero, List.set_cons_succ]
  refine wpAnyIn_take (i := 3) (oi := { dst := some 8, op := Op.move (Operand.tmp 0), type := 26, pos := "node.go:182", after := #[{ on := 2, ground := Ground.guard }], guard := some (2, false) }) (v := undef) rfl rfl (by kernel_rfl) (by kernel_rfl) (by kernel_rfl) (fun _ _ _ h => h) ⟨Or.inr ⟨by rfl, rfl⟩, fun _ => rfl⟩ ?_
  simp only [Act.put, List.setIfInBounds_toArray, List.set_cons_zero, List.set_cons_succ]
  refine wpAnyIn_take (i := 4) (oi := { dst := some 9, op := Op.nilCheck (Operand.tmp 8), type := 0, pos := "node.go:182", after := #[{ on := 3, ground := Ground.data }, { on := 2, ground := Ground.guard }], guard := some (2, false) }) (v := undef) rfl rfl (by kernel_rfl) (by kernel_rfl) (by kernel_rfl) (fun _ _ _ h => h) ⟨Or.inr ⟨by rfl, rfl⟩, fun _ => rfl⟩ ?_
  simp only [Act.put, List.setIfInBounds_toArray, List.set_cons_zero, List.set_cons_succ]
  refine wpAnyIn_take (i := 5) (oi := { dst := some 10, op := Op.fieldAddr 121 (Operand.tmp 9) 3, type := 0, pos := "node.go:182", after := #[{ on := 4, ground := Ground.data }, { on := 2, ground := Ground.guard }], guard := some (2, false) }) (v := undef) rfl rfl (by kernel_rfl) (by kernel_rfl) (by kernel_rfl) (fun _ _ _ h => h) ⟨Or.inr ⟨by rfl, rfl⟩, fun _ => rfl⟩ ?_
  simp only [Act.put, List.setIfInBounds_toArray, List.set_cons_zero, List.set_cons_succ]
  refine wpAnyIn_take (i := 6) (oi := { dst := some 11, op := Op.load 26 (Operand.tmp 10), type := 26, pos := "node.go:182", after := #[{ on := 5, ground := Ground.data }, { on := 2, ground := Ground.guard }], guard := some (2, false) }) (v := undef) rfl rfl (by kernel_rfl) (by kernel_rfl) (by kernel_rfl) (fun _ _ _ h => h) ⟨Or.inr ⟨by rfl, rfl⟩, fun _ => rfl⟩ ?_
  simp only [Act.put, List.setIfInBounds_toArray, List.set_cons_zero, List.set_cons_succ]
  refine wpAnyIn_take (i := 7) (oi := { dst := some 12, op := Op.move (Operand.tmp 1), type := 147, pos := "node.go:182", after := #[{ on := 2, ground := Ground.guard }], guard := some (2, false) }) (v := undef) rfl rfl (by kernel_rfl) (by kernel_rfl) (by kernel_rfl) (fun _ _ _ h => h) ⟨Or.inr ⟨by rfl, rfl⟩, fun _ => rfl⟩ ?_
  simp only [Act.put, List.setIfInBounds_toArray, List.set_cons_zero, List.set_cons_succ]
  refine skipP (i := 8) (o := { dst := some 13, op := Op.call { callee := Callee.value (Operand.func 114), args := #[Operand.tmp 11, Operand.tmp 12], argTypes := #[26, 147] }, type := 4, pos := "node.go:182", after := #[{ on := 6, ground := Ground.data }, { on := 7, ground := Ground.data }, { on := 2, ground := Ground.chain }, { on := 2, ground := Ground.guard }], guard := some (2, false) }) rfl (by kernel_rfl) (by rfl) (fun _ => trivial) ?_
  simp only [Act.put, List.setIfInBounds_toArray, List.set_cons_zero, List.set_cons_succ]
  refine wpAnyIn_take (i := 9) (oi := { dst := some 14, op := Op.move (Operand.tmp 13), type := 4, pos := "node.go:182", after := #[{ on := 8, ground := Ground.data }, { on := 8, ground := Ground.chain }, { on := 2, ground := Ground.guard }], guard := some (2, false) }) (v := undef) rfl rfl (by kernel_rfl) (by kernel_rfl) (by kernel_rfl) (fun _ _ _ h => h) ⟨Or.inr ⟨by rfl, rfl⟩, fun _ => rfl⟩ ?_
  simp only [Act.put, List.setIfInBounds_toArray, List.set_cons_zero, List.set_cons_succ]
  refine wpAnyIn_take (i := 10) (oi := { dst := some 15, op := Op.move (Operand.tmp 1), type := 147, pos := "node.go:182", after := #[{ on := 9, ground := Ground.guard }], guard := some (9, true) }) (v := undef) rfl rfl (by kernel_rfl) (by kernel_rfl) (by kernel_rfl) (fun _ _ _ h => h) ⟨Or.inr ⟨by rfl, rfl⟩, fun _ => rfl⟩ ?_
  simp only [Act.put, List.setIfInBounds_toArray, List.set_cons_zero, List.set_cons_succ]
  refine wpAnyIn_take (i := 11) (oi := { dst := some 16, op := Op.move (Operand.tmp 0), type := 26, pos := "node.go:182", after := #[{ on := 9, ground := Ground.guard }], guard := some (9, true) }) (v := undef) rfl rfl (by kernel_rfl) (by kernel_rfl) (by kernel_rfl) (fun _ _ _ h => h) ⟨Or.inr ⟨by rfl, rfl⟩, fun _ => rfl⟩ ?_
  simp only [Act.put, List.setIfInBounds_toArray, List.set_cons_zero, List.set_cons_succ]
  refine wpAnyIn_take (i := 12) (oi := { dst := some 17, op := Op.nilCheck (Operand.tmp 16), type := 0, pos := "node.go:182", after := #[{ on := 11, ground := Ground.data }, { on := 9, ground := Ground.guard }], guard := some (9, true) }) (v := undef) rfl rfl (by kernel_rfl) (by kernel_rfl) (by kernel_rfl) (fun _ _ _ h => h) ⟨Or.inr ⟨by rfl, rfl⟩, fun _ => rfl⟩ ?_
  simp only [Act.put, List.setIfInBounds_toArray, List.set_cons_zero, List.set_cons_succ]
  refine wpAnyIn_take (i := 13) (oi := { dst := some 18, op := Op.fieldAddr 121 (Operand.tmp 17) 0, type := 0, pos := "node.go:182", after := #[{ on := 12, ground := Ground.data }, { on := 9, ground := Ground.guard }], guard := some (9, true) }) (v := undef) rfl rfl (by kernel_rfl) (by kernel_rfl) (by kernel_rfl) (fun _ _ _ h => h) ⟨Or.inr ⟨by rfl, rfl⟩, fun _ => rfl⟩ ?_
  simp only [Act.put, List.setIfInBounds_toArray, List.set_cons_zero, List.set_cons_succ]
  refine wpAnyIn_take (i := 14) (oi := { dst := some 19, op := Op.load 3 (Operand.tmp 18), type := 3, pos := "node.go:182", after := #[{ on := 13, ground := Ground.data }, { on := 9, ground := Ground.guard }], guard := some (9, true) }) (v := undef) rfl rfl (by kernel_rfl) (by kernel_rfl) (by kernel_rfl) (fun _ _ _ h => h) ⟨Or.inr ⟨by rfl, rfl⟩, fun _ => rfl⟩ ?_
  simp only [Act.put, List.setIfInBounds_toArray, List.set_cons_zero, List.set_cons_succ]
  refine wpAnyIn_take (i := 15) (oi := { dst := some 20, op := Op.move (Operand.tmp 0), type := 26, pos := "node.go:182", after := #[{ on := 9, ground := Ground.guard }], guard := some (9, true) }) (v := undef) rfl rfl (by kernel_rfl) (by kernel_rfl) (by kernel_rfl) (fun _ _ _ h => h) ⟨Or.inr ⟨by rfl, rfl⟩, fun _ => rfl⟩ ?_
  simp only [Act.put, List.setIfInBounds_toArray, List.set_cons_zero, List.set_cons_succ]
  refine wpAnyIn_take (i := 16) (oi := { dst := some 21, op := Op.nilCheck (Operand.tmp 20), type := 0, pos := "node.go:182", after := #[{ on := 15, ground := Ground.data }, { on := 9, ground := Ground.guard }], guard := some (9, true) }) (v := undef) rfl rfl (by kernel_rfl) (by kernel_rfl) (by kernel_rfl) (fun _ _ _ h => h) ⟨Or.inr ⟨by rfl, rfl⟩, fun _ => rfl⟩ ?_
  simp only [Act.put, List.setIfInBounds_toArray, List.set_cons_zero, List.set_cons_succ]
  refine wpAnyIn_take (i := 17) (oi := { dst := some 22, op := Op.fieldAddr 121 (Operand.tmp 21) 1, type := 0, pos := "node.go:182", after := #[{ on := 16, ground := Ground.data }, { on := 9, ground := Ground.guard }], guard := some (9, true) }) (v := undef) rfl rfl (by kernel_rfl) (by kernel_rfl) (by kernel_rfl) (fun _ _ _ h => h) ⟨Or.inr ⟨by rfl, rfl⟩, fun _ => rfl⟩ ?_
  simp only [Act.put, List.setIfInBounds_toArray, List.set_cons_zero, List.set_cons_succ]
  refine wpAnyIn_take (i := 18) (oi := { dst := some 23, op := Op.load 3 (Operand.tmp 22), type := 3, pos := "node.go:182", after := #[{ on := 17, ground := Ground.data }, { on := 9, ground := Ground.guard }], guard := some (9, true) }) (v := undef) rfl rfl (by kernel_rfl) (by kernel_rfl) (by kernel_rfl) (fun _ _ _ h => h) ⟨Or.inr ⟨by rfl, rfl⟩, fun _ => rfl⟩ ?_
  simp only [Act.put, List.setIfInBounds_toArray, List.set_cons_zero, List.set_cons_succ]
  refine skipP (i := 19) (o := { dst := some 24, op := Op.call { callee := Callee.value (Operand.tmp 15), args := #[Operand.tmp 19, Operand.tmp 23], argTypes := #[3, 3] }, type := 4, pos := "node.go:182", after := #[{ on := 10, ground := Ground.data }, { on := 14, ground := Ground.data }, { on := 18, ground := Ground.data }, { on := 9, ground := Ground.chain }, { on := 9, ground := Ground.guard }], guard := some (9, true) }) rfl (by kernel_rfl) (by rfl) (fun _ => trivial) ?_
  simp only [Act.put, List.setIfInBounds_toArray, List.set_cons_zero, List.set_cons_succ]
  refine wpAnyIn_take (i := 20) (oi := { dst := some 25, op := Op.pick (Operand.tmp 14) (Operand.tmp 24) (Operand.const (Value.bool false)), type := 4, pos := "node.go:182", after := #[{ on := 9, ground := Ground.data }, { on := 19, ground := Ground.data }, { on := 2, ground := Ground.guard }], guard := some (2, false) }) (v := undef) rfl rfl (by kernel_rfl) (by kernel_rfl) (by kernel_rfl) (fun _ _ _ h => h) ⟨Or.inr ⟨by rfl, rfl⟩, fun _ => rfl⟩ ?_
  simp only [Act.put, List.setIfInBounds_toArray, List.set_cons_zero, List.set_cons_succ]
  refine wpAnyIn_take (i := 21) (oi := { dst := some 26, op := Op.move (Operand.tmp 25), type := 4, pos := "node.go:182", after := #[{ on := 20, ground := Ground.data }, { on := 19, ground := Ground.chain }, { on := 2, ground := Ground.guard }], guard := some (2, false) }) (v := undef) rfl rfl (by kernel_rfl) (by kernel_rfl) (by kernel_rfl) (fun _ _ _ h => h) ⟨Or.inr ⟨by rfl, rfl⟩, fun _ => rfl⟩ ?_
  simp only [Act.put, List.setIfInBounds_toArray, List.set_cons_zero, List.set_cons_succ]
  refine wpAnyIn_take (i := 22) (oi := { dst := some 27, op := Op.move (Operand.tmp 0), type := 26, pos := "node.go:182", after := #[{ on := 21, ground := Ground.guard }], guard := some (21, true) }) (v := undef) rfl rfl (by kernel_rfl) (by kernel_rfl) (by kernel_rfl) (fun _ _ _ h => h) ⟨Or.inr ⟨by rfl, rfl⟩, fun _ => rfl⟩ ?_
  simp only [Act.put, List.setIfInBounds_toArray, List.set_cons_zero, List.set_cons_succ]
  refine wpAnyIn_take (i := 23) (oi := { dst := some 28, op := Op.nilCheck (Operand.tmp 27), type := 0, pos := "node.go:182", after := #[{ on := 22, ground := Ground.data }, { on := 21, ground := Ground.guard }], guard := some (21, true) }) (v := undef) rfl rfl (by kernel_rfl) (by kernel_rfl) (by kernel_rfl) (fun _ _ _ h => h) ⟨Or.inr ⟨by rfl, rfl⟩, fun _ => rfl⟩ ?_
  simp only [Act.put, List.setIfInBounds_toArray, List.set_cons_zero, List.set_cons_succ]
  refine wpAnyIn_take (i := 24) (oi := { dst := some 29, op := Op.fieldAddr 121 (Operand.tmp 28) 2, type := 0, pos := "node.go:182", after := #[{ on := 23, ground := Ground.data }, { on := 21, ground := Ground.guard }], guard := some (21, true) }) (v := undef) rfl rfl (by kernel_rfl) (by kernel_rfl) (by kernel_rfl) (fun _ _ _ h => h) ⟨Or.inr ⟨by rfl, rfl⟩, fun _ => rfl⟩ ?_
  simp only [Act.put, List.setIfInBounds_toArray, List.set_cons_zero, List.set_cons_succ]
  refine wpAnyIn_take (i := 25) (oi := { dst := some 30, op := Op.load 26 (Operand.tmp 29), type := 26, pos := "node.go:182", after := #[{ on := 24, ground := Ground.data }, { on := 21, ground := Ground.guard }], guard := some (21, true) }) (v := undef) rfl rfl (by kernel_rfl) (by kernel_rfl) (by kernel_rfl) (fun _ _ _ h => h) ⟨Or.inr ⟨by rfl, rfl⟩, fun _ => rfl⟩ ?_
  simp only [Act.put, List.setIfInBounds_toArray, List.set_cons_zero, List.set_cons_succ]
  refine wpAnyIn_take (i := 26) (oi := { dst := some 31, op := Op.move (Operand.tmp 1), type := 147, pos := "node.go:182", after := #[{ on := 21, ground := Ground.guard }], guard := some (21, true) }) (v := undef) rfl rfl (by kernel_rfl) (by kernel_rfl) (by kernel_rfl) (fun _ _ _ h => h) ⟨Or.inr ⟨by rfl, rfl⟩, fun _ => rfl⟩ ?_
  simp only [Act.put, List.setIfInBounds_toArray, List.set_cons_zero, List.set_cons_succ]
  refine skipP (i := 27) (o := { dst := some 32, op := Op.call { callee := Callee.value (Operand.func 114), args := #[Operand.tmp 30, Operand.tmp 31], argTypes := #[26, 147] }, type := 4, pos := "node.go:182", after := #[{ on := 25, ground := Ground.data }, { on := 26, ground := Ground.data }, { on := 21, ground := Ground.chain }, { on := 21, ground := Ground.guard }], guard := some (21, true) }) rfl (by kernel_rfl) (by rfl) (fun _ => trivial) ?_
  simp only [Act.put, List.setIfInBounds_toArray, List.set_cons_zero, List.set_cons_succ]
  refine wpAnyIn_take (i := 28) (oi := { dst := some 33, op := Op.pick (Operand.tmp 26) (Operand.tmp 32) (Operand.const (Value.bool false)), type := 4, pos := "node.go:182", after := #[{ on := 21, ground := Ground.data }, { on := 27, ground := Ground.data }, { on := 2, ground := Ground.guard }], guard := some (2, false) }) (v := undef) rfl rfl (by kernel_rfl) (by kernel_rfl) (by kernel_rfl) (fun _ _ _ h => h) ⟨Or.inr ⟨by rfl, rfl⟩, fun _ => rfl⟩ ?_
  simp only [Act.put, List.setIfInBounds_toArray, List.set_cons_zero, List.set_cons_succ]
  refine wpAnyIn_take (i := 29) (oi := { dst := some 34, op := Op.pick (Operand.tmp 7) (Operand.const (Value.bool true)) (Operand.tmp 33), type := 4, pos := "node.go:182", after := #[{ on := 2, ground := Ground.data }, { on := 28, ground := Ground.data }], guard := none }) (v := .bool true) rfl rfl (by kernel_rfl) (by kernel_rfl) (by kernel_rfl) (fun _ _ _ h => h) ⟨Or.inl ⟨by rfl, ?_⟩, fun _ => rfl⟩ ?_
  · intro w; go_simp
  simp only [Act.put, List.setIfInBounds_toArray, List.set_cons_zero, List.set_cons_succ]
  refine wpAnyIn_take (i := 30) (oi := { dst := some 4, op := Op.assign (Operand.tmp 34), type := 4, pos := "node.go:182", after := #[{ on := 29, ground := Ground.data }, { on := 27, ground := Ground.chain }, { on := 0, ground := Ground.phase }, { on := 1, ground := Ground.phase }, { on := 2, ground := Ground.phase }, { on := 3, ground := Ground.phase }, { on := 4, ground := Ground.phase }, { on := 5, ground := Ground.phase }, { on := 6, ground := Ground.phase }, { on := 7, ground := Ground.phase }, { on := 8, ground := Ground.phase }, { on := 9, ground := Ground.phase }, { on := 10, ground := Ground.phase }, { on := 11, ground := Ground.phase }, { on := 12, ground := Ground.phase }, { on := 13, ground := Ground.phase }, { on := 14, ground := Ground.phase }, { on := 15, ground := Ground.phase }, { on := 16, ground := Ground.phase }, { on := 17, ground := Ground.phase }, { on := 18, ground := Ground.phase }, { on := 19, ground := Ground.phase }, { on := 20, ground := Ground.phase }, { on := 21, ground := Ground.phase }, { on := 22, ground := Ground.phase }, { on := 23, ground := Ground.phase }, { on := 24, ground := Ground.phase }, { on := 25, ground := Ground.phase }, { on := 26, ground := Ground.phase }, { on := 27, ground := Ground.phase }, { on := 28, ground := Ground.phase }, { on := 29, ground := Ground.phase }], guard := none }) (v := .bool true) rfl rfl (by kernel_rfl) (by kernel_rfl) (by kernel_rfl) (fun _ _ _ h => h) ⟨Or.inl ⟨by rfl, ?_⟩, fun _ => rfl⟩ ?_
  · intro w; go_simp
  simp only [Act.put, List.setIfInBounds_toArray, List.set_cons_zero, List.set_cons_succ]
  refine wpAnyIn_done (by kernel_rfl) ?_ _
  gi_wp2
  go_ret
  exact .inl ⟨rfl, by simpa [T.toList] using hJ0, hS0⟩

theorem back_any (l n₀ N : Nat) (J Jx : List (Int × Int) → World → Prop) (hJd : ∀ pre W m, J pre W → J pre (W.drewN m)) (hY : YieldSaid l n₀ J Jx N) (t : T Int Int) :
    ∀ (n : Nat) (p : Option Addr) (pre : List (Int × Int)) (W : World), Tr n₀ W p t → J pre W → pre.length + t.toList.length ≤ N →
      CallsIn Fence.wide n Try.prog 114 #[.pointer p, .func (.yield l) #[] #[]] W fun e W' =>
        (e = .returned (.bool true) ∧ J (pre ++ t.toList.reverse) W' ∧ Below n₀ W W') ∨ (e = .returned (.bool false) ∧ ∃ q, q <+: t.toList.reverse ∧ Jx (pre ++ q) W') := by
  induction t with
  | nil => intro n p pre W ht hJ _; exact back_nil l n₀ J Jx hJd n p pre W ht hJ
  | node tl k v tr ihl ihr =>
    intro n p pre W ht hJ hN
    have e : (T.node tl k v tr).toList.reverse = tr.toList.reverse ++ (k, v) :: tl.toList.reverse := by simp [T.toList]
    rw [e]
    exact back_node l n₀ N J Jx hJd hY tl k v tr n p pre W ht hJ (by simpa [T.toList, Nat.add_assoc, Nat.add_comm 1] using hN)
      (fun n p pre W h1 h2 h3 => ihl n p pre W h1 h2 (by rwa [List.length_reverse] at h3)) (fun n p pre W h1 h2 h3 => ihr n p pre W h1 h2 (by rwa [List.length_reverse] at h3))

/-- The closure that Back returns. -/
theorem back1_in (n : Nat) (l Bt n₀ : Nat) (p0 : Option Addr) (t : T Int Int) (J Jx : List (Int × Int) → World → Prop) (hJd : ∀ pre W m, J pre W → J pre (W.drewN m)) (hY : YieldSaid l n₀ J Jx t.toList.length)
    (W : World) (hBt : W.cell? ⟨Bt, 0, none⟩ = some (.pointer p0)) (hT : Tr n₀ W p0 t) (h0 : J [] W) :
    CallsIn Fence.wide n Try.prog 113 #[.func (.yield l) #[] #[], .pointer (some ⟨Bt, 0, none⟩)] W fun e W' => (∃ v, e = .returned v) ∧
      ((∃ ys, ys = t.toList.reverse ∧ J ys W') ∨ (∃ pre, pre <+: t.toList.reverse ∧ Jx pre W')) := by
  have hp := back_any l n₀ t.toList.length J Jx hJd hY t (n - 1) p0 [] W hT h0 (by simp)
  refine callsIn_of_wp Try.func113 rfl trivial ?_ rfl
  simp only [Try.ntmps113, List.size_toArray, List.length_cons, List.length_nil, Nat.reduceAdd, Nat.reduceSub, Array.replicate_succ, Array.replicate_zero, List.push_toArray, List.append_toArray, List.nil_append, List.cons_append]
  gi_wp2_with (refine ⟨trivial, ?_⟩; (try refine ⟨(fun h => (by cases h)), ?_⟩); gi_at_call 114; refine hp.mono ?_; clear hp; rintro e W1 (⟨rfl, hJ1, _⟩ | ⟨rfl, q, hq, hx⟩))
  · go_end0
    exact ⟨⟨_, rfl⟩, .inl ⟨_, rfl, by simpa using hJ1⟩⟩
  · go_end0
    exact ⟨⟨_, rfl⟩, .inr ⟨q, hq, by simpa using hx⟩⟩

theorem back_in (n : Nat) (p0 : Option Addr) (w : World) :
    CallsIn Fence.wide n Try.prog 80 #[.agg #[.pointer p0]] w fun e w' => e = .returned (.func (.func 113) #[] #[.pointer (some ⟨w.heap.size, 0, none⟩)]) ∧ w' = w.alloc (.cells #[.pointer p0] 28) := by
  refine callsIn_of_wp Try.func80 rfl trivial ?_ rfl
  simp only [Try.ntmps80, List.size_toArray, List.length_cons, List.length_nil, Nat.reduceAdd, Nat.reduceSub, Array.replicate_succ, Array.replicate_zero, List.push_toArray, List.append_toArray, List.nil_append, List.cons_append]
  gi_wp2
  go_ret
  exact ⟨rfl, rfl⟩

theorem back_stops (n : Nat) (Bt n₀ : Nat) (p0 : Option Addr) (t : T Int Int) (w : World) (hBt : Bt < w.heap.size) (hn₀ : n₀ ≤ w.heap.size)
    (hc : w.cell? ⟨Bt, 0, none⟩ = some (.pointer p0)) (hT : Tr n₀ w p0 t) :
    SeqStopsK Fence.wide n Try.prog 113 #[.pointer (some ⟨Bt, 0, none⟩)] (fun x : Int × Int => #[.int .i64 x.1, .int .i64 x.2]) (Below n₀) (fun ys => ys = t.toList.reverse) (fun pre => pre <+: t.toList.reverse) t.toList.length w :=
  fun l J Jx W hW hJ _ hY h0 => back1_in n l Bt n₀ p0 t J Jx (fun pre W m h => hJ pre W _ none h ⟨rfl, rfl, rfl, Nat.le_refl _, fun _ _ _ => rfl⟩ (fun r e => (by cases e)))
    (fun m pre x W hj hl => yield_any m (hY pre x W hj hl)) W ((hW.cell (p := ⟨Bt, 0, none⟩) hBt).trans hc) (hT.below (hW.mono hn₀)) h0
end Go.Proofs.MT.II
