/- The laws' world: a block of two rows, one of maps, one of what each map must hold. -/
import Derived.Test.YtnhngaadegebfaaStepLaws
import Derived.Test.YtnhngaadegebfaaAA
import Derived.Test.YtnhngaadegebfaaA89
import Derived.Test.YtnhngaadegebfaaSame
namespace Go.Proofs.MT.II
open Go.RowKit Go.Proofs.Ytnhngaadegebfaa.Q Go.Proofs.YtnhngaadegebfaaW.PrintWords
set_option linter.unusedVariables false

/-- A tree stays where the nodes' blocks stay. -/
theorem tree_step {A B : World} (hm : ∀ k, k < A.heap.size → tagAt A k 121 → B.heap[k]? = A.heap[k]?) (hs : A.heap.size ≤ B.heap.size) {p : Option Addr} {t : T Int Int} (h : Tr A.heap.size A p t) : Tr B.heap.size B p t :=
  IsTree.mono hs (h.carry hm)

theorem own_step {W W' : World} {base e size n : Nat} {v : Value} {xs : List Value} (h : W.ownsRow base e size v n xs) (hm : ∀ k, v.ownBlock = some k → k < W.heap.size → W'.heap[k]? = W.heap[k]?) : W'.ownsRow base e size v n xs := by
  obtain ⟨h1, h2⟩ := h
  refine ⟨h1, ?_⟩
  rcases h2 with h2 | ⟨g, cap, cur, rfl, hg, hh, r⟩
  · exact .inl h2
  · refine .inr ⟨g, cap, cur, rfl, hg, ?_, r⟩
    rw [hm g rfl, hh]
    rcases Nat.lt_or_ge g W.heap.size with h | h
    · exact h
    · rw [Array.getElem?_eq_none h] at hh; cases hh

/-- A map and what it must hold. -/
structure En where
  p : Option Addr
  s : Value
  t : T Int Int

/-- The blocks that are written. -/
def Bad (B : Nat) (vm vl : Value) (k : Nat) : Prop := k = B ∨ vm.ownBlock = some k ∨ vl.ownBlock = some k

/-- A row that holds these pairs, in no block that is written. -/
def Holds (W : World) (bad : Nat → Prop) (s : Value) (l : List (Int × Int)) : Prop := Kd.V k38 38 W 0 (fun k => ¬ bad k) s (l.map toS)

structure Good (W : World) (bad : Nat → Prop) (ks : List Int) (e : En) : Prop where
  tree : Tr W.heap.size W e.p e.t
  row : Holds W bad e.s e.t.toList
  sorted : Sorted e.t.toList
  keys : ∀ q ∈ e.t.toList, q.1 ∈ ks

structure Wd (n₀ : Nat) (W : World) (B : Nat) (vm vl : Value) (ks : List Int) (es ls : List En) : Prop where
  base : n₀ ≤ B
  tag : tagAt W B 78
  fr : ∀ k, W.frozen? ⟨B, k, none⟩ = false
  c0 : W.cell? ⟨B, 0, none⟩ = some vm
  c1 : W.cell? ⟨B, 1, none⟩ = some vl
  om : W.ownsRow n₀ 28 1 vm es.length (es.map fun e => Value.pointer e.p)
  ol : W.ownsRow n₀ 22 1 vl ls.length (ls.map fun e => e.s)
  all : ∀ e ∈ es, Good W (Bad B vm vl) ks e

theorem Holds.step {W W' : World} {bad : Nat → Prop} {s : Value} {l : List (Int × Int)} (h : Holds W bad s l) (hm : ∀ k, ¬ bad k → k < W.heap.size → W'.heap[k]? = W.heap[k]?) : Holds W' bad s l := Kd.V_step h hm
theorem Holds.later {W W' : World} {bad : Nat → Prop} {s : Value} {l : List (Int × Int)} (h : Holds W bad s l) (hb : Below W.heap.size W W') : Holds W' bad s l := Kd.V_below h hb
/-- Of the blocks that are, none is written anew. -/
theorem Holds.bad {W : World} {bad bad' : Nat → Prop} {s : Value} {l : List (Int × Int)} (h : Holds W bad s l) (hb : ∀ k, k < W.heap.size → bad' k → bad k) : Holds W bad' s l :=
  Kd.V_mono (Kd.V_bound h) fun k hk h' => hk.1 (hb k hk.2 h')
theorem Holds.reads {W : World} {bad : Nat → Prop} {s : Value} {l : List (Int × Int)} (h : Holds W bad s l) (hl : l.length ≤ 9223372036854775807) : ∃ A c, s = .slice A l.length c ∧ l.length ≤ c ∧ Row2 ek ev W.heap.size W A l ∧ Kd.C k38 W A (l.map toS).length (l.map toS) := by
  obtain ⟨A, c, hs, hc, hf⟩ := h
  have hC := Kd.F_now hf
  have hr := C_row hC
  rw [ofS_toS] at hr
  rw [List.length_map] at hs hc
  exact ⟨A, c, hs, hc, hr, hC⟩

theorem Good.step {W W' : World} {bad : Nat → Prop} {ks : List Int} {e : En} (h : Good W bad ks e) (hm : ∀ k, ¬ bad k → k < W.heap.size → W'.heap[k]? = W.heap[k]?) (ht : ∀ k, tagAt W k 121 → ¬ bad k) (hs : W.heap.size ≤ W'.heap.size) : Good W' bad ks e :=
  ⟨tree_step (fun k hk htg => hm k (ht k htg) hk) hs h.tree, h.row.step hm, h.sorted, h.keys⟩
theorem Good.later {W W' : World} {bad : Nat → Prop} {ks : List Int} {e : En} (h : Good W bad ks e) (hb : Below W.heap.size W W') : Good W' bad ks e :=
  ⟨h.tree.later hb, h.row.later hb, h.sorted, h.keys⟩
theorem Good.more {W : World} {bad : Nat → Prop} {ks ks' : List Int} {e : En} (h : Good W bad ks e) (hk : ∀ k ∈ ks, k ∈ ks') : Good W bad ks' e :=
  ⟨h.tree, h.row, h.sorted, fun q hq => hk _ (h.keys q hq)⟩
theorem Good.bad {W : World} {bad bad' : Nat → Prop} {ks : List Int} {e : En} (h : Good W bad ks e) (hb : ∀ k, k < W.heap.size → bad' k → bad k) : Good W bad' ks e :=
  ⟨h.tree, h.row.bad hb, h.sorted, h.keys⟩

/-- No more keys than these. -/
theorem keys_le : ∀ (l : List (Int × Int)) (ks : List Int), Sorted l → (∀ q ∈ l, q.1 ∈ ks) → l.length ≤ ks.length
  | [], ks, _, _ => by simp
  | x :: xs, ks, h, hk => by
    have h' := h
    unfold Sorted at h'
    rw [List.pairwise_cons] at h'
    obtain ⟨h1, h2⟩ := h'
    have hx := hk x (List.mem_cons_self ..)
    have := keys_le xs (ks.erase x.1) h2 fun q hq => by
      have hne : q.1 ≠ x.1 := fun e => by have := h1 q hq; rw [e, KOrd.irrefl] at this; cases this
      exact (List.mem_erase_of_ne hne).2 (hk q (List.mem_cons_of_mem _ hq))
    rw [List.length_erase_of_mem hx] at this
    have hp := List.length_pos_of_mem hx
    simp
    omega
theorem Good.size {W : World} {bad : Nat → Prop} {ks : List Int} {e : En} (h : Good W bad ks e) : e.t.size ≤ ks.length := by
  rw [← T.length_toList]; exact keys_le _ _ h.sorted h.keys

theorem Wd.lt {n₀ : Nat} {W : World} {B : Nat} {vm vl : Value} {ks : List Int} {es ls : List En} (h : Wd n₀ W B vm vl ks es ls) : B < W.heap.size := by
  obtain ⟨cs, f, hh⟩ := h.tag
  rcases Nat.lt_or_ge B W.heap.size with h | h
  · exact h
  · rw [Array.getElem?_eq_none h] at hh; cases hh

/-- The blocks that are written are of other kinds than the nodes. -/
theorem own_tag {W : World} {base e size n : Nat} {v : Value} {xs : List Value} (h : W.ownsRow base e size v n xs) {k : Nat} (hk : v.ownBlock = some k) : tagAt W k e ∧ base ≤ k := by
  obtain ⟨_, ⟨rfl, _⟩ | ⟨g, cap, cur, rfl, hg, hh, _⟩⟩ := h
  · cases hk
  · injection hk with hk
    subst hk
    exact ⟨⟨_, _, hh⟩, hg⟩
theorem tag_one {W : World} {k t t' : Nat} (h : tagAt W k t) (h' : tagAt W k t') : t = t' := by
  obtain ⟨_, _, h1⟩ := h
  obtain ⟨_, _, h2⟩ := h'
  rw [h1] at h2
  injection h2 with h2
  injection h2
theorem Wd.nodes {n₀ : Nat} {W : World} {B : Nat} {vm vl : Value} {ks : List Int} {es ls : List En} (h : Wd n₀ W B vm vl ks es ls) : ∀ k, tagAt W k 121 → ¬ Bad B vm vl k := by
  rintro k hk (rfl | h1 | h1)
  · exact absurd (tag_one hk h.tag) (by decide)
  · exact absurd (tag_one hk (own_tag h.om h1).1) (by decide)
  · exact absurd (tag_one hk (own_tag h.ol h1).1) (by decide)

theorem Wd.later {n₀ : Nat} {W W' : World} {B : Nat} {vm vl : Value} {ks : List Int} {es ls : List En} (h : Wd n₀ W B vm vl ks es ls) (hb : Below W.heap.size W W') : Wd n₀ W' B vm vl ks es ls :=
  ⟨h.base, h.tag.below hb h.lt, fun k => ((bcell hb).2 B k h.lt).trans (h.fr k), ((bcell hb).1 B 0 h.lt).trans h.c0, ((bcell hb).1 B 1 h.lt).trans h.c1,
    own_step h.om fun k _ hk => hb.block k hk, own_step h.ol fun k _ hk => hb.block k hk, fun e he => (h.all e he).later hb⟩
theorem Wd.more {n₀ : Nat} {W : World} {B : Nat} {vm vl : Value} {ks ks' : List Int} {es ls : List En} (h : Wd n₀ W B vm vl ks es ls) (hk : ∀ k ∈ ks, k ∈ ks') : Wd n₀ W B vm vl ks' es ls :=
  ⟨h.base, h.tag, h.fr, h.c0, h.c1, h.om, h.ol, fun e he => (h.all e he).more hk⟩

theorem Holds.move {W W' : World} {bad bad' : Nat → Prop} {s : Value} {l : List (Int × Int)} (h : Holds W bad s l) (hm : ∀ k, ¬ bad k → k < W.heap.size → W'.heap[k]? = W.heap[k]?) (hb : ∀ k, k < W.heap.size → bad' k → bad k) : Holds W' bad' s l :=
  Kd.V_mono (Kd.V_step (Kd.V_bound h) fun k hk hlt => hm k hk.1 hlt) fun k hk h' => hk.1 (hb k hk.2 h')
theorem Good.move {W W' : World} {bad bad' : Nat → Prop} {ks : List Int} {e : En} (h : Good W bad ks e) (hm : ∀ k, ¬ bad k → k < W.heap.size → W'.heap[k]? = W.heap[k]?) (ht : ∀ k, tagAt W k 121 → ¬ bad k) (hs : W.heap.size ≤ W'.heap.size) (hb : ∀ k, k < W.heap.size → bad' k → bad k) : Good W' bad' ks e :=
  ⟨tree_step (fun k hk htg => hm k (ht k htg) hk) hs h.tree, h.row.move hm hb, h.sorted, h.keys⟩

theorem tag_of {W W' : World} {k t : Nat} (h : tagAt W k t) (e : W'.heap[k]? = W.heap[k]?) : tagAt W' k t := by
  obtain ⟨cs, f, hh⟩ := h
  exact ⟨cs, f, e.trans hh⟩

section
variable {n₀ : Nat} {W w1 : World} {B : Nat} {vm vl v' : Value} {ks : List Int} {es ls : List En}
/-- One more map is appended, and the row is stored. -/
theorem Wd.pushM (h : Wd n₀ W B vm vl ks es ls) {e : En} (he : Good W (Bad B vm vl) ks e) (ho : w1.ownsRow n₀ 28 1 v' (es.map (fun e : En => Value.pointer e.p) ++ [Value.pointer e.p]).length (es.map (fun e : En => Value.pointer e.p) ++ [Value.pointer e.p]))
    (hgr : W.grownBy w1 vm.ownBlock) (hat : v'.ownBlock = vm.ownBlock ∨ ∃ b, v'.ownBlock = some b ∧ W.heap.size ≤ b) : Wd n₀ (w1.setCell ⟨B, 0, none⟩ v') B v' vl ks (es ++ [e]) ls := by
  have hB := h.lt
  have nB : some B ≠ vm.ownBlock := fun e => absurd (tag_one h.tag (own_tag h.om e.symm).1) (by decide)
  have eB := hgr.block B hB nB
  have tB := tag_of h.tag eB
  have nV : v'.ownBlock ≠ some B := fun e => absurd (tag_one tB (own_tag ho e).1) (by decide)
  have stay : ∀ k, ¬ Bad B vm vl k → k < W.heap.size → (w1.setCell ⟨B, 0, none⟩ v').heap[k]? = W.heap[k]? := fun k hk hlt =>
    (Below.heap_setCell w1 ⟨B, 0, none⟩ v' k (fun e => hk (.inl e))).trans (hgr.block k hlt fun e => hk (.inr (.inl e.symm)))
  have hs : W.heap.size ≤ (w1.setCell ⟨B, 0, none⟩ v').heap.size := by rw [size_set]; exact hgr.size
  have hbad : ∀ k, k < W.heap.size → Bad B v' vl k → Bad B vm vl k := by
    rintro k hlt (h1 | h1 | h1)
    · exact .inl h1
    · rcases hat with h2 | ⟨b, h2, h3⟩
      · exact .inr (.inl (h2 ▸ h1))
      · rw [h2] at h1; injection h1 with h1; omega
    · exact .inr (.inr h1)
  have c0 : w1.cell? ⟨B, 0, none⟩ = some vm := (World.cell?_of_block (a := ⟨B, 0, none⟩) eB).trans h.c0
  have c1 : w1.cell? ⟨B, 1, none⟩ = some vl := (World.cell?_of_block (a := ⟨B, 1, none⟩) eB).trans h.c1
  refine ⟨h.base, tB.setCell _ _, fun k => by rw [World.frozen?_setCell]; exact (World.frozen?_of_block (a := ⟨B, k, none⟩) eB).trans (h.fr k), World.cell?_setCell_same (h := c0) .., ?_, ?_, ?_, ?_⟩
  · rw [World.cell?_setCell_other (h := by intro e; injection e with _ e; cases e)]; exact c1
  · have := own_step (W' := w1.setCell ⟨B, 0, none⟩ v') ho fun k hk _ => Below.heap_setCell w1 ⟨B, 0, none⟩ v' k (fun e => nV (by rw [hk, e]))
    simpa using this
  · exact own_step h.ol fun k hk hlt => (Below.heap_setCell w1 ⟨B, 0, none⟩ v' k (fun e => absurd (tag_one (own_tag h.ol hk).1 (show tagAt W k 78 from (show k = B from e).symm ▸ h.tag)) (by decide))).trans (hgr.block k hlt fun e => absurd (tag_one (own_tag h.ol hk).1 (own_tag h.om e.symm).1) (by decide))
  · intro e' he'
    rcases List.mem_append.1 he' with h1 | h1
    · exact (h.all e' h1).move stay h.nodes hs hbad
    · rw [List.mem_singleton.1 h1]; exact he.move stay h.nodes hs hbad
/-- What it must hold is appended, and the row is stored. -/
theorem Wd.pushL (h : Wd n₀ W B vm vl ks es ls) {e : En} (ho : w1.ownsRow n₀ 22 1 v' (ls.map (fun e : En => e.s) ++ [e.s]).length (ls.map (fun e : En => e.s) ++ [e.s]))
    (hgr : W.grownBy w1 vl.ownBlock) (hat : v'.ownBlock = vl.ownBlock ∨ ∃ b, v'.ownBlock = some b ∧ W.heap.size ≤ b) : Wd n₀ (w1.setCell ⟨B, 1, none⟩ v') B vm v' ks es (ls ++ [e]) := by
  have hB := h.lt
  have nB : some B ≠ vl.ownBlock := fun e => absurd (tag_one h.tag (own_tag h.ol e.symm).1) (by decide)
  have eB := hgr.block B hB nB
  have tB := tag_of h.tag eB
  have nV : v'.ownBlock ≠ some B := fun e => absurd (tag_one tB (own_tag ho e).1) (by decide)
  have stay : ∀ k, ¬ Bad B vm vl k → k < W.heap.size → (w1.setCell ⟨B, 1, none⟩ v').heap[k]? = W.heap[k]? := fun k hk hlt =>
    (Below.heap_setCell w1 ⟨B, 1, none⟩ v' k (fun e => hk (.inl e))).trans (hgr.block k hlt fun e => hk (.inr (.inr e.symm)))
  have hs : W.heap.size ≤ (w1.setCell ⟨B, 1, none⟩ v').heap.size := by rw [size_set]; exact hgr.size
  have hbad : ∀ k, k < W.heap.size → Bad B vm v' k → Bad B vm vl k := by
    rintro k hlt (h1 | h1 | h1)
    · exact .inl h1
    · exact .inr (.inl h1)
    · rcases hat with h2 | ⟨b, h2, h3⟩
      · exact .inr (.inr (h2 ▸ h1))
      · rw [h2] at h1; injection h1 with h1; omega
  have c0 : w1.cell? ⟨B, 0, none⟩ = some vm := (World.cell?_of_block (a := ⟨B, 0, none⟩) eB).trans h.c0
  have c1 : w1.cell? ⟨B, 1, none⟩ = some vl := (World.cell?_of_block (a := ⟨B, 1, none⟩) eB).trans h.c1
  refine ⟨h.base, tB.setCell _ _, fun k => by rw [World.frozen?_setCell]; exact (World.frozen?_of_block (a := ⟨B, k, none⟩) eB).trans (h.fr k), ?_, World.cell?_setCell_same (h := c1) .., ?_, ?_, ?_⟩
  · rw [World.cell?_setCell_other (h := by intro e; injection e with _ e; cases e)]; exact c0
  · exact own_step h.om fun k hk hlt => (Below.heap_setCell w1 ⟨B, 1, none⟩ v' k (fun e => absurd (tag_one (own_tag h.om hk).1 (show tagAt W k 78 from (show k = B from e).symm ▸ h.tag)) (by decide))).trans (hgr.block k hlt fun e => absurd (tag_one (own_tag h.om hk).1 (own_tag h.ol e.symm).1) (by decide))
  · have := own_step (W' := w1.setCell ⟨B, 1, none⟩ v') ho fun k hk _ => Below.heap_setCell w1 ⟨B, 1, none⟩ v' k (fun e => nV (by rw [hk, e]))
    simpa using this
  · intro e' he'
    exact (h.all e' he').move stay h.nodes hs hbad

/-- The two rows, read. -/
theorem row1_open {base e n : Nat} {v : Value} {xs : List Value} (h : W.ownsRow base e 1 v n xs) (hn : 0 < n) :
    ∃ g c, v = .slice (some ⟨g, 0, none⟩) n c ∧ n ≤ c ∧ base ≤ g ∧ g < W.heap.size ∧ ∀ i x, xs[i]? = some x → W.cell? ⟨g, i, none⟩ = some x := by
  obtain ⟨h1, ⟨rfl, h2⟩ | ⟨g, cap, cur, rfl, hg, hh, hc, hm, hs, ht⟩⟩ := h
  · omega
  · refine ⟨g, cap, rfl, hc, hg, ?_, fun i x hx => ?_⟩
    · rcases Nat.lt_or_ge g W.heap.size with h | h
      · exact h
      · rw [Array.getElem?_eq_none h] at hh; cases hh
    · have hi : i < n := by
        rcases Nat.lt_or_ge i xs.length with h | h
        · omega
        · rw [List.getElem?_eq_none h] at hx; cases hx
      rw [← ht, List.getElem?_take, if_pos (by omega), Array.getElem?_toList] at hx
      simpa [World.cell?, hh] using hx
end
end Go.Proofs.MT.II
