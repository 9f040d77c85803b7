/- TreeStrings: the two maps in their boxes, and what holds of them. -/
import Derived.Test.YtnhngaadegebfaaStrRows
import Derived.Test.YtnhngaadegebfaaBB
import Derived.Test.YtnhngaadegebfaaAA
import Derived.Test.YtnhngaadegebfaaB89
import Derived.Test.YtnhngaadegebfaaA89
import Derived.Test.YtnhngaadegebfaaB7
import Derived.Test.YtnhngaadegebfaaCC
import Derived.Test.YtnhngaadegebfaaB12
import Derived.Test.YtnhngaadegebfaaSame
namespace Go.Proofs.MT.SI
open Go.RowKit
theorem flat_get {l : List (ByteArray × Int)} : ∀ {i : Nat} {x : ByteArray × Int}, l[i]? = some x → (flat l)[i * 2]? = some (ek x.1) ∧ (flat l)[i * 2 + 1]? = some (ev x.2) := by
  induction l with
  | nil => intro i x h; cases h
  | cons y ys ih =>
    intro i x h
    cases i with
    | zero => injection h with h; subst h; exact ⟨rfl, rfl⟩
    | succ i =>
      have := ih (i := i) (x := x) h
      rw [show (i + 1) * 2 = i * 2 + 1 + 1 from by omega]
      exact this

/-- A row of one's own is read. -/
theorem own_row2 {W : World} {base : Nat} {v : Value} {l : List (ByteArray × Int)} (h : W.ownsRow base 57 2 v l.length (flat l)) :
    ∃ A c, v = .slice A l.length c ∧ l.length ≤ c ∧ c ≤ maxLen ∧ Row2 ek ev W.heap.size W A l := by
  obtain ⟨_, ⟨rfl, h0⟩ | ⟨g, cap, cur, rfl, hg, hh, hn, hm, hs, ht⟩⟩ := h
  · have : l = [] := List.eq_nil_of_length_eq_zero h0
    subst this
    exact ⟨none, 0, rfl, by simp, by simp, .inl rfl⟩
  · refine ⟨_, cap, rfl, hn, hm, .inr ⟨g, 0, rfl, ?_, ?_⟩⟩
    · rcases Nat.lt_or_ge g W.heap.size with h | h
      · exact h
      · rw [Array.getElem?_eq_none h] at hh; cases hh
    · intro i x hx
      have hi : i < l.length := by
        rcases Nat.lt_or_ge i l.length with h | h
        · exact h
        · rw [List.getElem?_eq_none h] at hx; cases hx
      obtain ⟨h0, h1⟩ := flat_get hx
      rw [← ht, List.getElem?_take, if_pos (by omega)] at h0 h1
      simp only [World.cell?, hh, Nat.zero_add]
      rw [Array.getElem?_toList] at h0 h1
      exact ⟨by simpa using h0, by simpa using h1⟩
end Go.Proofs.MT.SI
namespace Go.Proofs.MT
open Go.RowKit

theorem II.MBox.farS {n₀ : Nat} {W : World} {b c : Nat} {p : Option Addr} {t : T Int Int} (h : II.MBox n₀ W b p t) (hc : tagAt W c 44) (hne : c ≠ b) (v : Value) : II.MBox n₀ (W.setCell ⟨c, 0, none⟩ v) b p t :=
  ⟨h.base, by rw [size_set]; exact h.lt, h.tag.setCell _ _, by rw [World.frozen?_setCell]; exact h.fr, by rw [World.cell?_setCell_far (h := hne)]; exact h.cell, h.tree.stored (a := ⟨c, 0, none⟩) hc (by decide) _⟩
theorem SI.MBox.farI {n₀ : Nat} {W : World} {b c : Nat} {p : Option Addr} {t : T ByteArray Int} (h : SI.MBox n₀ W b p t) (hc : tagAt W c 28) (hne : c ≠ b) (v : Value) : SI.MBox n₀ (W.setCell ⟨c, 0, none⟩ v) b p t :=
  ⟨h.base, by rw [size_set]; exact h.lt, h.tag.setCell _ _, by rw [World.frozen?_setCell]; exact h.fr, by rw [World.cell?_setCell_far (h := hne)]; exact h.cell, h.tree.stored (a := ⟨c, 0, none⟩) hc (by decide) _⟩

/-- What holds of the two maps after i words. -/
structure Twins (l : List ByteArray) (m : T ByteArray Int) (n : T Int Int) (i : Nat) : Prop where
  sorted : Sorted m.toList
  keys : ∀ q ∈ m.toList, q.1 ∈ l
  img : n.toList = img l m.toList
  size : m.size ≤ i

theorem Twins.size' {l : List ByteArray} {m : T ByteArray Int} {n : T Int Int} {i : Nat} (h : Twins l m n i) : n.size ≤ i := by rw [← size_img h.img]; exact h.size
theorem Twins.zero (l : List ByteArray) : Twins l .nil .nil 0 := ⟨List.Pairwise.nil, fun q h => (List.not_mem_nil h).elim, rfl, Nat.le_refl _⟩
theorem Twins.more {l : List ByteArray} {m : T ByteArray Int} {n : T Int Int} {i : Nat} (h : Twins l m n i) : Twins l m n (i + 1) := ⟨h.sorted, h.keys, h.img, by have := h.size; omega⟩
theorem Twins.put {l : List ByteArray} {m : T ByteArray Int} {n : T Int Int} {i : Nat} (h : Twins l m n i) {k : ByteArray} (hk : k ∈ l) (v : Int) : Twins l (m.put k v) (n.put (rk l k : Int) v) (i + 1) := by
  obtain ⟨h1, h2⟩ := put_img (v := v) hk h.sorted h.keys h.img
  exact ⟨(T.put_spec k v m h.sorted).1, h1, h2, by have := h.size; rcases T.put_size k v m with e | e <;> omega⟩
theorem Twins.remove {l : List ByteArray} {m : T ByteArray Int} {n : T Int Int} {i : Nat} (h : Twins l m n i) {k : ByteArray} (hk : k ∈ l) : Twins l (m.remove k) (n.remove (rk l k : Int)) (i + 1) := by
  obtain ⟨h1, h2⟩ := remove_img hk h.sorted h.keys h.img
  exact ⟨(T.remove_spec k m h.sorted).1, h1, h2, by have := h.size; rcases T.remove_size k m with e | e <;> omega⟩

/-- The two boxes. -/
structure Pair2 (w W : World) (b c : Nat) (p q : Option Addr) (m : T ByteArray Int) (n : T Int Int) : Prop where
  below : Below w.heap.size w W
  bm : SI.MBox w.heap.size W b p m
  bn : II.MBox w.heap.size W c q n
  ne : b < c

theorem Pair2.later {w W W' : World} {b c : Nat} {p q : Option Addr} {m : T ByteArray Int} {n : T Int Int} (h : Pair2 w W b c p q m n) (hb : Below W.heap.size W W') : Pair2 w W' b c p q m n :=
  ⟨h.below.trans (hb.mono h.below.size), h.bm.below hb, h.bn.below hb, h.ne⟩
theorem Pair2.setM {w W : World} {b c : Nat} {p q p' : Option Addr} {m m' : T ByteArray Int} {n : T Int Int} (h : Pair2 w W b c p q m n) (ht : SI.Tr W.heap.size W p' m') : Pair2 w (W.setCell ⟨b, 0, none⟩ (.pointer p')) b c p' q m' n :=
  ⟨h.bm.belowSet h.below _, h.bm.set ht, h.bn.farS h.bm.tag (by have := h.ne; omega) _, h.ne⟩
theorem Pair2.setN {w W : World} {b c : Nat} {p q q' : Option Addr} {m : T ByteArray Int} {n n' : T Int Int} (h : Pair2 w W b c p q m n) (ht : II.Tr W.heap.size W q' n') : Pair2 w (W.setCell ⟨c, 0, none⟩ (.pointer q')) b c p q' m n' :=
  ⟨h.bn.belowSet h.below _, h.bm.farI h.bn.tag (by have := h.ne; omega) _, h.bn.set ht, h.ne⟩
/-- Stores into other boxes of the same kinds. -/
theorem Pair2.farM {w W : World} {b c d : Nat} {p q r : Option Addr} {m : T ByteArray Int} {n : T Int Int} {t : T ByteArray Int} (h : Pair2 w W b c p q m n) (hd : SI.MBox w.heap.size W d r t) (h1 : d ≠ b) (h2 : d ≠ c) (v : Value) : Pair2 w (W.setCell ⟨d, 0, none⟩ v) b c p q m n :=
  ⟨hd.belowSet h.below _, h.bm.far hd.tag h1 _, h.bn.farS hd.tag h2 _, h.ne⟩
theorem Pair2.farN {w W : World} {b c d : Nat} {p q r : Option Addr} {m : T ByteArray Int} {n : T Int Int} {t : T Int Int} (h : Pair2 w W b c p q m n) (hd : II.MBox w.heap.size W d r t) (h1 : d ≠ b) (h2 : d ≠ c) (v : Value) : Pair2 w (W.setCell ⟨d, 0, none⟩ v) b c p q m n :=
  ⟨hd.belowSet h.below _, h.bm.farI hd.tag h1 _, h.bn.far hd.tag h2 _, h.ne⟩

/-- Two new boxes. -/
theorem Pair2.start (w : World) : Pair2 w ((w.alloc (.cells #[.pointer none] 44)).alloc (.cells #[.pointer none] 28)) w.heap.size (w.heap.size + 1) none none .nil .nil := by
  refine ⟨below_two w _ _, (SI.MBox.new (W := w) (t := .nil) (Nat.le_refl _) rfl).below (SI.below_one _ _), ?_, by omega⟩
  have := II.MBox.new (n₀ := w.heap.size) (W := w.alloc (.cells #[.pointer none] 44)) (p := none) (t := .nil) (by simp) rfl
  simpa using this

/-- What Delete answers. -/
def Gone {K V : Type} [KOrd K] (m : T K V) (k : K) (b : Bool) (t : T K V) : Prop :=
  (T.find k m = .nil ∧ b = false ∧ t = m) ∨ (T.find k m ≠ .nil ∧ b = true ∧ t = m.remove k)
/-- Both maps answer alike. -/
theorem gone_both {l : List ByteArray} {m : T ByteArray Int} {n : T Int Int} {i : Nat} (h : Twins l m n i) {k : ByteArray} (hk : k ∈ l) {b d : Bool} {m' : T ByteArray Int} {n' : T Int Int} (hm : Gone m k b m') (hn : Gone n (rk l k : Int) d n') :
    b = d ∧ Twins l m' n' (i + 1) := by
  have hf := find_img hk h.sorted h.keys h.img
  rcases hm with ⟨h1, rfl, rfl⟩ | ⟨h1, rfl, rfl⟩ <;> rcases hn with ⟨h3, rfl, rfl⟩ | ⟨h3, rfl, rfl⟩
  · exact ⟨rfl, h.more⟩
  · exact absurd (hf.1 h1) h3
  · exact absurd (hf.2 h3) h1
  · exact ⟨rfl, h.remove hk⟩
theorem delS {m : T ByteArray Int} {k : ByteArray} {p : Option Addr} {w : World} (h : SI.Tr w.heap.size w p m) (hs : m.size ≤ 1099511627776) :
    Calls Try.prog 21 #[.agg #[.pointer p], .string k] w fun e w' => ∃ p' b t, e = .returned (.tuple #[.agg #[.pointer p'], .bool b]) ∧ Gone m k b t ∧ SI.Tr w'.heap.size w' p' t ∧ Below w.heap.size w w' :=
  (SI.Delete_any m k p w h hs).mono fun e w' ⟨p', b, h1, h2, h3⟩ => by
    rcases h3 with ⟨h3, h4, h5⟩ | ⟨h3, h4, h5⟩
    · exact ⟨p', b, m, h1, .inl ⟨h3, h4, rfl⟩, h5, h2⟩
    · exact ⟨p', b, _, h1, .inr ⟨h3, h4, rfl⟩, h5, h2⟩
theorem delI {m : T Int Int} {k : Int} {p : Option Addr} {w : World} (h : II.Tr w.heap.size w p m) (hs : m.size ≤ 1099511627776) :
    Calls Try.prog 22 #[.agg #[.pointer p], .int .i64 k] w fun e w' => ∃ p' b t, e = .returned (.tuple #[.agg #[.pointer p'], .bool b]) ∧ Gone m k b t ∧ II.Tr w'.heap.size w' p' t ∧ Below w.heap.size w w' :=
  (II.Delete_any m k p w h hs).mono fun e w' ⟨p', b, h1, h2, h3⟩ => by
    rcases h3 with ⟨h3, h4, h5⟩ | ⟨h3, h4, h5⟩
    · exact ⟨p', b, m, h1, .inl ⟨h3, h4, rfl⟩, h5, h2⟩
    · exact ⟨p', b, _, h1, .inr ⟨h3, h4, rfl⟩, h5, h2⟩
/-! What the looks answer, in the words of the map of words. -/
section
variable {w W W' : World} {b c : Nat} {p q : Option Addr} {m : T ByteArray Int} {n : T Int Int}
theorem Pair2.lenM (h : Pair2 w W b c p q m n) (hb : Below W.heap.size W W') : Calls Try.prog 26 #[.agg #[.pointer p]] W' fun e y => e = .returned (.int .i64 m.size) ∧ Below W.heap.size W y :=
  (SI.Len_any m p W' (h.later hb).bm.tree).mono fun _ _ ⟨h1, h2⟩ => ⟨h1, hb.trans (h2.mono hb.size)⟩
theorem Pair2.lenN (h : Pair2 w W b c p q m n) (hz : n.size = m.size) (hb : Below W.heap.size W W') : Calls Try.prog 17 #[.agg #[.pointer q]] W' fun e y => e = .returned (.int .i64 m.size) ∧ Below W.heap.size W y :=
  (II.Len_any n q W' (h.later hb).bn.tree).mono fun _ _ ⟨h1, h2⟩ => ⟨by rw [h1, hz], hb.trans (h2.mono hb.size)⟩
theorem Pair2.rankM (h : Pair2 w W b c p q m n) (hs : m.size ≤ 1099511627776) (s : ByteArray) (hb : Below W.heap.size W W') : Calls Try.prog 27 #[.agg #[.pointer p], .string s] W' fun e y => e = .returned (.int .i64 (T.rank s m)) ∧ Below W.heap.size W y :=
  (SI.Rank_any m s p W' (h.later hb).bm.tree hs).mono fun _ _ ⟨h1, h2⟩ => ⟨h1, hb.trans (h2.mono hb.size)⟩
theorem Pair2.rankN (h : Pair2 w W b c p q m n) (hs : n.size ≤ 1099511627776) (s : ByteArray) (r : Int) (hz : T.rank r n = T.rank s m) (hb : Below W.heap.size W W') : Calls Try.prog 28 #[.agg #[.pointer q], .int .i64 r] W' fun e y => e = .returned (.int .i64 (T.rank s m)) ∧ Below W.heap.size W y :=
  (II.Rank_any n r q W' (h.later hb).bn.tree hs).mono fun _ _ ⟨h1, h2⟩ => ⟨by rw [h1, hz], hb.trans (h2.mono hb.size)⟩
theorem Pair2.pairsM (h : Pair2 w W b c p q m n) (hs : m.size ≤ 1099511627776) (hb : Below W.heap.size W W') : Calls Try.prog 25 #[.agg #[.pointer p]] W' fun e y => ∃ A g, e = .returned (.slice A m.toList.length g) ∧ m.toList.length ≤ g ∧ Row2 SI.ek SI.ev y.heap.size y A m.toList ∧ Below W.heap.size W y :=
  (SI.Pairs_any p m hs W' (h.later hb).bm.tree).mono fun _ _ ⟨v, h1, h2, _, h3⟩ => by
    obtain ⟨A, g, rfl, h4, _, h5⟩ := SI.own_row2 h2
    exact ⟨A, g, h1, h4, h5, hb.trans (h3.mono hb.size)⟩
theorem Pair2.pairsN (h : Pair2 w W b c p q m n) (hs : n.size ≤ 1099511627776) (l : List ByteArray) (hz : n.toList = img l m.toList) (hb : Below W.heap.size W W') : Calls Try.prog 18 #[.agg #[.pointer q]] W' fun e y => ∃ A g, e = .returned (.slice A m.toList.length g) ∧ m.toList.length ≤ g ∧ Row2 II.ek II.ev y.heap.size y A (img l m.toList) ∧ Below W.heap.size W y :=
  (II.Pairs_any q n hs W' (h.later hb).bn.tree).mono fun _ _ ⟨v, h1, h2, _, h3⟩ => by
    obtain ⟨A, g, rfl, h4, _, h5⟩ := II.own_row2 h2
    have e : n.toList.length = m.toList.length := by rw [hz, img, List.length_map]
    rw [hz] at h5
    rw [e] at h1 h4
    exact ⟨A, g, h1, h4, h5, hb.trans (h3.mono hb.size)⟩
end
theorem lenBox {w W W' : World} {b : Nat} {p : Option Addr} {m : T ByteArray Int} (h : SI.MBox w.heap.size W b p m) (hb : Below W.heap.size W W') : Calls Try.prog 26 #[.agg #[.pointer p]] W' fun e y => e = .returned (.int .i64 m.size) ∧ Below W.heap.size W y :=
  (SI.Len_any m p W' (h.below hb).tree).mono fun _ _ ⟨h1, h2⟩ => ⟨h1, hb.trans (h2.mono hb.size)⟩
theorem lenBoxN {w W W' : World} {b : Nat} {p : Option Addr} {m : T ByteArray Int} {N : Nat} (h : SI.MBox w.heap.size W b p m) (hN : m.size = N) (hb : Below W.heap.size W W') : Calls Try.prog 26 #[.agg #[.pointer p]] W' fun e y => e = .returned (.int .i64 N) ∧ Below W.heap.size W y := by
  subst hN
  exact lenBox h hb
theorem rankBoxN {w W W' : World} {b : Nat} {p : Option Addr} {m : T ByteArray Int} {N : Nat} (h : SI.MBox w.heap.size W b p m) (hs : m.size ≤ 1099511627776) (s : ByteArray) (hN : T.rank s m = N) (hb : Below W.heap.size W W') : Calls Try.prog 27 #[.agg #[.pointer p], .string s] W' fun e y => e = .returned (.int .i64 N) ∧ Below W.heap.size W y := by
  subst hN
  exact (SI.Rank_any m s p W' (h.below hb).tree hs).mono fun _ _ ⟨h1, h2⟩ => ⟨h1, hb.trans (h2.mono hb.size)⟩
/-- No word is less than the empty one. -/
theorem Pair2.none {w W W' : World} {b c : Nat} {p q : Option Addr} {m : T ByteArray Int} {n : T Int Int} (h : Pair2 w W b c p q m n) (hs : m.size + 1 ≤ 1099511627776) (s : ByteArray) (hb : Below W.heap.size W W') : Calls Try.prog 30 #[.agg #[.pointer p], .string s, .string ⟨#[]⟩] W' fun e y => e = .returned (.agg #[.pointer none]) ∧ Below W.heap.size W y :=
  (SI.Range_any m s ⟨#[]⟩ p W' (h.later hb).bm.tree hs).mono fun _ _ ⟨p', h1, h2, h3⟩ => by
    rw [range_empty] at h2
    have h2 : p' = Option.none := h2
    subst h2
    exact ⟨h1, hb.trans (h3.mono hb.size)⟩
theorem lenNone {W W' : World} (hb : Below W.heap.size W W') : Calls Try.prog 26 #[.agg #[.pointer none]] W' fun e y => e = .returned (.int .i64 0) ∧ Below W.heap.size W y :=
  (SI.Len_any .nil none W' rfl).mono fun _ _ ⟨h1, h2⟩ => ⟨h1, hb.trans (h2.mono hb.size)⟩
theorem alive_later {W W' : World} (hb : Below W.heap.size W W') : Calls Try.prog 13 #[] W' fun e y => e = .returned (.bool true) ∧ Below W.heap.size W y :=
  (IS.alive_any W').mono fun _ _ ⟨h1, h2⟩ => ⟨h1, hb.trans (h2.mono hb.size)⟩
end Go.Proofs.MT
