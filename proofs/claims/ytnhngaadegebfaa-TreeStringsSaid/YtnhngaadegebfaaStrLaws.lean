/- The rank of a word among words, and what it keeps of the order. -/
import Derived.Test.YtnhngaadegebfaaRef
import Derived.Test.YtnhngaadegebfaaBB
namespace Go.Proofs.MT
open Go.RowKit Go.Proofs.Ytnhngaadegebfaa.Q Go.Proofs.YtnhngaadegebfaaW.PrintWords

/-- How many of the words are less than s. -/
def rk (l : List ByteArray) (s : ByteArray) : Nat := (l.filter fun w => KOrd.lt w s).length

theorem rank_round (l : List ByteArray) (hl : l.length ≤ 1099511627776) (s : ByteArray) (d : Nat) : ∀ (k i n : Nat), i ≤ l.length → l.length - i = d → d < k → n ≤ i →
    merinolaw02_rank.l0 k l s n i = some ((n + ((l.drop i).filter fun w => KOrd.lt w s).length : Nat) : Int) := by
  induction d with
  | zero =>
    intro k i n h1 h2 h3 h4
    obtain ⟨k, rfl⟩ : ∃ m, k = m + 1 := ⟨k - 1, by omega⟩
    obtain rfl : i = l.length := by omega
    simp only [merinolaw02_rank.l0]
    rw [if_neg (by simp)]
    simp
  | succ d ih =>
    intro k i n h1 h2 h3 h4
    obtain ⟨k, rfl⟩ : ∃ m, k = m + 1 := ⟨k - 1, by omega⟩
    have hi : i < l.length := by omega
    have hx : l[i]? = some l[i] := List.getElem?_eq_getElem hi
    have hr : rdOf ByteArray.empty l (i : Int) = l[i] := by simp [rdOf, List.getD, hx]
    have e1 : wrap64 ((i : Int) + 1) = ((i + 1 : Nat) : Int) := by unfold wrap64; push_cast; omega
    have e2 : wrap64 ((n : Int) + 1) = ((n + 1 : Nat) : Int) := by unfold wrap64; push_cast; omega
    simp only [merinolaw02_rank.l0]
    rw [if_pos (by omega), if_pos (by omega), hr, e1, e2, List.drop_eq_getElem_cons hi, List.filter_cons]
    by_cases h : Op.bytesLess l[i].toList s.toList = true
    · rw [if_pos h, ih k (i + 1) (n + 1) (by omega) (by omega) (by omega) (by omega), if_pos (show KOrd.lt l[i] s = true from h)]
      congr 2
      simp
      omega
    · rw [if_neg h, ih k (i + 1) n (by omega) (by omega) (by omega) (by omega), if_neg (show ¬ KOrd.lt l[i] s = true from h)]
theorem rank_f (l : List ByteArray) (hl : l.length ≤ 1099511627776) (s : ByteArray) : merinolaw02_rank.f (l.length + 1) l s = some (rk l s : Int) := by
  have := rank_round l hl s l.length (l.length + 1) 0 0 (by omega) (by omega) (by omega) (by omega)
  simpa [rk, merinolaw02_rank.f] using this
theorem rk_le (l : List ByteArray) {a b : ByteArray} (h : ∀ w, KOrd.lt w a = true → KOrd.lt w b = true) : rk l a ≤ rk l b := by
  unfold rk
  induction l with
  | nil => simp
  | cons x xs ih =>
    rw [List.filter_cons, List.filter_cons]
    by_cases h1 : KOrd.lt x a = true
    · rw [if_pos h1, if_pos (h x h1)]; simp; omega
    · rw [if_neg h1]
      by_cases h2 : KOrd.lt x b = true
      · rw [if_pos h2]; simp; omega
      · rw [if_neg h2]; exact ih
theorem rk_lt {l : List ByteArray} {a b : ByteArray} (ha : a ∈ l) (h : KOrd.lt a b = true) : rk l a < rk l b := by
  have hle : ∀ w, KOrd.lt w a = true → KOrd.lt w b = true := fun w hw => KOrd.trans hw h
  induction l with
  | nil => cases ha
  | cons x xs ih =>
    have hr := rk_le xs hle
    unfold rk at *
    rw [List.filter_cons, List.filter_cons]
    rcases List.mem_cons.1 ha with rfl | ha
    · rw [if_neg (by rw [KOrd.irrefl]; decide), if_pos h]; simp; omega
    · have := ih ha
      by_cases h1 : KOrd.lt x a = true
      · rw [if_pos h1, if_pos (hle x h1)]; simp; omega
      · rw [if_neg h1]
        by_cases h2 : KOrd.lt x b = true
        · rw [if_pos h2]; simp; omega
        · rw [if_neg h2]; exact this
theorem rk_inj {l : List ByteArray} {a b : ByteArray} (ha : a ∈ l) (hb : b ∈ l) (h : rk l a = rk l b) : a = b := by
  rcases T.three a b with h1 | h1 | h1
  · have := rk_lt ha h1; omega
  · exact h1
  · have := rk_lt hb h1; omega

/-- A list of words with values, by the words' ranks. -/
def img (l : List ByteArray) (L : List (ByteArray × Int)) : List (Int × Int) := L.map fun p => ((rk l p.1 : Int), p.2)
theorem mem_img (l : List ByteArray) (L : List (ByteArray × Int)) (p : Int × Int) : p ∈ img l L ↔ ∃ q ∈ L, ((rk l q.1 : Int), q.2) = p := by simp [img]
theorem img_sorted {l : List ByteArray} {L : List (ByteArray × Int)} (h : Sorted L) (hk : ∀ q ∈ L, q.1 ∈ l) : Sorted (img l L) := by
  unfold img Sorted
  rw [List.pairwise_map]
  refine List.Pairwise.imp_of_mem ?_ h
  intro a b ha _ hab
  have := rk_lt (hk a ha) hab
  simp
  omega

theorem put_img {l : List ByteArray} {m : T ByteArray Int} {n : T Int Int} {k : ByteArray} {v : Int} (hk : k ∈ l) (hm : Sorted m.toList) (hks : ∀ q ∈ m.toList, q.1 ∈ l) (h : n.toList = img l m.toList) :
    (∀ q ∈ (m.put k v).toList, q.1 ∈ l) ∧ (T.put (rk l k : Int) v n).toList = img l (m.put k v).toList := by
  obtain ⟨s1, g1⟩ := T.put_spec k v m hm
  have hn : Sorted n.toList := by rw [h]; exact img_sorted hm hks
  obtain ⟨s2, g2⟩ := T.put_spec (rk l k : Int) v n hn
  have hks' : ∀ q ∈ (m.put k v).toList, q.1 ∈ l := by
    intro q hq
    rcases (g1 q).1 hq with rfl | ⟨hq, _⟩
    · exact hk
    · exact hks q hq
  refine ⟨hks', sorted_ext s2 (img_sorted s1 hks') fun p => ?_⟩
  rw [g2, h, mem_img, mem_img]
  constructor
  · rintro (rfl | ⟨⟨q, hq, rfl⟩, hne⟩)
    · exact ⟨(k, v), (g1 _).2 (.inl rfl), rfl⟩
    · exact ⟨q, (g1 q).2 (.inr ⟨hq, fun e => hne (by rw [e])⟩), rfl⟩
  · rintro ⟨q, hq, rfl⟩
    rcases (g1 q).1 hq with rfl | ⟨hq, hne⟩
    · exact .inl rfl
    · exact .inr ⟨⟨q, hq, rfl⟩, fun e => hne (rk_inj (hks q hq) hk (Int.ofNat.inj e))⟩
theorem remove_img {l : List ByteArray} {m : T ByteArray Int} {n : T Int Int} {k : ByteArray} (hk : k ∈ l) (hm : Sorted m.toList) (hks : ∀ q ∈ m.toList, q.1 ∈ l) (h : n.toList = img l m.toList) :
    (∀ q ∈ (m.remove k).toList, q.1 ∈ l) ∧ (T.remove (rk l k : Int) n).toList = img l (m.remove k).toList := by
  obtain ⟨s1, g1⟩ := T.remove_spec k m hm
  have hn : Sorted n.toList := by rw [h]; exact img_sorted hm hks
  obtain ⟨s2, g2⟩ := T.remove_spec (rk l k : Int) n hn
  have hks' : ∀ q ∈ (m.remove k).toList, q.1 ∈ l := fun q hq => hks q ((g1 q).1 hq).1
  refine ⟨hks', sorted_ext s2 (img_sorted s1 hks') fun p => ?_⟩
  rw [g2, h, mem_img, mem_img]
  constructor
  · rintro ⟨⟨q, hq, rfl⟩, hne⟩
    exact ⟨q, (g1 q).2 ⟨hq, fun e => hne (by rw [e])⟩, rfl⟩
  · rintro ⟨q, hq, rfl⟩
    obtain ⟨hq, hne⟩ := (g1 q).1 hq
    exact ⟨⟨q, hq, rfl⟩, fun e => hne (rk_inj (hks q hq) hk (Int.ofNat.inj e))⟩
end Go.Proofs.MT
