/- A row of words; what a map of words and the map of their ranks answer alike. -/
import Derived.Test.YtnhngaadegebfaaStrLaws
import Derived.Test.YtnhngaadegebfaaBase
namespace Go.Proofs.MT
open Go.RowKit Go.Proofs.Ytnhngaadegebfaa.Q Go.Proofs.YtnhngaadegebfaaW.PrintWords

/-- The row's cells are the words. -/
def Row1 (w : World) (A : Option Addr) (l : List ByteArray) : Prop :=
  l = [] ∨ ∃ b o, A = some ⟨b, o, none⟩ ∧ b < w.heap.size ∧ ∀ i x, l[i]? = some x → w.cell? ⟨b, o + i, none⟩ = some (.string x)

theorem Row1.later {w w' : World} {A : Option Addr} {l : List ByteArray} (h : Row1 w A l) (hb : Below w.heap.size w w') : Row1 w' A l := by
  rcases h with h | ⟨b, o, h1, h2, h3⟩
  · exact .inl h
  · exact .inr ⟨b, o, h1, Nat.lt_of_lt_of_le h2 hb.size, fun i x hx => (hb.cell (p := ⟨b, o + i, none⟩) h2).trans (h3 i x hx)⟩

theorem row1_C {w : World} {A : Option Addr} {l : List ByteArray} (h : Row1 w A l) (hn : l.length ≤ 9223372036854775807) : Kd.C Kd.string w A l.length l := by
  refine ⟨rfl, by simpa using hn, fun h0 => ?_⟩
  rcases h with rfl | ⟨b, o, rfl, hlt, hc⟩
  · simp at h0
  refine ⟨_, rfl, fun j p hj => ⟨[.string p], rfl, rfl, fun i u hu => ?_⟩⟩
  rw [Go.WideShapes.add_plain]
  match i with
  | 0 =>
    injection hu with hu
    have e : o + (j * Kd.string.sz + 0) = o + j := by show o + (j * 1 + 0) = o + j; omega
    subst hu
    rw [e]
    exact hc j p hj
  | n + 1 => cases hu

theorem rank_calls (l : List ByteArray) (hl : l.length ≤ 1099511627776) (A : Option Addr) (c : Nat) (hc : l.length ≤ c) (s : ByteArray) (w : World) (hr : Row1 w A l) :
    Calls Try.prog 20 #[.slice A l.length c, .string s] w fun e w' => e = .returned (.int .i64 (rk l s)) ∧ ∃ n, w' = w.drewN n :=
  (merinolaw02_rank.calls (l.length + 1) A c l s (rk l s) w (row1_C hr (by omega)) hc (rank_f l hl s)).mono fun e w' ⟨h1, h2⟩ => ⟨h1, h2.out⟩

theorem find_img {l : List ByteArray} {m : T ByteArray Int} {n : T Int Int} {k : ByteArray} (hk : k ∈ l) (hm : Sorted m.toList) (hks : ∀ q ∈ m.toList, q.1 ∈ l) (h : n.toList = img l m.toList) :
    T.find k m = .nil ↔ T.find (rk l k : Int) n = .nil := by
  have hn : Sorted n.toList := by rw [h]; exact img_sorted hm hks
  rcases T.find_spec k m hm with ⟨e1, h1⟩ | ⟨a, v, b, e1, h1⟩ <;> rcases T.find_spec (rk l k : Int) n hn with ⟨e2, h2⟩ | ⟨a', v', b', e2, h2⟩
  · exact ⟨fun _ => e2, fun _ => e1⟩
  · exfalso
    rw [h] at h2
    obtain ⟨q, hq, e⟩ := (mem_img _ _ _).1 h2
    injection e with e3 e4
    exact h1 q hq (rk_inj (hks q hq) hk (Int.ofNat.inj e3))
  · exfalso
    exact h2 ((rk l k : Int), v) (by rw [h]; exact (mem_img _ _ _).2 ⟨_, h1, rfl⟩) rfl
  · rw [e1, e2]; constructor <;> intro h <;> cases h

theorem rk_iff {l : List ByteArray} {a b : ByteArray} (ha : a ∈ l) : rk l a < rk l b ↔ KOrd.lt a b = true := by
  refine ⟨fun h => ?_, rk_lt ha⟩
  rcases T.three a b with h1 | h1 | h1
  · exact h1
  · subst h1; omega
  · have := rk_le l (a := b) (b := a) (fun w hw => KOrd.trans hw h1); omega

theorem rank_img {l : List ByteArray} {m : T ByteArray Int} {n : T Int Int} (s : ByteArray) (hm : Sorted m.toList) (hks : ∀ q ∈ m.toList, q.1 ∈ l) (h : n.toList = img l m.toList) :
    T.rank s m = T.rank (rk l s : Int) n := by
  have hn : Sorted n.toList := by rw [h]; exact img_sorted hm hks
  rw [T.rank_spec s m hm, T.rank_spec _ n hn, h]
  unfold img
  rw [List.filter_map, List.length_map]
  congr 1
  refine List.filter_congr fun p hp => ?_
  have := rk_iff (l := l) (a := p.1) (b := s) (hks p hp)
  show KOrd.lt p.1 s = decide ((rk l p.1 : Int) < (rk l s : Int))
  by_cases h1 : KOrd.lt p.1 s = true
  · rw [h1]; have := this.2 h1; simp; omega
  · have h2 : ¬ rk l p.1 < rk l s := fun h => h1 (this.1 h)
    rw [Bool.not_eq_true] at h1
    rw [h1]
    simp
    omega

theorem size_img {l : List ByteArray} {m : T ByteArray Int} {n : T Int Int} (h : n.toList = img l m.toList) : m.size = n.size := by
  rw [← T.length_toList, ← T.length_toList, h, img, List.length_map]

theorem filters {K V : Type} [KOrd K] (k : K) : ∀ L : List (K × V), Sorted L → L.length ≤ (L.filter fun p => KOrd.lt p.1 k).length + (L.filter fun p => KOrd.lt k p.1).length + 1
  | [], _ => by simp
  | x :: xs, h => by
    have h' := h
    unfold Sorted at h'
    rw [List.pairwise_cons] at h'
    obtain ⟨h1, h2⟩ := h'
    rw [List.filter_cons, List.filter_cons]
    rcases T.three x.1 k with h3 | h3 | h3
    · have h4 := lt_asymm h3
      rw [if_pos h3, if_neg (by rw [h4]; decide)]
      have := filters k xs h2
      simp
      omega
    · have h4 : xs.filter (fun p => KOrd.lt k p.1) = xs := List.filter_eq_self.2 fun p hp => by rw [← h3]; exact h1 p hp
      rw [h4, if_neg (by rw [h3, KOrd.irrefl]; decide), if_neg (by rw [h3, KOrd.irrefl]; decide)]
      simp
    · have h4 : xs.filter (fun p => KOrd.lt k p.1) = xs := List.filter_eq_self.2 fun p hp => KOrd.trans h3 (h1 p hp)
      have h5 := lt_asymm h3
      rw [h4, if_neg (by rw [h5]; decide), if_pos h3]
      simp
      omega

theorem cut_lists {K V : Type} [KOrd K] (k : K) (t : T K V) (h : Sorted t.toList) :
    (T.cut k t).1.toList = (t.toList.filter fun p => KOrd.lt p.1 k) ∧ (T.cut k t).2.2.toList = t.toList.filter fun p => KOrd.lt k p.1 := by
  obtain ⟨s1, g1, s2, g2, _⟩ := T.cut_spec k t h
  refine ⟨sorted_ext s1 ?_ fun p => ?_, sorted_ext s2 ?_ fun p => ?_⟩
  · exact List.Pairwise.filter _ h
  · rw [g1, List.mem_filter]
  · exact List.Pairwise.filter _ h
  · rw [g2, List.mem_filter]

theorem cut_rank {K V : Type} [KOrd K] (k : K) (t : T K V) (h : Sorted t.toList) : (T.cut k t).1.size = T.rank k t ∧ t.size ≤ (T.cut k t).1.size + (T.cut k t).2.2.size + 1 := by
  obtain ⟨h1, h2⟩ := cut_lists k t h
  have h3 := filters k t.toList h
  rw [← h1, ← h2, T.length_toList, T.length_toList, T.length_toList] at h3
  refine ⟨?_, h3⟩
  rw [T.rank_spec k t h, ← h1, T.length_toList]

theorem range_empty (s : ByteArray) (t : T ByteArray Int) : T.range s ⟨#[]⟩ t = .nil := by
  unfold T.range
  rw [if_neg]
  show ¬ Op.bytesLess s.toList (ByteArray.toList ⟨#[]⟩) = true
  have e : ByteArray.toList ⟨#[]⟩ = [] := by unfold ByteArray.toList; unfold ByteArray.toList.loop; rfl
  rw [e]
  cases s.toList <;> simp [Op.bytesLess]
end Go.Proofs.MT
