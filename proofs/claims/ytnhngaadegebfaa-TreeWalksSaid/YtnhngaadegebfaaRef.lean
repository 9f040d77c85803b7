/- Rows of the law's own type, read and made, said by pairs; what the law's small helpers compute. -/
import Derived.Test.YtnhngaadegebfaaQx1
import Derived.Test.YtnhngaadegebfaaBase
import Derived.Test.YtnhngaadegebfaaA7
import Derived.Deep.SlicePairs
namespace Go.Proofs.MT.II
open Go.RowKit Go.Proofs.Ytnhngaadegebfaa.Q Go.Proofs.YtnhngaadegebfaaW.PrintWords

def toS (x : Int × Int) : S38 := ⟨x.1, x.2⟩
def toP (x : Int × Int) : S36 := ⟨x.1, x.2⟩
def ofS (x : S38) : Int × Int := (x.f0, x.f1)
def ofP (x : S36) : Int × Int := (x.f0, x.f1)

theorem ofS_toS (l : List (Int × Int)) : (l.map toS).map ofS = l := by
  rw [List.map_map]
  exact List.map_id l
theorem toS_ofS (l : List S38) : (l.map ofS).map toS = l := by
  rw [List.map_map]
  exact List.map_id l
theorem ofP_toP (l : List (Int × Int)) : (l.map toP).map ofP = l := by
  rw [List.map_map]
  exact List.map_id l

theorem row_C {w : World} {n₀ : Nat} {A : Option Addr} {l : List (Int × Int)} (h : Row2 ek ev n₀ w A l) (hn : l.length ≤ 9223372036854775807) : Kd.C k38 w A (l.map toS).length (l.map toS) := by
  refine ⟨rfl, by simpa using hn, fun h0 => ?_⟩
  rcases h with rfl | ⟨b, o, rfl, hlt, hc⟩
  · simp at h0
  refine ⟨_, rfl, fun j p hj => ⟨[.int .i64 p.f0, .int .i64 p.f1], rfl, k38_mk w p, fun i u hu => ?_⟩⟩
  rw [List.getElem?_map] at hj
  cases hx : l[j]? with
  | none => rw [hx] at hj; cases hj
  | some x =>
    rw [hx] at hj
    injection hj with hj
    subst hj
    obtain ⟨c0, c1⟩ := hc j x hx
    rw [Go.WideShapes.add_plain]
    match i with
    | 0 => injection hu with hu; subst hu; exact c0
    | 1 => injection hu with hu; subst hu; exact c1
    | n + 2 => cases hu

theorem C_row {w : World} {A : Option Addr} {n : Nat} {xs : List S38} (h : Kd.C k38 w A n xs) : Row2 ek ev w.heap.size w A (xs.map ofS) := by
  rcases Nat.eq_zero_or_pos xs.length with h0 | h0
  · left
    rw [List.eq_nil_of_length_eq_zero h0]
    rfl
  right
  obtain ⟨h1, h2, h3⟩ := h
  obtain ⟨ad, rfl, hc⟩ := h3 (by omega)
  have hcell : ∀ j p, xs[j]? = some p → w.cell? (ad.add (j * 2)) = some (.int .i64 p.f0) ∧ w.cell? (ad.add (j * 2 + 1)) = some (.int .i64 p.f1) := by
    intro j p hj
    obtain ⟨c, _, hK, hcc⟩ := hc j p hj
    obtain rfl := k38_open hK
    exact ⟨hcc 0 _ rfl, hcc 1 _ rfl⟩
  obtain ⟨p, hp⟩ : ∃ p, xs[0]? = some p := ⟨xs[0], List.getElem?_eq_getElem h0⟩
  have h00 := (hcell 0 p hp).1
  obtain ⟨b, o, spot⟩ := ad
  have hspot : spot = none := by simpa [Addr.add] using World.cell?_spot h00
  subst hspot
  have hb : b < w.heap.size := by
    rcases Nat.lt_or_ge b w.heap.size with h | h
    · exact h
    · exfalso
      simp [Addr.add, World.cell?, Array.getElem?_eq_none h] at h00
  refine ⟨b, o, rfl, hb, fun i x hx => ?_⟩
  rw [List.getElem?_map] at hx
  cases hq : xs[i]? with
  | none => rw [hq] at hx; cases hx
  | some q =>
    rw [hq] at hx
    injection hx with hx
    subst hx
    have := hcell i q hq
    rw [Go.WideShapes.add_plain, Go.WideShapes.add_plain] at this
    exact this

/-- A made row of pairs. -/
theorem R_own {w : World} {base : Nat} {ok : Nat → Prop} {v : Value} {r : List S36} (h : Kd.R k36 36 w base ok v r) : w.ownsRow base 36 2 v r.length (flat (r.map ofP)) := by
  obtain ⟨_, inner, ho, hr⟩ := h
  have : inner = flat (r.map ofP) := by
    obtain ⟨hl, hc⟩ := hr
    clear ho
    change inner.length = r.length * 2 at hl
    change ∀ j p, r[j]? = some p → k36.M _ _ _ p ((inner.drop (j * 2)).take 2) at hc
    induction r generalizing inner with
    | nil => exact List.eq_nil_of_length_eq_zero (by simpa using hl)
    | cons x xs ih =>
      match inner, hl with
      | a :: b :: rest, hl =>
        have h0 := hc 0 x rfl
        have := k36_openM h0
        simp at this
        obtain ⟨rfl, rfl⟩ := this
        have ih' := ih (inner := rest) (by simp at hl; omega) (fun j p hj => by
          have := hc (j + 1) p hj
          rwa [show (j + 1) * 2 = j * 2 + 1 + 1 from by omega, List.drop_succ_cons, List.drop_succ_cons] at this)
        rw [ih']
        rfl
      | [], hl => simp at hl
      | [_], hl => simp at hl; omega
  rw [← this]
  exact ho

theorem wrap_up {i : Int} (h0 : -1 ≤ i) (h : i < 1099511627776) : wrap64 (i + 1) = i + 1 := by unfold wrap64; omega
theorem wrap_down {i : Int} (h0 : 0 ≤ i) (h : i < 1099511627776) : wrap64 (i - 1) = i - 1 := by unfold wrap64; omega

theorem rd_S {l : List (Int × Int)} {i : Nat} {x : Int × Int} (h : l[i]? = some x) : rd_T38 (l.map toS) (i : Int) = toS x := by
  simp [rd_T38, List.getD, h]

theorem pairs_round (l : List (Int × Int)) (hl : l.length ≤ 1099511627776) (d : Nat) : ∀ (k i : Nat), i ≤ l.length → l.length - i = d → d < k →
    merinolaw02_pairs.l0 k (l.map toS) ((l.take i).map toP) i = some (l.map toP) := by
  induction d with
  | zero =>
    intro k i h1 h2 h3
    obtain ⟨k, rfl⟩ : ∃ m, k = m + 1 := ⟨k - 1, by omega⟩
    obtain rfl : i = l.length := by omega
    simp only [merinolaw02_pairs.l0]
    rw [if_neg (by simp), List.take_length]
  | succ d ih =>
    intro k i h1 h2 h3
    obtain ⟨k, rfl⟩ : ∃ m, k = m + 1 := ⟨k - 1, by omega⟩
    have hi : i < l.length := by omega
    have hx : l[i]? = some l[i] := List.getElem?_eq_getElem hi
    simp only [merinolaw02_pairs.l0]
    rw [if_pos (by simp; omega), if_pos (by omega), if_pos (by simp; omega), wrap_up (by omega) (by omega), rd_S hx]
    have := ih k (i + 1) (by omega) (by omega) (by omega)
    have e : l.take (i + 1) = l.take i ++ [l[i]] := by rw [List.take_add_one, hx]; rfl
    rw [e, List.map_append] at this
    exact this

theorem pairs_f (l : List (Int × Int)) (hl : l.length ≤ 1099511627776) : merinolaw02_pairs.f (l.length + 1) (l.map toS) = some (l.map toP) :=
  pairs_round l hl l.length (l.length + 1) 0 (by omega) (by omega) (by omega)

theorem asc_round (l : List (Int × Int)) (hl : l.length ≤ 1099511627776) (d : Nat) : ∀ (k i : Nat), l.length - (i + 1) = d → d < k → AscTo l (i + 1) →
    ∃ b, merinoref02_Ascending.l0 k (l.map toS) ((i + 1 : Nat) : Int) = some b ∧ (b = true ↔ AscTo l l.length) := by
  induction d with
  | zero =>
    intro k i h2 h3 h4
    obtain ⟨k, rfl⟩ : ∃ m, k = m + 1 := ⟨k - 1, by omega⟩
    simp only [merinoref02_Ascending.l0]
    rw [if_neg (by simp; omega)]
    exact ⟨true, rfl, by simp; intro j x y hj hx hy; exact h4 j x y (by omega) hx hy⟩
  | succ d ih =>
    intro k i h2 h3 h4
    obtain ⟨k, rfl⟩ : ∃ m, k = m + 1 := ⟨k - 1, by omega⟩
    have hi : i + 1 < l.length := by omega
    have hx : l[i + 1]? = some l[i + 1] := List.getElem?_eq_getElem hi
    have hy : l[i]? = some l[i] := List.getElem?_eq_getElem (by omega)
    simp only [merinoref02_Ascending.l0]
    rw [if_pos (by simp; omega), wrap_down (by omega) (by omega), show ((i + 1 : Nat) : Int) - 1 = (i : Int) by omega, if_pos (by omega), if_pos (by simp; omega), if_pos (by omega), rd_S hx, rd_S hy]
    by_cases hk : l[i + 1].1 ≤ l[i].1
    · rw [if_pos (by simpa [toS] using hk)]
      refine ⟨false, rfl, ?_⟩
      have := AscTo.not hy hx (by simpa using hk)
      simp [this]
    · rw [if_neg (by simpa [toS] using hk), wrap_up (by omega) (by omega)]
      exact ih k (i + 1) (by omega) (by omega) (h4.succ hy hx (by simp; omega))

theorem asc_f (l : List (Int × Int)) (hl : l.length ≤ 1099511627776) : ∃ b, merinoref02_Ascending.f (l.length + 1) (l.map toS) = some b ∧ (b = true ↔ AscTo l l.length) :=
  asc_round l hl _ (l.length + 1) 0 rfl (by omega) (AscTo.one l)

theorem pairs_calls (l : List (Int × Int)) (hl : l.length ≤ 1099511627776) (A : Option Addr) (c : Nat) (hc : l.length ≤ c) (w : World) (hr : Row2 ek ev w.heap.size w A l) :
    Calls Try.prog 14 #[.slice A l.length c] w fun e w' => ∃ v, e = .returned v ∧ w'.ownsRow w.heap.size 36 2 v l.length (flat l) ∧ Below w.heap.size w w' := by
  have h := merinolaw02_pairs.calls (l.length + 1) A c (l.map toS) (l.map toP) w (row_C hr (by omega)) (by simpa using hc) (pairs_f l hl)
  rw [List.length_map] at h
  refine h.mono ?_
  rintro e w' ⟨v, rfl, hR, hb⟩
  have := R_own hR
  rw [List.length_map, ofP_toP] at this
  exact ⟨v, rfl, this, hb⟩

theorem asc_calls (l : List (Int × Int)) (hl : l.length ≤ 1099511627776) (A : Option Addr) (c : Nat) (hc : l.length ≤ c) (w : World) (hr : Row2 ek ev w.heap.size w A l) :
    Calls Try.prog 16 #[.slice A l.length c] w fun e w' => ∃ b, e = .returned (.bool b) ∧ (b = true ↔ AscTo l l.length) ∧ ∃ n, w' = w.drewN n := by
  obtain ⟨b, hb, hiff⟩ := asc_f l hl
  have h := merinoref02_Ascending.calls (l.length + 1) A c (l.map toS) b w (row_C hr (by omega)) (by simpa using hc) hb
  rw [List.length_map] at h
  exact h.mono fun e w' ⟨h1, h2⟩ => ⟨b, h1, hiff, h2.out⟩
end Go.Proofs.MT.II
