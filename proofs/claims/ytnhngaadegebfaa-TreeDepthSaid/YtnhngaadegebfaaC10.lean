/- The tree's functions build and Of (IS). -/
import Derived.Test.YtnhngaadegebfaaProg
import Derived.Test.YtnhngaadegebfaaTreeLaws
import Derived.Test.YtnhngaadegebfaaC1
import Derived.Test.YtnhngaadegebfaaOrd
import Derived.Test.YtnhngaadegebfaaStore
import Derived.Test.YtnhngaadegebfaaRow2
import Derived.Deep.QuietTactic
import Derived.BigQuiet
import Derived.Deep.RegionHeld3
import Derived.KernelRfl
namespace Go.Proofs.MT.IS
open Go.RowKit

/-- What build leaves: a balanced tree of the pairs. -/
def Builds (l : List (Int × ByteArray)) (w : World) (e : Ending) (w' : World) : Prop :=
  ∃ p T, e = .returned (.pointer p) ∧ Tr w'.heap.size w' p T ∧ T.toList = l ∧ T.Bal ∧ Below w.heap.size w w'

def BuildSaid (n : Nat) : Prop := ∀ (l : List (Int × ByteArray)) (A : Option Addr) (len c : Nat) (w : World), l.length = len → len ≤ n → len ≤ c → len ≤ 1099511627776 → Row2 ek ev w.heap.size w A l →
  Calls Try.prog 87 #[.slice A len c] w (Builds l w)

theorem build_none (A : Option Addr) (c : Nat) (w : World) : Calls Try.prog 87 #[.slice A 0 c] w fun e w' => e = .returned (.pointer none) ∧ w = w' := by
  go_enter Try.func87, Try.ntmps87
  go_wp2
  go_ret
  exact ⟨rfl, rfl⟩

theorem build_nil (A : Option Addr) (c : Nat) (w : World) : Calls Try.prog 87 #[.slice A 0 c] w (Builds [] w) := by
  refine (build_none A c w).mono ?_
  rintro e w' ⟨rfl, rfl⟩
  exact ⟨none, .nil, rfl, rfl, rfl, trivial, Below.refl _ _⟩

/-- One pair, and no room behind it. -/
theorem build_one (x : Int × ByteArray) (b o : Nat) (w : World) (hlt : b < w.heap.size) (c0 : w.cell? ⟨b, o, none⟩ = some (ek x.1)) (c1 : w.cell? ⟨b, o + 1, none⟩ = some (ev x.2)) :
    Calls Try.prog 87 #[.slice (some ⟨b, o, none⟩) 1 1] w (Builds [x] w) := by
  have f0 : ∀ w', Below w.heap.size w w' → w'.cell? ⟨b, o, none⟩ = some (ek x.1) := fun w' h => (h.cell (p := ⟨b, _, none⟩) hlt).trans c0
  have f1 : ∀ w', Below w.heap.size w w' → w'.cell? ⟨b, o + 1, none⟩ = some (ev x.2) := fun w' h => (h.cell (p := ⟨b, _, none⟩) hlt).trans c1
  clear c0 c1
  have ws1 : IntKind.i64.wrap 1 = 1 := by decide
  have ws2 : IntKind.i64.wrap 2 = 2 := by decide
  go_enter Try.func87, Try.ntmps87
  go_wp2_with fail
  go_region_held3 (fun w' => Below w.heap.size w w') (repeat (first | assumption | exact Below.refl _ _ | apply Below.drew)) (first
          | (go_at_call 87; (with_reducible refine (build_none _ _ _).mono ?_); rintro e w' ⟨rfl, rfl⟩)
          | (go_at_call 115; refine (over_any .nil .nil x.1 x.2 _ _ _ rfl rfl (by simp [T.size]) (by simp [T.size])).mono ?_; rintro e w3 ⟨p3, rfl, ht3, hb3⟩; have hk3 : Below w.heap.size w w3 := Below.trans (by assumption) (hb3.mono (Below.size (by assumption)))))
  go_wp2
  go_ret
  exact ⟨p3, _, rfl, ht3, rfl, ⟨by simp [T.size], by simp [T.size], trivial, trivial⟩, hk3⟩

theorem build_two (n : Nat) (IH : BuildSaid (n + 1)) (y x : Int × ByteArray) (b o : Nat) (w : World) (hlt : b < w.heap.size) (hr : Row2 ek ev w.heap.size w (some ⟨b, o, none⟩) [y]) (c0 : w.cell? ⟨b, o + 2, none⟩ = some (ek x.1)) (c1 : w.cell? ⟨b, o + 2 + 1, none⟩ = some (ev x.2)) :
    Calls Try.prog 87 #[.slice (some ⟨b, o, none⟩) 2 2] w (Builds [y, x] w) := by
  have f0 : ∀ w', Below w.heap.size w w' → w'.cell? ⟨b, o + 2, none⟩ = some (ek x.1) := fun w' h => (h.cell (p := ⟨b, _, none⟩) hlt).trans c0
  have f1 : ∀ w', Below w.heap.size w w' → w'.cell? ⟨b, o + 2 + 1, none⟩ = some (ev x.2) := fun w' h => (h.cell (p := ⟨b, _, none⟩) hlt).trans c1
  clear c0 c1
  have ws1 : IntKind.i64.wrap 1 = 1 := by decide
  have ws2 : IntKind.i64.wrap 2 = 2 := by decide
  go_enter Try.func87, Try.ntmps87
  go_wp2_with fail
  go_region_held3 (fun w' => Below w.heap.size w w') (repeat (first | assumption | exact Below.refl _ _ | apply Below.drew)) (first
          | (go_at_call 87; (with_reducible refine (build_none _ _ _).mono ?_); rintro e w' ⟨rfl, rfl⟩)
          | (go_at_call 87; refine (IH [y] (some ⟨b, o, none⟩) 1 2 _ rfl (by omega) (by omega) (by omega) (hr.later (by assumption))).mono ?_; rintro e w1 ⟨p1, L, rfl, ht1, hL, hBL, hb1⟩; have hk1 : Below w.heap.size w w1 := Below.trans (by assumption) (hb1.mono (Below.size (by assumption))); have HLL := Lib.hid hL; clear hL)
          | (go_at_call 115; refine (over_any L .nil x.1 x.2 _ _ _ ht1 rfl (by have h1 := T.length_toList L; rw [HLL.out] at h1; simp at h1; omega) (by simp [T.size])).mono ?_; rintro e w3 ⟨p3, rfl, ht3, hb3⟩; have hk3 : Below w.heap.size w w3 := Below.trans hk1 (hb3.mono hk1.size)))
  go_wp2
  go_ret
  have h1 := T.length_toList L
  rw [HLL.out] at h1
  simp at h1
  exact ⟨p3, _, rfl, ht3, by rw [T.toList, HLL.out]; rfl, ⟨by simp [T.size]; omega, by simp [T.size]; omega, hBL, trivial⟩, hk3⟩

set_option maxRecDepth 100000 in
set_option maxHeartbeats 2000000 in
theorem build_cons (n : Nat) (IH : BuildSaid n) (l : List (Int × ByteArray)) (A : Option Addr) (c : Nat) (w : World) (hn : l.length ≤ n + 1) (hp : 0 < l.length) (hc : l.length ≤ c) (hm : l.length ≤ 1099511627776) (hcap : ¬ l.length / 2 + 1 = c) (hr : Row2 ek ev w.heap.size w A l) :
    Calls Try.prog 87 #[.slice A l.length c] w (Builds l w) := by
  rcases hr with rfl | ⟨b, o, rfl, hlt, hcell⟩
  · simp at hp
  obtain ⟨len, hlen⟩ : ∃ len, len = l.length := ⟨_, rfl⟩
  rw [← hlen] at hn hp hc hm hcap ⊢
  obtain ⟨m, hme⟩ : ∃ m, m = len / 2 := ⟨_, rfl⟩
  rw [← hme] at hcap
  have e2 : (len : Int) / 2 = (m : Int) := by omega
  have hml : m < len := by omega
  obtain ⟨x, hx⟩ : ∃ x, l[m]? = some x := ⟨l[m], List.getElem?_eq_getElem (by omega)⟩
  obtain ⟨c0, c1⟩ := hcell _ _ hx
  have f0 : ∀ w', Below w.heap.size w w' → w'.cell? ⟨b, o + m * 2, none⟩ = some (ek x.1) := fun w' h => (h.cell (p := ⟨b, _, none⟩) hlt).trans c0
  have f1 : ∀ w', Below w.heap.size w w' → w'.cell? ⟨b, o + m * 2 + 1, none⟩ = some (ev x.2) := fun w' h => (h.cell (p := ⟨b, _, none⟩) hlt).trans c1
  have HL := Lib.hid hlen
  have HX := Lib.hid hx
  have HM := Lib.hid hme
  have HE := Lib.hid e2
  clear hlen hx c0 c1 hme e2
  have b1 : (0 : Int) ≤ (m : Int) := by omega
  have b2 : (m : Int) < (len : Int) := by omega
  have b3 : (m : Int) ≤ (len : Int) := by omega
  have b4 : (m : Int) ≤ (c : Int) := by omega
  have b5 : IntKind.i64.wrap ((m : Int) + 1) = (m : Int) + 1 := by rw [IntKind.wrap_i64]; omega
  have b6 : (0 : Int) ≤ (m : Int) + 1 := by omega
  have b7 : (m : Int) + 1 ≤ (len : Int) := by omega
  have b8 : ((m : Int) + 1).toNat = m + 1 := by omega
  have b9 : (m : Int) + 1 ≤ (c : Int) := by omega
  have b10 : (len : Int) ≤ (c : Int) := by omega
  have H5 := Lib.hid b5
  have H8 := Lib.hid b8
  clear b5 b8
  go_enter Try.func87, Try.ntmps87
  go_wp2_with fail
  rw [HE.out]
  have b5 := H5.out
  have b8 := H8.out
  have hone : (l.take m).length = m := by have := HL.out; rw [List.length_take]; omega
  have htwo : (l.drop (m + 1)).length = len - (m + 1) := by rw [List.length_drop, HL.out]
  have H1 := Lib.hid hone
  have H2 := Lib.hid htwo
  clear hone htwo
  have hr1 : Row2 ek ev w.heap.size w (some ⟨b, o, none⟩) (l.take m) := Row2.take (.inr ⟨b, o, rfl, hlt, hcell⟩) m
  have hr2 : Row2 ek ev w.heap.size w (some ⟨b, o + (m + 1) * 2, none⟩) (l.drop (m + 1)) := Row2.drop hlt hcell (m + 1)
  clear hcell
  have hfin : ∀ L R : T Int ByteArray, L.toList = l.take m → R.toList = l.drop (m + 1) → (T.node L x.1 x.2 R).toList = l := by
    intro L R h1 h2
    rw [T.toList, h1, h2]
    have := HX.out
    have e : l.drop m = x :: l.drop (m + 1) := by
      rw [List.drop_eq_getElem_cons (by have := HL.out; omega)]
      rw [List.getElem?_eq_getElem (by have := HL.out; omega)] at this
      injection this with this
      rw [this]
    show l.take m ++ x :: l.drop (m + 1) = l
    rw [← e, List.take_append_drop]
  have HF := Lib.hid hfin
  clear hfin
  go_region_held3 (fun w' => Below w.heap.size w w') (repeat (first | assumption | exact Below.refl _ _ | apply Below.drew)) (first
          | (go_at_call_of 87 len; refine (IH (l.drop (m + 1)) _ _ _ _ H2.out (by omega) (by omega) (by omega) (hr2.later hk1)).mono ?_; rintro e w2 ⟨p2, R, rfl, ht2, hR, hBR, hb2⟩; have hk2 : Below w.heap.size w w2 := Below.trans hk1 (hb2.mono hk1.size); have HR := Lib.hid hR; clear hR)
          | (go_at_call 87; refine (IH (l.take m) _ _ _ _ H1.out (by omega) (by omega) (by omega) (hr1.later (by assumption))).mono ?_; rintro e w1 ⟨p1, L, rfl, ht1, hL, hBL, hb1⟩; have hk1 : Below w.heap.size w w1 := Below.trans (by assumption) (hb1.mono (Below.size (by assumption))); have HLL := Lib.hid hL; clear hL)
          | (go_at_call 115; refine (over_any L R x.1 x.2 _ _ _ (ht1.later hb2) ht2 (by have h1 := T.length_toList L; have h2 := H1.out; rw [HLL.out, h2] at h1; omega) (by have h1 := T.length_toList R; have h2 := H2.out; rw [HR.out, h2] at h1; omega)).mono ?_; rintro e w3 ⟨p3, rfl, ht3, hb3⟩; have hk3 : Below w.heap.size w w3 := Below.trans hk2 (hb3.mono hk2.size)))
  go_wp2
  go_ret
  refine ⟨p3, _, rfl, ht3, HF.out L R HLL.out HR.out, ⟨?_, ?_, hBL, hBR⟩, hk3⟩
  · have h1 := T.length_toList L; have h2 := H1.out; rw [HLL.out, h2] at h1; have h3 := T.length_toList R; have h4 := H2.out; rw [HR.out, h4] at h3; have := HM.out; omega
  · have h1 := T.length_toList L; have h2 := H1.out; rw [HLL.out, h2] at h1; have h3 := T.length_toList R; have h4 := H2.out; rw [HR.out, h4] at h3; have := HM.out; omega

theorem build_all (n : Nat) : BuildSaid n := by
  induction n with
  | zero =>
    intro l A len c w hl h0 _ _ _
    obtain rfl : len = 0 := by omega
    obtain rfl : l = [] := List.eq_nil_of_length_eq_zero hl
    exact build_nil A c w
  | succ n IH =>
    intro l A len c w hl hn hc hm hr
    subst hl
    cases l with
    | nil => exact build_nil A c w
    | cons y ys =>
      by_cases hcap : (y :: ys).length / 2 + 1 = c
      · rcases hr with h | ⟨b, o, rfl, hlt, hcell⟩
        · cases h
        simp only [List.length_cons] at *
        cases ys with
        | nil =>
          obtain rfl : c = 1 := by simp at hcap; omega
          obtain ⟨c0, c1⟩ := hcell 0 y rfl
          exact build_one y b o w hlt (by simpa using c0) (by simpa using c1)
        | cons x zs =>
          obtain rfl : zs = [] := by
            cases zs with
            | nil => rfl
            | cons _ _ => simp only [List.length_cons] at *; omega
          obtain rfl : c = 2 := by simp at hcap; omega
          obtain ⟨n', rfl⟩ : ∃ n', n = n' + 1 := ⟨n - 1, by simp at hn; omega⟩
          obtain ⟨c0, c1⟩ := hcell 1 x rfl
          exact build_two n' IH y x b o w hlt (Row2.take (.inr ⟨b, o, rfl, hlt, hcell⟩) 1) (by simpa using c0) (by simpa using c1)
      · exact build_cons n IH (y :: ys) A c w hn (by simp) hc hm hcap hr
end Go.Proofs.MT.IS
