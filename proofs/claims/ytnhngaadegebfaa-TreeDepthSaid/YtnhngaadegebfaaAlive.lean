/- alive: what every right map keeps of three pairs. -/
import Derived.Test.YtnhngaadegebfaaC11
import Derived.Test.YtnhngaadegebfaaC8
namespace Go.Proofs.MT.IS
open Go.RowKit

def l3 : List (Int × ByteArray) := [(1, ⟨#[97]⟩), (3, ⟨#[99]⟩), (5, ⟨#[101]⟩)]

theorem row3 (w : World) (f : Nat × Nat) : Row2 ek ev (w.alloc (.cells #[.int .i64 1, .string ⟨#[97]⟩, .int .i64 3, .string ⟨#[99]⟩, .int .i64 5, .string ⟨#[101]⟩] 101 f)).heap.size
    (w.alloc (.cells #[.int .i64 1, .string ⟨#[97]⟩, .int .i64 3, .string ⟨#[99]⟩, .int .i64 5, .string ⟨#[101]⟩] 101 f)) (some ⟨w.heap.size, 0, none⟩) l3 := by
  refine .inr ⟨w.heap.size, 0, rfl, by simp, ?_⟩
  intro i x hx
  match i with
  | 0 => injection hx with hx; subst hx; exact ⟨cell_new _ _ _ _ _ _ rfl, cell_new _ _ _ _ _ _ rfl⟩
  | 1 => injection hx with hx; subst hx; exact ⟨cell_new _ _ _ _ _ _ rfl, cell_new _ _ _ _ _ _ rfl⟩
  | 2 => injection hx with hx; subst hx; exact ⟨cell_new _ _ _ _ _ _ rfl, cell_new _ _ _ _ _ _ rfl⟩
  | n + 3 => cases hx

theorem asc3 : AscTo l3 l3.length := by
  intro i x y hi hx hy
  match i with
  | 0 => injection hx with hx; injection hy with hy; subst hx hy; decide
  | 1 => injection hx with hx; injection hy with hy; subst hx hy; decide
  | n + 2 => exact absurd hi (by show ¬ n + 2 + 1 < 3; omega)

theorem looks3 {t : T Int ByteArray} (h : t.toList = l3) : t.size = 3 ∧ T.rank 4 t = 2 ∧ toldV (T.floor 4 .nil t) = .tuple #[.int .i64 3, .string ⟨#[99]⟩, .bool true] ∧ 2 ≤ t.depth := by
  have hs : Sorted t.toList := by rw [h]; exact asc3.sorted
  have h3 : t.size = 3 := by rw [← T.length_toList, h]; rfl
  refine ⟨h3, ?_, ?_, ?_⟩
  · rw [T.rank_spec 4 t hs, h]; decide
  · have := T.floor_spec 4 t hs .nil
    rw [h, show (l3.filter fun p => !KOrd.lt 4 p.1) = [(1, ⟨#[97]⟩), (3, ⟨#[99]⟩)] from rfl] at this
    cases hf : T.floor 4 .nil t with
    | nil => rw [hf] at this; cases this
    | node l k v r =>
      rw [hf] at this
      injection this with this
      injection this with h1 h2
      subst h1 h2
      rfl
  · have := T.size_lt_depth t
    rw [h3] at this
    rcases Nat.lt_or_ge t.depth 2 with h | h
    · have : 2 ^ t.depth ≤ 2 ^ 1 := Nat.pow_le_pow_right (by decide) (by omega)
      omega
    · exact h

set_option maxRecDepth 100000 in
set_option maxHeartbeats 2000000 in
theorem alive_any (w : World) : Calls Try.prog 13 #[] w fun e w' => e = .returned (.bool true) ∧ Below w.heap.size w w' := by
  go_enter Try.func13, Try.ntmps13
  go_wp2_with fail
  refine (Of_any l3 _ 3 _ (Nat.le_refl _) (by decide) (row3 _ _)).mono ?_
  rintro e w1 ⟨p, c, rfl, hb1, ⟨-, rfl, t, ht, htl, -⟩ | ⟨hn, -⟩⟩
  rotate_left
  · exact absurd asc3 hn
  obtain ⟨k1, k2, k3, k4⟩ := looks3 htl
  have hb2 : Below w.heap.size w w1 := Below.trans ((Below.refl _ _).alloc (Nat.le_refl _) _) (hb1.mono (by simp))
  have ht2 := ht.later ((Below.refl w1.heap.size w1).alloc (Nat.le_refl _) (.cells #[.pointer p] 97))
  have hc0 : (w1.alloc (.cells #[.pointer p] 97)).cell? ⟨w1.heap.size, 0, none⟩ = some (.pointer p) := cell_new _ _ _ _ _ _ rfl
  have hs0 : w1.heap.size < (w1.alloc (.cells #[.pointer p] 97)).heap.size := by simp
  have hb3 : Below w.heap.size w (w1.alloc (.cells #[.pointer p] 97)) := hb2.alloc hb2.size _
  go_wp2_with fail
  generalize w1.alloc (.cells #[.pointer p] 97) = w2 at ht2 hc0 hs0 hb3 ⊢
  refine (Floor_any t 4 p _ ht2).mono ?_
  rintro e w3 ⟨rfl, hb4⟩
  have ht3 := ht2.later hb4
  have hc3 := (hb4.cell (p := ⟨w1.heap.size, 0, none⟩) hs0).trans hc0
  rw [k3]
  go_wp2_with fail
  refine (Len_any t p _ ht3).mono ?_
  rintro e w4 ⟨rfl, hb5⟩
  have ht4 := ht3.later hb5
  have hb6 := hb4.trans (hb5.mono hb4.size)
  have hc4 := (hb6.cell (p := ⟨w1.heap.size, 0, none⟩) hs0).trans hc0
  rw [k1]
  go_wp2_with fail
  refine (Rank_any t 4 p _ ht4 (by omega)).mono ?_
  rintro e w5 ⟨rfl, hb7⟩
  have ht5 := ht4.later hb7
  have hb8 := hb6.trans (hb7.mono hb6.size)
  have hc5 := (hb8.cell (p := ⟨w1.heap.size, 0, none⟩) hs0).trans hc0
  rw [k2]
  go_wp2_with fail
  refine (Depth_any t p _ ht5 (by omega)).mono ?_
  rintro e w6 ⟨rfl, hb9⟩
  have hb10 := hb8.trans (hb9.mono hb8.size)
  have hd : (2 : Int) ≤ (t.depth : Int) := by omega
  go_wp2
  go_ret
  exact ⟨rfl, hb3.trans (hb10.mono hb3.size)⟩
end Go.Proofs.MT.IS
