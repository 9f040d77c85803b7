/- The map's methods (IS), first part. -/
import Derived.Test.YtnhngaadegebfaaProg
import Derived.Test.YtnhngaadegebfaaTreeLaws
import Derived.Test.YtnhngaadegebfaaC5
import Derived.Test.YtnhngaadegebfaaStore
import Derived.Test.YtnhngaadegebfaaTreeLooks
import Derived.Deep.LoopGhost
import Derived.Deep.QuietTactic
import Derived.BigQuiet
import Derived.Deep.RegionHeld3
import Derived.KernelRfl
namespace Go.Proofs.MT.IS
open Go.RowKit

/-- What a call that makes a map leaves. -/
def MakesM (T : T Int ByteArray) (w : World) (e : Ending) (w' : World) : Prop :=
  ∃ p, e = .returned (.agg #[.pointer p]) ∧ Tr w'.heap.size w' p T ∧ Below w.heap.size w w'

/-- The three results that tell of a node. -/
def toldV : T Int ByteArray → Value
  | .nil => .tuple #[.int .i64 0, .string ⟨#[]⟩, .bool false]
  | .node _ k v _ => .tuple #[.int .i64 k, .string v, .bool true]

theorem told_any (t : T Int ByteArray) (n₀ : Nat) (p : Option Addr) (w : World) (h : Tr n₀ w p t) :
    Calls Try.prog 88 #[.pointer p] w fun e w' => e = .returned (toldV t) ∧ ∃ n, w' = w.drewN n := by
  cases t with
  | nil =>
    obtain rfl : p = none := h
    exact (told_nil w).mono fun e w' ⟨h1, h2⟩ => ⟨h1, 0, h2.symm⟩
  | node l k v r => exact told_node l k v r p n₀ w h

theorem Len_any (t : T Int ByteArray) (p : Option Addr) (w : World) (h : Tr w.heap.size w p t) :
    Calls Try.prog 50 #[.agg #[.pointer p]] w fun e w' => e = .returned (.int .i64 t.size) ∧ Below w.heap.size w w' := by
  go_enter Try.func50, Try.ntmps50
  go_wp2_with fail
  have hb := (Below.refl w.heap.size w).alloc (Nat.le_refl _) (.cells #[.pointer p] 97)
  refine (len_any t _ _ _ (h.later hb)).mono ?_
  rintro e w' ⟨rfl, rfl⟩
  go_wp2
  go_ret
  exact ⟨rfl, hb⟩

theorem Depth_any (t : T Int ByteArray) (p : Option Addr) (w : World) (h : Tr w.heap.size w p t) (hs : t.size ≤ 1099511627776) :
    Calls Try.prog 52 #[.agg #[.pointer p]] w fun e w' => e = .returned (.int .i64 t.depth) ∧ Below w.heap.size w w' := by
  go_enter Try.func52, Try.ntmps52
  go_wp2_with fail
  have hb := (Below.refl w.heap.size w).alloc (Nat.le_refl _) (.cells #[.pointer p] 97)
  refine (depth_any t _ _ (h.later hb) hs).mono ?_
  rintro e w' ⟨rfl, hb1⟩
  go_wp2
  go_ret
  exact ⟨rfl, hb.trans (hb1.mono hb.size)⟩
end Go.Proofs.MT.IS
