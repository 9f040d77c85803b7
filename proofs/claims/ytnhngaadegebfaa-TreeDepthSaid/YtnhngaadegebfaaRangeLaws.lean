/- Range and Join on plain trees, and what they hold. -/
import Derived.Test.YtnhngaadegebfaaTreeLaws
import Derived.Test.YtnhngaadegebfaaTreeLooks
import Derived.Test.YtnhngaadegebfaaStore
namespace Go.Proofs.MT
namespace T
variable {K V : Type} [KOrd K]

def rangeR : T K V → T K V → T K V
  | nil, r => r
  | node _ k v _, r => link nil k v r
def range (a b : K) (t : T K V) : T K V := if KOrd.lt a b then (cut b (rangeR (cut a t).2.1 (cut a t).2.2)).1 else nil

/-- Do two maps clash: does the first's last key not lie before the second's first one? -/
def clash (A B : T K V) : Bool :=
  match at_ ((A.size : Int) - 1) A, at_ 0 B with
  | node _ x _ _, node _ y _ _ => !KOrd.lt x y
  | _, _ => false
end T

theorem cell_new' (w : World) (cs : Array Value) (t : TypeId) (f : Nat × Nat) (n i : Nat) (v : Value) (hn : w.heap.size = n) (h : cs[i]? = some v) : (w.alloc (.cells cs t f)).cell? ⟨n, i, none⟩ = some v := hn ▸ cell_new w cs t f i v h
theorem frozen_new' (w : World) (cs : Array Value) (t : TypeId) (n i : Nat) (hn : w.heap.size = n) : (w.alloc (.cells cs t)).frozen? ⟨n, i, none⟩ = false := by
  subst hn
  simp [go_sem]
end Go.Proofs.MT
