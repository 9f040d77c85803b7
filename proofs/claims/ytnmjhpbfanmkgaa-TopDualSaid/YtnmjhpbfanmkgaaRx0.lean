-- printed
import Derived.Test.YtnmjhpbfanmkgaaProg
import Derived.Below
import Derived.Deep.Draws
import Derived.Deep.AppendLies
import Derived.Maps.AppendAt
import Derived.OwnWalk
import Derived.Laws.BytesArg
import Derived.Laws.MakeOwn
import Derived.Laws.OwnMore
import Derived.Deep.OwnRows
import Derived.Tactics
import Derived.Lib.ConvBytes
import Derived.Laws.Slices
import Derived.WalkKit
import Derived.KernelRfl
import Derived.RowKit3
import Derived.Deep.LoopGhost
import Derived.Deep.QuietTactic
import Derived.BigQuiet
import Derived.WideLaws
import Derived.Deep.DeepCutAuto
import Derived.Deep.CutBlock
import Derived.Deep.RegionHeld3
import Derived.Laws.Rows
import Derived.Lib.AppendStr
import Derived.ArgAppend
import Derived.Laws.IdiomCopy
import Derived.OrdersHeld
import Derived.Laws.BitsLemmas
import Derived.RowKit
import Derived.Test.YtnmjhpbfanmkgaaWWords
import Derived.Test.YtnmjhpbfanmkgaaWLast
import Derived.Test.YtnmjhpbfanmkgaaWTab
import Derived.Test.YtnmjhpbfanmkgaaWFour
import Derived.Test.YtnmjhpbfanmkgaaWQPut
import Derived.Test.YtnmjhpbfanmkgaaWApart
import Derived.Test.YtnmjhpbfanmkgaaWArr
import Derived.Test.YtnmjhpbfanmkgaaWZeros
import Derived.Test.YtnmjhpbfanmkgaaWFoot
import Derived.Test.YtnmjhpbfanmkgaaWKept
import Derived.Test.YtnmjhpbfanmkgaaWShare
import Derived.Test.YtnmjhpbfanmkgaaWN
import Derived.Test.YtnmjhpbfanmkgaaWFootNe
import Derived.Test.YtnmjhpbfanmkgaaWAt
import Derived.Test.YtnmjhpbfanmkgaaWEqStruct
import Derived.Test.YtnmjhpbfanmkgaaWRepsOne
import Derived.Test.YtnmjhpbfanmkgaaWInv
import Derived.Test.YtnmjhpbfanmkgaaWInvWords
import Derived.Test.YtnmjhpbfanmkgaaWGuard
import Derived.Test.YtnmjhpbfanmkgaaWNEv
import Derived.Test.YtnmjhpbfanmkgaaWMore
namespace Go.Proofs.Ytnmjhpbfanmkgaa.Q
open Go.RowKit Go.Proofs.YtnmjhpbfanmkgaaW.PrintWords Go.Proofs.YtnmjhpbfanmkgaaW.PrintLast Go.Proofs.YtnmjhpbfanmkgaaW.PrintMore
attribute [local go_sem] max2_int min2_int max_two min_two max_three min_three max_four min_four   -- for this text's walks alone
set_option linter.unusedVariables false
set_option linter.unusedSimpArgs false



def errW : Option Int → Value
  | none => .nilIface
  | some c => .iface 0 (.int .i64 c)
theorem errW_none : errW none = .nilIface := rfl
theorem errW_some (c : Int) : errW (some c) = .iface 0 (.int .i64 c) := rfl

theorem info3 : (Try.prog.info? 3).map (fun i => (i.zero, i.size, i.bytes)) = some (some (.int .i64 0), 1, 8) := by kernel_rfl
-- the values' own types

end Go.Proofs.Ytnmjhpbfanmkgaa.Q
