-- printed
import Derived.Test.YtdjnneflpkllmaaGreatDoorProg
import Derived.Below
import Derived.Deep.Draws
import Derived.Deep.AppendLies
import Derived.Maps.AppendAt
import Derived.OwnWalk
import Derived.Laws.BytesArg
import Derived.Laws.MakeOwn
import Derived.Laws.OwnMore
import Derived.Deep.OwnRows
import Derived.Tactics
import Derived.Lib.ConvBytes
import Derived.Laws.Slices
import Derived.WalkKit
import Derived.KernelRfl
import Derived.RowKit3
import Derived.Deep.LoopGhost
import Derived.Deep.QuietTactic
import Derived.BigQuiet
import Derived.WideLaws
import Derived.Deep.DeepCutAuto
import Derived.Deep.CutBlock
import Derived.Deep.RegionHeld3
import Derived.Laws.Rows
import Derived.Lib.AppendStr
import Derived.ArgAppend
import Derived.Laws.IdiomCopy
import Derived.OrdersHeld
import Derived.Laws.BitsLemmas
import Derived.RowKit
import Derived.Test.YtdjnneflpkllmaaGreatDoorWWords
import Derived.Test.YtdjnneflpkllmaaGreatDoorWLast
import Derived.Test.YtdjnneflpkllmaaGreatDoorWTab
import Derived.Test.YtdjnneflpkllmaaGreatDoorWFour
import Derived.Test.YtdjnneflpkllmaaGreatDoorWQPut
import Derived.Test.YtdjnneflpkllmaaGreatDoorWApart
import Derived.Test.YtdjnneflpkllmaaGreatDoorWArr
import Derived.Test.YtdjnneflpkllmaaGreatDoorWZeros
import Derived.Test.YtdjnneflpkllmaaGreatDoorWFoot
import Derived.Test.YtdjnneflpkllmaaGreatDoorWKept
import Derived.Test.YtdjnneflpkllmaaGreatDoorWShare
import Derived.Test.YtdjnneflpkllmaaGreatDoorWN
import Derived.Test.YtdjnneflpkllmaaGreatDoorWFootNe
import Derived.Test.YtdjnneflpkllmaaGreatDoorWAt
import Derived.Test.YtdjnneflpkllmaaGreatDoorWEqStruct
import Derived.Test.YtdjnneflpkllmaaGreatDoorWRepsOne
import Derived.Test.YtdjnneflpkllmaaGreatDoorWInv
import Derived.Test.YtdjnneflpkllmaaGreatDoorWInvWords
import Derived.Test.YtdjnneflpkllmaaGreatDoorWGuard
import Derived.Test.YtdjnneflpkllmaaGreatDoorWNEv
import Derived.Test.YtdjnneflpkllmaaGreatDoorWMore
namespace Go.Proofs.YtdjnneflpkllmaaGreatDoor.Q
open Go.RowKit Go.Proofs.YtdjnneflpkllmaaGreatDoorW.PrintWords Go.Proofs.YtdjnneflpkllmaaGreatDoorW.PrintLast Go.Proofs.YtdjnneflpkllmaaGreatDoorW.PrintMore
attribute [local go_sem] max2_int min2_int max_two min_two max_three min_three max_four min_four   -- for this text's walks alone
set_option linter.unusedVariables false
set_option linter.unusedSimpArgs false



def errW : Option Int → Value
  | none => .nilIface
  | some c => .iface 101 (.int .i64 c)
theorem errW_none : errW none = .nilIface := rfl
theorem errW_some (c : Int) : errW (some c) = .iface 101 (.int .i64 c) := rfl

theorem info3 : (Tryz.prog.info? 3).map (fun i => (i.zero, i.size, i.bytes)) = some (some (.int .i64 0), 1, 8) := by kernel_rfl
-- the values' own types

end Go.Proofs.YtdjnneflpkllmaaGreatDoor.Q
