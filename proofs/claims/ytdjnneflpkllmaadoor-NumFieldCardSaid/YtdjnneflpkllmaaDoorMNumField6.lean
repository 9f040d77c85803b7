/- Part 6 of the proof of NumField. -/
import Derived.Test.YtdjnneflpkllmaaDoorMNumField5

namespace Go.Proofs.Num
open Go.RowKit Go.Proofs.YtdjnneflpkllmaaDoorW.PrintWords Go.Proofs.YtdjnneflpkllmaaDoorW.PrintMore Go.Proofs.YtdjnneflpkllmaaDoor.Q
theorem walk_NumField (a b c d e f : Int) (w : World) :
    Calls Tryd.prog 14 #[.agg #[.int .i64 a, .int .i64 b], .agg #[.int .i64 c, .int .i64 d], .agg #[.int .i64 e, .int .i64 f]] w fun e w' => e = .returned (.bool true) ∧ Below w.heap.size w w' := by
  obtain ⟨k, h⟩ := (field_law a b c d e f).rounds
  exact merinolaw01_NumField.calls k a b c d e f true w h
end Go.Proofs.Num
