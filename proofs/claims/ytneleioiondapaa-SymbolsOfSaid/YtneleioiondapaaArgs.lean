import Derived.Test.YtneleioiondapaaY8
import Derived.ChangeMaps5
namespace Go.Proofs.Ytneleioiondapaa
open Go Go.ChangeShapes Go.WideShapes Go.ChangeAt Go.RowKit Go.Hos
theorem own : ownKnob Try.prog.godebug = none := by kernel_rfl
theorem laidOut : laidOutB Try.prog = true := by kernel_rfl
end Go.Proofs.Ytneleioiondapaa
