/- Words for the rows of the plain seat. -/
import Derived.Test.YtpihldeikdiniaaRows
import Derived.Test.YtpihldeikdiniaaChecked
import Derived.Test.YtpihldeikdiniaaBase
import Derived.ShutString
import Derived.ChangeOld
import Derived.ProofKit
namespace Go.Proofs.Ytpihldeikdiniaa
open Go.ChangeShapes Go.WideShapes Go.ChangeAt Go.RowKit
theorem own : ownKnob Try.prog.godebug = none := by kernel_rfl
theorem laidOut : laidOutB Try.prog = true := by kernel_rfl
end Go.Proofs.Ytpihldeikdiniaa
