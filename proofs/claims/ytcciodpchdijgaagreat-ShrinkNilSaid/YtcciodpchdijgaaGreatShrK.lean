/- What the program forces of the row ShrinkNil: whether it recurses, which variables it names. -/
import Derived.Test.YtcciodpchdijgaaGreatRows
import Derived.JoinedOf
import Derived.KernelRfl
set_option maxRecDepth 100000
namespace Go.Proofs.YtcciodpchdijgaaGreat
open Go
theorem shrinkNil_jC : (Rows.shrinkNilRow.recurses == Tryz.pinned.checked.prog.recurses 4) = true := by kernel_rfl
theorem shrinkNil_jD : (Rows.shrinkNilRow.named == Tryz.pinned.checked.prog.varsNamed 4) = true := by kernel_rfl
end Go.Proofs.YtcciodpchdijgaaGreat
