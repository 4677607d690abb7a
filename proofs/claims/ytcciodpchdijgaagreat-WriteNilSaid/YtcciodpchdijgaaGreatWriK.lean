/- What the program forces of the row WriteNil: whether it recurses, which variables it names. -/
import Derived.Test.YtcciodpchdijgaaGreatRows
import Derived.JoinedOf
import Derived.KernelRfl
set_option maxRecDepth 100000
namespace Go.Proofs.YtcciodpchdijgaaGreat
open Go
theorem writeNil_jC : (Rows.writeNilRow.recurses == Tryz.pinned.checked.prog.recurses 5) = true := by kernel_rfl
theorem writeNil_jD : (Rows.writeNilRow.named == Tryz.pinned.checked.prog.varsNamed 5) = true := by kernel_rfl
end Go.Proofs.YtcciodpchdijgaaGreat
