/- What the program forces of the row PurgeNil: whether it recurses, which variables it names. -/
import Derived.Test.YtcciodpchdijgaaGreatRows
import Derived.JoinedOf
import Derived.KernelRfl
set_option maxRecDepth 100000
namespace Go.Proofs.YtcciodpchdijgaaGreat
open Go
theorem purgeNil_jC : (Rows.purgeNilRow.recurses == Tryz.pinned.checked.prog.recurses 6) = true := by kernel_rfl
theorem purgeNil_jD : (Rows.purgeNilRow.named == Tryz.pinned.checked.prog.varsNamed 6) = true := by kernel_rfl
end Go.Proofs.YtcciodpchdijgaaGreat
