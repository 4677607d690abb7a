/- What the program forces of the row ShrinkNil: which functions are answered in place, which calls are not followed. -/
import Derived.Test.YtcciodpchdijgaaGreatRows
import Derived.JoinedOf
import Derived.KernelRfl
set_option maxRecDepth 100000
namespace Go.Proofs.YtcciodpchdijgaaGreat
open Go
theorem shrinkNil_jA : (Rows.shrinkNilRow.inPlace == Tryz.pinned.checked.prog.inPlace 4) = true := by kernel_rfl
theorem shrinkNil_jB : (Rows.shrinkNilRow.unfollowed == Tryz.pinned.checked.prog.unfollowed 4) = true := by kernel_rfl
end Go.Proofs.YtcciodpchdijgaaGreat
