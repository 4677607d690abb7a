/- What the program forces of the row PurgeNil: which functions are answered in place, which calls are not followed. -/
import Derived.Test.YtcciodpchdijgaaGreatRows
import Derived.JoinedOf
import Derived.KernelRfl
set_option maxRecDepth 100000
namespace Go.Proofs.YtcciodpchdijgaaGreat
open Go
theorem purgeNil_jA : (Rows.purgeNilRow.inPlace == Tryz.pinned.checked.prog.inPlace 6) = true := by kernel_rfl
theorem purgeNil_jB : (Rows.purgeNilRow.unfollowed == Tryz.pinned.checked.prog.unfollowed 6) = true := by kernel_rfl
end Go.Proofs.YtcciodpchdijgaaGreat
