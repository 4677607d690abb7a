/- What the program forces of the row GrowNil: which functions are answered in place, which calls are not followed. -/
import Derived.Test.YtcciodpchdijgaaGreatRows
import Derived.JoinedOf
import Derived.KernelRfl
set_option maxRecDepth 100000
namespace Go.Proofs.YtcciodpchdijgaaGreat
open Go
theorem growNil_jA : (Rows.growNilRow.inPlace == Tryz.pinned.checked.prog.inPlace 3) = true := by kernel_rfl
theorem growNil_jB : (Rows.growNilRow.unfollowed == Tryz.pinned.checked.prog.unfollowed 3) = true := by kernel_rfl
end Go.Proofs.YtcciodpchdijgaaGreat
