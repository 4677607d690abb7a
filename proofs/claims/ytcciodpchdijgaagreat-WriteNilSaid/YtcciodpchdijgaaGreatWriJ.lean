/- What the program forces of the row WriteNil: which functions are answered in place, which calls are not followed. -/
import Derived.Test.YtcciodpchdijgaaGreatRows
import Derived.JoinedOf
import Derived.KernelRfl
set_option maxRecDepth 100000
namespace Go.Proofs.YtcciodpchdijgaaGreat
open Go
theorem writeNil_jA : (Rows.writeNilRow.inPlace == Tryz.pinned.checked.prog.inPlace 5) = true := by kernel_rfl
theorem writeNil_jB : (Rows.writeNilRow.unfollowed == Tryz.pinned.checked.prog.unfollowed 5) = true := by kernel_rfl
end Go.Proofs.YtcciodpchdijgaaGreat
