/- What the program forces of the row ShrinkNil. -/
import Derived.Test.YtcciodpchdijgaaGreatRows
import Derived.Test.YtcciodpchdijgaaGreatShrJ
import Derived.Test.YtcciodpchdijgaaGreatShrK
import Derived.JoinedOf
import Derived.KernelRfl
set_option maxRecDepth 100000
namespace Go.Proofs.YtcciodpchdijgaaGreat
open Go
theorem shrinkNil_closed : joinedFacts Tryz.pinned.checked.prog 4 Tryz.f4 Rows.shrinkNilSpec Rows.shrinkNilRow = true := by
  unfold joinedFacts
  rw [shrinkNil_jA, shrinkNil_jB, shrinkNil_jC, shrinkNil_jD]
  kernel_rfl
end Go.Proofs.YtcciodpchdijgaaGreat
