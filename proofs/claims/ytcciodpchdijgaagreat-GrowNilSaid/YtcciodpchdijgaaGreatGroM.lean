/- What the program forces of the row GrowNil. -/
import Derived.Test.YtcciodpchdijgaaGreatRows
import Derived.Test.YtcciodpchdijgaaGreatGroJ
import Derived.Test.YtcciodpchdijgaaGreatGroK
import Derived.JoinedOf
import Derived.KernelRfl
set_option maxRecDepth 100000
namespace Go.Proofs.YtcciodpchdijgaaGreat
open Go
theorem growNil_closed : joinedFacts Tryz.pinned.checked.prog 3 Tryz.f3 Rows.growNilSpec Rows.growNilRow = true := by
  unfold joinedFacts
  rw [growNil_jA, growNil_jB, growNil_jC, growNil_jD]
  kernel_rfl
end Go.Proofs.YtcciodpchdijgaaGreat
