/- What the program forces of the row WriteNil. -/
import Derived.Test.YtcciodpchdijgaaGreatRows
import Derived.Test.YtcciodpchdijgaaGreatWriJ
import Derived.Test.YtcciodpchdijgaaGreatWriK
import Derived.JoinedOf
import Derived.KernelRfl
set_option maxRecDepth 100000
namespace Go.Proofs.YtcciodpchdijgaaGreat
open Go
theorem writeNil_closed : joinedFacts Tryz.pinned.checked.prog 5 Tryz.f5 Rows.writeNilSpec Rows.writeNilRow = true := by
  unfold joinedFacts
  rw [writeNil_jA, writeNil_jB, writeNil_jC, writeNil_jD]
  kernel_rfl
end Go.Proofs.YtcciodpchdijgaaGreat
