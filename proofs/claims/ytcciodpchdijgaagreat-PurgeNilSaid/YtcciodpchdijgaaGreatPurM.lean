/- What the program forces of the row PurgeNil. -/
import Derived.Test.YtcciodpchdijgaaGreatRows
import Derived.Test.YtcciodpchdijgaaGreatPurJ
import Derived.Test.YtcciodpchdijgaaGreatPurK
import Derived.JoinedOf
import Derived.KernelRfl
set_option maxRecDepth 100000
namespace Go.Proofs.YtcciodpchdijgaaGreat
open Go
theorem purgeNil_closed : joinedFacts Tryz.pinned.checked.prog 6 Tryz.f6 Rows.purgeNilSpec Rows.purgeNilRow = true := by
  unfold joinedFacts
  rw [purgeNil_jA, purgeNil_jB, purgeNil_jC, purgeNil_jD]
  kernel_rfl
end Go.Proofs.YtcciodpchdijgaaGreat
