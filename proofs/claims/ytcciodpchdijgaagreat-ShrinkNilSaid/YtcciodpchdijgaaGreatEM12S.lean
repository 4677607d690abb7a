/- A part of the run of law 20. -/
import Derived.Test.YtcciodpchdijgaaGreatEMPS
import Derived.KernelRfl
set_option linter.constructorNameAsVariable false
set_option linter.unusedVariables false
set_option linter.unusedSimpArgs false
set_option maxRecDepth 100000
namespace Ev
open Go
theorem seg12 : R.is (E P19 100000 (.f p16) part12.c part12.h (partK part12)) = true := by kernel_rfl
end Ev
