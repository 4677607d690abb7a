/- A part of the run of law 27. -/
import Derived.Test.YtcciodpchdijgaaGreatEMPW
import Derived.KernelRfl
set_option linter.constructorNameAsVariable false
set_option linter.unusedVariables false
set_option linter.unusedSimpArgs false
set_option maxRecDepth 100000
namespace Ev
open Go
theorem seg4 : R.is (E P19 100000 (.f p24) part4.c part4.h (partK part4)) = true := by kernel_rfl
end Ev
