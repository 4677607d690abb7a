/- Laws of their own; law 19 alive. -/
import Derived.Test.YtcciodpchdijgaaGreatEvC
import Derived.Test.YtcciodpchdijgaaGreatEF
import Derived.Test.YtcciodpchdijgaaGreatEMS
set_option linter.constructorNameAsVariable false
set_option linter.unusedVariables false
set_option linter.unusedSimpArgs false
namespace Ev
open Go Go.Conc Go.RowKit Go.Proofs
theorem mixed : Tryz.prog.follows .mixedOrders = true := by kernel_rfl
theorem alive_calls (w : World) : Calls Tryz.prog 7 #[] w fun e w' => e = .returned (.bool true) ∧ Below w.heap.size w w' :=
  run_true (sound19 rfl (fun _ => rnd0 cs_ok mixed) (fs0 cs_ok mixed cmp_ok more_ok)) run19 w
end Ev
