/- The run of law 19, from its parts. -/
import Derived.Test.YtcciodpchdijgaaGreatEMP
import Derived.Test.YtcciodpchdijgaaGreatEIS
import Derived.KernelRfl
set_option linter.constructorNameAsVariable false
set_option linter.unusedVariables false
set_option linter.unusedSimpArgs false
set_option maxRecDepth 100000
namespace Ev
open Go
noncomputable def tab0 : Tr EF := Tr.set .none (.pr (prPart (prPart (prPart (E ⟨P19.fs, rounds⟩ 100000 (.f p11)) part7) part6) part5)) p11 P19.fs
noncomputable def tab1 : Tr EF := Tr.set .none (.pr (prPart (prPart (prPart (prPart (E ⟨tab0, rounds⟩ 100000 (.f p9)) part4) part3) part2) part1)) p9 tab0
noncomputable def tab2 : Tr EF := Tr.set .none (.pr (prPart (E ⟨tab1, rounds⟩ 100000 (.f p38)) part0)) p38 tab1
noncomputable def P19b : Pr := ⟨tab2, rounds⟩
theorem run19 : R.is (E P19b 100000 (.f p8) .nil ⟨.e, .h⟩ (fun v _ => R.of (isTrue v))) = true := by kernel_rfl
variable {T : Tb} {P : Program} {RT : Nat → Nat → Option RE}
end Ev
