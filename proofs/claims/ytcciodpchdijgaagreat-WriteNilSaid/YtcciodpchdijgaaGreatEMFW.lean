/- The run of law 27, from its parts. -/
import Derived.Test.YtcciodpchdijgaaGreatEMPW
import Derived.Test.YtcciodpchdijgaaGreatEIS
import Derived.KernelRfl
set_option linter.constructorNameAsVariable false
set_option linter.unusedVariables false
set_option linter.unusedSimpArgs false
set_option maxRecDepth 100000
namespace Ev
open Go
noncomputable def tab0 : Tr EF := Tr.set .none (.pr (prPart (prPart (prPart (prPart (E ⟨P19.fs, rounds⟩ 100000 (.f p139)) part10) part9) part3) part1)) p139 P19.fs
noncomputable def tab1 : Tr EF := Tr.set .none (.pr (prPart (E ⟨tab0, rounds⟩ 100000 (.f p26)) part8)) p26 tab0
noncomputable def tab2 : Tr EF := Tr.set .none (.pr (prPart (E ⟨tab1, rounds⟩ 100000 (.f p21)) part5)) p21 tab1
noncomputable def tab3 : Tr EF := Tr.set .none (.pr (prPart (prPart (prPart (prPart (E ⟨tab2, rounds⟩ 100000 (.f p24)) part7) part6) part4) part2)) p24 tab2
noncomputable def tab4 : Tr EF := Tr.set .none (.pr (prPart (E ⟨tab3, rounds⟩ 100000 (.f p55)) part0)) p55 tab3
noncomputable def P19b : Pr := ⟨tab4, rounds⟩
theorem run19 : R.is (E P19b 100000 (.f p17) .nil ⟨.e, .h⟩ (fun v _ => R.of (isTrue v))) = true := by kernel_rfl
variable {T : Tb} {P : Program} {RT : Nat → Nat → Option RE}
end Ev
