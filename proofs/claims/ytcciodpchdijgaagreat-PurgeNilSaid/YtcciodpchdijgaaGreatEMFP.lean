/- The run of law 28, from its parts. -/
import Derived.Test.YtcciodpchdijgaaGreatEMPP
import Derived.Test.YtcciodpchdijgaaGreatEIS
import Derived.KernelRfl
set_option linter.constructorNameAsVariable false
set_option linter.unusedVariables false
set_option linter.unusedSimpArgs false
set_option maxRecDepth 100000
namespace Ev
open Go
noncomputable def tab0 : Tr EF := Tr.set .none (.pr (prPart (prPart (prPart (E ⟨P19.fs, rounds⟩ 100000 (.f p36)) part7) part6) part5)) p36 P19.fs
noncomputable def tab1 : Tr EF := Tr.set .none (.pr (prPart (E ⟨tab0, rounds⟩ 100000 (.f p92)) part8)) p92 tab0
noncomputable def tab2 : Tr EF := Tr.set .none (.pr (prPart (prPart (E ⟨tab1, rounds⟩ 100000 (.f p21)) part4) part2)) p21 tab1
noncomputable def tab3 : Tr EF := Tr.set .none (.pr (prPart (E ⟨tab2, rounds⟩ 100000 (.f p20)) part3)) p20 tab2
noncomputable def tab4 : Tr EF := Tr.set .none (.pr (prPart (E ⟨tab3, rounds⟩ 100000 (.f p24)) part1)) p24 tab3
noncomputable def tab5 : Tr EF := Tr.set .none (.pr (prPart (E ⟨tab4, rounds⟩ 100000 (.f p55)) part0)) p55 tab4
noncomputable def P19b : Pr := ⟨tab5, rounds⟩
theorem run19 : R.is (E P19b 100000 (.f p31) .nil ⟨.e, .h⟩ (fun v _ => R.of (isTrue v))) = true := by kernel_rfl
variable {T : Tb} {P : Program} {RT : Nat → Nat → Option RE}
end Ev
