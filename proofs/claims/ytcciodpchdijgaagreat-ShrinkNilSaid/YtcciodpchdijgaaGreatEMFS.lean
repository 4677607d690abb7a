/- The run of law 20, from its parts. -/
import Derived.Test.YtcciodpchdijgaaGreatEMPS
import Derived.Test.YtcciodpchdijgaaGreatEIS
import Derived.KernelRfl
set_option linter.constructorNameAsVariable false
set_option linter.unusedVariables false
set_option linter.unusedSimpArgs false
set_option maxRecDepth 100000
namespace Ev
open Go
noncomputable def tab0 : Tr EF := Tr.set .none (.pr (prPart (E ⟨P19.fs, rounds⟩ 100000 (.f p43)) part8)) p43 P19.fs
noncomputable def tab1 : Tr EF := Tr.set .none (.pr (prPart (E ⟨tab0, rounds⟩ 100000 (.f p39)) part19)) p39 tab0
noncomputable def tab2 : Tr EF := Tr.set .none (.pr (prPart (prPart (prPart (prPart (prPart (E ⟨tab1, rounds⟩ 100000 (.f p16)) part18) part16) part14) part12) part10)) p16 tab1
noncomputable def tab3 : Tr EF := Tr.set .none (.pr (prPart (prPart (prPart (prPart (prPart (E ⟨tab2, rounds⟩ 100000 (.f p13)) part17) part15) part13) part11) part9)) p13 tab2
noncomputable def tab4 : Tr EF := Tr.set .none (.pr (prPart (prPart (prPart (E ⟨tab3, rounds⟩ 100000 (.f p11)) part7) part6) part5)) p11 tab3
noncomputable def tab5 : Tr EF := Tr.set .none (.pr (prPart (prPart (prPart (prPart (E ⟨tab4, rounds⟩ 100000 (.f p9)) part4) part3) part2) part1)) p9 tab4
noncomputable def tab6 : Tr EF := Tr.set .none (.pr (prPart (E ⟨tab5, rounds⟩ 100000 (.f p38)) part0)) p38 tab5
noncomputable def P19b : Pr := ⟨tab6, rounds⟩
theorem run19 : R.is (E P19b 100000 (.f p12) .nil ⟨.e, .h⟩ (fun v _ => R.of (isTrue v))) = true := by kernel_rfl
variable {T : Tb} {P : Program} {RT : Nat → Nat → Option RE}
end Ev
