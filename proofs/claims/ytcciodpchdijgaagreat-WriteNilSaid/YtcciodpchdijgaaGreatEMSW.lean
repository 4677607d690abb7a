/- The run of law 27 is what the program does. -/
import Derived.Test.YtcciodpchdijgaaGreatEMFW
import Derived.Test.YtcciodpchdijgaaGreatEM0W
import Derived.Test.YtcciodpchdijgaaGreatEM1W
import Derived.Test.YtcciodpchdijgaaGreatEM2W
import Derived.Test.YtcciodpchdijgaaGreatEM3W
import Derived.Test.YtcciodpchdijgaaGreatEM4W
import Derived.Test.YtcciodpchdijgaaGreatEM5W
import Derived.Test.YtcciodpchdijgaaGreatEM6W
import Derived.Test.YtcciodpchdijgaaGreatEM7W
import Derived.Test.YtcciodpchdijgaaGreatEM8W
import Derived.Test.YtcciodpchdijgaaGreatEM9W
import Derived.Test.YtcciodpchdijgaaGreatEM10W
set_option linter.constructorNameAsVariable false
set_option linter.unusedVariables false
set_option linter.unusedSimpArgs false
set_option maxRecDepth 100000
namespace Ev
open Go Go.Conc
variable {T : Tb} {P : Program} {RT : Nat → Nat → Option RE}
/-- the whole run, from the functions' own facts -/
theorem sound19 (hT : T.ofL = tbL RT) (hR : ∀ t, RndOk T P Fence.wide ⟨t, rounds⟩ RT) (hfs : Fs T P Fence.wide 0 fsL) : ClOk T P Fence.wide (E P19b 100000) := by
  have wf : ∀ f, Fence.wide.fn f := fun _ => trivial
  have ok : ∀ t : Tr EF, (∀ p : Ps, EFOk T P Fence.wide p.idx (Tr.get .none p t)) → ClOk T P Fence.wide (E ⟨t, rounds⟩ 100000) := fun t ht => E_ok hT wf rfl rfl (hR t) ht 100000
  have h0 : ∀ p : Ps, EFOk T P Fence.wide p.idx (Tr.get .none p P19.fs) := fs_ok hfs
  have c0 : ClOk T P Fence.wide (E P19 100000) := ok P19.fs h0
  have g0 : PrimOk T P Fence.wide (E ⟨P19.fs, rounds⟩ 100000 (.f p139)) p139.idx := fun ρ h w c K vals hy g ha hw => (ok P19.fs h0).f ρ h w p139 c K vals hy g ha hw
  have g0_10 : PrimOk T P Fence.wide (prPart (E ⟨P19.fs, rounds⟩ 100000 (.f p139)) part10) p139.idx := part_ok' (f := p139) (p := part10) g0 c0 seg10
  have g0_9 : PrimOk T P Fence.wide (prPart (prPart (E ⟨P19.fs, rounds⟩ 100000 (.f p139)) part10) part9) p139.idx := part_ok' (f := p139) (p := part9) g0_10 c0 seg9
  have g0_3 : PrimOk T P Fence.wide (prPart (prPart (prPart (E ⟨P19.fs, rounds⟩ 100000 (.f p139)) part10) part9) part3) p139.idx := part_ok' (f := p139) (p := part3) g0_9 c0 seg3
  have g0_1 : PrimOk T P Fence.wide (prPart (prPart (prPart (prPart (E ⟨P19.fs, rounds⟩ 100000 (.f p139)) part10) part9) part3) part1) p139.idx := part_ok' (f := p139) (p := part1) g0_3 c0 seg1
  have h1 : ∀ p : Ps, EFOk T P Fence.wide p.idx (Tr.get .none p tab0) := by
    unfold tab0
    exact fs_set (f := p139) h0 g0_1
  have g1 : PrimOk T P Fence.wide (E ⟨tab0, rounds⟩ 100000 (.f p26)) p26.idx := fun ρ h w c K vals hy g ha hw => (ok tab0 h1).f ρ h w p26 c K vals hy g ha hw
  have g1_8 : PrimOk T P Fence.wide (prPart (E ⟨tab0, rounds⟩ 100000 (.f p26)) part8) p26.idx := part_ok' (f := p26) (p := part8) g1 c0 seg8
  have h2 : ∀ p : Ps, EFOk T P Fence.wide p.idx (Tr.get .none p tab1) := by
    unfold tab1
    exact fs_set (f := p26) h1 g1_8
  have g2 : PrimOk T P Fence.wide (E ⟨tab1, rounds⟩ 100000 (.f p21)) p21.idx := fun ρ h w c K vals hy g ha hw => (ok tab1 h2).f ρ h w p21 c K vals hy g ha hw
  have g2_5 : PrimOk T P Fence.wide (prPart (E ⟨tab1, rounds⟩ 100000 (.f p21)) part5) p21.idx := part_ok' (f := p21) (p := part5) g2 c0 seg5
  have h3 : ∀ p : Ps, EFOk T P Fence.wide p.idx (Tr.get .none p tab2) := by
    unfold tab2
    exact fs_set (f := p21) h2 g2_5
  have g3 : PrimOk T P Fence.wide (E ⟨tab2, rounds⟩ 100000 (.f p24)) p24.idx := fun ρ h w c K vals hy g ha hw => (ok tab2 h3).f ρ h w p24 c K vals hy g ha hw
  have g3_7 : PrimOk T P Fence.wide (prPart (E ⟨tab2, rounds⟩ 100000 (.f p24)) part7) p24.idx := part_ok' (f := p24) (p := part7) g3 c0 seg7
  have g3_6 : PrimOk T P Fence.wide (prPart (prPart (E ⟨tab2, rounds⟩ 100000 (.f p24)) part7) part6) p24.idx := part_ok' (f := p24) (p := part6) g3_7 c0 seg6
  have g3_4 : PrimOk T P Fence.wide (prPart (prPart (prPart (E ⟨tab2, rounds⟩ 100000 (.f p24)) part7) part6) part4) p24.idx := part_ok' (f := p24) (p := part4) g3_6 c0 seg4
  have g3_2 : PrimOk T P Fence.wide (prPart (prPart (prPart (prPart (E ⟨tab2, rounds⟩ 100000 (.f p24)) part7) part6) part4) part2) p24.idx := part_ok' (f := p24) (p := part2) g3_4 c0 seg2
  have h4 : ∀ p : Ps, EFOk T P Fence.wide p.idx (Tr.get .none p tab3) := by
    unfold tab3
    exact fs_set (f := p24) h3 g3_2
  have g4 : PrimOk T P Fence.wide (E ⟨tab3, rounds⟩ 100000 (.f p55)) p55.idx := fun ρ h w c K vals hy g ha hw => (ok tab3 h4).f ρ h w p55 c K vals hy g ha hw
  have g4_0 : PrimOk T P Fence.wide (prPart (E ⟨tab3, rounds⟩ 100000 (.f p55)) part0) p55.idx := part_ok' (f := p55) (p := part0) g4 c0 seg0
  have h5 : ∀ p : Ps, EFOk T P Fence.wide p.idx (Tr.get .none p tab4) := by
    unfold tab4
    exact fs_set (f := p55) h4 g4_0
  exact ok tab4 h5
end Ev
