/- The run of law 20 is what the program does. -/
import Derived.Test.YtcciodpchdijgaaGreatEMFS
import Derived.Test.YtcciodpchdijgaaGreatEM0S
import Derived.Test.YtcciodpchdijgaaGreatEM1S
import Derived.Test.YtcciodpchdijgaaGreatEM2S
import Derived.Test.YtcciodpchdijgaaGreatEM3S
import Derived.Test.YtcciodpchdijgaaGreatEM4S
import Derived.Test.YtcciodpchdijgaaGreatEM5S
import Derived.Test.YtcciodpchdijgaaGreatEM6S
import Derived.Test.YtcciodpchdijgaaGreatEM7S
import Derived.Test.YtcciodpchdijgaaGreatEM8S
import Derived.Test.YtcciodpchdijgaaGreatEM9S
import Derived.Test.YtcciodpchdijgaaGreatEM10S
import Derived.Test.YtcciodpchdijgaaGreatEM11S
import Derived.Test.YtcciodpchdijgaaGreatEM12S
import Derived.Test.YtcciodpchdijgaaGreatEM13S
import Derived.Test.YtcciodpchdijgaaGreatEM14S
import Derived.Test.YtcciodpchdijgaaGreatEM15S
import Derived.Test.YtcciodpchdijgaaGreatEM16S
import Derived.Test.YtcciodpchdijgaaGreatEM17S
import Derived.Test.YtcciodpchdijgaaGreatEM18S
import Derived.Test.YtcciodpchdijgaaGreatEM19S
set_option linter.constructorNameAsVariable false
set_option linter.unusedVariables false
set_option linter.unusedSimpArgs false
set_option maxRecDepth 100000
namespace Ev
open Go Go.Conc
variable {T : Tb} {P : Program} {RT : Nat → Nat → Option RE}
/-- the whole run, from the functions' own facts -/
theorem sound19 (hT : T.ofL = tbL RT) (hR : ∀ t, RndOk T P Fence.wide ⟨t, rounds⟩ RT) (hfs : Fs T P Fence.wide 0 fsL) : ClOk T P Fence.wide (E P19b 100000) := by
  have wf : ∀ f, Fence.wide.fn f := fun _ => trivial
  have ok : ∀ t : Tr EF, (∀ p : Ps, EFOk T P Fence.wide p.idx (Tr.get .none p t)) → ClOk T P Fence.wide (E ⟨t, rounds⟩ 100000) := fun t ht => E_ok hT wf rfl rfl (hR t) ht 100000
  have h0 : ∀ p : Ps, EFOk T P Fence.wide p.idx (Tr.get .none p P19.fs) := fs_ok hfs
  have c0 : ClOk T P Fence.wide (E P19 100000) := ok P19.fs h0
  have g0 : PrimOk T P Fence.wide (E ⟨P19.fs, rounds⟩ 100000 (.f p43)) p43.idx := fun ρ h w c K vals hy g ha hw => (ok P19.fs h0).f ρ h w p43 c K vals hy g ha hw
  have g0_8 : PrimOk T P Fence.wide (prPart (E ⟨P19.fs, rounds⟩ 100000 (.f p43)) part8) p43.idx := part_ok' (f := p43) (p := part8) g0 c0 seg8
  have h1 : ∀ p : Ps, EFOk T P Fence.wide p.idx (Tr.get .none p tab0) := by
    unfold tab0
    exact fs_set (f := p43) h0 g0_8
  have g1 : PrimOk T P Fence.wide (E ⟨tab0, rounds⟩ 100000 (.f p39)) p39.idx := fun ρ h w c K vals hy g ha hw => (ok tab0 h1).f ρ h w p39 c K vals hy g ha hw
  have g1_19 : PrimOk T P Fence.wide (prPart (E ⟨tab0, rounds⟩ 100000 (.f p39)) part19) p39.idx := part_ok' (f := p39) (p := part19) g1 c0 seg19
  have h2 : ∀ p : Ps, EFOk T P Fence.wide p.idx (Tr.get .none p tab1) := by
    unfold tab1
    exact fs_set (f := p39) h1 g1_19
  have g2 : PrimOk T P Fence.wide (E ⟨tab1, rounds⟩ 100000 (.f p16)) p16.idx := fun ρ h w c K vals hy g ha hw => (ok tab1 h2).f ρ h w p16 c K vals hy g ha hw
  have g2_18 : PrimOk T P Fence.wide (prPart (E ⟨tab1, rounds⟩ 100000 (.f p16)) part18) p16.idx := part_ok' (f := p16) (p := part18) g2 c0 seg18
  have g2_16 : PrimOk T P Fence.wide (prPart (prPart (E ⟨tab1, rounds⟩ 100000 (.f p16)) part18) part16) p16.idx := part_ok' (f := p16) (p := part16) g2_18 c0 seg16
  have g2_14 : PrimOk T P Fence.wide (prPart (prPart (prPart (E ⟨tab1, rounds⟩ 100000 (.f p16)) part18) part16) part14) p16.idx := part_ok' (f := p16) (p := part14) g2_16 c0 seg14
  have g2_12 : PrimOk T P Fence.wide (prPart (prPart (prPart (prPart (E ⟨tab1, rounds⟩ 100000 (.f p16)) part18) part16) part14) part12) p16.idx := part_ok' (f := p16) (p := part12) g2_14 c0 seg12
  have g2_10 : PrimOk T P Fence.wide (prPart (prPart (prPart (prPart (prPart (E ⟨tab1, rounds⟩ 100000 (.f p16)) part18) part16) part14) part12) part10) p16.idx := part_ok' (f := p16) (p := part10) g2_12 c0 seg10
  have h3 : ∀ p : Ps, EFOk T P Fence.wide p.idx (Tr.get .none p tab2) := by
    unfold tab2
    exact fs_set (f := p16) h2 g2_10
  have g3 : PrimOk T P Fence.wide (E ⟨tab2, rounds⟩ 100000 (.f p13)) p13.idx := fun ρ h w c K vals hy g ha hw => (ok tab2 h3).f ρ h w p13 c K vals hy g ha hw
  have g3_17 : PrimOk T P Fence.wide (prPart (E ⟨tab2, rounds⟩ 100000 (.f p13)) part17) p13.idx := part_ok' (f := p13) (p := part17) g3 c0 seg17
  have g3_15 : PrimOk T P Fence.wide (prPart (prPart (E ⟨tab2, rounds⟩ 100000 (.f p13)) part17) part15) p13.idx := part_ok' (f := p13) (p := part15) g3_17 c0 seg15
  have g3_13 : PrimOk T P Fence.wide (prPart (prPart (prPart (E ⟨tab2, rounds⟩ 100000 (.f p13)) part17) part15) part13) p13.idx := part_ok' (f := p13) (p := part13) g3_15 c0 seg13
  have g3_11 : PrimOk T P Fence.wide (prPart (prPart (prPart (prPart (E ⟨tab2, rounds⟩ 100000 (.f p13)) part17) part15) part13) part11) p13.idx := part_ok' (f := p13) (p := part11) g3_13 c0 seg11
  have g3_9 : PrimOk T P Fence.wide (prPart (prPart (prPart (prPart (prPart (E ⟨tab2, rounds⟩ 100000 (.f p13)) part17) part15) part13) part11) part9) p13.idx := part_ok' (f := p13) (p := part9) g3_11 c0 seg9
  have h4 : ∀ p : Ps, EFOk T P Fence.wide p.idx (Tr.get .none p tab3) := by
    unfold tab3
    exact fs_set (f := p13) h3 g3_9
  have g4 : PrimOk T P Fence.wide (E ⟨tab3, rounds⟩ 100000 (.f p11)) p11.idx := fun ρ h w c K vals hy g ha hw => (ok tab3 h4).f ρ h w p11 c K vals hy g ha hw
  have g4_7 : PrimOk T P Fence.wide (prPart (E ⟨tab3, rounds⟩ 100000 (.f p11)) part7) p11.idx := part_ok' (f := p11) (p := part7) g4 c0 seg7
  have g4_6 : PrimOk T P Fence.wide (prPart (prPart (E ⟨tab3, rounds⟩ 100000 (.f p11)) part7) part6) p11.idx := part_ok' (f := p11) (p := part6) g4_7 c0 seg6
  have g4_5 : PrimOk T P Fence.wide (prPart (prPart (prPart (E ⟨tab3, rounds⟩ 100000 (.f p11)) part7) part6) part5) p11.idx := part_ok' (f := p11) (p := part5) g4_6 c0 seg5
  have h5 : ∀ p : Ps, EFOk T P Fence.wide p.idx (Tr.get .none p tab4) := by
    unfold tab4
    exact fs_set (f := p11) h4 g4_5
  have g5 : PrimOk T P Fence.wide (E ⟨tab4, rounds⟩ 100000 (.f p9)) p9.idx := fun ρ h w c K vals hy g ha hw => (ok tab4 h5).f ρ h w p9 c K vals hy g ha hw
  have g5_4 : PrimOk T P Fence.wide (prPart (E ⟨tab4, rounds⟩ 100000 (.f p9)) part4) p9.idx := part_ok' (f := p9) (p := part4) g5 c0 seg4
  have g5_3 : PrimOk T P Fence.wide (prPart (prPart (E ⟨tab4, rounds⟩ 100000 (.f p9)) part4) part3) p9.idx := part_ok' (f := p9) (p := part3) g5_4 c0 seg3
  have g5_2 : PrimOk T P Fence.wide (prPart (prPart (prPart (E ⟨tab4, rounds⟩ 100000 (.f p9)) part4) part3) part2) p9.idx := part_ok' (f := p9) (p := part2) g5_3 c0 seg2
  have g5_1 : PrimOk T P Fence.wide (prPart (prPart (prPart (prPart (E ⟨tab4, rounds⟩ 100000 (.f p9)) part4) part3) part2) part1) p9.idx := part_ok' (f := p9) (p := part1) g5_2 c0 seg1
  have h6 : ∀ p : Ps, EFOk T P Fence.wide p.idx (Tr.get .none p tab5) := by
    unfold tab5
    exact fs_set (f := p9) h5 g5_1
  have g6 : PrimOk T P Fence.wide (E ⟨tab5, rounds⟩ 100000 (.f p38)) p38.idx := fun ρ h w c K vals hy g ha hw => (ok tab5 h6).f ρ h w p38 c K vals hy g ha hw
  have g6_0 : PrimOk T P Fence.wide (prPart (E ⟨tab5, rounds⟩ 100000 (.f p38)) part0) p38.idx := part_ok' (f := p38) (p := part0) g6 c0 seg0
  have h7 : ∀ p : Ps, EFOk T P Fence.wide p.idx (Tr.get .none p tab6) := by
    unfold tab6
    exact fs_set (f := p38) h6 g6_0
  exact ok tab6 h7
end Ev
