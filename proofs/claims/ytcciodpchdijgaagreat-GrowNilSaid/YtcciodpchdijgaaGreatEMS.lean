/- The run of law 19 is what the program does. -/
import Derived.Test.YtcciodpchdijgaaGreatEMF
import Derived.Test.YtcciodpchdijgaaGreatEM0
import Derived.Test.YtcciodpchdijgaaGreatEM1
import Derived.Test.YtcciodpchdijgaaGreatEM2
import Derived.Test.YtcciodpchdijgaaGreatEM3
import Derived.Test.YtcciodpchdijgaaGreatEM4
import Derived.Test.YtcciodpchdijgaaGreatEM5
import Derived.Test.YtcciodpchdijgaaGreatEM6
import Derived.Test.YtcciodpchdijgaaGreatEM7
set_option linter.constructorNameAsVariable false
set_option linter.unusedVariables false
set_option linter.unusedSimpArgs false
set_option maxRecDepth 100000
namespace Ev
open Go Go.Conc
variable {T : Tb} {P : Program} {RT : Nat → Nat → Option RE}
/-- the whole run, from the functions' own facts -/
theorem sound19 (hT : T.ofL = tbL RT) (hR : ∀ t, RndOk T P Fence.wide ⟨t, rounds⟩ RT) (hfs : Fs T P Fence.wide 0 fsL) : ClOk T P Fence.wide (E P19b 100000) := by
  have wf : ∀ f, Fence.wide.fn f := fun _ => trivial
  have ok : ∀ t : Tr EF, (∀ p : Ps, EFOk T P Fence.wide p.idx (Tr.get .none p t)) → ClOk T P Fence.wide (E ⟨t, rounds⟩ 100000) := fun t ht => E_ok hT wf rfl rfl (hR t) ht 100000
  have h0 : ∀ p : Ps, EFOk T P Fence.wide p.idx (Tr.get .none p P19.fs) := fs_ok hfs
  have c0 : ClOk T P Fence.wide (E P19 100000) := ok P19.fs h0
  have g0 : PrimOk T P Fence.wide (E ⟨P19.fs, rounds⟩ 100000 (.f p11)) p11.idx := fun ρ h w c K vals hy g ha hw => (ok P19.fs h0).f ρ h w p11 c K vals hy g ha hw
  have g0_7 : PrimOk T P Fence.wide (prPart (E ⟨P19.fs, rounds⟩ 100000 (.f p11)) part7) p11.idx := part_ok' (f := p11) (p := part7) g0 c0 seg7
  have g0_6 : PrimOk T P Fence.wide (prPart (prPart (E ⟨P19.fs, rounds⟩ 100000 (.f p11)) part7) part6) p11.idx := part_ok' (f := p11) (p := part6) g0_7 c0 seg6
  have g0_5 : PrimOk T P Fence.wide (prPart (prPart (prPart (E ⟨P19.fs, rounds⟩ 100000 (.f p11)) part7) part6) part5) p11.idx := part_ok' (f := p11) (p := part5) g0_6 c0 seg5
  have h1 : ∀ p : Ps, EFOk T P Fence.wide p.idx (Tr.get .none p tab0) := by
    unfold tab0
    exact fs_set (f := p11) h0 g0_5
  have g1 : PrimOk T P Fence.wide (E ⟨tab0, rounds⟩ 100000 (.f p9)) p9.idx := fun ρ h w c K vals hy g ha hw => (ok tab0 h1).f ρ h w p9 c K vals hy g ha hw
  have g1_4 : PrimOk T P Fence.wide (prPart (E ⟨tab0, rounds⟩ 100000 (.f p9)) part4) p9.idx := part_ok' (f := p9) (p := part4) g1 c0 seg4
  have g1_3 : PrimOk T P Fence.wide (prPart (prPart (E ⟨tab0, rounds⟩ 100000 (.f p9)) part4) part3) p9.idx := part_ok' (f := p9) (p := part3) g1_4 c0 seg3
  have g1_2 : PrimOk T P Fence.wide (prPart (prPart (prPart (E ⟨tab0, rounds⟩ 100000 (.f p9)) part4) part3) part2) p9.idx := part_ok' (f := p9) (p := part2) g1_3 c0 seg2
  have g1_1 : PrimOk T P Fence.wide (prPart (prPart (prPart (prPart (E ⟨tab0, rounds⟩ 100000 (.f p9)) part4) part3) part2) part1) p9.idx := part_ok' (f := p9) (p := part1) g1_2 c0 seg1
  have h2 : ∀ p : Ps, EFOk T P Fence.wide p.idx (Tr.get .none p tab1) := by
    unfold tab1
    exact fs_set (f := p9) h1 g1_1
  have g2 : PrimOk T P Fence.wide (E ⟨tab1, rounds⟩ 100000 (.f p38)) p38.idx := fun ρ h w c K vals hy g ha hw => (ok tab1 h2).f ρ h w p38 c K vals hy g ha hw
  have g2_0 : PrimOk T P Fence.wide (prPart (E ⟨tab1, rounds⟩ 100000 (.f p38)) part0) p38.idx := part_ok' (f := p38) (p := part0) g2 c0 seg0
  have h3 : ∀ p : Ps, EFOk T P Fence.wide p.idx (Tr.get .none p tab2) := by
    unfold tab2
    exact fs_set (f := p38) h2 g2_0
  exact ok tab2 h3
end Ev
