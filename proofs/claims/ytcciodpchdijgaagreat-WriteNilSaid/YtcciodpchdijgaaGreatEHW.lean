/- These codes are what the program says. -/
import Derived.Test.YtcciodpchdijgaaGreatEGW
import Derived.Test.YtcciodpchdijgaaGreatEDS
import Derived.Test.YtcciodpchdijgaaGreatProg
import Derived.KernelRfl
set_option linter.constructorNameAsVariable false
set_option linter.unusedVariables false
set_option linter.unusedSimpArgs false
set_option maxRecDepth 100000
namespace Ev
open Go Go.Proofs
def Hy (F : Fence) : Prop := CsOk Tryz.prog F cs0 ∧ Tryz.prog.follows .mixedOrders = true ∧ (∀ f, F.fn f) ∧ F.depth = none ∧ F.round = none
variable {T : Tb} {F : Fence}
/-- pentimento/grow.Step -/
theorem B10_ok : ecF Tryz.prog cs0 false (maskLv 69256349671) Tryz.f10.ntmps [] (fun _ _ _ _ => .bad) (bodyOf Tryz.f10) = B10 := by kernel_rfl
theorem F10_ok (H : Hy F) : EFOk T Tryz.prog F 10 F10 := ef_code H.1 H.2.1 H.2.2.1 H.2.2.2.1 H.2.2.2.2 Tryz.call10 Tryz.func10 (by kernel_rfl) (by kernel_rfl) B10_ok
/-- pentimento/pentimentolaw27.alive -/
theorem B16_ok : ecF Tryz.prog cs0 false (maskLv 39583743) Tryz.f16.ntmps [(6, [0, 1, 2, 3, 4, 5, 6, 7], [0, 1, 3, 7, 0, 0, 63, 127]), (9, [0, 1, 2, 3, 4, 5, 6, 7], [0, 1, 3, 7, 0, 0, 63, 127]), (11, [0, 1, 2, 3, 4, 5, 6, 7], [0, 1, 3, 7, 0, 0, 63, 127]), (12, [0, 1, 2, 3, 4, 5, 6, 7], [0, 1, 3, 7, 0, 0, 63, 127])] (fun _ _ _ _ => .bad) (bodyOf Tryz.f16) = B16 := by kernel_rfl
theorem F16_ok (H : Hy F) : EFOk T Tryz.prog F 16 F16 := ef_code H.1 H.2.1 H.2.2.1 H.2.2.2.1 H.2.2.2.2 Tryz.call16 Tryz.func16 (by kernel_rfl) (by kernel_rfl) B16_ok
/-- pentimento/write.New -/
theorem B17_ok : ecF Tryz.prog cs0 false (maskLv 4194503) Tryz.f17.ntmps [] (fun _ _ _ _ => .bad) (bodyOf Tryz.f17) = B17 := by kernel_rfl
theorem F17_ok (H : Hy F) : EFOk T Tryz.prog F 17 F17 := ef_code H.1 H.2.1 H.2.2.1 H.2.2.2.1 H.2.2.2.2 Tryz.call17 Tryz.func17 (by kernel_rfl) (by kernel_rfl) B17_ok
/-- (*pentimento/write.Write).Begin -/
theorem B18_ok : ecF Tryz.prog cs0 false (maskLv 551936868733) Tryz.f18.ntmps [] (fun _ _ _ _ => .bad) (bodyOf Tryz.f18) = B18 := by kernel_rfl
theorem F18_ok (H : Hy F) : EFOk T Tryz.prog F 18 F18 := ef_code H.1 H.2.1 H.2.2.1 H.2.2.2.1 H.2.2.2.2 Tryz.call18 Tryz.func18 (by kernel_rfl) (by kernel_rfl) B18_ok
/-- (*pentimento/write.Write).Commit -/
theorem B20_ok : ecF Tryz.prog cs0 false (maskLv 1298391132157246175090353748700607) Tryz.f20.ntmps [(12, [0, 1, 2, 3, 4, 5], [0, 1, 3, 7, 0, 31]), (22, [0, 1, 2, 3, 4, 5], [0, 1, 3, 7, 0, 31]), (23, [0, 3, 1, 2, 4, 5, 6, 7, 8], [0, 1, 3, 0, 15, 31, 63, 127, 255]), (26, [0, 1, 2, 3, 4, 5, 6, 7, 8, 9, 10], [0, 1, 3, 7, 0, 31, 63, 127, 127, 255, 1023])] (fun _ _ _ _ => .bad) (bodyOf Tryz.f20) = B20 := by kernel_rfl
theorem F20_ok (H : Hy F) : EFOk T Tryz.prog F 20 F20 := ef_code H.1 H.2.1 H.2.2.1 H.2.2.2.1 H.2.2.2.2 Tryz.call20 Tryz.func20 (by kernel_rfl) (by kernel_rfl) B20_ok
/-- (*pentimento/write.Write).Back -/
theorem B21_ok : ecF Tryz.prog cs0 false (maskLv 310090063029356378965704179) Tryz.f21.ntmps [(4, [0, 3, 4, 1, 2, 5, 6, 7, 8, 9, 10, 11, 12], [0, 1, 3, 0, 8, 31, 63, 127, 127, 127, 255, 1535, 4095]), (23, [0, 1, 2, 3, 4, 5, 6, 7], [0, 1, 3, 7, 0, 31, 63, 127])] (fun _ _ _ _ => .bad) (bodyOf Tryz.f21) = B21 := by kernel_rfl
theorem F21_ok (H : Hy F) : EFOk T Tryz.prog F 21 F21 := ef_code H.1 H.2.1 H.2.2.1 H.2.2.2.1 H.2.2.2.2 Tryz.call21 Tryz.func21 (by kernel_rfl) (by kernel_rfl) B21_ok
/-- (*pentimento/write.Write).Put -/
theorem B23_ok : ecF Tryz.prog cs0 false (maskLv 537925631) Tryz.f23.ntmps [] (fun _ _ _ _ => .bad) (bodyOf Tryz.f23) = B23 := by kernel_rfl
theorem F23_ok (H : Hy F) : EFOk T Tryz.prog F 23 F23 := ef_code H.1 H.2.1 H.2.2.1 H.2.2.2.1 H.2.2.2.2 Tryz.call23 Tryz.func23 (by kernel_rfl) (by kernel_rfl) B23_ok
/-- (*pentimento/write.Write).Finish -/
theorem B24_ok : ecF Tryz.prog cs0 false (maskLv 351843855370207) Tryz.f24.ntmps [(13, [0, 1, 2, 3, 4, 5, 6, 7, 8, 9], [0, 1, 3, 7, 0, 31, 63, 127, 127, 511]), (14, [0, 1, 2, 3, 4, 5, 6], [0, 1, 3, 7, 0, 31, 63])] (fun _ _ _ _ => .bad) (bodyOf Tryz.f24) = B24 := by kernel_rfl
theorem F24_ok (H : Hy F) : EFOk T Tryz.prog F 24 F24 := ef_code H.1 H.2.1 H.2.2.1 H.2.2.2.1 H.2.2.2.2 Tryz.call24 Tryz.func24 (by kernel_rfl) (by kernel_rfl) B24_ok
/-- (*pentimento/write.Write).Abort -/
theorem B25_ok : ecF Tryz.prog cs0 false (maskLv 590195) Tryz.f25.ntmps [] (fun _ _ _ _ => .bad) (bodyOf Tryz.f25) = B25 := by kernel_rfl
theorem F25_ok (H : Hy F) : EFOk T Tryz.prog F 25 F25 := ef_code H.1 H.2.1 H.2.2.1 H.2.2.2.1 H.2.2.2.2 Tryz.call25 Tryz.func25 (by kernel_rfl) (by kernel_rfl) B25_ok
/-- (*pentimento/write.Write).Reserved -/
theorem B26_ok : ecF Tryz.prog cs0 false (maskLv 83) Tryz.f26.ntmps [] (fun _ _ _ _ => .bad) (bodyOf Tryz.f26) = B26 := by kernel_rfl
theorem F26_ok (H : Hy F) : EFOk T Tryz.prog F 26 F26 := ef_code H.1 H.2.1 H.2.2.1 H.2.2.2.1 H.2.2.2.2 Tryz.call26 Tryz.func26 (by kernel_rfl) (by kernel_rfl) B26_ok
/-- (*pentimento/act.Act).Page -/
theorem B39_ok : ecF Tryz.prog cs0 false (maskLv 2097907) Tryz.f39.ntmps [(6, [0, 1, 2, 3, 4, 5, 6, 7, 8], [0, 0, 2, 6, 14, 0, 62, 127, 255])] (fun _ _ _ _ => .bad) (bodyOf Tryz.f39) = B39 := by kernel_rfl
theorem F39_ok (H : Hy F) : EFOk T Tryz.prog F 39 F39 := ef_code H.1 H.2.1 H.2.2.1 H.2.2.2.1 H.2.2.2.2 Tryz.call39 Tryz.func39 (by kernel_rfl) (by kernel_rfl) B39_ok
/-- pentimento/grow.of -/
theorem B40_ok : ecF Tryz.prog cs0 false (maskLv 17181970491) Tryz.f40.ntmps [] (fun _ _ _ _ => .bad) (bodyOf Tryz.f40) = B40 := by kernel_rfl
theorem F40_ok (H : Hy F) : EFOk T Tryz.prog F 40 F40 := ef_code H.1 H.2.1 H.2.2.1 H.2.2.2.1 H.2.2.2.2 Tryz.call40 Tryz.func40 (by kernel_rfl) (by kernel_rfl) B40_ok
/-- (*pentimento/tree.Tree).Act -/
theorem B41_ok : ecF Tryz.prog cs0 false (maskLv 21) Tryz.f41.ntmps [] (fun _ _ _ _ => .bad) (bodyOf Tryz.f41) = B41 := by kernel_rfl
theorem F41_ok (H : Hy F) : EFOk T Tryz.prog F 41 F41 := ef_code H.1 H.2.1 H.2.2.1 H.2.2.2.1 H.2.2.2.2 Tryz.call41 Tryz.func41 (by kernel_rfl) (by kernel_rfl) B41_ok
/-- (*pentimento/act.Act).Do -/
theorem B42_ok : ecF Tryz.prog cs0 true (maskLv 1329846609432645865046476637414029279) Tryz.f42.ntmps [(34, [0, 1, 2, 3, 4, 5, 6, 7, 8], [0, 1, 3, 7, 0, 0, 48, 127, 255])] (fun _ _ _ _ => .bad) (bodyOf Tryz.f42) = B42 := by kernel_rfl
theorem F42_ok (H : Hy F) : EFOk T Tryz.prog F 42 F42 := ef_code H.1 H.2.1 H.2.2.1 H.2.2.2.1 H.2.2.2.2 Tryz.call42 Tryz.func42 (by kernel_rfl) (by kernel_rfl) B42_ok
/-- pentimento/node.Fits -/
theorem B43_ok : ecF Tryz.prog cs0 false (maskLv 1311) Tryz.f43.ntmps [] (fun _ _ _ _ => .bad) (bodyOf Tryz.f43) = B43 := by kernel_rfl
theorem F43_ok (H : Hy F) : EFOk T Tryz.prog F 43 F43 := ef_code H.1 H.2.1 H.2.2.1 H.2.2.2.1 H.2.2.2.2 Tryz.call43 Tryz.func43 (by kernel_rfl) (by kernel_rfl) B43_ok
/-- (*pentimento/tree.Tree).Way -/
theorem B46_ok : ecF Tryz.prog cs0 false (maskLv 9079565078515) Tryz.f46.ntmps [(12, [0, 1, 2, 5, 3, 4, 6, 7], [0, 0, 2, 6, 15, 0, 31, 127]), (15, [0, 1, 2, 3, 4], [0, 0, 1, 7, 15])] (fun _ _ _ _ => .bad) (bodyOf Tryz.f46) = B46 := by kernel_rfl
theorem F46_ok (H : Hy F) : EFOk T Tryz.prog F 46 F46 := ef_code H.1 H.2.1 H.2.2.1 H.2.2.2.1 H.2.2.2.2 Tryz.call46 Tryz.func46 (by kernel_rfl) (by kernel_rfl) B46_ok
/-- pentimento/node.Find -/
theorem B47_ok : ecF Tryz.prog cs0 false (maskLv 1143) Tryz.f47.ntmps [] (fun _ _ _ _ => .bad) (bodyOf Tryz.f47) = B47 := by kernel_rfl
theorem F47_ok (H : Hy F) : EFOk T Tryz.prog F 47 F47 := ef_code H.1 H.2.1 H.2.2.1 H.2.2.2.1 H.2.2.2.2 Tryz.call47 Tryz.func47 (by kernel_rfl) (by kernel_rfl) B47_ok
/-- pentimento/pentimentolaw27.Made -/
theorem B54_ok : ecF Tryz.prog cs0 false (maskLv 135267271) Tryz.f54.ntmps [] (fun _ _ _ _ => .bad) (bodyOf Tryz.f54) = B54 := by kernel_rfl
theorem F54_ok (H : Hy F) : EFOk T Tryz.prog F 54 F54 := ef_code H.1 H.2.1 H.2.2.1 H.2.2.2.1 H.2.2.2.2 Tryz.call54 Tryz.func54 (by kernel_rfl) (by kernel_rfl) B54_ok
/-- (*pentimento/pentimentolaw27.Shop).View -/
theorem B55_ok : ecF Tryz.prog cs0 false (maskLv 262643) Tryz.f55.ntmps [] (fun _ _ _ _ => .bad) (bodyOf Tryz.f55) = B55 := by kernel_rfl
theorem F55_ok (H : Hy F) : EFOk T Tryz.prog F 55 F55 := ef_code H.1 H.2.1 H.2.2.1 H.2.2.2.1 H.2.2.2.2 Tryz.call55 Tryz.func55 (by kernel_rfl) (by kernel_rfl) B55_ok
/-- (*pentimento/pentimentolaw27.Shop).Get -/
theorem B56_ok : ecF Tryz.prog cs0 false (maskLv 335577047) Tryz.f56.ntmps [(6, [0, 1, 2, 3, 4, 5, 6, 7, 8, 9, 10, 11, 12, 13, 14, 15, 16, 17], [0, 1, 3, 7, 15, 31, 63, 0, 0, 511, 1023, 2047, 2047, 2047, 0, 20479, 57343, 131071])] (fun _ _ _ _ => .bad) (bodyOf Tryz.f56) = B56 := by kernel_rfl
theorem F56_ok (H : Hy F) : EFOk T Tryz.prog F 56 F56 := ef_code H.1 H.2.1 H.2.2.1 H.2.2.2.1 H.2.2.2.2 Tryz.call56 Tryz.func56 (by kernel_rfl) (by kernel_rfl) B56_ok
/-- (*pentimento/lock.Locks).Len -/
theorem B57_ok : ecF Tryz.prog cs0 false (maskLv 37) Tryz.f57.ntmps [] (fun _ _ _ _ => .bad) (bodyOf Tryz.f57) = B57 := by kernel_rfl
theorem F57_ok (H : Hy F) : EFOk T Tryz.prog F 57 F57 := ef_code H.1 H.2.1 H.2.2.1 H.2.2.2.1 H.2.2.2.2 Tryz.call57 Tryz.func57 (by kernel_rfl) (by kernel_rfl) B57_ok
/-- (*pentimento/write.Write).none -/
theorem B58_ok : ecF Tryz.prog cs0 false (maskLv 5) Tryz.f58.ntmps [] (fun _ _ _ _ => .bad) (bodyOf Tryz.f58) = B58 := by kernel_rfl
theorem F58_ok (H : Hy F) : EFOk T Tryz.prog F 58 F58 := ef_code H.1 H.2.1 H.2.2.1 H.2.2.2.1 H.2.2.2.2 Tryz.call58 Tryz.func58 (by kernel_rfl) (by kernel_rfl) B58_ok
/-- (*pentimento/write.Write).act -/
theorem B59_ok : ecF Tryz.prog cs0 false (maskLv 5) Tryz.f59.ntmps [] (fun _ _ _ _ => .bad) (bodyOf Tryz.f59) = B59 := by kernel_rfl
theorem F59_ok (H : Hy F) : EFOk T Tryz.prog F 59 F59 := ef_code H.1 H.2.1 H.2.2.1 H.2.2.2.1 H.2.2.2.2 Tryz.call59 Tryz.func59 (by kernel_rfl) (by kernel_rfl) B59_ok
/-- (*pentimento/act.Act).Log -/
theorem B60_ok : ecF Tryz.prog cs0 false (maskLv 21) Tryz.f60.ntmps [] (fun _ _ _ _ => .bad) (bodyOf Tryz.f60) = B60 := by kernel_rfl
theorem F60_ok (H : Hy F) : EFOk T Tryz.prog F 60 F60 := ef_code H.1 H.2.1 H.2.2.1 H.2.2.2.1 H.2.2.2.2 Tryz.call60 Tryz.func60 (by kernel_rfl) (by kernel_rfl) B60_ok
/-- (*pentimento/log.Log).Reserve -/
theorem B61_ok : ecF Tryz.prog cs0 false (maskLv 16947) Tryz.f61.ntmps [] (fun _ _ _ _ => .bad) (bodyOf Tryz.f61) = B61 := by kernel_rfl
theorem F61_ok (H : Hy F) : EFOk T Tryz.prog F 61 F61 := ef_code H.1 H.2.1 H.2.2.1 H.2.2.2.1 H.2.2.2.2 Tryz.call61 Tryz.func61 (by kernel_rfl) (by kernel_rfl) B61_ok
/-- (*pentimento/txn.Table).Begin -/
theorem B62_ok : ecF Tryz.prog cs0 false (maskLv 573) Tryz.f62.ntmps [] (fun _ _ _ _ => .bad) (bodyOf Tryz.f62) = B62 := by kernel_rfl
theorem F62_ok (H : Hy F) : EFOk T Tryz.prog F 62 F62 := ef_code H.1 H.2.1 H.2.2.1 H.2.2.2.1 H.2.2.2.2 Tryz.call62 Tryz.func62 (by kernel_rfl) (by kernel_rfl) B62_ok
/-- (*pentimento/write.Write).logs -/
theorem B63_ok : ecF Tryz.prog cs0 false (maskLv 558345750231) Tryz.f63.ntmps [(1, [0, 1, 2, 3, 4, 5, 6, 7, 8, 9, 10, 11, 12], [0, 1, 3, 7, 0, 16, 63, 127, 255, 255, 0, 1535, 4095]), (3, [0, 2, 3, 1, 4, 5, 6, 7, 8, 9], [0, 1, 0, 0, 15, 31, 63, 63, 127, 511]), (9, [0, 1, 2, 3, 4, 5, 6], [0, 1, 3, 7, 0, 31, 63])] (fun _ _ _ _ => .bad) (bodyOf Tryz.f63) = B63 := by kernel_rfl
theorem F63_ok (H : Hy F) : EFOk T Tryz.prog F 63 F63 := ef_code H.1 H.2.1 H.2.2.1 H.2.2.2.1 H.2.2.2.2 Tryz.call63 Tryz.func63 (by kernel_rfl) (by kernel_rfl) B63_ok
/-- (*pentimento/txn.Table).End -/
theorem B64_ok : ecF Tryz.prog cs0 false (maskLv 1075) Tryz.f64.ntmps [] (fun _ _ _ _ => .bad) (bodyOf Tryz.f64) = B64 := by kernel_rfl
theorem F64_ok (H : Hy F) : EFOk T Tryz.prog F 64 F64 := ef_code H.1 H.2.1 H.2.2.1 H.2.2.2.1 H.2.2.2.2 Tryz.call64 Tryz.func64 (by kernel_rfl) (by kernel_rfl) B64_ok
/-- (*pentimento/write.Write).may -/
theorem B65_ok : ecF Tryz.prog cs0 false (maskLv 17826547) Tryz.f65.ntmps [] (fun _ _ _ _ => .bad) (bodyOf Tryz.f65) = B65 := by kernel_rfl
theorem F65_ok (H : Hy F) : EFOk T Tryz.prog F 65 F65 := ef_code H.1 H.2.1 H.2.2.1 H.2.2.2.1 H.2.2.2.2 Tryz.call65 Tryz.func65 (by kernel_rfl) (by kernel_rfl) B65_ok
/-- pentimento/key.May -/
theorem B66_ok : ecF Tryz.prog cs0 false (maskLv 5) Tryz.f66.ntmps [] (fun _ _ _ _ => .bad) (bodyOf Tryz.f66) = B66 := by kernel_rfl
theorem F66_ok (H : Hy F) : EFOk T Tryz.prog F 66 F66 := ef_code H.1 H.2.1 H.2.2.1 H.2.2.2.1 H.2.2.2.2 Tryz.call66 Tryz.func66 (by kernel_rfl) (by kernel_rfl) B66_ok
/-- (*pentimento/write.Write).writes -/
theorem B67_ok : ecF Tryz.prog cs0 true (maskLv 9345915977215) Tryz.f67.ntmps [(1, [0, 1, 2, 3, 4, 5, 6, 7, 8, 9, 10, 11, 12], [0, 1, 3, 7, 0, 0, 63, 127, 255, 255, 0, 1535, 4095]), (6, [0, 1, 2, 3, 4, 5, 6, 7, 8, 9, 10, 11, 12, 13], [0, 1, 3, 7, 0, 31, 63, 127, 127, 127, 0, 1279, 3583, 8191])] (fun _ _ _ _ => .bad) (bodyOf Tryz.f67) = B67 := by kernel_rfl
theorem F67_ok (H : Hy F) : EFOk T Tryz.prog F 67 F67 := ef_code H.1 H.2.1 H.2.2.1 H.2.2.2.1 H.2.2.2.2 Tryz.call67 Tryz.func67 (by kernel_rfl) (by kernel_rfl) B67_ok
/-- (*pentimento/write.Write).change -/
theorem B69_ok : ecF Tryz.prog cs0 false (maskLv 162279238687946209049141223358383) Tryz.f69.ntmps [(4, [0, 1, 2, 3, 4], [0, 0, 2, 7, 15]), (10, [0, 1, 2, 3, 4, 5, 6, 7, 8, 9, 10, 11, 12], [0, 1, 3, 7, 0, 16, 0, 127, 255, 511, 511, 1023, 4095]), (24, [0, 1, 2, 3, 4, 5, 6, 7, 8, 9, 10], [0, 0, 2, 0, 14, 0, 0, 64, 224, 511, 1023]), (28, [0, 1, 2, 3, 4, 5, 6, 7, 8, 9, 10, 11, 12], [0, 1, 3, 7, 0, 16, 63, 127, 255, 255, 0, 1535, 4095]), (29, [0, 1, 2, 3, 4, 5, 6], [0, 1, 0, 3, 11, 31, 63]), (30, [0, 1, 2, 3, 4, 5, 6], [0, 1, 3, 7, 0, 31, 63])] (fun _ _ _ _ => .bad) (bodyOf Tryz.f69) = B69 := by kernel_rfl
theorem F69_ok (H : Hy F) : EFOk T Tryz.prog F 69 F69 := ef_code H.1 H.2.1 H.2.2.1 H.2.2.2.1 H.2.2.2.2 Tryz.call69 Tryz.func69 (by kernel_rfl) (by kernel_rfl) B69_ok
/-- (*pentimento/write.Write).head -/
theorem B70_ok : ecF Tryz.prog cs0 false (maskLv 51) Tryz.f70.ntmps [] (fun _ _ _ _ => .bad) (bodyOf Tryz.f70) = B70 := by kernel_rfl
theorem F70_ok (H : Hy F) : EFOk T Tryz.prog F 70 F70 := ef_code H.1 H.2.1 H.2.2.1 H.2.2.2.1 H.2.2.2.2 Tryz.call70 Tryz.func70 (by kernel_rfl) (by kernel_rfl) B70_ok
/-- pentimento/seg.Find -/
theorem B71_ok : ecF Tryz.prog cs0 false (maskLv 524791) Tryz.f71.ntmps [] (fun _ _ _ _ => .bad) (bodyOf Tryz.f71) = B71 := by kernel_rfl
theorem F71_ok (H : Hy F) : EFOk T Tryz.prog F 71 F71 := ef_code H.1 H.2.1 H.2.2.1 H.2.2.2.1 H.2.2.2.2 Tryz.call71 Tryz.func71 (by kernel_rfl) (by kernel_rfl) B71_ok
/-- (*pentimento/write.Write).using -/
theorem B72_ok : ecF Tryz.prog cs0 true (maskLv 16778111) Tryz.f72.ntmps [(1, [0, 1, 2, 3, 4, 5, 6, 7, 8], [0, 0, 2, 6, 14, 0, 62, 127, 255])] (fun _ _ _ _ => .bad) (bodyOf Tryz.f72) = B72 := by kernel_rfl
theorem F72_ok (H : Hy F) : EFOk T Tryz.prog F 72 F72 := ef_code H.1 H.2.1 H.2.2.1 H.2.2.2.1 H.2.2.2.2 Tryz.call72 Tryz.func72 (by kernel_rfl) (by kernel_rfl) B72_ok
/-- (*pentimento/write.Write).over -/
theorem B74_ok : ecF Tryz.prog cs0 false (maskLv 3) Tryz.f74.ntmps [] (fun _ _ _ _ => .bad) (bodyOf Tryz.f74) = B74 := by kernel_rfl
theorem F74_ok (H : Hy F) : EFOk T Tryz.prog F 74 F74 := ef_code H.1 H.2.1 H.2.2.1 H.2.2.2.1 H.2.2.2.2 Tryz.call74 Tryz.func74 (by kernel_rfl) (by kernel_rfl) B74_ok
/-- (*pentimento/txn.Table).Next -/
theorem B75_ok : ecF Tryz.prog cs0 false (maskLv 77) Tryz.f75.ntmps [(3, [0, 1, 2, 3, 4, 5, 6, 7, 8, 9], [0, 1, 3, 7, 0, 16, 48, 112, 15, 511])] (fun _ _ _ _ => .bad) (bodyOf Tryz.f75) = B75 := by kernel_rfl
theorem F75_ok (H : Hy F) : EFOk T Tryz.prog F 75 F75 := ef_code H.1 H.2.1 H.2.2.1 H.2.2.2.1 H.2.2.2.2 Tryz.call75 Tryz.func75 (by kernel_rfl) (by kernel_rfl) B75_ok
/-- pentimento/seg.Commit -/
theorem B76_ok : ecF Tryz.prog cs0 false (maskLv 276020862927) Tryz.f76.ntmps [] (fun _ _ _ _ => .bad) (bodyOf Tryz.f76) = B76 := by kernel_rfl
theorem F76_ok (H : Hy F) : EFOk T Tryz.prog F 76 F76 := ef_code H.1 H.2.1 H.2.2.1 H.2.2.2.1 H.2.2.2.2 Tryz.call76 Tryz.func76 (by kernel_rfl) (by kernel_rfl) B76_ok
/-- (*pentimento/write.Write).Commit$2 -/
theorem B77_ok : ecF Tryz.prog cs0 false (maskLv 31) Tryz.f77.ntmps [] (fun _ _ _ _ => .bad) (bodyOf Tryz.f77) = B77 := by kernel_rfl
theorem F77_ok (H : Hy F) : EFOk T Tryz.prog F 77 F77 := ef_code H.1 H.2.1 H.2.2.1 H.2.2.2.1 H.2.2.2.2 Tryz.call77 Tryz.func77 (by kernel_rfl) (by kernel_rfl) B77_ok
/-- (*pentimento/log.Log).Force -/
theorem B78_ok : ecF Tryz.prog cs0 false (maskLv 1157460288606835187) Tryz.f78.ntmps [(6, [0, 1, 2, 3, 4, 5, 6, 7, 8, 9], [0, 1, 3, 7, 0, 16, 48, 112, 255, 511])] (fun _ _ _ _ => .bad) (bodyOf Tryz.f78) = B78 := by kernel_rfl
theorem F78_ok (H : Hy F) : EFOk T Tryz.prog F 78 F78 := ef_code H.1 H.2.1 H.2.2.1 H.2.2.2.1 H.2.2.2.2 Tryz.call78 Tryz.func78 (by kernel_rfl) (by kernel_rfl) B78_ok
/-- (*pentimento/log.Log).Next -/
theorem B79_ok : ecF Tryz.prog cs0 false (maskLv 21) Tryz.f79.ntmps [] (fun _ _ _ _ => .bad) (bodyOf Tryz.f79) = B79 := by kernel_rfl
theorem F79_ok (H : Hy F) : EFOk T Tryz.prog F 79 F79 := ef_code H.1 H.2.1 H.2.2.1 H.2.2.2.1 H.2.2.2.2 Tryz.call79 Tryz.func79 (by kernel_rfl) (by kernel_rfl) B79_ok
/-- (*pentimento/txn.Table).Commit -/
theorem B80_ok : ecF Tryz.prog cs0 false (maskLv 133235) Tryz.f80.ntmps [] (fun _ _ _ _ => .bad) (bodyOf Tryz.f80) = B80 := by kernel_rfl
theorem F80_ok (H : Hy F) : EFOk T Tryz.prog F 80 F80 := ef_code H.1 H.2.1 H.2.2.1 H.2.2.2.1 H.2.2.2.2 Tryz.call80 Tryz.func80 (by kernel_rfl) (by kernel_rfl) B80_ok
/-- (*pentimento/log.Log).Read -/
theorem B81_ok : ecF Tryz.prog cs0 false (maskLv 34368132083) Tryz.f81.ntmps [] (fun _ _ _ _ => .bad) (bodyOf Tryz.f81) = B81 := by kernel_rfl
theorem F81_ok (H : Hy F) : EFOk T Tryz.prog F 81 F81 := ef_code H.1 H.2.1 H.2.2.1 H.2.2.2.1 H.2.2.2.2 Tryz.call81 Tryz.func81 (by kernel_rfl) (by kernel_rfl) B81_ok
/-- pentimento/rec.Decode -/
theorem B82_ok : ecF Tryz.prog cs0 false (maskLv 10633986235459709567568380216092918783) Tryz.f82.ntmps [(16, [0, 1, 2, 3, 6, 4, 5, 7, 8, 9, 10, 11, 12, 13], [0, 1, 3, 0, 8, 24, 0, 88, 248, 504, 1023, 2047, 4095, 8191]), (20, [0, 1, 2, 3, 5, 7, 9, 4, 6, 8, 10, 11, 12, 13, 14, 15, 16], [0, 1, 3, 0, 8, 0, 56, 0, 248, 0, 1016, 2040, 4088, 8191, 16383, 32767, 65535])] (fun _ _ _ _ => .bad) (bodyOf Tryz.f82) = B82 := by kernel_rfl
theorem F82_ok (H : Hy F) : EFOk T Tryz.prog F 82 F82 := ef_code H.1 H.2.1 H.2.2.1 H.2.2.2.1 H.2.2.2.2 Tryz.call82 Tryz.func82 (by kernel_rfl) (by kernel_rfl) B82_ok
/-- (*pentimento/write.Write).back -/
theorem B83_ok : ecF Tryz.prog cs0 false (maskLv 275968428543) Tryz.f83.ntmps [(3, [0, 3, 4, 1, 2, 5, 6, 7, 8, 9, 10, 11], [0, 1, 3, 0, 8, 31, 63, 127, 127, 0, 767, 2047]), (11, [0, 1, 2, 3, 4, 5, 6, 7, 8], [0, 1, 0, 0, 8, 0, 60, 127, 255])] (fun _ _ _ _ => .bad) (bodyOf Tryz.f83) = B83 := by kernel_rfl
theorem F83_ok (H : Hy F) : EFOk T Tryz.prog F 83 F83 := ef_code H.1 H.2.1 H.2.2.1 H.2.2.2.1 H.2.2.2.2 Tryz.call83 Tryz.func83 (by kernel_rfl) (by kernel_rfl) B83_ok
/-- (*pentimento/write.Write).plain -/
theorem B85_ok : ecF Tryz.prog cs0 false (maskLv 59) Tryz.f85.ntmps [] (fun _ _ _ _ => .bad) (bodyOf Tryz.f85) = B85 := by kernel_rfl
theorem F85_ok (H : Hy F) : EFOk T Tryz.prog F 85 F85 := ef_code H.1 H.2.1 H.2.2.1 H.2.2.2.1 H.2.2.2.2 Tryz.call85 Tryz.func85 (by kernel_rfl) (by kernel_rfl) B85_ok
/-- (*pentimento/txn.Table).Get -/
theorem B86_ok : ecF Tryz.prog cs0 false (maskLv 1267) Tryz.f86.ntmps [] (fun _ _ _ _ => .bad) (bodyOf Tryz.f86) = B86 := by kernel_rfl
theorem F86_ok (H : Hy F) : EFOk T Tryz.prog F 86 F86 := ef_code H.1 H.2.1 H.2.2.1 H.2.2.2.1 H.2.2.2.2 Tryz.call86 Tryz.func86 (by kernel_rfl) (by kernel_rfl) B86_ok
/-- (*pentimento/txn.Table).Set -/
theorem B87_ok : ecF Tryz.prog cs0 false (maskLv 2107) Tryz.f87.ntmps [(3, [0, 1, 2, 3, 4, 5, 6, 7], [0, 1, 3, 7, 0, 16, 0, 127])] (fun _ _ _ _ => .bad) (bodyOf Tryz.f87) = B87 := by kernel_rfl
theorem F87_ok (H : Hy F) : EFOk T Tryz.prog F 87 F87 := ef_code H.1 H.2.1 H.2.2.1 H.2.2.2.1 H.2.2.2.2 Tryz.call87 Tryz.func87 (by kernel_rfl) (by kernel_rfl) B87_ok
/-- pentimento/key.Value -/
theorem B88_ok : ecF Tryz.prog cs0 false (maskLv 5) Tryz.f88.ntmps [] (fun _ _ _ _ => .bad) (bodyOf Tryz.f88) = B88 := by kernel_rfl
theorem F88_ok (H : Hy F) : EFOk T Tryz.prog F 88 F88 := ef_code H.1 H.2.1 H.2.2.1 H.2.2.2.1 H.2.2.2.2 Tryz.call88 Tryz.func88 (by kernel_rfl) (by kernel_rfl) B88_ok
/-- (*pentimento/write.Write).Put$1 -/
theorem B89_ok : ecF Tryz.prog cs0 false (maskLv 383) Tryz.f89.ntmps [] (fun _ _ _ _ => .bad) (bodyOf Tryz.f89) = B89 := by kernel_rfl
theorem F89_ok (H : Hy F) : EFOk T Tryz.prog F 89 F89 := ef_code H.1 H.2.1 H.2.2.1 H.2.2.2.1 H.2.2.2.2 Tryz.call89 Tryz.func89 (by kernel_rfl) (by kernel_rfl) B89_ok
/-- (*pentimento/write.Write).Finish$1 -/
theorem B90_ok : ecF Tryz.prog cs0 false (maskLv 2199291694559) Tryz.f90.ntmps [(6, [0, 2, 3, 4, 1, 5, 6, 7, 8, 9, 10, 11], [0, 1, 0, 4, 0, 16, 63, 127, 255, 255, 511, 2047])] (fun _ _ _ _ => .bad) (bodyOf Tryz.f90) = B90 := by kernel_rfl
theorem F90_ok (H : Hy F) : EFOk T Tryz.prog F 90 F90 := ef_code H.1 H.2.1 H.2.2.1 H.2.2.2.1 H.2.2.2.2 Tryz.call90 Tryz.func90 (by kernel_rfl) (by kernel_rfl) B90_ok
/-- pentimento/undo.Decode -/
theorem B97_ok : ecF Tryz.prog cs0 false (maskLv 18049651869484031) Tryz.f97.ntmps [(13, [0, 1, 2, 3, 4, 5, 6], [0, 0, 2, 1, 9, 31, 63])] (fun _ _ _ _ => .bad) (bodyOf Tryz.f97) = B97 := by kernel_rfl
theorem F97_ok (H : Hy F) : EFOk T Tryz.prog F 97 F97 := ef_code H.1 H.2.1 H.2.2.1 H.2.2.2.1 H.2.2.2.2 Tryz.call97 Tryz.func97 (by kernel_rfl) (by kernel_rfl) B97_ok
/-- pentimento/pentimentoref16.New -/
theorem B100_ok : ecF Tryz.prog cs0 false (maskLv 36902495415527540679) Tryz.f100.ntmps [] (fun _ _ _ _ => .bad) (bodyOf Tryz.f100) = B100 := by kernel_rfl
theorem F100_ok (H : Hy F) : EFOk T Tryz.prog F 100 F100 := ef_code H.1 H.2.1 H.2.2.1 H.2.2.2.1 H.2.2.2.2 Tryz.call100 Tryz.func100 (by kernel_rfl) (by kernel_rfl) B100_ok
/-- pentimento/pentimentolaw17.Zero -/
theorem B101_ok : ecF Tryz.prog cs0 false (maskLv 5) Tryz.f101.ntmps [] (fun _ _ _ _ => .bad) (bodyOf Tryz.f101) = B101 := by kernel_rfl
theorem F101_ok (H : Hy F) : EFOk T Tryz.prog F 101 F101 := ef_code H.1 H.2.1 H.2.2.1 H.2.2.2.1 H.2.2.2.2 Tryz.call101 Tryz.func101 (by kernel_rfl) (by kernel_rfl) B101_ok
/-- pentimento/pentimentolaw17.MadeOf -/
theorem B102_ok : ecF Tryz.prog cs0 false (maskLv 635063542384891084138365845263) Tryz.f102.ntmps [] (fun _ _ _ _ => .bad) (bodyOf Tryz.f102) = B102 := by kernel_rfl
theorem F102_ok (H : Hy F) : EFOk T Tryz.prog F 102 F102 := ef_code H.1 H.2.1 H.2.2.1 H.2.2.2.1 H.2.2.2.2 Tryz.call102 Tryz.func102 (by kernel_rfl) (by kernel_rfl) B102_ok
/-- pentimento/tree.New -/
theorem B103_ok : ecF Tryz.prog cs0 false (maskLv 627) Tryz.f103.ntmps [] (fun _ _ _ _ => .bad) (bodyOf Tryz.f103) = B103 := by kernel_rfl
theorem F103_ok (H : Hy F) : EFOk T Tryz.prog F 103 F103 := ef_code H.1 H.2.1 H.2.2.1 H.2.2.2.1 H.2.2.2.2 Tryz.call103 Tryz.func103 (by kernel_rfl) (by kernel_rfl) B103_ok
/-- (*pentimento/tree.Tree).none -/
theorem B104_ok : ecF Tryz.prog cs0 false (maskLv 5) Tryz.f104.ntmps [] (fun _ _ _ _ => .bad) (bodyOf Tryz.f104) = B104 := by kernel_rfl
theorem F104_ok (H : Hy F) : EFOk T Tryz.prog F 104 F104 := ef_code H.1 H.2.1 H.2.2.1 H.2.2.2.1 H.2.2.2.2 Tryz.call104 Tryz.func104 (by kernel_rfl) (by kernel_rfl) B104_ok
/-- pentimento/node.Check -/
theorem B106_ok : ecF Tryz.prog cs0 false (maskLv 65559) Tryz.f106.ntmps [] (fun _ _ _ _ => .bad) (bodyOf Tryz.f106) = B106 := by kernel_rfl
theorem F106_ok (H : Hy F) : EFOk T Tryz.prog F 106 F106 := ef_code H.1 H.2.1 H.2.2.1 H.2.2.2.1 H.2.2.2.2 Tryz.call106 Tryz.func106 (by kernel_rfl) (by kernel_rfl) B106_ok
/-- (*pentimento/act.Act).none -/
theorem B110_ok : ecF Tryz.prog cs0 false (maskLv 5) Tryz.f110.ntmps [] (fun _ _ _ _ => .bad) (bodyOf Tryz.f110) = B110 := by kernel_rfl
theorem F110_ok (H : Hy F) : EFOk T Tryz.prog F 110 F110 := ef_code H.1 H.2.1 H.2.2.1 H.2.2.2.1 H.2.2.2.2 Tryz.call110 Tryz.func110 (by kernel_rfl) (by kernel_rfl) B110_ok
/-- (*pentimento/pool.Pool).Pin -/
theorem B111_ok : ecF Tryz.prog cs0 false (maskLv 4683745811555700659) Tryz.f111.ntmps [(5, [0, 1, 2, 3, 4, 5, 6, 7, 8, 9, 10, 11, 12, 13, 14], [0, 1, 3, 7, 0, 16, 48, 112, 0, 511, 1023, 2047, 2047, 4095, 16383])] (fun _ _ _ _ => .bad) (bodyOf Tryz.f111) = B111 := by kernel_rfl
theorem F111_ok (H : Hy F) : EFOk T Tryz.prog F 111 F111 := ef_code H.1 H.2.1 H.2.2.1 H.2.2.2.1 H.2.2.2.2 Tryz.call111 Tryz.func111 (by kernel_rfl) (by kernel_rfl) B111_ok
/-- (*pentimento/pool.Pool).Unpin -/
theorem B112_ok : ecF Tryz.prog cs0 false (maskLv 2147484275) Tryz.f112.ntmps [] (fun _ _ _ _ => .bad) (bodyOf Tryz.f112) = B112 := by kernel_rfl
theorem F112_ok (H : Hy F) : EFOk T Tryz.prog F 112 F112 := ef_code H.1 H.2.1 H.2.2.1 H.2.2.2.1 H.2.2.2.2 Tryz.call112 Tryz.func112 (by kernel_rfl) (by kernel_rfl) B112_ok
/-- pentimento/row.Encode -/
theorem B113_ok : ecF Tryz.prog cs0 false (maskLv 671) Tryz.f113.ntmps [(6, [0, 1, 2, 5, 6, 7, 8, 11, 12, 13, 14, 17, 18, 19, 20, 23, 24, 26, 27, 28, 29, 32, 33, 35, 36, 3, 4, 9, 10, 15, 16, 21, 22, 25, 30, 31, 34, 37, 38, 39, 40], [0, 0, 2, 6, 15, 0, 32, 96, 224, 494, 1023, 0, 2048, 6144, 14336, 31726, 65535, 0, 131072, 393216, 917504, 2030574, 4194303, 0, 8388608, 33554431, 0, 67108864, 201326592, 469762048, 1010760686, 2147483647, 0, 4294967296, 17179869183, 0, 34359738368, 105163717614, 274877906943, 549755813887, 1099511627775])] (fun _ _ _ _ => .bad) (bodyOf Tryz.f113) = B113 := by kernel_rfl
theorem F113_ok (H : Hy F) : EFOk T Tryz.prog F 113 F113 := ef_code H.1 H.2.1 H.2.2.1 H.2.2.2.1 H.2.2.2.2 Tryz.call113 Tryz.func113 (by kernel_rfl) (by kernel_rfl) B113_ok
/-- pentimento/act.record -/
theorem B114_ok : ecF Tryz.prog cs0 false (maskLv 1058039) Tryz.f114.ntmps [] (fun _ _ _ _ => .bad) (bodyOf Tryz.f114) = B114 := by kernel_rfl
theorem F114_ok (H : Hy F) : EFOk T Tryz.prog F 114 F114 := ef_code H.1 H.2.1 H.2.2.1 H.2.2.2.1 H.2.2.2.2 Tryz.call114 Tryz.func114 (by kernel_rfl) (by kernel_rfl) B114_ok
/-- pentimento/op.Pages -/
theorem B115_ok : ecF Tryz.prog cs0 false (maskLv 501) Tryz.f115.ntmps [] (fun _ _ _ _ => .bad) (bodyOf Tryz.f115) = B115 := by kernel_rfl
theorem F115_ok (H : Hy F) : EFOk T Tryz.prog F 115 F115 := ef_code H.1 H.2.1 H.2.2.1 H.2.2.2.1 H.2.2.2.2 Tryz.call115 Tryz.func115 (by kernel_rfl) (by kernel_rfl) B115_ok
/-- (*pentimento/act.Act).Do$1 -/
theorem B116_ok : ecF Tryz.prog cs0 false (maskLv 87) Tryz.f116.ntmps [] (fun _ _ _ _ => .bad) (bodyOf Tryz.f116) = B116 := by kernel_rfl
theorem F116_ok (H : Hy F) : EFOk T Tryz.prog F 116 F116 := ef_join H.1 H.2.1 H.2.2.1 H.2.2.2.1 H.2.2.2.2 Tryz.call116 Tryz.func116 (by kernel_rfl) (by kernel_rfl) B116_ok
/-- pentimento/op.Redo -/
theorem B117_ok : ecF Tryz.prog cs0 false (maskLv 137711357391) Tryz.f117.ntmps [] (fun _ _ _ _ => .bad) (bodyOf Tryz.f117) = B117 := by kernel_rfl
theorem F117_ok (H : Hy F) : EFOk T Tryz.prog F 117 F117 := ef_code H.1 H.2.1 H.2.2.1 H.2.2.2.1 H.2.2.2.2 Tryz.call117 Tryz.func117 (by kernel_rfl) (by kernel_rfl) B117_ok
/-- (*pentimento/log.Log).Append -/
theorem B118_ok : ecF Tryz.prog cs0 false (maskLv 35654131) Tryz.f118.ntmps [(9, [0, 1, 2, 3, 4, 5, 6, 8, 9, 10, 11, 12, 7, 13, 14, 15, 16, 17, 18, 19, 20], [0, 0, 0, 4, 12, 28, 0, 124, 0, 256, 768, 1792, 0, 4096, 16380, 32765, 65533, 131069, 262143, 524287, 1048575])] (fun _ _ _ _ => .bad) (bodyOf Tryz.f118) = B118 := by kernel_rfl
theorem F118_ok (H : Hy F) : EFOk T Tryz.prog F 118 F118 := ef_code H.1 H.2.1 H.2.2.1 H.2.2.2.1 H.2.2.2.2 Tryz.call118 Tryz.func118 (by kernel_rfl) (by kernel_rfl) B118_ok
/-- (*pentimento/pool.Pool).Put -/
theorem B119_ok : ecF Tryz.prog cs0 false (maskLv 4503668346856699) Tryz.f119.ntmps [(5, [0, 1, 2, 3, 4, 5, 6, 7, 8, 9, 10, 11], [0, 1, 3, 7, 0, 16, 63, 127, 255, 255, 511, 2047]), (11, [0, 1, 2, 3, 4, 5, 6, 7, 8, 9], [0, 0, 0, 4, 1, 17, 49, 127, 255, 511])] (fun _ _ _ _ => .bad) (bodyOf Tryz.f119) = B119 := by kernel_rfl
theorem F119_ok (H : Hy F) : EFOk T Tryz.prog F 119 F119 := ef_code H.1 H.2.1 H.2.2.1 H.2.2.2.1 H.2.2.2.2 Tryz.call119 Tryz.func119 (by kernel_rfl) (by kernel_rfl) B119_ok
/-- pentimento/node.With -/
theorem B120_ok : ecF Tryz.prog cs0 false (maskLv 34606879) Tryz.f120.ntmps [] (fun _ _ _ _ => .bad) (bodyOf Tryz.f120) = B120 := by kernel_rfl
theorem F120_ok (H : Hy F) : EFOk T Tryz.prog F 120 F120 := ef_code H.1 H.2.1 H.2.2.1 H.2.2.2.1 H.2.2.2.2 Tryz.call120 Tryz.func120 (by kernel_rfl) (by kernel_rfl) B120_ok
/-- pentimento/page.Room -/
theorem B121_ok : ecF Tryz.prog cs0 false (maskLv 1967) Tryz.f121.ntmps [] (fun _ _ _ _ => .bad) (bodyOf Tryz.f121) = B121 := by kernel_rfl
theorem F121_ok (H : Hy F) : EFOk T Tryz.prog F 121 F121 := ef_code H.1 H.2.1 H.2.2.1 H.2.2.2.1 H.2.2.2.2 Tryz.call121 Tryz.func121 (by kernel_rfl) (by kernel_rfl) B121_ok
/-- pentimento/space.Alloc -/
theorem B123_ok : ecF Tryz.prog cs0 false (maskLv 2459903) Tryz.f123.ntmps [] (fun _ _ _ _ => .bad) (bodyOf Tryz.f123) = B123 := by kernel_rfl
theorem F123_ok (H : Hy F) : EFOk T Tryz.prog F 123 F123 := ef_code H.1 H.2.1 H.2.2.1 H.2.2.2.1 H.2.2.2.2 Tryz.call123 Tryz.func123 (by kernel_rfl) (by kernel_rfl) B123_ok
/-- pentimento/node.keys -/
theorem B129_ok : ecF Tryz.prog cs0 false (maskLv 4722366617010063802623) Tryz.f129.ntmps [] (fun _ _ _ _ => .bad) (bodyOf Tryz.f129) = B129 := by kernel_rfl
theorem F129_ok (H : Hy F) : EFOk T Tryz.prog F 129 F129 := ef_code H.1 H.2.1 H.2.2.1 H.2.2.2.1 H.2.2.2.2 Tryz.call129 Tryz.func129 (by kernel_rfl) (by kernel_rfl) B129_ok
/-- slices.BinarySearchFunc[[]string,string,string] -/
theorem B130_ok : ecF Tryz.prog cs0 false (maskLv 2147618759) Tryz.f130.ntmps [] (fun _ _ _ _ => .bad) (bodyOf Tryz.f130) = B130 := by kernel_rfl
theorem F130_ok (H : Hy F) : EFOk T Tryz.prog F 130 F130 := ef_code H.1 H.2.1 H.2.2.1 H.2.2.2.1 H.2.2.2.2 Tryz.call130 Tryz.func130 (by kernel_rfl) (by kernel_rfl) B130_ok
/-- pentimento/key.Compare -/
theorem B131_ok : ecF Tryz.prog cs0 false (maskLv 19) Tryz.f131.ntmps [] (fun _ _ _ _ => .bad) (bodyOf Tryz.f131) = B131 := by kernel_rfl
theorem F131_ok (H : Hy F) : EFOk T Tryz.prog F 131 F131 := ef_code H.1 H.2.1 H.2.2.1 H.2.2.2.1 H.2.2.2.2 Tryz.call131 Tryz.func131 (by kernel_rfl) (by kernel_rfl) B131_ok
/-- slices.Clone[[]string,string] -/
theorem B133_ok : ecF Tryz.prog cs0 false (maskLv 21) Tryz.f133.ntmps [] (fun _ _ _ _ => .bad) (bodyOf Tryz.f133) = B133 := by kernel_rfl
theorem F133_ok (H : Hy F) : EFOk T Tryz.prog F 133 F133 := ef_code H.1 H.2.1 H.2.2.1 H.2.2.2.1 H.2.2.2.2 Tryz.call133 Tryz.func133 (by kernel_rfl) (by kernel_rfl) B133_ok
/-- pentimento/page.May -/
theorem B134_ok : ecF Tryz.prog cs0 false (maskLv 1967) Tryz.f134.ntmps [] (fun _ _ _ _ => .bad) (bodyOf Tryz.f134) = B134 := by kernel_rfl
theorem F134_ok (H : Hy F) : EFOk T Tryz.prog F 134 F134 := ef_code H.1 H.2.1 H.2.2.1 H.2.2.2.1 H.2.2.2.2 Tryz.call134 Tryz.func134 (by kernel_rfl) (by kernel_rfl) B134_ok
/-- pentimento/pentimentolaw27.Pages -/
theorem B136_ok : ecF Tryz.prog cs0 false (maskLv 8589938941) Tryz.f136.ntmps [] (fun _ _ _ _ => .bad) (bodyOf Tryz.f136) = B136 := by kernel_rfl
theorem F136_ok (H : Hy F) : EFOk T Tryz.prog F 136 F136 := ef_code H.1 H.2.1 H.2.2.1 H.2.2.2.1 H.2.2.2.2 Tryz.call136 Tryz.func136 (by kernel_rfl) (by kernel_rfl) B136_ok
/-- (*pentimento/pentimentolaw27.Shop).Begin -/
theorem B137_ok : ecF Tryz.prog cs0 false (maskLv 17592186060743) Tryz.f137.ntmps [] (fun _ _ _ _ => .bad) (bodyOf Tryz.f137) = B137 := by kernel_rfl
theorem F137_ok (H : Hy F) : EFOk T Tryz.prog F 137 F137 := ef_code H.1 H.2.1 H.2.2.1 H.2.2.2.1 H.2.2.2.2 Tryz.call137 Tryz.func137 (by kernel_rfl) (by kernel_rfl) B137_ok
/-- (*pentimento/txn.Table).All -/
theorem B138_ok : ecF Tryz.prog cs0 false (maskLv 123029) Tryz.f138.ntmps [] (fun _ _ _ _ => .bad) (bodyOf Tryz.f138) = B138 := by kernel_rfl
theorem F138_ok (H : Hy F) : EFOk T Tryz.prog F 138 F138 := ef_code H.1 H.2.1 H.2.2.1 H.2.2.2.1 H.2.2.2.2 Tryz.call138 Tryz.func138 (by kernel_rfl) (by kernel_rfl) B138_ok
/-- pentimento/view.Of -/
theorem B139_ok : ecF Tryz.prog cs0 false (maskLv 223) Tryz.f139.ntmps [(3, [0, 1, 2, 3, 4, 5], [0, 0, 0, 4, 15, 31])] (fun _ _ _ _ => .bad) (bodyOf Tryz.f139) = B139 := by kernel_rfl
theorem F139_ok (H : Hy F) : EFOk T Tryz.prog F 139 F139 := ef_code H.1 H.2.1 H.2.2.1 H.2.2.2.1 H.2.2.2.2 Tryz.call139 Tryz.func139 (by kernel_rfl) (by kernel_rfl) B139_ok
/-- (*pentimento/tree.Tree).Get -/
theorem B140_ok : ecF Tryz.prog cs0 false (maskLv 4299169651) Tryz.f140.ntmps [] (fun _ _ _ _ => .bad) (bodyOf Tryz.f140) = B140 := by kernel_rfl
theorem F140_ok (H : Hy F) : EFOk T Tryz.prog F 140 F140 := ef_code H.1 H.2.1 H.2.2.1 H.2.2.2.1 H.2.2.2.2 Tryz.call140 Tryz.func140 (by kernel_rfl) (by kernel_rfl) B140_ok
/-- pentimento/past.See -/
theorem B141_ok : ecF Tryz.prog cs0 true (maskLv 1091508215) Tryz.f141.ntmps [] (fun f ps _ _ => .rf (ooOf [] f) (ps.toList.map Ps.of) 0 1) (bodyOf Tryz.f141) = B141 := by kernel_rfl
theorem rc0_ok : ecR Tryz.prog cs0 (maskLv 1091508215) Tryz.f141.ntmps [] (rfQ Tryz.f141).2.2.1 = rc0 := by kernel_rfl
theorem rc1_ok : ecR Tryz.prog cs0 (maskLv 1091508215) Tryz.f141.ntmps [] (rfQ Tryz.f141).2.2.2 = rc1 := by kernel_rfl
theorem rq141_ok : rfsOf (bodyOf Tryz.f141) = [rfQ Tryz.f141] := by kernel_rfl
theorem ps141_ok : psB (maskLv 1091508215) Tryz.f141.ntmps (rfQ Tryz.f141).2.1.toList = true := by kernel_rfl
noncomputable def re141 : RE := ⟨(rfQ Tryz.f141).2.2.1, (rfQ Tryz.f141).2.2.2, maskLv 1091508215, Tryz.f141.ntmps⟩
theorem F141_ok (H : Hy F) {RT : Nat → Nat → Option RE} (hT : T.ofL = tbL RT) (hRT : RT 0 1 = some re141) : EFOk T Tryz.prog F 141 F141 := ef_rf H.1 hT H.2.1 H.2.2.1 H.2.2.2.1 H.2.2.2.2 Tryz.call141 Tryz.func141 (by kernel_rfl) (by kernel_rfl) rq141_ok ps141_ok hRT B141_ok
/-- (*pentimento/lock.Locks).made -/
theorem B142_ok : ecF Tryz.prog cs0 false (maskLv 5) Tryz.f142.ntmps [] (fun _ _ _ _ => .bad) (bodyOf Tryz.f142) = B142 := by kernel_rfl
theorem F142_ok (H : Hy F) : EFOk T Tryz.prog F 142 F142 := ef_code H.1 H.2.1 H.2.2.1 H.2.2.2.1 H.2.2.2.2 Tryz.call142 Tryz.func142 (by kernel_rfl) (by kernel_rfl) B142_ok
/-- (*pentimento/log.Log).made -/
theorem B143_ok : ecF Tryz.prog cs0 false (maskLv 5) Tryz.f143.ntmps [] (fun _ _ _ _ => .bad) (bodyOf Tryz.f143) = B143 := by kernel_rfl
theorem F143_ok (H : Hy F) : EFOk T Tryz.prog F 143 F143 := ef_code H.1 H.2.1 H.2.2.1 H.2.2.2.1 H.2.2.2.2 Tryz.call143 Tryz.func143 (by kernel_rfl) (by kernel_rfl) B143_ok
/-- (*pentimento/log.Log).Room -/
theorem B144_ok : ecF Tryz.prog cs0 false (maskLv 37) Tryz.f144.ntmps [(3, [0, 1, 2, 3, 4, 5, 6, 7, 8, 9, 10, 11, 12, 17, 18, 19, 20, 13, 14, 15, 16, 21, 22, 23], [0, 1, 3, 7, 15, 0, 32, 96, 224, 0, 512, 1536, 3584, 7680, 16352, 32736, 65535, 0, 131072, 393216, 917504, 2097151, 4194303, 8388607])] (fun _ _ _ _ => .bad) (bodyOf Tryz.f144) = B144 := by kernel_rfl
theorem F144_ok (H : Hy F) : EFOk T Tryz.prog F 144 F144 := ef_code H.1 H.2.1 H.2.2.1 H.2.2.2.1 H.2.2.2.2 Tryz.call144 Tryz.func144 (by kernel_rfl) (by kernel_rfl) B144_ok
/-- (*pentimento/txn.Table).made -/
theorem B145_ok : ecF Tryz.prog cs0 false (maskLv 5) Tryz.f145.ntmps [] (fun _ _ _ _ => .bad) (bodyOf Tryz.f145) = B145 := by kernel_rfl
theorem F145_ok (H : Hy F) : EFOk T Tryz.prog F 145 F145 := ef_code H.1 H.2.1 H.2.2.1 H.2.2.2.1 H.2.2.2.2 Tryz.call145 Tryz.func145 (by kernel_rfl) (by kernel_rfl) B145_ok
/-- (*pentimento/txn.Table).id -/
theorem B146_ok : ecF Tryz.prog cs0 false (maskLv 33555853) Tryz.f146.ntmps [(3, [0, 1, 2, 3, 4, 5, 6, 7, 8], [0, 1, 3, 7, 0, 16, 48, 112, 255])] (fun _ _ _ _ => .bad) (bodyOf Tryz.f146) = B146 := by kernel_rfl
theorem F146_ok (H : Hy F) : EFOk T Tryz.prog F 146 F146 := ef_code H.1 H.2.1 H.2.2.1 H.2.2.2.1 H.2.2.2.2 Tryz.call146 Tryz.func146 (by kernel_rfl) (by kernel_rfl) B146_ok
/-- (*pentimento/txn.Table).on -/
theorem B147_ok : ecF Tryz.prog cs0 false (maskLv 1049171) Tryz.f147.ntmps [] (fun _ _ _ _ => .bad) (bodyOf Tryz.f147) = B147 := by kernel_rfl
theorem F147_ok (H : Hy F) : EFOk T Tryz.prog F 147 F147 := ef_code H.1 H.2.1 H.2.2.1 H.2.2.2.1 H.2.2.2.2 Tryz.call147 Tryz.func147 (by kernel_rfl) (by kernel_rfl) B147_ok
/-- (*pentimento/lock.Locks).Take -/
theorem B148_ok : ecF Tryz.prog cs0 false (maskLv 344134783943) Tryz.f148.ntmps [] (fun _ _ _ _ => .bad) (bodyOf Tryz.f148) = B148 := by kernel_rfl
theorem F148_ok (H : Hy F) : EFOk T Tryz.prog F 148 F148 := ef_code H.1 H.2.1 H.2.2.1 H.2.2.2.1 H.2.2.2.2 Tryz.call148 Tryz.func148 (by kernel_rfl) (by kernel_rfl) B148_ok
/-- (*pentimento/write.Write).writes$1 -/
theorem B149_ok : ecF Tryz.prog cs0 false (maskLv 543) Tryz.f149.ntmps [(1, [0, 1, 2, 3, 4, 5, 6], [0, 1, 3, 7, 0, 0, 63])] (fun _ _ _ _ => .bad) (bodyOf Tryz.f149) = B149 := by kernel_rfl
theorem F149_ok (H : Hy F) : EFOk T Tryz.prog F 149 F149 := ef_code H.1 H.2.1 H.2.2.1 H.2.2.2.1 H.2.2.2.2 Tryz.call149 Tryz.func149 (by kernel_rfl) (by kernel_rfl) B149_ok
/-- (*pentimento/lock.Locks).Let -/
theorem B150_ok : ecF Tryz.prog cs0 false (maskLv 134220231) Tryz.f150.ntmps [] (fun _ _ _ _ => .bad) (bodyOf Tryz.f150) = B150 := by kernel_rfl
theorem F150_ok (H : Hy F) : EFOk T Tryz.prog F 150 F150 := ef_code H.1 H.2.1 H.2.2.1 H.2.2.2.1 H.2.2.2.2 Tryz.call150 Tryz.func150 (by kernel_rfl) (by kernel_rfl) B150_ok
/-- pentimento/view.Sees -/
theorem B151_ok : ecF Tryz.prog cs0 false (maskLv 311) Tryz.f151.ntmps [] (fun _ _ _ _ => .bad) (bodyOf Tryz.f151) = B151 := by kernel_rfl
theorem F151_ok (H : Hy F) : EFOk T Tryz.prog F 151 F151 := ef_code H.1 H.2.1 H.2.2.1 H.2.2.2.1 H.2.2.2.2 Tryz.call151 Tryz.func151 (by kernel_rfl) (by kernel_rfl) B151_ok
/-- pentimento/write.bare -/
theorem B152_ok : ecF Tryz.prog cs0 false (maskLv 7) Tryz.f152.ntmps [] (fun _ _ _ _ => .bad) (bodyOf Tryz.f152) = B152 := by kernel_rfl
theorem F152_ok (H : Hy F) : EFOk T Tryz.prog F 152 F152 := ef_code H.1 H.2.1 H.2.2.1 H.2.2.2.1 H.2.2.2.2 Tryz.call152 Tryz.func152 (by kernel_rfl) (by kernel_rfl) B152_ok
/-- pentimento/row.Size -/
theorem B153_ok : ecF Tryz.prog cs0 false (maskLv 39) Tryz.f153.ntmps [] (fun _ _ _ _ => .bad) (bodyOf Tryz.f153) = B153 := by kernel_rfl
theorem F153_ok (H : Hy F) : EFOk T Tryz.prog F 153 F153 := ef_code H.1 H.2.1 H.2.2.1 H.2.2.2.1 H.2.2.2.2 Tryz.call153 Tryz.func153 (by kernel_rfl) (by kernel_rfl) B153_ok
/-- (*pentimento/write.Write).keeping -/
theorem B154_ok : ecF Tryz.prog cs0 false (maskLv 2630703011357731216714629095) Tryz.f154.ntmps [(3, [0, 1, 2, 3, 4], [0, 0, 0, 5, 15]), (8, [0, 1, 2, 3, 4], [0, 0, 0, 5, 15]), (11, [0, 2, 3, 1, 4, 5, 6, 7, 8, 9], [0, 1, 0, 4, 15, 31, 63, 63, 127, 511]), (13, [0, 1, 2, 3, 4], [0, 0, 0, 5, 15]), (16, [0, 2, 1, 3, 4], [0, 1, 0, 3, 15]), (18, [0, 1, 2, 3, 4], [0, 0, 0, 5, 15]), (22, [0, 1, 2, 3, 4], [0, 0, 0, 5, 15]), (25, [0, 1, 2, 3, 4, 5, 6], [0, 1, 0, 3, 11, 31, 63]), (27, [0, 1, 4, 5, 2, 3, 6, 7, 8], [0, 0, 2, 7, 0, 0, 15, 95, 255])] (fun _ _ _ _ => .bad) (bodyOf Tryz.f154) = B154 := by kernel_rfl
theorem F154_ok (H : Hy F) : EFOk T Tryz.prog F 154 F154 := ef_code H.1 H.2.1 H.2.2.1 H.2.2.2.1 H.2.2.2.2 Tryz.call154 Tryz.func154 (by kernel_rfl) (by kernel_rfl) B154_ok
/-- (*pentimento/write.Write).place -/
theorem B155_ok : ecF Tryz.prog cs0 false (maskLv 562967166853051) Tryz.f155.ntmps [(1, [0, 1, 2, 3, 4, 5, 6, 7, 8, 9, 10, 11, 12, 13, 14], [0, 1, 3, 7, 0, 16, 63, 127, 255, 255, 255, 0, 2559, 7167, 16383])] (fun _ _ _ _ => .bad) (bodyOf Tryz.f155) = B155 := by kernel_rfl
theorem F155_ok (H : Hy F) : EFOk T Tryz.prog F 155 F155 := ef_code H.1 H.2.1 H.2.2.1 H.2.2.2.1 H.2.2.2.2 Tryz.call155 Tryz.func155 (by kernel_rfl) (by kernel_rfl) B155_ok
/-- (*pentimento/write.Write).keeps -/
theorem B156_ok : ecF Tryz.prog cs0 false (maskLv 16583) Tryz.f156.ntmps [] (fun _ _ _ _ => .bad) (bodyOf Tryz.f156) = B156 := by kernel_rfl
theorem F156_ok (H : Hy F) : EFOk T Tryz.prog F 156 F156 := ef_code H.1 H.2.1 H.2.2.1 H.2.2.2.1 H.2.2.2.2 Tryz.call156 Tryz.func156 (by kernel_rfl) (by kernel_rfl) B156_ok
/-- pentimento/seg.Of -/
theorem B157_ok : ecF Tryz.prog cs0 false (maskLv 5) Tryz.f157.ntmps [] (fun _ _ _ _ => .bad) (bodyOf Tryz.f157) = B157 := by kernel_rfl
theorem F157_ok (H : Hy F) : EFOk T Tryz.prog F 157 F157 := ef_code H.1 H.2.1 H.2.2.1 H.2.2.2.1 H.2.2.2.2 Tryz.call157 Tryz.func157 (by kernel_rfl) (by kernel_rfl) B157_ok
/-- pentimento/seg.find -/
theorem B158_ok : ecF Tryz.prog cs0 false (maskLv 16631) Tryz.f158.ntmps [] (fun _ _ _ _ => .bad) (bodyOf Tryz.f158) = B158 := by kernel_rfl
theorem F158_ok (H : Hy F) : EFOk T Tryz.prog F 158 F158 := ef_code H.1 H.2.1 H.2.2.1 H.2.2.2.1 H.2.2.2.2 Tryz.call158 Tryz.func158 (by kernel_rfl) (by kernel_rfl) B158_ok
/-- (*pentimento/write.Write).using$1 -/
theorem B159_ok : ecF Tryz.prog cs0 false (maskLv 47) Tryz.f159.ntmps [] (fun _ _ _ _ => .bad) (bodyOf Tryz.f159) = B159 := by kernel_rfl
theorem F159_ok (H : Hy F) : EFOk T Tryz.prog F 159 F159 := ef_code H.1 H.2.1 H.2.2.1 H.2.2.2.1 H.2.2.2.2 Tryz.call159 Tryz.func159 (by kernel_rfl) (by kernel_rfl) B159_ok
/-- (*pentimento/lock.Locks).Drop -/
theorem B160_ok : ecF Tryz.prog cs0 false (maskLv 30899) Tryz.f160.ntmps [] (fun _ _ _ _ => .bad) (bodyOf Tryz.f160) = B160 := by kernel_rfl
theorem F160_ok (H : Hy F) : EFOk T Tryz.prog F 160 F160 := ef_code H.1 H.2.1 H.2.2.1 H.2.2.2.1 H.2.2.2.2 Tryz.call160 Tryz.func160 (by kernel_rfl) (by kernel_rfl) B160_ok
/-- pentimento/seg.Put -/
theorem B161_ok : ecF Tryz.prog cs0 false (maskLv 2216742094783) Tryz.f161.ntmps [] (fun _ _ _ _ => .bad) (bodyOf Tryz.f161) = B161 := by kernel_rfl
theorem F161_ok (H : Hy F) : EFOk T Tryz.prog F 161 F161 := ef_code H.1 H.2.1 H.2.2.1 H.2.2.2.1 H.2.2.2.2 Tryz.call161 Tryz.func161 (by kernel_rfl) (by kernel_rfl) B161_ok
/-- pentimento/log.begin -/
theorem B162_ok : ecF Tryz.prog cs0 false (maskLv 5) Tryz.f162.ntmps [] (fun _ _ _ _ => .bad) (bodyOf Tryz.f162) = B162 := by kernel_rfl
theorem F162_ok (H : Hy F) : EFOk T Tryz.prog F 162 F162 := ef_code H.1 H.2.1 H.2.2.1 H.2.2.2.1 H.2.2.2.2 Tryz.call162 Tryz.func162 (by kernel_rfl) (by kernel_rfl) B162_ok
/-- (*pentimento/log.Log).writes -/
theorem B163_ok : ecF Tryz.prog cs0 false (maskLv 5619) Tryz.f163.ntmps [(3, [0, 1, 2, 3, 4, 5, 6, 7, 8, 9, 10, 11, 12, 13, 14], [0, 1, 3, 7, 0, 0, 32, 0, 128, 384, 896, 1920, 4064, 8191, 16383]), (9, [0, 1, 2, 3, 4, 5, 7, 8, 6, 9, 10], [0, 1, 3, 7, 0, 0, 48, 0, 128, 511, 1023])] (fun _ _ _ _ => .bad) (bodyOf Tryz.f163) = B163 := by kernel_rfl
theorem F163_ok (H : Hy F) : EFOk T Tryz.prog F 163 F163 := ef_code H.1 H.2.1 H.2.2.1 H.2.2.2.1 H.2.2.2.2 Tryz.call163 Tryz.func163 (by kernel_rfl) (by kernel_rfl) B163_ok
/-- (*pentimento/disk.Disk).Sync -/
theorem B164_ok : ecF Tryz.prog cs0 false (maskLv 983597) Tryz.f164.ntmps [(8, [0, 1, 2, 3, 4, 5, 6, 7, 8, 9], [0, 1, 3, 7, 0, 16, 0, 64, 255, 511])] (fun _ _ _ _ => .bad) (bodyOf Tryz.f164) = B164 := by kernel_rfl
theorem F164_ok (H : Hy F) : EFOk T Tryz.prog F 164 F164 := ef_code H.1 H.2.1 H.2.2.1 H.2.2.2.1 H.2.2.2.2 Tryz.call164 Tryz.func164 (by kernel_rfl) (by kernel_rfl) B164_ok
/-- slices.BinarySearch[[]uint64,uint64] -/
theorem B165_ok : ecF Tryz.prog cs0 false (maskLv 134251507) Tryz.f165.ntmps [] (fun _ _ _ _ => .bad) (bodyOf Tryz.f165) = B165 := by kernel_rfl
theorem F165_ok (H : Hy F) : EFOk T Tryz.prog F 165 F165 := ef_code H.1 H.2.1 H.2.2.1 H.2.2.2.1 H.2.2.2.2 Tryz.call165 Tryz.func165 (by kernel_rfl) (by kernel_rfl) B165_ok
/-- pentimento/rec.Decode$1 -/
theorem B166_ok : ecF Tryz.prog cs0 false (maskLv 239) Tryz.f166.ntmps [] (fun _ _ _ _ => .bad) (bodyOf Tryz.f166) = B166 := by kernel_rfl
theorem F166_ok (H : Hy F) : EFOk T Tryz.prog F 166 F166 := ef_code H.1 H.2.1 H.2.2.1 H.2.2.2.1 H.2.2.2.2 Tryz.call166 Tryz.func166 (by kernel_rfl) (by kernel_rfl) B166_ok
/-- pentimento/word.Get -/
theorem B167_ok : ecF Tryz.prog cs0 false (maskLv 8187282887) Tryz.f167.ntmps [] (fun _ _ _ _ => .bad) (bodyOf Tryz.f167) = B167 := by kernel_rfl
theorem F167_ok (H : Hy F) : EFOk T Tryz.prog F 167 F167 := ef_code H.1 H.2.1 H.2.2.1 H.2.2.2.1 H.2.2.2.2 Tryz.call167 Tryz.func167 (by kernel_rfl) (by kernel_rfl) B167_ok
/-- pentimento/rec.Encode -/
theorem B168_ok : ecF Tryz.prog cs0 false (maskLv 287) Tryz.f168.ntmps [] (fun _ _ _ _ => .bad) (bodyOf Tryz.f168) = B168 := by kernel_rfl
theorem F168_ok (H : Hy F) : EFOk T Tryz.prog F 168 F168 := ef_code H.1 H.2.1 H.2.2.1 H.2.2.2.1 H.2.2.2.2 Tryz.call168 Tryz.func168 (by kernel_rfl) (by kernel_rfl) B168_ok
/-- pentimento/rec.Undone -/
theorem B169_ok : ecF Tryz.prog cs0 false (maskLv 7) Tryz.f169.ntmps [] (fun _ _ _ _ => .bad) (bodyOf Tryz.f169) = B169 := by kernel_rfl
theorem F169_ok (H : Hy F) : EFOk T Tryz.prog F 169 F169 := ef_code H.1 H.2.1 H.2.2.1 H.2.2.2.1 H.2.2.2.2 Tryz.call169 Tryz.func169 (by kernel_rfl) (by kernel_rfl) B169_ok
/-- pentimento/past.Undo -/
theorem B170_ok : ecF Tryz.prog cs0 true (maskLv 525051) Tryz.f170.ntmps [] (fun _ _ _ _ => .bad) (bodyOf Tryz.f170) = B170 := by kernel_rfl
theorem F170_ok (H : Hy F) : EFOk T Tryz.prog F 170 F170 := ef_code H.1 H.2.1 H.2.2.1 H.2.2.2.1 H.2.2.2.2 Tryz.call170 Tryz.func170 (by kernel_rfl) (by kernel_rfl) B170_ok
/-- (*pentimento/act.Act).Pool -/
theorem B171_ok : ecF Tryz.prog cs0 false (maskLv 21) Tryz.f171.ntmps [] (fun _ _ _ _ => .bad) (bodyOf Tryz.f171) = B171 := by kernel_rfl
theorem F171_ok (H : Hy F) : EFOk T Tryz.prog F 171 F171 := ef_code H.1 H.2.1 H.2.2.1 H.2.2.2.1 H.2.2.2.2 Tryz.call171 Tryz.func171 (by kernel_rfl) (by kernel_rfl) B171_ok
/-- (*pentimento/write.Write).undoes -/
theorem B172_ok : ecF Tryz.prog cs0 false (maskLv 309485157400083833053900731) Tryz.f172.ntmps [(1, [0, 1, 2, 3, 4, 5, 6, 7, 8, 9, 10, 11, 12, 13, 14], [0, 1, 3, 7, 0, 16, 63, 127, 255, 255, 255, 0, 2559, 7167, 16383]), (15, [0, 1, 2, 3, 4, 5, 6, 7, 8, 9, 10], [0, 1, 0, 7, 15, 31, 0, 64, 255, 511, 1023])] (fun _ _ _ _ => .bad) (bodyOf Tryz.f172) = B172 := by kernel_rfl
theorem F172_ok (H : Hy F) : EFOk T Tryz.prog F 172 F172 := ef_code H.1 H.2.1 H.2.2.1 H.2.2.2.1 H.2.2.2.2 Tryz.call172 Tryz.func172 (by kernel_rfl) (by kernel_rfl) B172_ok
/-- (*pentimento/write.Write).back$1 -/
theorem B173_ok : ecF Tryz.prog cs0 false (maskLv 15) Tryz.f173.ntmps [] (fun _ _ _ _ => .bad) (bodyOf Tryz.f173) = B173 := by kernel_rfl
theorem F173_ok (H : Hy F) : EFOk T Tryz.prog F 173 F173 := ef_code H.1 H.2.1 H.2.2.1 H.2.2.2.1 H.2.2.2.2 Tryz.call173 Tryz.func173 (by kernel_rfl) (by kernel_rfl) B173_ok
/-- slices.Clone[[]uint64,uint64] -/
theorem B176_ok : ecF Tryz.prog cs0 false (maskLv 21) Tryz.f176.ntmps [] (fun _ _ _ _ => .bad) (bodyOf Tryz.f176) = B176 := by kernel_rfl
theorem F176_ok (H : Hy F) : EFOk T Tryz.prog F 176 F176 := ef_code H.1 H.2.1 H.2.2.1 H.2.2.2.1 H.2.2.2.2 Tryz.call176 Tryz.func176 (by kernel_rfl) (by kernel_rfl) B176_ok
/-- cmp.Compare[uint64] -/
theorem B181_ok : ecF Tryz.prog cs0 false (maskLv 604275) Tryz.f181.ntmps [] (fun _ _ _ _ => .bad) (bodyOf Tryz.f181) = B181 := by kernel_rfl
theorem F181_ok (H : Hy F) : EFOk T Tryz.prog F 181 F181 := ef_code H.1 H.2.1 H.2.2.1 H.2.2.2.1 H.2.2.2.2 Tryz.call181 Tryz.func181 (by kernel_rfl) (by kernel_rfl) B181_ok
/-- pentimento/undo.Decode$1 -/
theorem B183_ok : ecF Tryz.prog cs0 false (maskLv 239) Tryz.f183.ntmps [] (fun _ _ _ _ => .bad) (bodyOf Tryz.f183) = B183 := by kernel_rfl
theorem F183_ok (H : Hy F) : EFOk T Tryz.prog F 183 F183 := ef_code H.1 H.2.1 H.2.2.1 H.2.2.2.1 H.2.2.2.2 Tryz.call183 Tryz.func183 (by kernel_rfl) (by kernel_rfl) B183_ok
/-- pentimento/row.Decode -/
theorem B184_ok : ecF Tryz.prog cs0 false (maskLv 1152921504606847485) Tryz.f184.ntmps [(3, [0, 3, 5, 8, 1, 2, 4, 6, 7, 9, 10, 11, 12, 13, 14], [0, 1, 3, 0, 11, 0, 59, 123, 0, 379, 891, 2043, 4095, 0, 16383])] (fun _ _ _ _ => .bad) (bodyOf Tryz.f184) = B184 := by kernel_rfl
theorem F184_ok (H : Hy F) : EFOk T Tryz.prog F 184 F184 := ef_code H.1 H.2.1 H.2.2.1 H.2.2.2.1 H.2.2.2.2 Tryz.call184 Tryz.func184 (by kernel_rfl) (by kernel_rfl) B184_ok
/-- pentimento/undo.May -/
theorem B185_ok : ecF Tryz.prog cs0 false (maskLv 281857228807) Tryz.f185.ntmps [] (fun _ _ _ _ => .bad) (bodyOf Tryz.f185) = B185 := by kernel_rfl
theorem F185_ok (H : Hy F) : EFOk T Tryz.prog F 185 F185 := ef_code H.1 H.2.1 H.2.2.1 H.2.2.2.1 H.2.2.2.2 Tryz.call185 Tryz.func185 (by kernel_rfl) (by kernel_rfl) B185_ok
/-- pentimento/pentimentoref16.set -/
theorem B189_ok : ecF Tryz.prog cs0 false (maskLv 536871879) Tryz.f189.ntmps [] (fun _ _ _ _ => .bad) (bodyOf Tryz.f189) = B189 := by kernel_rfl
theorem F189_ok (H : Hy F) : EFOk T Tryz.prog F 189 F189 := ef_code H.1 H.2.1 H.2.2.1 H.2.2.2.1 H.2.2.2.2 Tryz.call189 Tryz.func189 (by kernel_rfl) (by kernel_rfl) B189_ok
/-- pentimento/disk.New -/
theorem B190_ok : ecF Tryz.prog cs0 false (maskLv 525) Tryz.f190.ntmps [] (fun _ _ _ _ => .bad) (bodyOf Tryz.f190) = B190 := by kernel_rfl
theorem F190_ok (H : Hy F) : EFOk T Tryz.prog F 190 F190 := ef_code H.1 H.2.1 H.2.2.1 H.2.2.2.1 H.2.2.2.2 Tryz.call190 Tryz.func190 (by kernel_rfl) (by kernel_rfl) B190_ok
/-- pentimento/page.Encode -/
theorem B191_ok : ecF Tryz.prog cs0 false (maskLv 275892933631) Tryz.f191.ntmps [(15, [0, 1, 2, 3, 4, 5, 6, 7, 8, 9], [0, 1, 3, 7, 0, 16, 63, 127, 255, 511])] (fun _ _ _ _ => .bad) (bodyOf Tryz.f191) = B191 := by kernel_rfl
theorem F191_ok (H : Hy F) : EFOk T Tryz.prog F 191 F191 := ef_code H.1 H.2.1 H.2.2.1 H.2.2.2.1 H.2.2.2.2 Tryz.call191 Tryz.func191 (by kernel_rfl) (by kernel_rfl) B191_ok
/-- pentimento/twin.Write -/
theorem B192_ok : ecF Tryz.prog cs0 false (maskLv 2080915215) Tryz.f192.ntmps [] (fun _ _ _ _ => .bad) (bodyOf Tryz.f192) = B192 := by kernel_rfl
theorem F192_ok (H : Hy F) : EFOk T Tryz.prog F 192 F192 := ef_code H.1 H.2.1 H.2.2.1 H.2.2.2.1 H.2.2.2.2 Tryz.call192 Tryz.func192 (by kernel_rfl) (by kernel_rfl) B192_ok
/-- pentimento/log.New -/
theorem B193_ok : ecF Tryz.prog cs0 false (maskLv 132879) Tryz.f193.ntmps [] (fun _ _ _ _ => .bad) (bodyOf Tryz.f193) = B193 := by kernel_rfl
theorem F193_ok (H : Hy F) : EFOk T Tryz.prog F 193 F193 := ef_code H.1 H.2.1 H.2.2.1 H.2.2.2.1 H.2.2.2.2 Tryz.call193 Tryz.func193 (by kernel_rfl) (by kernel_rfl) B193_ok
/-- (*pentimento/pentimentolaw17.Desk).begin -/
theorem B194_ok : ecF Tryz.prog cs0 false (maskLv 68719477235) Tryz.f194.ntmps [(1, [0, 1, 2, 3, 4, 5, 6, 7, 8, 9, 10, 11, 12, 13, 14, 15, 16, 17, 18, 19, 20, 21, 22, 23], [0, 1, 3, 7, 0, 16, 48, 112, 0, 256, 768, 1792, 0, 4096, 12288, 28672, 61440, 0, 262143, 524287, 1048575, 1048575, 2097151, 8388607])] (fun _ _ _ _ => .bad) (bodyOf Tryz.f194) = B194 := by kernel_rfl
theorem F194_ok (H : Hy F) : EFOk T Tryz.prog F 194 F194 := ef_code H.1 H.2.1 H.2.2.1 H.2.2.2.1 H.2.2.2.2 Tryz.call194 Tryz.func194 (by kernel_rfl) (by kernel_rfl) B194_ok
/-- pentimento/node.keyOf -/
theorem B195_ok : ecF Tryz.prog cs0 false (maskLv 1049083) Tryz.f195.ntmps [] (fun _ _ _ _ => .bad) (bodyOf Tryz.f195) = B195 := by kernel_rfl
theorem F195_ok (H : Hy F) : EFOk T Tryz.prog F 195 F195 := ef_code H.1 H.2.1 H.2.2.1 H.2.2.2.1 H.2.2.2.2 Tryz.call195 Tryz.func195 (by kernel_rfl) (by kernel_rfl) B195_ok
/-- (*pentimento/row.reading).num -/
theorem B196_ok : ecF Tryz.prog cs0 false (maskLv 115) Tryz.f196.ntmps [(1, [0, 1, 2, 3, 4, 5, 6, 7, 8, 9, 10, 11, 12, 13, 14, 15, 16], [0, 1, 3, 7, 15, 0, 32, 96, 224, 480, 0, 2047, 4095, 8191, 8191, 16383, 65535])] (fun _ _ _ _ => .bad) (bodyOf Tryz.f196) = B196 := by kernel_rfl
theorem F196_ok (H : Hy F) : EFOk T Tryz.prog F 196 F196 := ef_code H.1 H.2.1 H.2.2.1 H.2.2.2.1 H.2.2.2.2 Tryz.call196 Tryz.func196 (by kernel_rfl) (by kernel_rfl) B196_ok
/-- (*pentimento/pool.Pool).made -/
theorem B198_ok : ecF Tryz.prog cs0 false (maskLv 5) Tryz.f198.ntmps [] (fun _ _ _ _ => .bad) (bodyOf Tryz.f198) = B198 := by kernel_rfl
theorem F198_ok (H : Hy F) : EFOk T Tryz.prog F 198 F198 := ef_code H.1 H.2.1 H.2.2.1 H.2.2.2.1 H.2.2.2.2 Tryz.call198 Tryz.func198 (by kernel_rfl) (by kernel_rfl) B198_ok
/-- pentimento/twin.Read -/
theorem B199_ok : ecF Tryz.prog cs0 false (maskLv 140743930847175) Tryz.f199.ntmps [] (fun _ _ _ _ => .bad) (bodyOf Tryz.f199) = B199 := by kernel_rfl
theorem F199_ok (H : Hy F) : EFOk T Tryz.prog F 199 F199 := ef_code H.1 H.2.1 H.2.2.1 H.2.2.2.1 H.2.2.2.2 Tryz.call199 Tryz.func199 (by kernel_rfl) (by kernel_rfl) B199_ok
/-- pentimento/page.Decode -/
theorem B200_ok : ecF Tryz.prog cs0 false (maskLv 40564819209406269672297458593789) Tryz.f200.ntmps [(6, [0, 1, 2, 3, 4, 5, 6, 7, 8, 9, 10, 11, 12, 13, 14, 15, 16, 17], [0, 0, 2, 6, 14, 0, 32, 0, 128, 384, 896, 2016, 4095, 8191, 16383, 16383, 32767, 131071])] (fun _ _ _ _ => .bad) (bodyOf Tryz.f200) = B200 := by kernel_rfl
theorem F200_ok (H : Hy F) : EFOk T Tryz.prog F 200 F200 := ef_code H.1 H.2.1 H.2.2.1 H.2.2.2.1 H.2.2.2.2 Tryz.call200 Tryz.func200 (by kernel_rfl) (by kernel_rfl) B200_ok
/-- (*pentimento/pool.Pool).brings -/
theorem B201_ok : ecF Tryz.prog cs0 false (maskLv 8315) Tryz.f201.ntmps [(4, [0, 1, 2, 3, 4, 5, 6, 7, 8], [0, 1, 3, 7, 0, 0, 32, 127, 255]), (5, [0, 1, 2, 3, 4, 5, 6, 7], [0, 1, 3, 7, 0, 16, 0, 127])] (fun _ _ _ _ => .bad) (bodyOf Tryz.f201) = B201 := by kernel_rfl
theorem F201_ok (H : Hy F) : EFOk T Tryz.prog F 201 F201 := ef_code H.1 H.2.1 H.2.2.1 H.2.2.2.1 H.2.2.2.2 Tryz.call201 Tryz.func201 (by kernel_rfl) (by kernel_rfl) B201_ok
/-- pentimento/pool.copied -/
theorem B202_ok : ecF Tryz.prog cs0 false (maskLv 7) Tryz.f202.ntmps [] (fun _ _ _ _ => .bad) (bodyOf Tryz.f202) = B202 := by kernel_rfl
theorem F202_ok (H : Hy F) : EFOk T Tryz.prog F 202 F202 := ef_code H.1 H.2.1 H.2.2.1 H.2.2.2.1 H.2.2.2.2 Tryz.call202 Tryz.func202 (by kernel_rfl) (by kernel_rfl) B202_ok
/-- (*pentimento/pool.Pool).pins -/
theorem B203_ok : ecF Tryz.prog cs0 false (maskLv 59) Tryz.f203.ntmps [(1, [0, 1, 2, 3, 4, 5, 7, 6, 8, 9, 10, 11, 12], [0, 0, 2, 6, 14, 0, 62, 0, 128, 510, 1023, 2047, 4095]), (2, [0, 1, 2, 3, 4, 5, 6, 7, 8, 9, 10, 11], [0, 1, 3, 7, 0, 16, 48, 112, 0, 496, 1023, 2047])] (fun _ _ _ _ => .bad) (bodyOf Tryz.f203) = B203 := by kernel_rfl
theorem F203_ok (H : Hy F) : EFOk T Tryz.prog F 203 F203 := ef_code H.1 H.2.1 H.2.2.1 H.2.2.2.1 H.2.2.2.2 Tryz.call203 Tryz.func203 (by kernel_rfl) (by kernel_rfl) B203_ok
/-- pentimento/row.May -/
theorem B204_ok : ecF Tryz.prog cs0 false (maskLv 7) Tryz.f204.ntmps [] (fun _ _ _ _ => .bad) (bodyOf Tryz.f204) = B204 := by kernel_rfl
theorem F204_ok (H : Hy F) : EFOk T Tryz.prog F 204 F204 := ef_code H.1 H.2.1 H.2.2.1 H.2.2.2.1 H.2.2.2.2 Tryz.call204 Tryz.func204 (by kernel_rfl) (by kernel_rfl) B204_ok
/-- pentimento/row.number -/
theorem B205_ok : ecF Tryz.prog cs0 false (maskLv 51) Tryz.f205.ntmps [] (fun _ _ _ _ => .bad) (bodyOf Tryz.f205) = B205 := by kernel_rfl
theorem F205_ok (H : Hy F) : EFOk T Tryz.prog F 205 F205 := ef_code H.1 H.2.1 H.2.2.1 H.2.2.2.1 H.2.2.2.2 Tryz.call205 Tryz.func205 (by kernel_rfl) (by kernel_rfl) B205_ok
/-- strings.Repeat -/
theorem B206_ok : ecF Tryz.prog cs0 false (maskLv 10404955393597153145976807980556275) Tryz.f206.ntmps [] (fun _ _ _ _ => .bad) (bodyOf Tryz.f206) = B206 := by kernel_rfl
theorem F206_ok (H : Hy F) : EFOk T Tryz.prog F 206 F206 := ef_code H.1 H.2.1 H.2.2.1 H.2.2.2.1 H.2.2.2.2 Tryz.call206 Tryz.func206 (by kernel_rfl) (by kernel_rfl) B206_ok
/-- pentimento/op.Encode -/
theorem B207_ok : ecF Tryz.prog cs0 false (maskLv 68979524541) Tryz.f207.ntmps [] (fun _ _ _ _ => .bad) (bodyOf Tryz.f207) = B207 := by kernel_rfl
theorem F207_ok (H : Hy F) : EFOk T Tryz.prog F 207 F207 := ef_code H.1 H.2.1 H.2.2.1 H.2.2.2.1 H.2.2.2.2 Tryz.call207 Tryz.func207 (by kernel_rfl) (by kernel_rfl) B207_ok
/-- slices.Sort[[]uint32,uint32] -/
theorem B208_ok : ecF Tryz.prog cs0 false (maskLv 5) Tryz.f208.ntmps [] (fun _ _ _ _ => .bad) (bodyOf Tryz.f208) = B208 := by kernel_rfl
theorem F208_ok (H : Hy F) : EFOk T Tryz.prog F 208 F208 := ef_code H.1 H.2.1 H.2.2.1 H.2.2.2.1 H.2.2.2.2 Tryz.call208 Tryz.func208 (by kernel_rfl) (by kernel_rfl) B208_ok
/-- slices.Compact[[]uint32,uint32] -/
theorem B209_ok : ecF Tryz.prog cs0 false (maskLv 17596514574653) Tryz.f209.ntmps [(6, [0, 1, 2, 3, 4, 5, 6, 7, 8, 9], [0, 0, 3, 7, 0, 0, 32, 112, 240, 511]), (11, [0, 1, 2, 3, 4, 5, 6, 7, 8, 9], [0, 0, 3, 7, 0, 0, 32, 112, 240, 511])] (fun _ _ _ _ => .bad) (bodyOf Tryz.f209) = B209 := by kernel_rfl
theorem F209_ok (H : Hy F) : EFOk T Tryz.prog F 209 F209 := ef_code H.1 H.2.1 H.2.2.1 H.2.2.2.1 H.2.2.2.2 Tryz.call209 Tryz.func209 (by kernel_rfl) (by kernel_rfl) B209_ok
/-- pentimento/op.Apply -/
theorem B210_ok : ecF Tryz.prog cs0 false (maskLv 283674268402143) Tryz.f210.ntmps [(4, [1, 2, 4, 0, 3, 5, 6], [0, 0, 2, 7, 0, 31, 63])] (fun _ _ _ _ => .bad) (bodyOf Tryz.f210) = B210 := by kernel_rfl
theorem F210_ok (H : Hy F) : EFOk T Tryz.prog F 210 F210 := ef_code H.1 H.2.1 H.2.2.1 H.2.2.2.1 H.2.2.2.2 Tryz.call210 Tryz.func210 (by kernel_rfl) (by kernel_rfl) B210_ok
/-- pentimento/frame.Encode -/
theorem B211_ok : ecF Tryz.prog cs0 false (maskLv 131443) Tryz.f211.ntmps [] (fun _ _ _ _ => .bad) (bodyOf Tryz.f211) = B211 := by kernel_rfl
theorem F211_ok (H : Hy F) : EFOk T Tryz.prog F 211 F211 := ef_code H.1 H.2.1 H.2.2.1 H.2.2.2.1 H.2.2.2.2 Tryz.call211 Tryz.func211 (by kernel_rfl) (by kernel_rfl) B211_ok
/-- pentimento/node.with -/
theorem B212_ok : ecF Tryz.prog cs0 false (maskLv 72057903275611935) Tryz.f212.ntmps [] (fun _ _ _ _ => .bad) (bodyOf Tryz.f212) = B212 := by kernel_rfl
theorem F212_ok (H : Hy F) : EFOk T Tryz.prog F 212 F212 := ef_code H.1 H.2.1 H.2.2.1 H.2.2.2.1 H.2.2.2.2 Tryz.call212 Tryz.func212 (by kernel_rfl) (by kernel_rfl) B212_ok
/-- pentimento/space.Check -/
theorem B213_ok : ecF Tryz.prog cs0 false (maskLv 17179869191) Tryz.f213.ntmps [(1, [0, 1, 2, 3, 4, 5, 6, 7, 8, 9, 10, 11, 12, 13, 14, 15, 16, 17, 18, 19, 20, 21, 22, 23, 24, 25, 26, 27, 28, 29, 30, 31], [0, 1, 3, 7, 15, 31, 63, 127, 255, 511, 1023, 2047, 4095, 8191, 16383, 32767, 65535, 131071, 262143, 524287, 1048575, 2097151, 4194303, 8388607, 16777215, 33554431, 67108863, 8388607, 142606335, 536870911, 1073741823, 2147483647])] (fun _ _ _ _ => .bad) (bodyOf Tryz.f213) = B213 := by kernel_rfl
theorem F213_ok (H : Hy F) : EFOk T Tryz.prog F 213 F213 := ef_code H.1 H.2.1 H.2.2.1 H.2.2.2.1 H.2.2.2.2 Tryz.call213 Tryz.func213 (by kernel_rfl) (by kernel_rfl) B213_ok
/-- pentimento/space.free -/
theorem B214_ok : ecF Tryz.prog cs0 true (maskLv 2101791) Tryz.f214.ntmps [] (fun _ _ _ _ => .bad) (bodyOf Tryz.f214) = B214 := by kernel_rfl
theorem F214_ok (H : Hy F) : EFOk T Tryz.prog F 214 F214 := ef_code H.1 H.2.1 H.2.2.1 H.2.2.2.1 H.2.2.2.2 Tryz.call214 Tryz.func214 (by kernel_rfl) (by kernel_rfl) B214_ok
/-- pentimento/space.patch -/
theorem B215_ok : ecF Tryz.prog cs0 false (maskLv 119) Tryz.f215.ntmps [(2, [0, 1, 2, 3, 4, 5, 6, 7, 8, 9, 10, 11, 12, 13, 14], [0, 1, 0, 0, 8, 24, 56, 0, 248, 0, 1016, 2040, 4088, 8191, 16383])] (fun _ _ _ _ => .bad) (bodyOf Tryz.f215) = B215 := by kernel_rfl
theorem F215_ok (H : Hy F) : EFOk T Tryz.prog F 215 F215 := ef_code H.1 H.2.1 H.2.2.1 H.2.2.2.1 H.2.2.2.2 Tryz.call215 Tryz.func215 (by kernel_rfl) (by kernel_rfl) B215_ok
/-- strings.Compare -/
theorem B218_ok : ecF Tryz.prog cs0 false (maskLv 19) Tryz.f218.ntmps [] (fun _ _ _ _ => .bad) (bodyOf Tryz.f218) = B218 := by kernel_rfl
theorem F218_ok (H : Hy F) : EFOk T Tryz.prog F 218 F218 := ef_code H.1 H.2.1 H.2.2.1 H.2.2.2.1 H.2.2.2.2 Tryz.call218 Tryz.func218 (by kernel_rfl) (by kernel_rfl) B218_ok
/-- pentimento/txn.New -/
theorem B219_ok : ecF Tryz.prog cs0 false (maskLv 524339) Tryz.f219.ntmps [] (fun _ _ _ _ => .bad) (bodyOf Tryz.f219) = B219 := by kernel_rfl
theorem F219_ok (H : Hy F) : EFOk T Tryz.prog F 219 F219 := ef_code H.1 H.2.1 H.2.2.1 H.2.2.2.1 H.2.2.2.2 Tryz.call219 Tryz.func219 (by kernel_rfl) (by kernel_rfl) B219_ok
/-- pentimento/lock.New -/
theorem B220_ok : ecF Tryz.prog cs0 false (maskLv 1) Tryz.f220.ntmps [] (fun _ _ _ _ => .bad) (bodyOf Tryz.f220) = B220 := by kernel_rfl
theorem F220_ok (H : Hy F) : EFOk T Tryz.prog F 220 F220 := ef_code H.1 H.2.1 H.2.2.1 H.2.2.2.1 H.2.2.2.2 Tryz.call220 Tryz.func220 (by kernel_rfl) (by kernel_rfl) B220_ok
/-- slices.Sorted[uint64] -/
theorem B221_ok : ecF Tryz.prog cs0 false (maskLv 13) Tryz.f221.ntmps [] (fun _ _ _ _ => .bad) (bodyOf Tryz.f221) = B221 := by kernel_rfl
theorem F221_ok (H : Hy F) : EFOk T Tryz.prog F 221 F221 := ef_code H.1 H.2.1 H.2.2.1 H.2.2.2.1 H.2.2.2.2 Tryz.call221 Tryz.func221 (by kernel_rfl) (by kernel_rfl) B221_ok
/-- maps.Keys[map[uint64]pentimento/api.Txn,uint64,pentimento/api.Txn] -/
theorem B222_ok : ecF Tryz.prog cs0 false (maskLv 7) Tryz.f222.ntmps [] (fun _ _ _ _ => .bad) (bodyOf Tryz.f222) = B222 := by kernel_rfl
theorem F222_ok (H : Hy F) : EFOk T Tryz.prog F 222 F222 := ef_code H.1 H.2.1 H.2.2.1 H.2.2.2.1 H.2.2.2.2 Tryz.call222 Tryz.func222 (by kernel_rfl) (by kernel_rfl) B222_ok
/-- slices.DeleteFunc[[]uint64,uint64] -/
theorem B223_ok : ecF Tryz.prog cs0 false (maskLv 537399539) Tryz.f223.ntmps [] (fun _ _ _ _ => .bad) (bodyOf Tryz.f223) = B223 := by kernel_rfl
theorem F223_ok (H : Hy F) : EFOk T Tryz.prog F 223 F223 := ef_code H.1 H.2.1 H.2.2.1 H.2.2.2.1 H.2.2.2.2 Tryz.call223 Tryz.func223 (by kernel_rfl) (by kernel_rfl) B223_ok
/-- pentimento/view.Of$1 -/
theorem B224_ok : ecF Tryz.prog cs0 false (maskLv 23) Tryz.f224.ntmps [] (fun _ _ _ _ => .bad) (bodyOf Tryz.f224) = B224 := by kernel_rfl
theorem F224_ok (H : Hy F) : EFOk T Tryz.prog F 224 F224 := ef_code H.1 H.2.1 H.2.2.1 H.2.2.2.1 H.2.2.2.2 Tryz.call224 Tryz.func224 (by kernel_rfl) (by kernel_rfl) B224_ok
/-- slices.Sort[[]uint64,uint64] -/
theorem B225_ok : ecF Tryz.prog cs0 false (maskLv 5) Tryz.f225.ntmps [] (fun _ _ _ _ => .bad) (bodyOf Tryz.f225) = B225 := by kernel_rfl
theorem F225_ok (H : Hy F) : EFOk T Tryz.prog F 225 F225 := ef_code H.1 H.2.1 H.2.2.1 H.2.2.2.1 H.2.2.2.2 Tryz.call225 Tryz.func225 (by kernel_rfl) (by kernel_rfl) B225_ok
/-- slices.Compact[[]uint64,uint64] -/
theorem B226_ok : ecF Tryz.prog cs0 false (maskLv 17596514574653) Tryz.f226.ntmps [(6, [0, 1, 2, 3, 4, 5, 6, 7, 8, 9], [0, 0, 3, 7, 0, 0, 32, 112, 240, 511]), (11, [0, 1, 2, 3, 4, 5, 6, 7, 8, 9], [0, 0, 3, 7, 0, 0, 32, 112, 240, 511])] (fun _ _ _ _ => .bad) (bodyOf Tryz.f226) = B226 := by kernel_rfl
theorem F226_ok (H : Hy F) : EFOk T Tryz.prog F 226 F226 := ef_code H.1 H.2.1 H.2.2.1 H.2.2.2.1 H.2.2.2.2 Tryz.call226 Tryz.func226 (by kernel_rfl) (by kernel_rfl) B226_ok
/-- pentimento/past.versions -/
theorem B227_ok : ecF Tryz.prog cs0 false (maskLv 31) Tryz.f227.ntmps [] (fun _ _ _ _ => .bad) (bodyOf Tryz.f227) = B227 := by kernel_rfl
theorem F227_ok (H : Hy F) : EFOk T Tryz.prog F 227 F227 := ef_code H.1 H.2.1 H.2.2.1 H.2.2.2.1 H.2.2.2.2 Tryz.call227 Tryz.func227 (by kernel_rfl) (by kernel_rfl) B227_ok
/-- slices.Contains[[]uint64,uint64] -/
theorem B228_ok : ecF Tryz.prog cs0 false (maskLv 19) Tryz.f228.ntmps [] (fun _ _ _ _ => .bad) (bodyOf Tryz.f228) = B228 := by kernel_rfl
theorem F228_ok (H : Hy F) : EFOk T Tryz.prog F 228 F228 := ef_code H.1 H.2.1 H.2.2.1 H.2.2.2.1 H.2.2.2.2 Tryz.call228 Tryz.func228 (by kernel_rfl) (by kernel_rfl) B228_ok
/-- pentimento/undo.Encode -/
theorem B229_ok : ecF Tryz.prog cs0 false (maskLv 4294967935) Tryz.f229.ntmps [(3, [0, 1, 2, 4, 5, 8, 9, 10, 11, 14, 15, 16, 17, 3, 6, 7, 12, 13, 18, 19, 20], [0, 1, 3, 7, 0, 16, 63, 127, 0, 256, 768, 1792, 3967, 8191, 0, 16384, 49152, 114688, 253823, 524287, 1048575])] (fun _ _ _ _ => .bad) (bodyOf Tryz.f229) = B229 := by kernel_rfl
theorem F229_ok (H : Hy F) : EFOk T Tryz.prog F 229 F229 := ef_code H.1 H.2.1 H.2.2.1 H.2.2.2.1 H.2.2.2.2 Tryz.call229 Tryz.func229 (by kernel_rfl) (by kernel_rfl) B229_ok
/-- pentimento/seg.Add -/
theorem B230_ok : ecF Tryz.prog cs0 false (maskLv 8657175415) Tryz.f230.ntmps [(9, [0, 1, 2, 3, 4, 5, 6, 7, 8, 9, 10, 11, 12], [0, 1, 0, 4, 15, 0, 32, 0, 0, 480, 31, 2047, 4095])] (fun _ _ _ _ => .bad) (bodyOf Tryz.f230) = B230 := by kernel_rfl
theorem F230_ok (H : Hy F) : EFOk T Tryz.prog F 230 F230 := ef_code H.1 H.2.1 H.2.2.1 H.2.2.2.1 H.2.2.2.2 Tryz.call230 Tryz.func230 (by kernel_rfl) (by kernel_rfl) B230_ok
/-- (*pentimento/write.Write).fresh -/
theorem B231_ok : ecF Tryz.prog cs0 false (maskLv 4432440065839) Tryz.f231.ntmps [(11, [0, 1, 4, 5, 2, 3, 6, 7, 8], [0, 0, 2, 7, 0, 0, 15, 95, 255])] (fun _ _ _ _ => .bad) (bodyOf Tryz.f231) = B231 := by kernel_rfl
theorem F231_ok (H : Hy F) : EFOk T Tryz.prog F 231 F231 := ef_code H.1 H.2.1 H.2.2.1 H.2.2.2.1 H.2.2.2.2 Tryz.call231 Tryz.func231 (by kernel_rfl) (by kernel_rfl) B231_ok
/-- pentimento/seg.Rows -/
theorem B232_ok : ecF Tryz.prog cs0 false (maskLv 68723474911) Tryz.f232.ntmps [] (fun _ _ _ _ => .bad) (bodyOf Tryz.f232) = B232 := by kernel_rfl
theorem F232_ok (H : Hy F) : EFOk T Tryz.prog F 232 F232 := ef_code H.1 H.2.1 H.2.2.1 H.2.2.2.1 H.2.2.2.2 Tryz.call232 Tryz.func232 (by kernel_rfl) (by kernel_rfl) B232_ok
/-- slices.BinarySearchFunc[[]pentimento/api.Seg,pentimento/api.Seg,uint64] -/
theorem B233_ok : ecF Tryz.prog cs0 false (maskLv 2147618759) Tryz.f233.ntmps [] (fun _ _ _ _ => .bad) (bodyOf Tryz.f233) = B233 := by kernel_rfl
theorem F233_ok (H : Hy F) : EFOk T Tryz.prog F 233 F233 := ef_code H.1 H.2.1 H.2.2.1 H.2.2.2.1 H.2.2.2.2 Tryz.call233 Tryz.func233 (by kernel_rfl) (by kernel_rfl) B233_ok
/-- pentimento/seg.find$1 -/
theorem B234_ok : ecF Tryz.prog cs0 false (maskLv 23) Tryz.f234.ntmps [] (fun _ _ _ _ => .bad) (bodyOf Tryz.f234) = B234 := by kernel_rfl
theorem F234_ok (H : Hy F) : EFOk T Tryz.prog F 234 F234 := ef_code H.1 H.2.1 H.2.2.1 H.2.2.2.1 H.2.2.2.2 Tryz.call234 Tryz.func234 (by kernel_rfl) (by kernel_rfl) B234_ok
/-- (*pentimento/lock.Locks).Held -/
theorem B235_ok : ecF Tryz.prog cs0 false (maskLv 4276851) Tryz.f235.ntmps [] (fun _ _ _ _ => .bad) (bodyOf Tryz.f235) = B235 := by kernel_rfl
theorem F235_ok (H : Hy F) : EFOk T Tryz.prog F 235 F235 := ef_join H.1 H.2.1 H.2.2.1 H.2.2.2.1 H.2.2.2.2 Tryz.call235 Tryz.func235 (by kernel_rfl) (by kernel_rfl) B235_ok
/-- pentimento/seg.Encode -/
theorem B236_ok : ecF Tryz.prog cs0 false (maskLv 159) Tryz.f236.ntmps [] (fun _ _ _ _ => .bad) (bodyOf Tryz.f236) = B236 := by kernel_rfl
theorem F236_ok (H : Hy F) : EFOk T Tryz.prog F 236 F236 := ef_code H.1 H.2.1 H.2.2.1 H.2.2.2.1 H.2.2.2.2 Tryz.call236 Tryz.func236 (by kernel_rfl) (by kernel_rfl) B236_ok
/-- pentimento/word.Put -/
theorem B237_ok : ecF Tryz.prog cs0 false (maskLv 117440755) Tryz.f237.ntmps [] (fun _ _ _ _ => .bad) (bodyOf Tryz.f237) = B237 := by kernel_rfl
theorem F237_ok (H : Hy F) : EFOk T Tryz.prog F 237 F237 := ef_code H.1 H.2.1 H.2.2.1 H.2.2.2.1 H.2.2.2.2 Tryz.call237 Tryz.func237 (by kernel_rfl) (by kernel_rfl) B237_ok
/-- (*pentimento/disk.Disk).Write -/
theorem B238_ok : ecF Tryz.prog cs0 false (maskLv 268437703) Tryz.f238.ntmps [(7, [0, 1, 2, 3, 4, 5, 6, 7, 8, 9, 10, 11, 12, 13, 14, 15], [0, 0, 2, 6, 14, 0, 0, 64, 192, 448, 992, 2016, 4094, 8191, 16383, 32767])] (fun _ _ _ _ => .bad) (bodyOf Tryz.f238) = B238 := by kernel_rfl
theorem F238_ok (H : Hy F) : EFOk T Tryz.prog F 238 F238 := ef_code H.1 H.2.1 H.2.2.1 H.2.2.2.1 H.2.2.2.2 Tryz.call238 Tryz.func238 (by kernel_rfl) (by kernel_rfl) B238_ok
/-- (*pentimento/log.Log).sector -/
theorem B239_ok : ecF Tryz.prog cs0 false (maskLv 19) Tryz.f239.ntmps [(1, [0, 1, 2, 3, 4, 5, 6, 7, 8, 9, 10, 11, 12, 13, 14], [0, 1, 3, 7, 0, 16, 0, 64, 192, 448, 960, 2032, 4080, 8191, 16383])] (fun _ _ _ _ => .bad) (bodyOf Tryz.f239) = B239 := by kernel_rfl
theorem F239_ok (H : Hy F) : EFOk T Tryz.prog F 239 F239 := ef_code H.1 H.2.1 H.2.2.1 H.2.2.2.1 H.2.2.2.2 Tryz.call239 Tryz.func239 (by kernel_rfl) (by kernel_rfl) B239_ok
/-- (*pentimento/disk.Disk).may -/
theorem B240_ok : ecF Tryz.prog cs0 false (maskLv 77) Tryz.f240.ntmps [] (fun _ _ _ _ => .bad) (bodyOf Tryz.f240) = B240 := by kernel_rfl
theorem F240_ok (H : Hy F) : EFOk T Tryz.prog F 240 F240 := ef_code H.1 H.2.1 H.2.2.1 H.2.2.2.1 H.2.2.2.2 Tryz.call240 Tryz.func240 (by kernel_rfl) (by kernel_rfl) B240_ok
/-- (*pentimento/disk.Disk).burns -/
theorem B241_ok : ecF Tryz.prog cs0 false (maskLv 65) Tryz.f241.ntmps [] (fun _ _ _ _ => .bad) (bodyOf Tryz.f241) = B241 := by kernel_rfl
theorem F241_ok (H : Hy F) : EFOk T Tryz.prog F 241 F241 := ef_code H.1 H.2.1 H.2.2.1 H.2.2.2.1 H.2.2.2.2 Tryz.call241 Tryz.func241 (by kernel_rfl) (by kernel_rfl) B241_ok
/-- cmp.Less[uint64] -/
theorem B242_ok : ecF Tryz.prog cs0 false (maskLv 19) Tryz.f242.ntmps [] (fun _ _ _ _ => .bad) (bodyOf Tryz.f242) = B242 := by kernel_rfl
theorem F242_ok (H : Hy F) : EFOk T Tryz.prog F 242 F242 := ef_code H.1 H.2.1 H.2.2.1 H.2.2.2.1 H.2.2.2.2 Tryz.call242 Tryz.func242 (by kernel_rfl) (by kernel_rfl) B242_ok
/-- pentimento/word.Cut -/
theorem B244_ok : ecF Tryz.prog cs0 false (maskLv 134217927) Tryz.f244.ntmps [] (fun _ _ _ _ => .bad) (bodyOf Tryz.f244) = B244 := by kernel_rfl
theorem F244_ok (H : Hy F) : EFOk T Tryz.prog F 244 F244 := ef_code H.1 H.2.1 H.2.2.1 H.2.2.2.1 H.2.2.2.2 Tryz.call244 Tryz.func244 (by kernel_rfl) (by kernel_rfl) B244_ok
/-- pentimento/rec.May -/
theorem B245_ok : ecF Tryz.prog cs0 false (maskLv 23) Tryz.f245.ntmps [(2, [0, 1, 2, 3, 4, 5, 6, 7], [0, 1, 3, 3, 11, 31, 63, 127])] (fun _ _ _ _ => .bad) (bodyOf Tryz.f245) = B245 := by kernel_rfl
theorem F245_ok (H : Hy F) : EFOk T Tryz.prog F 245 F245 := ef_code H.1 H.2.1 H.2.2.1 H.2.2.2.1 H.2.2.2.2 Tryz.call245 Tryz.func245 (by kernel_rfl) (by kernel_rfl) B245_ok
/-- pentimento/rec.bytes -/
theorem B246_ok : ecF Tryz.prog cs0 false (maskLv 43556807906931870641367519094983949811967) Tryz.f246.ntmps [(5, [0, 1, 2, 4, 5, 8, 9, 3, 6, 7, 10, 11, 12], [0, 1, 3, 7, 0, 16, 63, 127, 0, 256, 895, 2047, 4095]), (13, [0, 1, 2, 3, 4, 7, 8, 9, 10, 13, 14, 16, 5, 6, 11, 12, 15, 17, 18, 19, 20, 21, 22, 23, 24, 25, 26, 27, 28, 29, 30], [0, 0, 2, 6, 14, 30, 63, 0, 128, 384, 896, 1982, 4095, 0, 8192, 32767, 0, 69566, 200638, 462782, 987070, 2035646, 4132798, 8327102, 16715710, 33492926, 67047358, 134156222, 268373950, 8388607, 1073741823]), (17, [0, 1, 2, 5, 6, 8, 3, 4, 7, 9, 10], [0, 0, 2, 6, 15, 0, 32, 127, 0, 255, 1023]), (19, [0, 1, 2, 5, 6, 8, 3, 4, 7, 9, 10, 11, 12, 13, 14, 15], [0, 0, 2, 6, 15, 0, 32, 127, 0, 270, 782, 1806, 3854, 7950, 1023, 32767]), (21, [0, 1, 2, 5, 6, 3, 4, 7, 8, 9], [0, 0, 2, 6, 15, 0, 32, 110, 255, 511])] (fun _ _ _ _ => .bad) (bodyOf Tryz.f246) = B246 := by kernel_rfl
theorem F246_ok (H : Hy F) : EFOk T Tryz.prog F 246 F246 := ef_code H.1 H.2.1 H.2.2.1 H.2.2.2.1 H.2.2.2.2 Tryz.call246 Tryz.func246 (by kernel_rfl) (by kernel_rfl) B246_ok
/-- pentimento/seg.Get -/
theorem B247_ok : ecF Tryz.prog cs0 false (maskLv 17179935223) Tryz.f247.ntmps [] (fun _ _ _ _ => .bad) (bodyOf Tryz.f247) = B247 := by kernel_rfl
theorem F247_ok (H : Hy F) : EFOk T Tryz.prog F 247 F247 := ef_code H.1 H.2.1 H.2.2.1 H.2.2.2.1 H.2.2.2.2 Tryz.call247 Tryz.func247 (by kernel_rfl) (by kernel_rfl) B247_ok
/-- cmp.isNaN[uint64] -/
theorem B249_ok : ecF Tryz.prog cs0 false (maskLv 5) Tryz.f249.ntmps [] (fun _ _ _ _ => .bad) (bodyOf Tryz.f249) = B249 := by kernel_rfl
theorem F249_ok (H : Hy F) : EFOk T Tryz.prog F 249 F249 := ef_code H.1 H.2.1 H.2.2.1 H.2.2.2.1 H.2.2.2.2 Tryz.call249 Tryz.func249 (by kernel_rfl) (by kernel_rfl) B249_ok
/-- pentimento/row.Decode$1 -/
theorem B250_ok : ecF Tryz.prog cs0 false (maskLv 3) Tryz.f250.ntmps [(1, [0, 1, 2, 3, 4, 5], [0, 0, 2, 6, 15, 31])] (fun _ _ _ _ => .bad) (bodyOf Tryz.f250) = B250 := by kernel_rfl
theorem F250_ok (H : Hy F) : EFOk T Tryz.prog F 250 F250 := ef_code H.1 H.2.1 H.2.2.1 H.2.2.2.1 H.2.2.2.2 Tryz.call250 Tryz.func250 (by kernel_rfl) (by kernel_rfl) B250_ok
/-- (*pentimento/row.reading).text -/
theorem B251_ok : ecF Tryz.prog cs0 false (maskLv 115) Tryz.f251.ntmps [(1, [0, 1, 2, 3, 4, 5, 6, 7, 8, 9, 10, 11, 12, 13, 14, 15, 16], [0, 1, 3, 7, 15, 0, 32, 96, 224, 480, 0, 2047, 4095, 8191, 8191, 16383, 65535])] (fun _ _ _ _ => .bad) (bodyOf Tryz.f251) = B251 := by kernel_rfl
theorem F251_ok (H : Hy F) : EFOk T Tryz.prog F 251 F251 := ef_code H.1 H.2.1 H.2.2.1 H.2.2.2.1 H.2.2.2.2 Tryz.call251 Tryz.func251 (by kernel_rfl) (by kernel_rfl) B251_ok
/-- pentimento/space.bit -/
theorem B252_ok : ecF Tryz.prog cs0 false (maskLv 115) Tryz.f252.ntmps [] (fun _ _ _ _ => .bad) (bodyOf Tryz.f252) = B252 := by kernel_rfl
theorem F252_ok (H : Hy F) : EFOk T Tryz.prog F 252 F252 := ef_code H.1 H.2.1 H.2.2.1 H.2.2.2.1 H.2.2.2.2 Tryz.call252 Tryz.func252 (by kernel_rfl) (by kernel_rfl) B252_ok
/-- (*pentimento/page.head).all -/
theorem B253_ok : ecF Tryz.prog cs0 false (maskLv 983049) Tryz.f253.ntmps [] (fun _ _ _ _ => .bad) (bodyOf Tryz.f253) = B253 := by kernel_rfl
theorem F253_ok (H : Hy F) : EFOk T Tryz.prog F 253 F253 := ef_code H.1 H.2.1 H.2.2.1 H.2.2.2.1 H.2.2.2.2 Tryz.call253 Tryz.func253 (by kernel_rfl) (by kernel_rfl) B253_ok
/-- pentimento/slot.New -/
theorem B254_ok : ecF Tryz.prog cs0 false (maskLv 1053) Tryz.f254.ntmps [] (fun _ _ _ _ => .bad) (bodyOf Tryz.f254) = B254 := by kernel_rfl
theorem F254_ok (H : Hy F) : EFOk T Tryz.prog F 254 F254 := ef_code H.1 H.2.1 H.2.2.1 H.2.2.2.1 H.2.2.2.2 Tryz.call254 Tryz.func254 (by kernel_rfl) (by kernel_rfl) B254_ok
/-- (*pentimento/slot.Area).Put -/
theorem B255_ok : ecF Tryz.prog cs0 false (maskLv 2214741959) Tryz.f255.ntmps [(12, [0, 1, 2, 3, 4, 5, 6, 7, 8, 9, 10, 11, 12, 13, 14, 15, 16, 17], [0, 1, 3, 7, 0, 16, 63, 0, 128, 384, 896, 0, 0, 4096, 12288, 32640, 65408, 131071])] (fun _ _ _ _ => .bad) (bodyOf Tryz.f255) = B255 := by kernel_rfl
theorem F255_ok (H : Hy F) : EFOk T Tryz.prog F 255 F255 := ef_code H.1 H.2.1 H.2.2.1 H.2.2.2.1 H.2.2.2.2 Tryz.call255 Tryz.func255 (by kernel_rfl) (by kernel_rfl) B255_ok
/-- pentimento/sum.Seal -/
theorem B256_ok : ecF Tryz.prog cs0 false (maskLv 13) Tryz.f256.ntmps [] (fun _ _ _ _ => .bad) (bodyOf Tryz.f256) = B256 := by kernel_rfl
theorem F256_ok (H : Hy F) : EFOk T Tryz.prog F 256 F256 := ef_code H.1 H.2.1 H.2.2.1 H.2.2.2.1 H.2.2.2.2 Tryz.call256 Tryz.func256 (by kernel_rfl) (by kernel_rfl) B256_ok
/-- (*pentimento/slot.Area).Bytes -/
theorem B257_ok : ecF Tryz.prog cs0 false (maskLv 21) Tryz.f257.ntmps [] (fun _ _ _ _ => .bad) (bodyOf Tryz.f257) = B257 := by kernel_rfl
theorem F257_ok (H : Hy F) : EFOk T Tryz.prog F 257 F257 := ef_code H.1 H.2.1 H.2.2.1 H.2.2.2.1 H.2.2.2.2 Tryz.call257 Tryz.func257 (by kernel_rfl) (by kernel_rfl) B257_ok
/-- pentimento/twin.placed -/
theorem B258_ok : ecF Tryz.prog cs0 false (maskLv 1223) Tryz.f258.ntmps [] (fun _ _ _ _ => .bad) (bodyOf Tryz.f258) = B258 := by kernel_rfl
theorem F258_ok (H : Hy F) : EFOk T Tryz.prog F 258 F258 := ef_code H.1 H.2.1 H.2.2.1 H.2.2.2.1 H.2.2.2.2 Tryz.call258 Tryz.func258 (by kernel_rfl) (by kernel_rfl) B258_ok
/-- pentimento/twin.may -/
theorem B259_ok : ecF Tryz.prog cs0 false (maskLv 137439079183) Tryz.f259.ntmps [] (fun _ _ _ _ => .bad) (bodyOf Tryz.f259) = B259 := by kernel_rfl
theorem F259_ok (H : Hy F) : EFOk T Tryz.prog F 259 F259 := ef_code H.1 H.2.1 H.2.2.1 H.2.2.2.1 H.2.2.2.2 Tryz.call259 Tryz.func259 (by kernel_rfl) (by kernel_rfl) B259_ok
/-- pentimento/twin.homes -/
theorem B260_ok : ecF Tryz.prog cs0 false (maskLv 425807) Tryz.f260.ntmps [] (fun _ _ _ _ => .bad) (bodyOf Tryz.f260) = B260 := by kernel_rfl
theorem F260_ok (H : Hy F) : EFOk T Tryz.prog F 260 F260 := ef_code H.1 H.2.1 H.2.2.1 H.2.2.2.1 H.2.2.2.2 Tryz.call260 Tryz.func260 (by kernel_rfl) (by kernel_rfl) B260_ok
/-- pentimento/twin.marks -/
theorem B261_ok : ecF Tryz.prog cs0 false (maskLv 127) Tryz.f261.ntmps [] (fun _ _ _ _ => .bad) (bodyOf Tryz.f261) = B261 := by kernel_rfl
theorem F261_ok (H : Hy F) : EFOk T Tryz.prog F 261 F261 := ef_code H.1 H.2.1 H.2.2.1 H.2.2.2.1 H.2.2.2.2 Tryz.call261 Tryz.func261 (by kernel_rfl) (by kernel_rfl) B261_ok
/-- pentimento/twin.mark -/
theorem B262_ok : ecF Tryz.prog cs0 false (maskLv 122989) Tryz.f262.ntmps [] (fun _ _ _ _ => .bad) (bodyOf Tryz.f262) = B262 := by kernel_rfl
theorem F262_ok (H : Hy F) : EFOk T Tryz.prog F 262 F262 := ef_code H.1 H.2.1 H.2.2.1 H.2.2.2.1 H.2.2.2.2 Tryz.call262 Tryz.func262 (by kernel_rfl) (by kernel_rfl) B262_ok
/-- pentimento/twin.steps -/
theorem B263_ok : ecF Tryz.prog cs0 false (maskLv 33781) Tryz.f263.ntmps [] (fun _ _ _ _ => .bad) (bodyOf Tryz.f263) = B263 := by kernel_rfl
theorem F263_ok (H : Hy F) : EFOk T Tryz.prog F 263 F263 := ef_code H.1 H.2.1 H.2.2.1 H.2.2.2.1 H.2.2.2.2 Tryz.call263 Tryz.func263 (by kernel_rfl) (by kernel_rfl) B263_ok
/-- pentimento/twin.clear -/
theorem B264_ok : ecF Tryz.prog cs0 false (maskLv 1) Tryz.f264.ntmps [] (fun _ _ _ _ => .bad) (bodyOf Tryz.f264) = B264 := by kernel_rfl
theorem F264_ok (H : Hy F) : EFOk T Tryz.prog F 264 F264 := ef_code H.1 H.2.1 H.2.2.1 H.2.2.2.1 H.2.2.2.2 Tryz.call264 Tryz.func264 (by kernel_rfl) (by kernel_rfl) B264_ok
/-- pentimento/log.may -/
theorem B265_ok : ecF Tryz.prog cs0 false (maskLv 4879) Tryz.f265.ntmps [] (fun _ _ _ _ => .bad) (bodyOf Tryz.f265) = B265 := by kernel_rfl
theorem F265_ok (H : Hy F) : EFOk T Tryz.prog F 265 F265 := ef_code H.1 H.2.1 H.2.2.1 H.2.2.2.1 H.2.2.2.2 Tryz.call265 Tryz.func265 (by kernel_rfl) (by kernel_rfl) B265_ok
/-- pentimento/pool.New -/
theorem B266_ok : ecF Tryz.prog cs0 false (maskLv 240518724639) Tryz.f266.ntmps [(7, [0, 1, 2, 3, 4, 6, 5, 7, 8, 9, 10, 11], [0, 0, 0, 0, 0, 16, 0, 64, 0, 511, 1023, 2047])] (fun _ _ _ _ => .bad) (bodyOf Tryz.f266) = B266 := by kernel_rfl
theorem F266_ok (H : Hy F) : EFOk T Tryz.prog F 266 F266 := ef_code H.1 H.2.1 H.2.2.1 H.2.2.2.1 H.2.2.2.2 Tryz.call266 Tryz.func266 (by kernel_rfl) (by kernel_rfl) B266_ok
/-- pentimento/act.New -/
theorem B267_ok : ecF Tryz.prog cs0 false (maskLv 2099) Tryz.f267.ntmps [] (fun _ _ _ _ => .bad) (bodyOf Tryz.f267) = B267 := by kernel_rfl
theorem F267_ok (H : Hy F) : EFOk T Tryz.prog F 267 F267 := ef_code H.1 H.2.1 H.2.2.1 H.2.2.2.1 H.2.2.2.2 Tryz.call267 Tryz.func267 (by kernel_rfl) (by kernel_rfl) B267_ok
/-- pentimento/node.keyOf$1 -/
theorem B268_ok : ecF Tryz.prog cs0 false (maskLv 31) Tryz.f268.ntmps [] (fun _ _ _ _ => .bad) (bodyOf Tryz.f268) = B268 := by kernel_rfl
theorem F268_ok (H : Hy F) : EFOk T Tryz.prog F 268 F268 := ef_code H.1 H.2.1 H.2.2.1 H.2.2.2.1 H.2.2.2.2 Tryz.call268 Tryz.func268 (by kernel_rfl) (by kernel_rfl) B268_ok
/-- (*pentimento/disk.Disk).Len -/
theorem B270_ok : ecF Tryz.prog cs0 false (maskLv 21) Tryz.f270.ntmps [] (fun _ _ _ _ => .bad) (bodyOf Tryz.f270) = B270 := by kernel_rfl
theorem F270_ok (H : Hy F) : EFOk T Tryz.prog F 270 F270 := ef_code H.1 H.2.1 H.2.2.1 H.2.2.2.1 H.2.2.2.2 Tryz.call270 Tryz.func270 (by kernel_rfl) (by kernel_rfl) B270_ok
/-- (*pentimento/disk.Disk).Read -/
theorem B271_ok : ecF Tryz.prog cs0 true (maskLv 38134616443) Tryz.f271.ntmps [(4, [0, 1, 2, 3, 4, 5, 6, 7, 8, 9, 10], [0, 1, 3, 7, 7, 23, 55, 119, 247, 511, 1023]), (10, [0, 1, 2, 3, 4, 5, 6, 7, 8, 9], [0, 1, 3, 7, 0, 31, 63, 127, 255, 511])] (fun f ps _ _ => .rf (ooOf [] f) (ps.toList.map Ps.of) 2 3) (bodyOf Tryz.f271) = B271 := by kernel_rfl
theorem rc2_ok : ecR Tryz.prog cs0 (maskLv 38134616443) Tryz.f271.ntmps [] (rfQ Tryz.f271).2.2.1 = rc2 := by kernel_rfl
theorem rc3_ok : ecR Tryz.prog cs0 (maskLv 38134616443) Tryz.f271.ntmps [] (rfQ Tryz.f271).2.2.2 = rc3 := by kernel_rfl
theorem rq271_ok : rfsOf (bodyOf Tryz.f271) = [rfQ Tryz.f271] := by kernel_rfl
theorem ps271_ok : psB (maskLv 38134616443) Tryz.f271.ntmps (rfQ Tryz.f271).2.1.toList = true := by kernel_rfl
noncomputable def re271 : RE := ⟨(rfQ Tryz.f271).2.2.1, (rfQ Tryz.f271).2.2.2, maskLv 38134616443, Tryz.f271.ntmps⟩
theorem F271_ok (H : Hy F) {RT : Nat → Nat → Option RE} (hT : T.ofL = tbL RT) (hRT : RT 2 3 = some re271) : EFOk T Tryz.prog F 271 F271 := ef_rf H.1 hT H.2.1 H.2.2.1 H.2.2.2.1 H.2.2.2.2 Tryz.call271 Tryz.func271 (by kernel_rfl) (by kernel_rfl) rq271_ok ps271_ok hRT B271_ok
/-- pentimento/sum.Open -/
theorem B272_ok : ecF Tryz.prog cs0 false (maskLv 131101) Tryz.f272.ntmps [] (fun _ _ _ _ => .bad) (bodyOf Tryz.f272) = B272 := by kernel_rfl
theorem F272_ok (H : Hy F) : EFOk T Tryz.prog F 272 F272 := ef_code H.1 H.2.1 H.2.2.1 H.2.2.2.1 H.2.2.2.2 Tryz.call272 Tryz.func272 (by kernel_rfl) (by kernel_rfl) B272_ok
/-- pentimento/slot.Load -/
theorem B273_ok : ecF Tryz.prog cs0 false (maskLv 65565) Tryz.f273.ntmps [] (fun _ _ _ _ => .bad) (bodyOf Tryz.f273) = B273 := by kernel_rfl
theorem F273_ok (H : Hy F) : EFOk T Tryz.prog F 273 F273 := ef_code H.1 H.2.1 H.2.2.1 H.2.2.2.1 H.2.2.2.2 Tryz.call273 Tryz.func273 (by kernel_rfl) (by kernel_rfl) B273_ok
/-- (*pentimento/slot.Area).Len -/
theorem B274_ok : ecF Tryz.prog cs0 false (maskLv 21) Tryz.f274.ntmps [] (fun _ _ _ _ => .bad) (bodyOf Tryz.f274) = B274 := by kernel_rfl
theorem F274_ok (H : Hy F) : EFOk T Tryz.prog F 274 F274 := ef_code H.1 H.2.1 H.2.2.1 H.2.2.2.1 H.2.2.2.2 Tryz.call274 Tryz.func274 (by kernel_rfl) (by kernel_rfl) B274_ok
/-- (*pentimento/slot.Area).Get -/
theorem B275_ok : ecF Tryz.prog cs0 false (maskLv 2163) Tryz.f275.ntmps [] (fun _ _ _ _ => .bad) (bodyOf Tryz.f275) = B275 := by kernel_rfl
theorem F275_ok (H : Hy F) : EFOk T Tryz.prog F 275 F275 := ef_code H.1 H.2.1 H.2.2.1 H.2.2.2.1 H.2.2.2.2 Tryz.call275 Tryz.func275 (by kernel_rfl) (by kernel_rfl) B275_ok
/-- (*pentimento/pool.Pool).take -/
theorem B276_ok : ecF Tryz.prog cs0 false (maskLv 18141957609693) Tryz.f276.ntmps [(8, [0, 1, 2, 3, 4, 5, 6, 7, 8, 9, 10, 11, 12, 13], [0, 1, 3, 7, 0, 16, 48, 112, 0, 496, 1023, 2047, 4095, 8191])] (fun _ _ _ _ => .bad) (bodyOf Tryz.f276) = B276 := by kernel_rfl
theorem F276_ok (H : Hy F) : EFOk T Tryz.prog F 276 F276 := ef_code H.1 H.2.1 H.2.2.1 H.2.2.2.1 H.2.2.2.2 Tryz.call276 Tryz.func276 (by kernel_rfl) (by kernel_rfl) B276_ok
/-- slices.DeleteFunc[[]uint32,uint32] -/
theorem B277_ok : ecF Tryz.prog cs0 false (maskLv 537399539) Tryz.f277.ntmps [] (fun _ _ _ _ => .bad) (bodyOf Tryz.f277) = B277 := by kernel_rfl
theorem F277_ok (H : Hy F) : EFOk T Tryz.prog F 277 F277 := ef_code H.1 H.2.1 H.2.2.1 H.2.2.2.1 H.2.2.2.2 Tryz.call277 Tryz.func277 (by kernel_rfl) (by kernel_rfl) B277_ok
/-- (*pentimento/pool.Pool).pins$1 -/
theorem B278_ok : ecF Tryz.prog cs0 false (maskLv 11) Tryz.f278.ntmps [] (fun _ _ _ _ => .bad) (bodyOf Tryz.f278) = B278 := by kernel_rfl
theorem F278_ok (H : Hy F) : EFOk T Tryz.prog F 278 F278 := ef_code H.1 H.2.1 H.2.2.1 H.2.2.2.1 H.2.2.2.2 Tryz.call278 Tryz.func278 (by kernel_rfl) (by kernel_rfl) B278_ok
/-- pentimento/op.write -/
theorem B285_ok : ecF Tryz.prog cs0 false (maskLv 2097663) Tryz.f285.ntmps [(8, [0, 1, 2, 3, 4, 5, 6, 7, 8, 9, 10, 11, 12, 13, 14, 15, 16, 17, 18, 19, 20], [0, 1, 3, 7, 0, 16, 48, 48, 176, 432, 944, 1968, 4080, 8176, 16368, 32752, 32752, 131056, 262128, 262143, 1048575])] (fun _ _ _ _ => .bad) (bodyOf Tryz.f285) = B285 := by kernel_rfl
theorem F285_ok (H : Hy F) : EFOk T Tryz.prog F 285 F285 := ef_code H.1 H.2.1 H.2.2.1 H.2.2.2.1 H.2.2.2.2 Tryz.call285 Tryz.func285 (by kernel_rfl) (by kernel_rfl) B285_ok
/-- slices.pdqsortOrdered[uint32] -/
theorem B286_ok : ecF Tryz.prog cs0 false (maskLv 10384593871817177683247510831234831) Tryz.f286.ntmps [(17, [0, 1, 2, 3, 4, 5, 6, 7, 8, 9, 10, 11, 12, 13, 14], [0, 1, 3, 7, 7, 23, 63, 127, 7, 7, 775, 1799, 4095, 8191, 16383])] (fun _ _ _ _ => .bad) (bodyOf Tryz.f286) = B286 := by kernel_rfl
theorem F286_ok (H : Hy F) : EFOk T Tryz.prog F 286 F286 := ef_code H.1 H.2.1 H.2.2.1 H.2.2.2.1 H.2.2.2.2 Tryz.call286 Tryz.func286 (by kernel_rfl) (by kernel_rfl) B286_ok
/-- math/bits.Len -/
theorem B287_ok : ecF Tryz.prog cs0 false (maskLv 5) Tryz.f287.ntmps [] (fun _ _ _ _ => .bad) (bodyOf Tryz.f287) = B287 := by kernel_rfl
theorem F287_ok (H : Hy F) : EFOk T Tryz.prog F 287 F287 := ef_code H.1 H.2.1 H.2.2.1 H.2.2.2.1 H.2.2.2.2 Tryz.call287 Tryz.func287 (by kernel_rfl) (by kernel_rfl) B287_ok
/-- pentimento/op.May -/
theorem B288_ok : ecF Tryz.prog cs0 false (maskLv 23) Tryz.f288.ntmps [] (fun _ _ _ _ => .bad) (bodyOf Tryz.f288) = B288 := by kernel_rfl
theorem F288_ok (H : Hy F) : EFOk T Tryz.prog F 288 F288 := ef_code H.1 H.2.1 H.2.2.1 H.2.2.2.1 H.2.2.2.2 Tryz.call288 Tryz.func288 (by kernel_rfl) (by kernel_rfl) B288_ok
/-- pentimento/op.does -/
theorem B289_ok : ecF Tryz.prog cs0 false (maskLv 3) Tryz.f289.ntmps [] (fun _ _ _ _ => .bad) (bodyOf Tryz.f289) = B289 := by kernel_rfl
theorem F289_ok (H : Hy F) : EFOk T Tryz.prog F 289 F289 := ef_code H.1 H.2.1 H.2.2.1 H.2.2.2.1 H.2.2.2.2 Tryz.call289 Tryz.func289 (by kernel_rfl) (by kernel_rfl) B289_ok
/-- pentimento/frame.Size -/
theorem B290_ok : ecF Tryz.prog cs0 false (maskLv 261) Tryz.f290.ntmps [] (fun _ _ _ _ => .bad) (bodyOf Tryz.f290) = B290 := by kernel_rfl
theorem F290_ok (H : Hy F) : EFOk T Tryz.prog F 290 F290 := ef_code H.1 H.2.1 H.2.2.1 H.2.2.2.1 H.2.2.2.2 Tryz.call290 Tryz.func290 (by kernel_rfl) (by kernel_rfl) B290_ok
/-- pentimento/frame.sealed -/
theorem B291_ok : ecF Tryz.prog cs0 false (maskLv 51) Tryz.f291.ntmps [] (fun _ _ _ _ => .bad) (bodyOf Tryz.f291) = B291 := by kernel_rfl
theorem F291_ok (H : Hy F) : EFOk T Tryz.prog F 291 F291 := ef_code H.1 H.2.1 H.2.2.1 H.2.2.2.1 H.2.2.2.2 Tryz.call291 Tryz.func291 (by kernel_rfl) (by kernel_rfl) B291_ok
/-- slices.Replace[[]string,string] -/
theorem B292_ok : ecF Tryz.prog cs0 false (maskLv 383123885930096062271794698053396311827682563515776783) Tryz.f292.ntmps [(9, [0, 1, 2, 3, 4, 5, 6, 7, 8, 9, 10, 11, 12], [0, 0, 3, 7, 0, 16, 63, 0, 0, 384, 896, 2047, 4095]), (13, [0, 1, 2, 3, 4, 5, 6, 7, 8, 9], [0, 0, 0, 4, 14, 31, 0, 0, 192, 511]), (18, [0, 1, 2, 3, 4, 5, 6, 7, 8, 9], [0, 0, 0, 4, 14, 31, 0, 0, 192, 511]), (22, [0, 1, 2, 3, 4, 5, 6, 7, 8, 9], [0, 0, 0, 4, 14, 31, 0, 0, 192, 511]), (27, [0, 1, 2, 3, 4, 5, 6, 7], [0, 0, 0, 7, 0, 0, 48, 127]), (28, [0, 1, 2, 3, 4, 5, 6, 7], [0, 0, 2, 7, 0, 0, 48, 127]), (32, [0, 1, 2, 3, 4, 5, 6, 7], [0, 0, 2, 7, 0, 0, 48, 127]), (33, [0, 1, 2, 3, 4, 5, 6, 7], [0, 0, 0, 7, 0, 0, 48, 127]), (38, [0, 1, 2, 3, 4, 5, 6, 7, 8, 9, 10, 11], [0, 0, 0, 4, 14, 31, 0, 0, 0, 384, 960, 2047])] (fun _ _ _ _ => .bad) (bodyOf Tryz.f292) = B292 := by kernel_rfl
theorem F292_ok (H : Hy F) : EFOk T Tryz.prog F 292 F292 := ef_code H.1 H.2.1 H.2.2.1 H.2.2.2.1 H.2.2.2.2 Tryz.call292 Tryz.func292 (by kernel_rfl) (by kernel_rfl) B292_ok
/-- pentimento/space.place -/
theorem B293_ok : ecF Tryz.prog cs0 false (maskLv 13) Tryz.f293.ntmps [] (fun _ _ _ _ => .bad) (bodyOf Tryz.f293) = B293 := by kernel_rfl
theorem F293_ok (H : Hy F) : EFOk T Tryz.prog F 293 F293 := ef_code H.1 H.2.1 H.2.2.1 H.2.2.2.1 H.2.2.2.2 Tryz.call293 Tryz.func293 (by kernel_rfl) (by kernel_rfl) B293_ok
/-- internal/bytealg.CompareString -/
theorem B297_ok : ecF Tryz.prog cs0 false (maskLv 19) Tryz.f297.ntmps [] (fun _ _ _ _ => .bad) (bodyOf Tryz.f297) = B297 := by kernel_rfl
theorem F297_ok (H : Hy F) : EFOk T Tryz.prog F 297 F297 := ef_code H.1 H.2.1 H.2.2.1 H.2.2.2.1 H.2.2.2.2 Tryz.call297 Tryz.func297 (by kernel_rfl) (by kernel_rfl) B297_ok
/-- slices.Collect[uint64] -/
theorem B298_ok : ecF Tryz.prog cs0 false (maskLv 5) Tryz.f298.ntmps [] (fun _ _ _ _ => .bad) (bodyOf Tryz.f298) = B298 := by kernel_rfl
theorem F298_ok (H : Hy F) : EFOk T Tryz.prog F 298 F298 := ef_code H.1 H.2.1 H.2.2.1 H.2.2.2.1 H.2.2.2.2 Tryz.call298 Tryz.func298 (by kernel_rfl) (by kernel_rfl) B298_ok
/-- maps.Keys[map[uint64]pentimento/api.Txn,uint64,pentimento/api.Txn]$1 -/
theorem B299_ok : ecF Tryz.prog cs0 false (maskLv 8363) Tryz.f299.ntmps [] (fun _ _ _ _ => .bad) (bodyOf Tryz.f299) = B299 := by kernel_rfl
theorem F299_ok (H : Hy F) : EFOk T Tryz.prog F 299 F299 := ef_code H.1 H.2.1 H.2.2.1 H.2.2.2.1 H.2.2.2.2 Tryz.call299 Tryz.func299 (by kernel_rfl) (by kernel_rfl) B299_ok
/-- slices.IndexFunc[[]uint64,uint64] -/
theorem B300_ok : ecF Tryz.prog cs0 false (maskLv 66483) Tryz.f300.ntmps [] (fun _ _ _ _ => .bad) (bodyOf Tryz.f300) = B300 := by kernel_rfl
theorem F300_ok (H : Hy F) : EFOk T Tryz.prog F 300 F300 := ef_code H.1 H.2.1 H.2.2.1 H.2.2.2.1 H.2.2.2.2 Tryz.call300 Tryz.func300 (by kernel_rfl) (by kernel_rfl) B300_ok
/-- slices.pdqsortOrdered[uint64] -/
theorem B301_ok : ecF Tryz.prog cs0 false (maskLv 10384593871817177683247510831234831) Tryz.f301.ntmps [(17, [0, 1, 2, 3, 4, 5, 6, 7, 8, 9, 10, 11, 12, 13, 14], [0, 1, 3, 7, 7, 23, 63, 127, 7, 7, 775, 1799, 4095, 8191, 16383])] (fun _ _ _ _ => .bad) (bodyOf Tryz.f301) = B301 := by kernel_rfl
theorem F301_ok (H : Hy F) : EFOk T Tryz.prog F 301 F301 := ef_code H.1 H.2.1 H.2.2.1 H.2.2.2.1 H.2.2.2.2 Tryz.call301 Tryz.func301 (by kernel_rfl) (by kernel_rfl) B301_ok
/-- pentimento/past.versions$1 -/
theorem B302_ok : ecF Tryz.prog cs0 false (maskLv 136319479) Tryz.f302.ntmps [] (fun _ _ _ _ => .bad) (bodyOf Tryz.f302) = B302 := by kernel_rfl
theorem F302_ok (H : Hy F) : EFOk T Tryz.prog F 302 F302 := ef_code H.1 H.2.1 H.2.2.1 H.2.2.2.1 H.2.2.2.2 Tryz.call302 Tryz.func302 (by kernel_rfl) (by kernel_rfl) B302_ok
/-- slices.Index[[]uint64,uint64] -/
theorem B304_ok : ecF Tryz.prog cs0 false (maskLv 66483) Tryz.f304.ntmps [] (fun _ _ _ _ => .bad) (bodyOf Tryz.f304) = B304 := by kernel_rfl
theorem F304_ok (H : Hy F) : EFOk T Tryz.prog F 304 F304 := ef_code H.1 H.2.1 H.2.2.1 H.2.2.2.1 H.2.2.2.2 Tryz.call304 Tryz.func304 (by kernel_rfl) (by kernel_rfl) B304_ok
/-- pentimento/undo.put -/
theorem B305_ok : ecF Tryz.prog cs0 false (maskLv 51) Tryz.f305.ntmps [] (fun _ _ _ _ => .bad) (bodyOf Tryz.f305) = B305 := by kernel_rfl
theorem F305_ok (H : Hy F) : EFOk T Tryz.prog F 305 F305 := ef_code H.1 H.2.1 H.2.2.1 H.2.2.2.1 H.2.2.2.2 Tryz.call305 Tryz.func305 (by kernel_rfl) (by kernel_rfl) B305_ok
/-- pentimento/seg.Decode -/
theorem B306_ok : ecF Tryz.prog cs0 false (maskLv 274877907583) Tryz.f306.ntmps [] (fun _ _ _ _ => .bad) (bodyOf Tryz.f306) = B306 := by kernel_rfl
theorem F306_ok (H : Hy F) : EFOk T Tryz.prog F 306 F306 := ef_code H.1 H.2.1 H.2.2.1 H.2.2.2.1 H.2.2.2.2 Tryz.call306 Tryz.func306 (by kernel_rfl) (by kernel_rfl) B306_ok
/-- slices.Sort[[]string,string] -/
theorem B307_ok : ecF Tryz.prog cs0 false (maskLv 5) Tryz.f307.ntmps [] (fun _ _ _ _ => .bad) (bodyOf Tryz.f307) = B307 := by kernel_rfl
theorem F307_ok (H : Hy F) : EFOk T Tryz.prog F 307 F307 := ef_code H.1 H.2.1 H.2.2.1 H.2.2.2.1 H.2.2.2.2 Tryz.call307 Tryz.func307 (by kernel_rfl) (by kernel_rfl) B307_ok
/-- pentimento/seg.May -/
theorem B308_ok : ecF Tryz.prog cs0 false (maskLv 35951) Tryz.f308.ntmps [] (fun _ _ _ _ => .bad) (bodyOf Tryz.f308) = B308 := by kernel_rfl
theorem F308_ok (H : Hy F) : EFOk T Tryz.prog F 308 F308 := ef_code H.1 H.2.1 H.2.2.1 H.2.2.2.1 H.2.2.2.2 Tryz.call308 Tryz.func308 (by kernel_rfl) (by kernel_rfl) B308_ok
/-- pentimento/seg.Encode$1 -/
theorem B309_ok : ecF Tryz.prog cs0 false (maskLv 39) Tryz.f309.ntmps [] (fun _ _ _ _ => .bad) (bodyOf Tryz.f309) = B309 := by kernel_rfl
theorem F309_ok (H : Hy F) : EFOk T Tryz.prog F 309 F309 := ef_code H.1 H.2.1 H.2.2.1 H.2.2.2.1 H.2.2.2.2 Tryz.call309 Tryz.func309 (by kernel_rfl) (by kernel_rfl) B309_ok
/-- (*pentimento/disk.Disk).none -/
theorem B310_ok : ecF Tryz.prog cs0 false (maskLv 5) Tryz.f310.ntmps [] (fun _ _ _ _ => .bad) (bodyOf Tryz.f310) = B310 := by kernel_rfl
theorem F310_ok (H : Hy F) : EFOk T Tryz.prog F 310 F310 := ef_code H.1 H.2.1 H.2.2.1 H.2.2.2.1 H.2.2.2.2 Tryz.call310 Tryz.func310 (by kernel_rfl) (by kernel_rfl) B310_ok
/-- pentimento/rec.Same -/
theorem B311_ok : ecF Tryz.prog cs0 false (maskLv 127) Tryz.f311.ntmps [(1, [0, 1, 2, 3, 4, 5, 6, 7], [0, 1, 0, 4, 0, 0, 51, 127])] (fun _ _ _ _ => .bad) (bodyOf Tryz.f311) = B311 := by kernel_rfl
theorem F311_ok (H : Hy F) : EFOk T Tryz.prog F 311 F311 := ef_code H.1 H.2.1 H.2.2.1 H.2.2.2.1 H.2.2.2.2 Tryz.call311 Tryz.func311 (by kernel_rfl) (by kernel_rfl) B311_ok
/-- pentimento/rec.has -/
theorem B312_ok : ecF Tryz.prog cs0 false (maskLv 4415295598607) Tryz.f312.ntmps [(4, [0, 1, 2, 3, 4, 5, 6, 7], [0, 1, 0, 4, 3, 19, 63, 127]), (8, [0, 1, 2, 3, 4, 5, 6, 7], [0, 1, 0, 4, 3, 19, 63, 127]), (10, [0, 1, 2, 3, 4, 5, 6, 7], [0, 1, 0, 4, 3, 19, 63, 127])] (fun _ _ _ _ => .bad) (bodyOf Tryz.f312) = B312 := by kernel_rfl
theorem F312_ok (H : Hy F) : EFOk T Tryz.prog F 312 F312 := ef_code H.1 H.2.1 H.2.2.1 H.2.2.2.1 H.2.2.2.2 Tryz.call312 Tryz.func312 (by kernel_rfl) (by kernel_rfl) B312_ok
/-- pentimento/rec.put -/
theorem B313_ok : ecF Tryz.prog cs0 false (maskLv 51) Tryz.f313.ntmps [] (fun _ _ _ _ => .bad) (bodyOf Tryz.f313) = B313 := by kernel_rfl
theorem F313_ok (H : Hy F) : EFOk T Tryz.prog F 313 F313 := ef_code H.1 H.2.1 H.2.2.1 H.2.2.2.1 H.2.2.2.2 Tryz.call313 Tryz.func313 (by kernel_rfl) (by kernel_rfl) B313_ok
/-- (*pentimento/page.head).kind -/
theorem B318_ok : ecF Tryz.prog cs0 false (maskLv 1) Tryz.f318.ntmps [] (fun _ _ _ _ => .bad) (bodyOf Tryz.f318) = B318 := by kernel_rfl
theorem F318_ok (H : Hy F) : EFOk T Tryz.prog F 318 F318 := ef_code H.1 H.2.1 H.2.2.1 H.2.2.2.1 H.2.2.2.2 Tryz.call318 Tryz.func318 (by kernel_rfl) (by kernel_rfl) B318_ok
/-- (*pentimento/page.head).level -/
theorem B319_ok : ecF Tryz.prog cs0 false (maskLv 1) Tryz.f319.ntmps [] (fun _ _ _ _ => .bad) (bodyOf Tryz.f319) = B319 := by kernel_rfl
theorem F319_ok (H : Hy F) : EFOk T Tryz.prog F 319 F319 := ef_code H.1 H.2.1 H.2.2.1 H.2.2.2.1 H.2.2.2.2 Tryz.call319 Tryz.func319 (by kernel_rfl) (by kernel_rfl) B319_ok
/-- (*pentimento/page.head).id -/
theorem B320_ok : ecF Tryz.prog cs0 false (maskLv 1) Tryz.f320.ntmps [] (fun _ _ _ _ => .bad) (bodyOf Tryz.f320) = B320 := by kernel_rfl
theorem F320_ok (H : Hy F) : EFOk T Tryz.prog F 320 F320 := ef_code H.1 H.2.1 H.2.2.1 H.2.2.2.1 H.2.2.2.2 Tryz.call320 Tryz.func320 (by kernel_rfl) (by kernel_rfl) B320_ok
/-- (*pentimento/page.head).lsn -/
theorem B321_ok : ecF Tryz.prog cs0 false (maskLv 1) Tryz.f321.ntmps [] (fun _ _ _ _ => .bad) (bodyOf Tryz.f321) = B321 := by kernel_rfl
theorem F321_ok (H : Hy F) : EFOk T Tryz.prog F 321 F321 := ef_code H.1 H.2.1 H.2.2.1 H.2.2.2.1 H.2.2.2.2 Tryz.call321 Tryz.func321 (by kernel_rfl) (by kernel_rfl) B321_ok
/-- (*pentimento/page.head).next -/
theorem B322_ok : ecF Tryz.prog cs0 false (maskLv 1) Tryz.f322.ntmps [] (fun _ _ _ _ => .bad) (bodyOf Tryz.f322) = B322 := by kernel_rfl
theorem F322_ok (H : Hy F) : EFOk T Tryz.prog F 322 F322 := ef_code H.1 H.2.1 H.2.2.1 H.2.2.2.1 H.2.2.2.2 Tryz.call322 Tryz.func322 (by kernel_rfl) (by kernel_rfl) B322_ok
/-- (*pentimento/page.head).none -/
theorem B323_ok : ecF Tryz.prog cs0 false (maskLv 5) Tryz.f323.ntmps [] (fun _ _ _ _ => .bad) (bodyOf Tryz.f323) = B323 := by kernel_rfl
theorem F323_ok (H : Hy F) : EFOk T Tryz.prog F 323 F323 := ef_code H.1 H.2.1 H.2.2.1 H.2.2.2.1 H.2.2.2.2 Tryz.call323 Tryz.func323 (by kernel_rfl) (by kernel_rfl) B323_ok
/-- (*pentimento/slot.Area).two -/
theorem B324_ok : ecF Tryz.prog cs0 false (maskLv 71) Tryz.f324.ntmps [] (fun _ _ _ _ => .bad) (bodyOf Tryz.f324) = B324 := by kernel_rfl
theorem F324_ok (H : Hy F) : EFOk T Tryz.prog F 324 F324 := ef_code H.1 H.2.1 H.2.2.1 H.2.2.2.1 H.2.2.2.2 Tryz.call324 Tryz.func324 (by kernel_rfl) (by kernel_rfl) B324_ok
/-- (*pentimento/slot.Area).none -/
theorem B325_ok : ecF Tryz.prog cs0 false (maskLv 5) Tryz.f325.ntmps [] (fun _ _ _ _ => .bad) (bodyOf Tryz.f325) = B325 := by kernel_rfl
theorem F325_ok (H : Hy F) : EFOk T Tryz.prog F 325 F325 := ef_code H.1 H.2.1 H.2.2.1 H.2.2.2.1 H.2.2.2.2 Tryz.call325 Tryz.func325 (by kernel_rfl) (by kernel_rfl) B325_ok
/-- (*pentimento/slot.Area).Free -/
theorem B326_ok : ecF Tryz.prog cs0 false (maskLv 7340381) Tryz.f326.ntmps [(3, [0, 1, 2, 3, 4, 5, 6, 7, 8, 9, 10], [0, 1, 3, 7, 15, 31, 0, 64, 192, 511, 1023])] (fun _ _ _ _ => .bad) (bodyOf Tryz.f326) = B326 := by kernel_rfl
theorem F326_ok (H : Hy F) : EFOk T Tryz.prog F 326 F326 := ef_code H.1 H.2.1 H.2.2.1 H.2.2.2.1 H.2.2.2.2 Tryz.call326 Tryz.func326 (by kernel_rfl) (by kernel_rfl) B326_ok
/-- (*pentimento/slot.Area).Gap -/
theorem B327_ok : ecF Tryz.prog cs0 false (maskLv 21) Tryz.f327.ntmps [] (fun _ _ _ _ => .bad) (bodyOf Tryz.f327) = B327 := by kernel_rfl
theorem F327_ok (H : Hy F) : EFOk T Tryz.prog F 327 F327 := ef_code H.1 H.2.1 H.2.2.1 H.2.2.2.1 H.2.2.2.2 Tryz.call327 Tryz.func327 (by kernel_rfl) (by kernel_rfl) B327_ok
/-- (*pentimento/slot.Area).below -/
theorem B329_ok : ecF Tryz.prog cs0 false (maskLv 51) Tryz.f329.ntmps [] (fun _ _ _ _ => .bad) (bodyOf Tryz.f329) = B329 := by kernel_rfl
theorem F329_ok (H : Hy F) : EFOk T Tryz.prog F 329 F329 := ef_code H.1 H.2.1 H.2.2.1 H.2.2.2.1 H.2.2.2.2 Tryz.call329 Tryz.func329 (by kernel_rfl) (by kernel_rfl) B329_ok
/-- slices.Clone[[]byte,byte] -/
theorem B330_ok : ecF Tryz.prog cs0 false (maskLv 21) Tryz.f330.ntmps [] (fun _ _ _ _ => .bad) (bodyOf Tryz.f330) = B330 := by kernel_rfl
theorem F330_ok (H : Hy F) : EFOk T Tryz.prog F 330 F330 := ef_code H.1 H.2.1 H.2.2.1 H.2.2.2.1 H.2.2.2.2 Tryz.call330 Tryz.func330 (by kernel_rfl) (by kernel_rfl) B330_ok
/-- (*pentimento/slot.Area).place -/
theorem B331_ok : ecF Tryz.prog cs0 false (maskLv 271) Tryz.f331.ntmps [] (fun _ _ _ _ => .bad) (bodyOf Tryz.f331) = B331 := by kernel_rfl
theorem F331_ok (H : Hy F) : EFOk T Tryz.prog F 331 F331 := ef_code H.1 H.2.1 H.2.2.1 H.2.2.2.1 H.2.2.2.2 Tryz.call331 Tryz.func331 (by kernel_rfl) (by kernel_rfl) B331_ok
/-- pentimento/sum.Of -/
theorem B332_ok : ecF Tryz.prog cs0 false (maskLv 5) Tryz.f332.ntmps [] (fun _ _ _ _ => .bad) (bodyOf Tryz.f332) = B332 := by kernel_rfl
theorem F332_ok (H : Hy F) : EFOk T Tryz.prog F 332 F332 := ef_code H.1 H.2.1 H.2.2.1 H.2.2.2.1 H.2.2.2.2 Tryz.call332 Tryz.func332 (by kernel_rfl) (by kernel_rfl) B332_ok
/-- pentimento/twin.inside -/
theorem B333_ok : ecF Tryz.prog cs0 false (maskLv 783) Tryz.f333.ntmps [] (fun _ _ _ _ => .bad) (bodyOf Tryz.f333) = B333 := by kernel_rfl
theorem F333_ok (H : Hy F) : EFOk T Tryz.prog F 333 F333 := ef_code H.1 H.2.1 H.2.2.1 H.2.2.2.1 H.2.2.2.2 Tryz.call333 Tryz.func333 (by kernel_rfl) (by kernel_rfl) B333_ok
/-- pentimento/twin.homes$1 -/
theorem B334_ok : ecF Tryz.prog cs0 false (maskLv 31) Tryz.f334.ntmps [(1, [0, 1, 2, 3, 4, 5, 6, 7, 8, 9, 10, 11], [0, 0, 0, 4, 0, 16, 0, 64, 192, 508, 1023, 2047])] (fun _ _ _ _ => .bad) (bodyOf Tryz.f334) = B334 := by kernel_rfl
theorem F334_ok (H : Hy F) : EFOk T Tryz.prog F 334 F334 := ef_code H.1 H.2.1 H.2.2.1 H.2.2.2.1 H.2.2.2.2 Tryz.call334 Tryz.func334 (by kernel_rfl) (by kernel_rfl) B334_ok
/-- pentimento/twin.marks$1 -/
theorem B335_ok : ecF Tryz.prog cs0 false (maskLv 15) Tryz.f335.ntmps [] (fun _ _ _ _ => .bad) (bodyOf Tryz.f335) = B335 := by kernel_rfl
theorem F335_ok (H : Hy F) : EFOk T Tryz.prog F 335 F335 := ef_code H.1 H.2.1 H.2.2.1 H.2.2.2.1 H.2.2.2.2 Tryz.call335 Tryz.func335 (by kernel_rfl) (by kernel_rfl) B335_ok
/-- slices.Backward[[]pentimento/disk.write,pentimento/disk.write] -/
theorem B336_ok : ecF Tryz.prog cs0 false (maskLv 7) Tryz.f336.ntmps [] (fun _ _ _ _ => .bad) (bodyOf Tryz.f336) = B336 := by kernel_rfl
theorem F336_ok (H : Hy F) : EFOk T Tryz.prog F 336 F336 := ef_code H.1 H.2.1 H.2.2.1 H.2.2.2.1 H.2.2.2.2 Tryz.call336 Tryz.func336 (by kernel_rfl) (by kernel_rfl) B336_ok
/-- (*pentimento/slot.Area).may -/
theorem B337_ok : ecF Tryz.prog cs0 false (maskLv 316912651163862002768208200701) Tryz.f337.ntmps [(1, [0, 1, 2, 3, 4, 5, 6, 7, 8, 9, 10, 11, 12, 13, 14, 15, 16, 17, 18, 19, 20, 22, 23, 24, 25, 26, 21, 27, 28], [0, 1, 3, 7, 15, 31, 63, 127, 255, 511, 1023, 2047, 4095, 8191, 16383, 32767, 65535, 131071, 262143, 524287, 1048575, 2097151, 1048575, 5242879, 13631487, 30408703, 63963135, 134217727, 268435455])] (fun _ _ _ _ => .bad) (bodyOf Tryz.f337) = B337 := by kernel_rfl
theorem F337_ok (H : Hy F) : EFOk T Tryz.prog F 337 F337 := ef_code H.1 H.2.1 H.2.2.1 H.2.2.2.1 H.2.2.2.2 Tryz.call337 Tryz.func337 (by kernel_rfl) (by kernel_rfl) B337_ok
/-- (*pentimento/slot.Area).get -/
theorem B338_ok : ecF Tryz.prog cs0 false (maskLv 19) Tryz.f338.ntmps [(1, [0, 1, 2, 3, 4, 5, 6, 7, 8, 9, 10, 11, 12, 13, 14, 15, 16, 17, 18, 19], [0, 1, 3, 7, 0, 31, 63, 127, 255, 0, 512, 1536, 3584, 0, 8192, 32256, 65024, 130560, 262143, 524287])] (fun _ _ _ _ => .bad) (bodyOf Tryz.f338) = B338 := by kernel_rfl
theorem F338_ok (H : Hy F) : EFOk T Tryz.prog F 338 F338 := ef_code H.1 H.2.1 H.2.2.1 H.2.2.2.1 H.2.2.2.2 Tryz.call338 Tryz.func338 (by kernel_rfl) (by kernel_rfl) B338_ok
/-- (*pentimento/slot.Area).there -/
theorem B339_ok : ecF Tryz.prog cs0 false (maskLv 307) Tryz.f339.ntmps [] (fun _ _ _ _ => .bad) (bodyOf Tryz.f339) = B339 := by kernel_rfl
theorem F339_ok (H : Hy F) : EFOk T Tryz.prog F 339 F339 := ef_code H.1 H.2.1 H.2.2.1 H.2.2.2.1 H.2.2.2.2 Tryz.call339 Tryz.func339 (by kernel_rfl) (by kernel_rfl) B339_ok
/-- (*pentimento/slot.Area).text -/
theorem B340_ok : ecF Tryz.prog cs0 false (maskLv 115) Tryz.f340.ntmps [] (fun _ _ _ _ => .bad) (bodyOf Tryz.f340) = B340 := by kernel_rfl
theorem F340_ok (H : Hy F) : EFOk T Tryz.prog F 340 F340 := ef_code H.1 H.2.1 H.2.2.1 H.2.2.2.1 H.2.2.2.2 Tryz.call340 Tryz.func340 (by kernel_rfl) (by kernel_rfl) B340_ok
/-- slices.IndexFunc[[]uint32,uint32] -/
theorem B342_ok : ecF Tryz.prog cs0 false (maskLv 66483) Tryz.f342.ntmps [] (fun _ _ _ _ => .bad) (bodyOf Tryz.f342) = B342 := by kernel_rfl
theorem F342_ok (H : Hy F) : EFOk T Tryz.prog F 342 F342 := ef_code H.1 H.2.1 H.2.2.1 H.2.2.2.1 H.2.2.2.2 Tryz.call342 Tryz.func342 (by kernel_rfl) (by kernel_rfl) B342_ok
/-- (*pentimento/op.coder).op -/
theorem B348_ok : ecF Tryz.prog cs0 false (maskLv 74276402357122816493947453485) Tryz.f348.ntmps [] (fun _ _ _ _ => .bad) (bodyOf Tryz.f348) = B348 := by kernel_rfl
theorem F348_ok (H : Hy F) : EFOk T Tryz.prog F 348 F348 := ef_code H.1 H.2.1 H.2.2.1 H.2.2.2.1 H.2.2.2.2 Tryz.call348 Tryz.func348 (by kernel_rfl) (by kernel_rfl) B348_ok
/-- pentimento/op.read -/
theorem B349_ok : ecF Tryz.prog cs0 false (maskLv 61) Tryz.f349.ntmps [(3, [0, 1, 2, 3, 4, 5, 6, 7, 8, 9, 10, 11, 12], [0, 0, 2, 6, 14, 0, 32, 96, 224, 480, 511, 1535, 4095])] (fun _ _ _ _ => .bad) (bodyOf Tryz.f349) = B349 := by kernel_rfl
theorem F349_ok (H : Hy F) : EFOk T Tryz.prog F 349 F349 := ef_code H.1 H.2.1 H.2.2.1 H.2.2.2.1 H.2.2.2.2 Tryz.call349 Tryz.func349 (by kernel_rfl) (by kernel_rfl) B349_ok
/-- pentimento/op.Same -/
theorem B350_ok : ecF Tryz.prog cs0 false (maskLv 31) Tryz.f350.ntmps [] (fun _ _ _ _ => .bad) (bodyOf Tryz.f350) = B350 := by kernel_rfl
theorem F350_ok (H : Hy F) : EFOk T Tryz.prog F 350 F350 := ef_code H.1 H.2.1 H.2.2.1 H.2.2.2.1 H.2.2.2.2 Tryz.call350 Tryz.func350 (by kernel_rfl) (by kernel_rfl) B350_ok
/-- slices.insertionSortOrdered[uint32] -/
theorem B351_ok : ecF Tryz.prog cs0 false (maskLv 1073746119) Tryz.f351.ntmps [(4, [0, 1, 2, 3, 4, 5, 6, 7, 8, 9, 10, 11, 12, 13, 14], [0, 0, 3, 7, 15, 15, 63, 127, 15, 15, 527, 1807, 3855, 8191, 16383]), (6, [0, 1, 2, 3, 4, 5, 6, 7, 8, 9, 10, 11, 12, 13, 14, 15, 16, 17], [0, 0, 0, 0, 8, 0, 0, 64, 224, 480, 0, 0, 3072, 7168, 16355, 32739, 65535, 131071])] (fun _ _ _ _ => .bad) (bodyOf Tryz.f351) = B351 := by kernel_rfl
theorem F351_ok (H : Hy F) : EFOk T Tryz.prog F 351 F351 := ef_code H.1 H.2.1 H.2.2.1 H.2.2.2.1 H.2.2.2.2 Tryz.call351 Tryz.func351 (by kernel_rfl) (by kernel_rfl) B351_ok
/-- cmp.Less[uint32] -/
theorem B357_ok : ecF Tryz.prog cs0 false (maskLv 19) Tryz.f357.ntmps [] (fun _ _ _ _ => .bad) (bodyOf Tryz.f357) = B357 := by kernel_rfl
theorem F357_ok (H : Hy F) : EFOk T Tryz.prog F 357 F357 := ef_code H.1 H.2.1 H.2.2.1 H.2.2.2.1 H.2.2.2.2 Tryz.call357 Tryz.func357 (by kernel_rfl) (by kernel_rfl) B357_ok
/-- math/bits.Len64 -/
theorem B361_ok : ecF Tryz.prog cs0 false (maskLv 16661) Tryz.f361.ntmps [] (fun _ _ _ _ => .bad) (bodyOf Tryz.f361) = B361 := by kernel_rfl
theorem F361_ok (H : Hy F) : EFOk T Tryz.prog F 361 F361 := ef_code H.1 H.2.1 H.2.2.1 H.2.2.2.1 H.2.2.2.2 Tryz.call361 Tryz.func361 (by kernel_rfl) (by kernel_rfl) B361_ok
/-- pentimento/op.does$1 -/
theorem B362_ok : ecF Tryz.prog cs0 false (maskLv 7) Tryz.f362.ntmps [] (fun _ _ _ _ => .bad) (bodyOf Tryz.f362) = B362 := by kernel_rfl
theorem F362_ok (H : Hy F) : EFOk T Tryz.prog F 362 F362 := ef_code H.1 H.2.1 H.2.2.1 H.2.2.2.1 H.2.2.2.2 Tryz.call362 Tryz.func362 (by kernel_rfl) (by kernel_rfl) B362_ok
/-- pentimento/op.does$1$1 -/
theorem B363_ok : ecF Tryz.prog cs0 false (maskLv 8247) Tryz.f363.ntmps [(1, [0, 1, 2, 3, 4, 5, 6, 7], [0, 1, 0, 4, 12, 28, 60, 127])] (fun _ _ _ _ => .bad) (bodyOf Tryz.f363) = B363 := by kernel_rfl
theorem F363_ok (H : Hy F) : EFOk T Tryz.prog F 363 F363 := ef_code H.1 H.2.1 H.2.2.1 H.2.2.2.1 H.2.2.2.2 Tryz.call363 Tryz.func363 (by kernel_rfl) (by kernel_rfl) B363_ok
/-- pentimento/op.does$2 -/
theorem B364_ok : ecF Tryz.prog cs0 false (maskLv 27) Tryz.f364.ntmps [] (fun _ _ _ _ => .bad) (bodyOf Tryz.f364) = B364 := by kernel_rfl
theorem F364_ok (H : Hy F) : EFOk T Tryz.prog F 364 F364 := ef_code H.1 H.2.1 H.2.2.1 H.2.2.2.1 H.2.2.2.2 Tryz.call364 Tryz.func364 (by kernel_rfl) (by kernel_rfl) B364_ok
/-- pentimento/op.does$3 -/
theorem B365_ok : ecF Tryz.prog cs0 false (maskLv 4123) Tryz.f365.ntmps [(1, [0, 1, 2, 3, 4, 5, 6, 7], [0, 1, 0, 4, 12, 28, 60, 127]), (3, [0, 1, 2, 3, 4, 5, 6, 7, 8, 9, 10, 11, 12, 13], [0, 0, 2, 6, 14, 0, 32, 0, 128, 384, 1022, 2047, 4095, 8191])] (fun _ _ _ _ => .bad) (bodyOf Tryz.f365) = B365 := by kernel_rfl
theorem F365_ok (H : Hy F) : EFOk T Tryz.prog F 365 F365 := ef_code H.1 H.2.1 H.2.2.1 H.2.2.2.1 H.2.2.2.2 Tryz.call365 Tryz.func365 (by kernel_rfl) (by kernel_rfl) B365_ok
/-- slices.Insert[[]string,string] -/
theorem B366_ok : ecF Tryz.prog cs0 false (maskLv 295147905181504570311) Tryz.f366.ntmps [(11, [0, 1, 2, 3, 4, 5, 6, 7, 8], [0, 0, 0, 6, 15, 0, 0, 96, 255]), (15, [0, 1, 2, 3, 4, 5, 6, 7, 8], [0, 0, 0, 6, 15, 0, 0, 96, 255])] (fun _ _ _ _ => .bad) (bodyOf Tryz.f366) = B366 := by kernel_rfl
theorem F366_ok (H : Hy F) : EFOk T Tryz.prog F 366 F366 := ef_code H.1 H.2.1 H.2.2.1 H.2.2.2.1 H.2.2.2.2 Tryz.call366 Tryz.func366 (by kernel_rfl) (by kernel_rfl) B366_ok
/-- pentimento/op.does$4 -/
theorem B367_ok : ecF Tryz.prog cs0 false (maskLv 27) Tryz.f367.ntmps [(1, [0, 1, 2, 3, 4, 5, 6, 7, 8, 9], [0, 1, 3, 7, 0, 16, 0, 64, 255, 511])] (fun _ _ _ _ => .bad) (bodyOf Tryz.f367) = B367 := by kernel_rfl
theorem F367_ok (H : Hy F) : EFOk T Tryz.prog F 367 F367 := ef_code H.1 H.2.1 H.2.2.1 H.2.2.2.1 H.2.2.2.2 Tryz.call367 Tryz.func367 (by kernel_rfl) (by kernel_rfl) B367_ok
/-- pentimento/op.does$5 -/
theorem B368_ok : ecF Tryz.prog cs0 false (maskLv 27) Tryz.f368.ntmps [(1, [0, 1, 2, 3, 4, 5, 6, 7, 8, 9, 10, 11, 12, 13], [0, 0, 2, 6, 14, 0, 32, 0, 128, 384, 1022, 2047, 4095, 8191])] (fun _ _ _ _ => .bad) (bodyOf Tryz.f368) = B368 := by kernel_rfl
theorem F368_ok (H : Hy F) : EFOk T Tryz.prog F 368 F368 := ef_code H.1 H.2.1 H.2.2.1 H.2.2.2.1 H.2.2.2.2 Tryz.call368 Tryz.func368 (by kernel_rfl) (by kernel_rfl) B368_ok
/-- slices.Delete[[]string,string] -/
theorem B369_ok : ecF Tryz.prog cs0 false (maskLv 65735) Tryz.f369.ntmps [(5, [0, 1, 2, 3, 4, 5, 6, 7], [0, 0, 3, 0, 0, 24, 63, 127])] (fun _ _ _ _ => .bad) (bodyOf Tryz.f369) = B369 := by kernel_rfl
theorem F369_ok (H : Hy F) : EFOk T Tryz.prog F 369 F369 := ef_code H.1 H.2.1 H.2.2.1 H.2.2.2.1 H.2.2.2.2 Tryz.call369 Tryz.func369 (by kernel_rfl) (by kernel_rfl) B369_ok
/-- pentimento/op.does$9 -/
theorem B373_ok : ecF Tryz.prog cs0 false (maskLv 16777339) Tryz.f373.ntmps [(1, [0, 1, 2, 3, 4, 5, 6, 7, 8, 9, 10, 11, 12, 13, 14, 15, 16, 17], [0, 1, 3, 7, 0, 16, 63, 127, 0, 256, 0, 1024, 4095, 8191, 16383, 16383, 32767, 131071]), (4, [0, 1, 2, 3, 4, 5, 6, 7, 8], [0, 1, 3, 7, 0, 16, 0, 127, 255])] (fun _ _ _ _ => .bad) (bodyOf Tryz.f373) = B373 := by kernel_rfl
theorem F373_ok (H : Hy F) : EFOk T Tryz.prog F 373 F373 := ef_code H.1 H.2.1 H.2.2.1 H.2.2.2.1 H.2.2.2.2 Tryz.call373 Tryz.func373 (by kernel_rfl) (by kernel_rfl) B373_ok
/-- pentimento/word.Set -/
theorem B374_ok : ecF Tryz.prog cs0 false (maskLv 524999) Tryz.f374.ntmps [(4, [0, 1, 2, 3, 4, 5, 6, 7, 8, 9, 10, 11, 12, 13], [0, 0, 3, 0, 15, 0, 0, 0, 128, 448, 992, 2047, 4095, 8191])] (fun _ _ _ _ => .bad) (bodyOf Tryz.f374) = B374 := by kernel_rfl
theorem F374_ok (H : Hy F) : EFOk T Tryz.prog F 374 F374 := ef_code H.1 H.2.1 H.2.2.1 H.2.2.2.1 H.2.2.2.2 Tryz.call374 Tryz.func374 (by kernel_rfl) (by kernel_rfl) B374_ok
/-- slices.AppendSeq[[]uint64,uint64] -/
theorem B381_ok : ecF Tryz.prog cs0 true (maskLv 247) Tryz.f381.ntmps [] (fun f ps _ _ => .rf (ooOf [] f) (ps.toList.map Ps.of) 4 5) (bodyOf Tryz.f381) = B381 := by kernel_rfl
theorem rc4_ok : ecR Tryz.prog cs0 (maskLv 247) Tryz.f381.ntmps [] (rfQ Tryz.f381).2.2.1 = rc4 := by kernel_rfl
theorem rc5_ok : ecR Tryz.prog cs0 (maskLv 247) Tryz.f381.ntmps [] (rfQ Tryz.f381).2.2.2 = rc5 := by kernel_rfl
theorem rq381_ok : rfsOf (bodyOf Tryz.f381) = [rfQ Tryz.f381] := by kernel_rfl
theorem ps381_ok : psB (maskLv 247) Tryz.f381.ntmps (rfQ Tryz.f381).2.1.toList = true := by kernel_rfl
noncomputable def re381 : RE := ⟨(rfQ Tryz.f381).2.2.1, (rfQ Tryz.f381).2.2.2, maskLv 247, Tryz.f381.ntmps⟩
theorem F381_ok (H : Hy F) {RT : Nat → Nat → Option RE} (hT : T.ofL = tbL RT) (hRT : RT 4 5 = some re381) : EFOk T Tryz.prog F 381 F381 := ef_rf H.1 hT H.2.1 H.2.2.1 H.2.2.2.1 H.2.2.2.2 Tryz.call381 Tryz.func381 (by kernel_rfl) (by kernel_rfl) rq381_ok ps381_ok hRT B381_ok
/-- slices.insertionSortOrdered[uint64] -/
theorem B382_ok : ecF Tryz.prog cs0 false (maskLv 1073746119) Tryz.f382.ntmps [(4, [0, 1, 2, 3, 4, 5, 6, 7, 8, 9, 10, 11, 12, 13, 14], [0, 0, 3, 7, 15, 15, 63, 127, 15, 15, 527, 1807, 3855, 8191, 16383]), (6, [0, 1, 2, 3, 4, 5, 6, 7, 8, 9, 10, 11, 12, 13, 14, 15, 16, 17], [0, 0, 0, 0, 8, 0, 0, 64, 224, 480, 0, 0, 3072, 7168, 16355, 32739, 65535, 131071])] (fun _ _ _ _ => .bad) (bodyOf Tryz.f382) = B382 := by kernel_rfl
theorem F382_ok (H : Hy F) : EFOk T Tryz.prog F 382 F382 := ef_code H.1 H.2.1 H.2.2.1 H.2.2.2.1 H.2.2.2.2 Tryz.call382 Tryz.func382 (by kernel_rfl) (by kernel_rfl) B382_ok
/-- pentimento/seg.Decode$1 -/
theorem B391_ok : ecF Tryz.prog cs0 false (maskLv 55) Tryz.f391.ntmps [] (fun _ _ _ _ => .bad) (bodyOf Tryz.f391) = B391 := by kernel_rfl
theorem F391_ok (H : Hy F) : EFOk T Tryz.prog F 391 F391 := ef_code H.1 H.2.1 H.2.2.1 H.2.2.2.1 H.2.2.2.2 Tryz.call391 Tryz.func391 (by kernel_rfl) (by kernel_rfl) B391_ok
/-- slices.pdqsortOrdered[string] -/
theorem B392_ok : ecF Tryz.prog cs0 false (maskLv 10384593871817177683247510831234831) Tryz.f392.ntmps [(17, [0, 1, 2, 3, 4, 5, 6, 7, 8, 9, 10, 11, 12, 13, 14], [0, 1, 3, 7, 7, 23, 63, 127, 7, 7, 775, 1799, 4095, 8191, 16383])] (fun _ _ _ _ => .bad) (bodyOf Tryz.f392) = B392 := by kernel_rfl
theorem F392_ok (H : Hy F) : EFOk T Tryz.prog F 392 F392 := ef_code H.1 H.2.1 H.2.2.1 H.2.2.2.1 H.2.2.2.2 Tryz.call392 Tryz.func392 (by kernel_rfl) (by kernel_rfl) B392_ok
/-- pentimento/seg.May$1 -/
theorem B393_ok : ecF Tryz.prog cs0 false (maskLv 5) Tryz.f393.ntmps [] (fun _ _ _ _ => .bad) (bodyOf Tryz.f393) = B393 := by kernel_rfl
theorem F393_ok (H : Hy F) : EFOk T Tryz.prog F 393 F393 := ef_code H.1 H.2.1 H.2.2.1 H.2.2.2.1 H.2.2.2.2 Tryz.call393 Tryz.func393 (by kernel_rfl) (by kernel_rfl) B393_ok
/-- slices.Equal[[]pentimento/api.Dirty,pentimento/api.Dirty] -/
theorem B394_ok : ecF Tryz.prog cs0 false (maskLv 16806963) Tryz.f394.ntmps [(6, [0, 1, 2, 3, 4, 5, 6, 7, 8], [0, 0, 3, 7, 0, 0, 48, 112, 255])] (fun _ _ _ _ => .bad) (bodyOf Tryz.f394) = B394 := by kernel_rfl
theorem F394_ok (H : Hy F) : EFOk T Tryz.prog F 394 F394 := ef_code H.1 H.2.1 H.2.2.1 H.2.2.2.1 H.2.2.2.2 Tryz.call394 Tryz.func394 (by kernel_rfl) (by kernel_rfl) B394_ok
/-- slices.Equal[[]pentimento/api.Active,pentimento/api.Active] -/
theorem B395_ok : ecF Tryz.prog cs0 false (maskLv 16806963) Tryz.f395.ntmps [(6, [0, 1, 2, 3, 4, 5, 6, 7, 8], [0, 0, 3, 7, 0, 0, 48, 112, 255])] (fun _ _ _ _ => .bad) (bodyOf Tryz.f395) = B395 := by kernel_rfl
theorem F395_ok (H : Hy F) : EFOk T Tryz.prog F 395 F395 := ef_code H.1 H.2.1 H.2.2.1 H.2.2.2.1 H.2.2.2.2 Tryz.call395 Tryz.func395 (by kernel_rfl) (by kernel_rfl) B395_ok
/-- pentimento/page.num[uint8] -/
theorem B397_ok : ecF Tryz.prog cs0 false (maskLv 9159) Tryz.f397.ntmps [(1, [0, 1, 2, 3, 4, 5, 6, 7, 8, 9, 10, 11, 12, 13, 14], [0, 1, 3, 7, 0, 16, 48, 112, 0, 511, 1023, 2047, 2047, 4095, 16383]), (5, [0, 1, 2, 3, 4, 5, 6, 7, 8, 9, 10, 11, 12, 13, 14, 15, 16, 17, 18, 19, 20, 21], [0, 0, 0, 4, 12, 28, 0, 124, 0, 256, 768, 1792, 3840, 7936, 16128, 32512, 4093, 69629, 204797, 524287, 1048575, 2097151])] (fun _ _ _ _ => .bad) (bodyOf Tryz.f397) = B397 := by kernel_rfl
theorem F397_ok (H : Hy F) : EFOk T Tryz.prog F 397 F397 := ef_code H.1 H.2.1 H.2.2.1 H.2.2.2.1 H.2.2.2.2 Tryz.call397 Tryz.func397 (by kernel_rfl) (by kernel_rfl) B397_ok
/-- pentimento/page.num[uint32] -/
theorem B398_ok : ecF Tryz.prog cs0 false (maskLv 9159) Tryz.f398.ntmps [(1, [0, 1, 2, 3, 4, 5, 6, 7, 8, 9, 10, 11, 12, 13, 14], [0, 1, 3, 7, 0, 16, 48, 112, 0, 511, 1023, 2047, 2047, 4095, 16383]), (5, [0, 1, 2, 3, 4, 5, 6, 7, 8, 9, 10, 11, 12, 13, 14, 15, 16, 17, 18, 19, 20, 21], [0, 0, 0, 4, 12, 28, 0, 124, 0, 256, 768, 1792, 3840, 7936, 16128, 32512, 4093, 69629, 204797, 524287, 1048575, 2097151])] (fun _ _ _ _ => .bad) (bodyOf Tryz.f398) = B398 := by kernel_rfl
theorem F398_ok (H : Hy F) : EFOk T Tryz.prog F 398 F398 := ef_code H.1 H.2.1 H.2.2.1 H.2.2.2.1 H.2.2.2.2 Tryz.call398 Tryz.func398 (by kernel_rfl) (by kernel_rfl) B398_ok
/-- pentimento/page.num[uint64] -/
theorem B399_ok : ecF Tryz.prog cs0 false (maskLv 9159) Tryz.f399.ntmps [(1, [0, 1, 2, 3, 4, 5, 6, 7, 8, 9, 10, 11, 12, 13, 14], [0, 1, 3, 7, 0, 16, 48, 112, 0, 511, 1023, 2047, 2047, 4095, 16383]), (5, [0, 1, 2, 3, 4, 5, 6, 7, 8, 9, 10, 11, 12, 13, 14, 15, 16, 17, 18, 19, 20, 21], [0, 0, 0, 4, 12, 28, 0, 124, 0, 256, 768, 1792, 3840, 7936, 16128, 32512, 4093, 69629, 204797, 524287, 1048575, 2097151])] (fun _ _ _ _ => .bad) (bodyOf Tryz.f399) = B399 := by kernel_rfl
theorem F399_ok (H : Hy F) : EFOk T Tryz.prog F 399 F399 := ef_code H.1 H.2.1 H.2.2.1 H.2.2.2.1 H.2.2.2.2 Tryz.call399 Tryz.func399 (by kernel_rfl) (by kernel_rfl) B399_ok
/-- (*pentimento/slot.Area).entry -/
theorem B400_ok : ecF Tryz.prog cs0 false (maskLv 115) Tryz.f400.ntmps [] (fun _ _ _ _ => .bad) (bodyOf Tryz.f400) = B400 := by kernel_rfl
theorem F400_ok (H : Hy F) : EFOk T Tryz.prog F 400 F400 := ef_code H.1 H.2.1 H.2.2.1 H.2.2.2.1 H.2.2.2.2 Tryz.call400 Tryz.func400 (by kernel_rfl) (by kernel_rfl) B400_ok
/-- slices.Backward[[]pentimento/disk.write,pentimento/disk.write]$1 -/
theorem B403_ok : ecF Tryz.prog cs0 false (maskLv 262411) Tryz.f403.ntmps [] (fun _ _ _ _ => .bad) (bodyOf Tryz.f403) = B403 := by kernel_rfl
theorem F403_ok (H : Hy F) : EFOk T Tryz.prog F 403 F403 := ef_code H.1 H.2.1 H.2.2.1 H.2.2.2.1 H.2.2.2.2 Tryz.call403 Tryz.func403 (by kernel_rfl) (by kernel_rfl) B403_ok
/-- pentimento/op.num[uint8] -/
theorem B408_ok : ecF Tryz.prog cs0 false (maskLv 69391) Tryz.f408.ntmps [(4, [0, 1, 2, 3, 4, 5, 6, 7, 8, 9, 10, 11, 12, 13, 14], [0, 1, 3, 7, 0, 16, 48, 112, 0, 511, 1023, 2047, 2047, 4095, 16383])] (fun _ _ _ _ => .bad) (bodyOf Tryz.f408) = B408 := by kernel_rfl
theorem F408_ok (H : Hy F) : EFOk T Tryz.prog F 408 F408 := ef_code H.1 H.2.1 H.2.2.1 H.2.2.2.1 H.2.2.2.2 Tryz.call408 Tryz.func408 (by kernel_rfl) (by kernel_rfl) B408_ok
/-- pentimento/op.num[uint32] -/
theorem B409_ok : ecF Tryz.prog cs0 false (maskLv 69391) Tryz.f409.ntmps [(4, [0, 1, 2, 3, 4, 5, 6, 7, 8, 9, 10, 11, 12, 13, 14], [0, 1, 3, 7, 0, 16, 48, 112, 0, 511, 1023, 2047, 2047, 4095, 16383])] (fun _ _ _ _ => .bad) (bodyOf Tryz.f409) = B409 := by kernel_rfl
theorem F409_ok (H : Hy F) : EFOk T Tryz.prog F 409 F409 := ef_code H.1 H.2.1 H.2.2.1 H.2.2.2.1 H.2.2.2.2 Tryz.call409 Tryz.func409 (by kernel_rfl) (by kernel_rfl) B409_ok
/-- (*pentimento/op.coder).kind -/
theorem B410_ok : ecF Tryz.prog cs0 false (maskLv 1) Tryz.f410.ntmps [] (fun _ _ _ _ => .bad) (bodyOf Tryz.f410) = B410 := by kernel_rfl
theorem F410_ok (H : Hy F) : EFOk T Tryz.prog F 410 F410 := ef_code H.1 H.2.1 H.2.2.1 H.2.2.2.1 H.2.2.2.2 Tryz.call410 Tryz.func410 (by kernel_rfl) (by kernel_rfl) B410_ok
/-- (*pentimento/op.coder).level -/
theorem B411_ok : ecF Tryz.prog cs0 false (maskLv 1) Tryz.f411.ntmps [] (fun _ _ _ _ => .bad) (bodyOf Tryz.f411) = B411 := by kernel_rfl
theorem F411_ok (H : Hy F) : EFOk T Tryz.prog F 411 F411 := ef_code H.1 H.2.1 H.2.2.1 H.2.2.2.1 H.2.2.2.2 Tryz.call411 Tryz.func411 (by kernel_rfl) (by kernel_rfl) B411_ok
/-- (*pentimento/op.coder).next -/
theorem B412_ok : ecF Tryz.prog cs0 false (maskLv 1) Tryz.f412.ntmps [] (fun _ _ _ _ => .bad) (bodyOf Tryz.f412) = B412 := by kernel_rfl
theorem F412_ok (H : Hy F) : EFOk T Tryz.prog F 412 F412 := ef_code H.1 H.2.1 H.2.2.1 H.2.2.2.1 H.2.2.2.2 Tryz.call412 Tryz.func412 (by kernel_rfl) (by kernel_rfl) B412_ok
/-- (*pentimento/op.coder).place -/
theorem B413_ok : ecF Tryz.prog cs0 false (maskLv 1) Tryz.f413.ntmps [] (fun _ _ _ _ => .bad) (bodyOf Tryz.f413) = B413 := by kernel_rfl
theorem F413_ok (H : Hy F) : EFOk T Tryz.prog F 413 F413 := ef_code H.1 H.2.1 H.2.2.1 H.2.2.2.1 H.2.2.2.2 Tryz.call413 Tryz.func413 (by kernel_rfl) (by kernel_rfl) B413_ok
/-- (*pentimento/op.coder).text -/
theorem B414_ok : ecF Tryz.prog cs0 false (maskLv 1) Tryz.f414.ntmps [] (fun _ _ _ _ => .bad) (bodyOf Tryz.f414) = B414 := by kernel_rfl
theorem F414_ok (H : Hy F) : EFOk T Tryz.prog F 414 F414 := ef_code H.1 H.2.1 H.2.2.1 H.2.2.2.1 H.2.2.2.2 Tryz.call414 Tryz.func414 (by kernel_rfl) (by kernel_rfl) B414_ok
/-- (*pentimento/op.coder).off -/
theorem B416_ok : ecF Tryz.prog cs0 false (maskLv 1) Tryz.f416.ntmps [] (fun _ _ _ _ => .bad) (bodyOf Tryz.f416) = B416 := by kernel_rfl
theorem F416_ok (H : Hy F) : EFOk T Tryz.prog F 416 F416 := ef_code H.1 H.2.1 H.2.2.1 H.2.2.2.1 H.2.2.2.2 Tryz.call416 Tryz.func416 (by kernel_rfl) (by kernel_rfl) B416_ok
/-- slices.Equal[[]string,string] -/
theorem B417_ok : ecF Tryz.prog cs0 false (maskLv 16806963) Tryz.f417.ntmps [(6, [0, 1, 2, 3, 4, 5, 6, 7, 8], [0, 0, 3, 7, 0, 0, 48, 112, 255])] (fun _ _ _ _ => .bad) (bodyOf Tryz.f417) = B417 := by kernel_rfl
theorem F417_ok (H : Hy F) : EFOk T Tryz.prog F 417 F417 := ef_code H.1 H.2.1 H.2.2.1 H.2.2.2.1 H.2.2.2.2 Tryz.call417 Tryz.func417 (by kernel_rfl) (by kernel_rfl) B417_ok
/-- cmp.isNaN[uint32] -/
theorem B423_ok : ecF Tryz.prog cs0 false (maskLv 5) Tryz.f423.ntmps [] (fun _ _ _ _ => .bad) (bodyOf Tryz.f423) = B423 := by kernel_rfl
theorem F423_ok (H : Hy F) : EFOk T Tryz.prog F 423 F423 := ef_code H.1 H.2.1 H.2.2.1 H.2.2.2.1 H.2.2.2.2 Tryz.call423 Tryz.func423 (by kernel_rfl) (by kernel_rfl) B423_ok
/-- slices.insertionSortOrdered[string] -/
theorem B429_ok : ecF Tryz.prog cs0 false (maskLv 1073746119) Tryz.f429.ntmps [(4, [0, 1, 2, 3, 4, 5, 6, 7, 8, 9, 10, 11, 12, 13, 14], [0, 0, 3, 7, 15, 15, 63, 127, 15, 15, 527, 1807, 3855, 8191, 16383]), (6, [0, 1, 2, 3, 4, 5, 6, 7, 8, 9, 10, 11, 12, 13, 14, 15, 16, 17], [0, 0, 0, 0, 8, 0, 0, 64, 224, 480, 0, 0, 3072, 7168, 16355, 32739, 65535, 131071])] (fun _ _ _ _ => .bad) (bodyOf Tryz.f429) = B429 := by kernel_rfl
theorem F429_ok (H : Hy F) : EFOk T Tryz.prog F 429 F429 := ef_code H.1 H.2.1 H.2.2.1 H.2.2.2.1 H.2.2.2.2 Tryz.call429 Tryz.func429 (by kernel_rfl) (by kernel_rfl) B429_ok
/-- pentimento/op.num[int] -/
theorem B440_ok : ecF Tryz.prog cs0 false (maskLv 69391) Tryz.f440.ntmps [(4, [0, 1, 2, 3, 4, 5, 6, 7, 8, 9, 10, 11, 12, 13, 14], [0, 1, 3, 7, 0, 16, 48, 112, 0, 511, 1023, 2047, 2047, 4095, 16383])] (fun _ _ _ _ => .bad) (bodyOf Tryz.f440) = B440 := by kernel_rfl
theorem F440_ok (H : Hy F) : EFOk T Tryz.prog F 440 F440 := ef_code H.1 H.2.1 H.2.2.1 H.2.2.2.1 H.2.2.2.2 Tryz.call440 Tryz.func440 (by kernel_rfl) (by kernel_rfl) B440_ok
/-- (*pentimento/op.coder).piece -/
theorem B441_ok : ecF Tryz.prog cs0 false (maskLv 131187) Tryz.f441.ntmps [(3, [0, 1, 2, 3, 4, 5, 6, 7, 8, 9, 10], [0, 1, 3, 7, 0, 16, 48, 127, 255, 511, 1023]), (4, [0, 1, 2, 3, 4, 5, 6, 7, 8, 9, 10, 11, 12, 13, 14], [0, 1, 3, 7, 0, 16, 48, 112, 0, 511, 1023, 2047, 2047, 4095, 16383]), (5, [0, 1, 2, 3, 4, 5, 6, 7, 8], [0, 1, 3, 7, 0, 31, 63, 127, 255])] (fun _ _ _ _ => .bad) (bodyOf Tryz.f441) = B441 := by kernel_rfl
theorem F441_ok (H : Hy F) : EFOk T Tryz.prog F 441 F441 := ef_code H.1 H.2.1 H.2.2.1 H.2.2.2.1 H.2.2.2.2 Tryz.call441 Tryz.func441 (by kernel_rfl) (by kernel_rfl) B441_ok
end Ev
