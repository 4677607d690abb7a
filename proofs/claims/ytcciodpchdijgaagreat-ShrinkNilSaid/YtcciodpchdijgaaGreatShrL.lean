/- The walk of the law ShrinkNil. -/
import Derived.Test.YtcciodpchdijgaaGreatShrN
namespace Go.Proofs.YtcciodpchdijgaaGreat
open Go.RowKit

set_option maxRecDepth 100000 in
set_option maxHeartbeats 2000000 in
theorem law_shrinkNil (HAL0 : ∀ W : World, Calls Tryz.prog 11 #[] W fun e w' => e = .returned (.bool true) ∧ Below W.heap.size W w')
    (HS0 : ∀ (k : Sp.Bs) (W : World), Calls Tryz.prog 14 #[.pointer none, .int .u64 1, str k] W fun e w' => e = .returned (.tuple #[.bool false, .int .i64 1]) ∧ Below W.heap.size W w')
    (HT0 : ∀ (k : Sp.Bs) (W : World), Calls Tryz.prog 15 #[.pointer none, .int .u64 1, str k] W fun e w' => e = .returned (.tuple #[.int .i64 0, .int .i64 1]) ∧ Below W.heap.size W w')
    (k : Sp.Bs) (w : World) :
    Calls Tryz.prog 4 #[str k] w fun e w' => e = .returned (.bool true) ∧ Below w.heap.size w w' := by
  have HAL := Lib.hid HAL0
  have HR := Lib.hid fun (W : World) => law20_nest W
  have HP := Lib.hid fun (W : World) => shrink_drop_nil k W
  have HS := Lib.hid fun (W : World) => HS0 k W
  have HT := Lib.hid fun (W : World) => HT0 k W
  clear HAL0 HS0 HT0
  go_enter Tryz.func4, Tryz.ntmps4
  go_wp2_with fail
  · refine (HAL.out _).mono ?_
    rintro e w1 ⟨rfl, hb⟩
    go_wp2_with fail
    go_ret
    exact ⟨rfl, hb⟩
  · refine (HR.out _).mono ?_
    rintro e w1 ⟨rfl, hw1⟩
    have hb1 : Below w.heap.size w w1 := by rw [hw1]; exact (Below.refl _ _).alloc (Nat.le_refl _) _
    clear hw1
    go_wp2_with fail
    refine (HP.out _).mono ?_
    rintro e w2 ⟨rfl, hb⟩
    have hb2 := hb1.trans (hb.mono hb1.size)
    clear hb hb1
    go_wp2_with fail
    refine (HS.out _).mono ?_
    rintro e w3 ⟨rfl, hb⟩
    have hb3 := hb2.trans (hb.mono hb2.size)
    clear hb hb2
    go_wp2_with fail
    refine (HT.out _).mono ?_
    rintro e w4 ⟨rfl, hb⟩
    have hb4 := hb3.trans (hb.mono hb3.size)
    clear hb hb3
    go_wp2_with fail
    refine (HAL.out _).mono ?_
    rintro e w5 ⟨rfl, hb⟩
    have hb5 := hb4.trans (hb.mono hb4.size)
    go_wp2_with fail
    go_ret
    exact ⟨rfl, hb5⟩
end Go.Proofs.YtcciodpchdijgaaGreat
