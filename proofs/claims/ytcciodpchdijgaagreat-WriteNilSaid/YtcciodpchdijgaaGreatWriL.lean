/- The walk of the law WriteNil. -/
import Derived.Test.YtcciodpchdijgaaGreatWriN
namespace Go.Proofs.YtcciodpchdijgaaGreat
open Go.RowKit

set_option maxRecDepth 100000 in
set_option maxHeartbeats 4000000 in
theorem law_writeNil
    (HAL0 : ∀ (W : World), Calls Tryz.prog 16 #[] W fun e w' => e = .returned (.bool true) ∧ Below W.heap.size W w')
    (HNW0 : ∀ (W : World), Calls Tryz.prog 17 #[.pointer none, .pointer none, .pointer none] W fun e w' => e = .returned (.tuple #[.pointer none, .int .i64 1]) ∧ Below W.heap.size W w')
    (HBE0 : ∀ (W : World), Calls Tryz.prog 18 #[.pointer none] W fun e w' => e = .returned (.tuple #[.int .u64 0, .int .i64 1]) ∧ Below W.heap.size W w')
    (HBA0 : ∀ (x : Value) (W : World), Calls Tryz.prog 21 #[.pointer none, x] W fun e w' => e = .returned (.tuple #[.bool false, .int .i64 1]) ∧ Below W.heap.size W w')
    (HAB0 : ∀ (x : Value) (W : World), Calls Tryz.prog 25 #[.pointer none, x] W fun e w' => e = .returned (.int .i64 1) ∧ Below W.heap.size W w')
    (HRE0 : ∀ (x : Value) (W : World), Calls Tryz.prog 26 #[.pointer none, x] W fun e w' => e = .returned (.int .i64 0) ∧ Below W.heap.size W w')
    (tx : Int) (k v : Sp.Bs) (hk : k.length ≤ 140737488355328) (hv : v.length ≤ 140737488355328) (w : World) :
    Calls Tryz.prog 5 #[.int .u64 tx, str k, str v] w fun e w' => e = .returned (.bool true) ∧ Below w.heap.size w w' := by
  have HAL := Lib.hid HAL0
  have HNW := Lib.hid HNW0
  have HBE := Lib.hid HBE0
  have HBA := Lib.hid fun (W : World) => HBA0 (.int .u64 tx) W
  have HAB := Lib.hid fun (W : World) => HAB0 (.int .u64 tx) W
  have HRE := Lib.hid fun (W : World) => HRE0 (.int .u64 tx) W
  have HDE := Lib.hid fun (W : World) => write_delete_nil tx k W
  have HCO := Lib.hid fun (W : World) => write_commit_nil tx W
  have HSE := Lib.hid fun (W : World) => write_seg_nil tx W
  have HPU := Lib.hid fun (W : World) => write_put_nil tx k v W
  have HFI := Lib.hid fun (W : World) => write_finish_nil tx W
  have HTR := Lib.hid fun (W : World) => write_tree_nil W
  have HTA := Lib.hid fun (W : World) => write_table_nil W
  have HLO := Lib.hid fun (W : World) => write_locks_nil W
  clear HAL0 HNW0 HBE0 HBA0 HAB0 HRE0
  go_enter Tryz.func5, Tryz.ntmps5
  go_wp2_with fail
  · refine (HAL.out _).mono ?_
    rintro e w1 ⟨rfl, hb⟩
    go_wp2_with fail
    go_ret
    exact ⟨rfl, hb⟩
  · have hb0 := Below.refl w.heap.size w
    refine (HNW.out _).mono ?_
    rintro e w1 ⟨rfl, hb⟩
    have hb1 := hb0.trans (hb.mono hb0.size)
    clear hb hb0
    go_wp2_with fail
    refine (HBE.out _).mono ?_
    rintro e w2 ⟨rfl, hb⟩
    have hb2 := hb1.trans (hb.mono hb1.size)
    clear hb hb1
    go_wp2_with fail
    refine (HDE.out _).mono ?_
    rintro e w3 ⟨rfl, hb⟩
    have hb3 := hb2.trans (hb.mono hb2.size)
    clear hb hb2
    go_wp2_with fail
    refine (HCO.out _).mono ?_
    rintro e w4 ⟨rfl, hb⟩
    have hb4 := hb3.trans (hb.mono hb3.size)
    clear hb hb3
    go_wp2_with fail
    refine (HBA.out _).mono ?_
    rintro e w5 ⟨rfl, hb⟩
    have hb5 := hb4.trans (hb.mono hb4.size)
    clear hb hb4
    go_wp2_with fail
    refine (HSE.out _).mono ?_
    rintro e w6 ⟨rfl, hb⟩
    have hb6 := (hb5.trans (hb.mono hb5.size)).alloc (hb5.trans (hb.mono hb5.size)).size (.cells #[.int .u64 0, .int .u8 0, .int .u64 0, .int .u32 0, .int .u32 0, .int .u32 0, .int .u16 0] 59)
    clear hb hb5
    go_wp2_with fail
    refine (HPU.out _).mono ?_
    rintro e w7 ⟨rfl, hb⟩
    have hb7 := hb6.trans (hb.mono hb6.size)
    clear hb hb6
    go_wp2_with fail
    refine (HFI.out _).mono ?_
    rintro e w8 ⟨rfl, hb⟩
    have hb8 := hb7.trans (hb.mono hb7.size)
    clear hb hb7
    go_wp2_with fail
    refine (HAB.out _).mono ?_
    rintro e w9 ⟨rfl, hb⟩
    have hb9 := hb8.trans (hb.mono hb8.size)
    clear hb hb8
    go_wp2_with fail
    refine (HRE.out _).mono ?_
    rintro e w10 ⟨rfl, hb⟩
    have hb10 := hb9.trans (hb.mono hb9.size)
    clear hb hb9
    go_wp2_with fail
    refine (HTR.out _).mono ?_
    rintro e w11 ⟨rfl, hw⟩
    subst hw
    go_wp2_with fail
    refine (HTA.out _).mono ?_
    rintro e w11 ⟨rfl, hw⟩
    subst hw
    go_wp2_with fail
    refine (HLO.out _).mono ?_
    rintro e w11 ⟨rfl, hw⟩
    subst hw
    go_wp2_with fail
    refine (HAL.out _).mono ?_
    rintro e w11 ⟨rfl, hb⟩
    have hb11 := hb10.trans (hb.mono hb10.size)
    clear hb hb10
    go_wp2_with fail
    go_ret
    exact ⟨rfl, hb11⟩
end Go.Proofs.YtcciodpchdijgaaGreat
