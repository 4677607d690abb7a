/- The walk of the law GrowNil. -/
import Derived.Test.YtcciodpchdijgaaGreatGroN
namespace Go.Proofs.YtcciodpchdijgaaGreat
open Go.RowKit

set_option maxRecDepth 100000 in
set_option maxHeartbeats 2000000 in
theorem law_growNil (HAL0 : ∀ W : World, Calls Tryz.prog 7 #[] W fun e w' => e = .returned (.bool true) ∧ Below W.heap.size W w')
    (k : Sp.Bs) (m : Bool) (t p s : Int) (v : Sp.Bs) (q : Int) (hk : k.length ≤ 140737488355328) (hv : v.length ≤ 140737488355328) (w : World) :
    Calls Tryz.prog 3 #[rowA k m t p s v q] w fun e w' => e = .returned (.bool true) ∧ Below w.heap.size w w' := by
  have HAL := Lib.hid HAL0
  have HR := Lib.hid fun (W : World) => law19_recE W
  have HP := Lib.hid fun (W : World) => grow_put_nil k m t p s v q W
  have HS := Lib.hid fun (W : World) => grow_step_nil k m t p s v q 1 W
  clear HAL0
  go_enter Tryz.func3, Tryz.ntmps3
  go_wp2_with fail
  · refine (HAL.out _).mono ?_
    rintro e w1 ⟨rfl, hb⟩
    have hb2 := ((Below.refl w.heap.size w).alloc (Nat.le_refl _) (.cells #[str k, .bool m, .int .u64 t, .int .u32 p, .int .u16 s, str v, .int .i64 q] 28)).trans (hb.mono (by simp))
    clear hb
    go_wp2_with fail
    go_ret
    exact ⟨rfl, hb2⟩
  · go_region_with (first
      | (go_at_call 9; refine (HR.out _).mono ?_; rintro e w1 ⟨rfl, rfl⟩)
      | (go_at_call 8; refine (HP.out _).mono ?_; rintro e w2 ⟨rfl, hb⟩))
    all_goals
      have hb1 : Below w.heap.size w ((w.alloc (.cells #[str k, .bool m, .int .u64 t, .int .u32 p, .int .u16 s, str v, .int .i64 q] 28)).alloc recO).drew := (((Below.refl w.heap.size w).alloc (Nat.le_refl _) _).alloc (by simp) _).drew
      have hX1 : Blk ((w.alloc (.cells #[str k, .bool m, .int .u64 t, .int .u32 p, .int .u16 s, str v, .int .i64 q] 28)).alloc recO).drew w.heap.size 28 #[str k, .bool m, .int .u64 t, .int .u32 p, .int .u16 s, str v, .int .i64 q] := ((Blk.new w _ _).alloc _).drew
      have hX2 := hX1.below hb hX1.lt
      have hb2 := hb1.trans (hb.mono hb1.size)
      have x0 := hX2.cell 0
      have x1 := hX2.cell 1
      have x2 := hX2.cell 2
      have x3 := hX2.cell 3
      have x4 := hX2.cell 4
      have x5 := hX2.cell 5
      have x6 := hX2.cell 6
      simp only [List.getElem?_toArray, List.getElem?_cons_succ, List.getElem?_cons_zero] at x0 x1 x2 x3 x4 x5 x6
      clear hb hb1 hX1 hX2
      go_wp2_with fail
      refine (HS.out _).mono ?_
      rintro e w3 ⟨rfl, hb3⟩
      have hb4 := hb2.trans (hb3.mono hb2.size)
      clear hb2 hb3 x0 x1 x2 x3 x4 x5 x6
      go_wp2_with fail
      refine (HAL.out _).mono ?_
      rintro e w4 ⟨rfl, hb5⟩
      have hb6 := hb4.trans (hb5.mono hb4.size)
      go_wp2_with fail
      go_ret
      exact ⟨rfl, hb6⟩
end Go.Proofs.YtcciodpchdijgaaGreat
