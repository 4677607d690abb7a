/- The walks of package act where there is no act. -/
import Derived.Test.YtclpmkinjjhncaaGreatMQF
import Derived.Test.YtclpmkinjjhncaaGreatMQG

namespace Go.Proofs.YtclpmkinjjhncaaGreat
open Go.RowKit Go.Conc

abbrev Sp.recZ : Sp.Rec := ⟨0, 0, 0, 0, 0, 0, 0, [], 0, 0, 0, 0⟩
theorem act_new_nil (w : World) : Calls Tryz.prog 30 #[.pointer none, .pointer none] w fun e w' => e = .returned (.tuple #[.pointer none, .int .i64 1]) ∧ w' = w := by
  go_enter Tryz.func30, Tryz.ntmps30
  go_wp2_with fail
  go_ret2
  exact ⟨rfl, rfl⟩
theorem act_none_nil (w : World) : Calls Tryz.prog 36 #[.pointer none] w fun e w' => e = .returned (.bool true) ∧ w' = w := by
  go_enter Tryz.func36, Tryz.ntmps36
  go_wp2_with fail
  go_ret
  exact ⟨rfl, rfl⟩
theorem act_log_nil (w : World) : Calls Tryz.prog 33 #[.pointer none] w fun e w' => e = .returned (.pointer none) ∧ w' = w := by
  go_enter Tryz.func33, Tryz.ntmps33
  go_wp2_with fail
  go_ret
  exact ⟨rfl, rfl⟩
theorem act_pool_nil (w : World) : Calls Tryz.prog 34 #[.pointer none] w fun e w' => e = .returned (.pointer none) ∧ w' = w := by
  go_enter Tryz.func34, Tryz.ntmps34
  go_wp2_with fail
  go_ret
  exact ⟨rfl, rfl⟩
theorem act_cost_nil (w : World) : Calls Tryz.prog 31 #[.pointer none, recV Sp.recZ none none 0 0, .slice none 0 0] w fun e w' => e = .returned (.tuple #[.int .i64 0, .int .i64 1]) ∧ Below w.heap.size w w' := by
  have HN := Lib.hid fun (W : World) => act_none_nil W
  go_enter Tryz.func31, Tryz.ntmps31
  go_wp2_with fail
  refine (HN.out _).mono ?_
  rintro e w1 ⟨rfl, hw⟩
  subst w1
  go_wp2_with fail
  go_ret2
  exact ⟨rfl, (Below.refl w.heap.size w).alloc (Nat.le_refl _) _⟩
theorem act_again_nil (lsn : Nat) (w : World) : Calls Tryz.prog 32 #[.pointer none, .int .u64 lsn] w fun e w' => e = .returned (.tuple #[.int .u64 0, .int .i64 1]) ∧ Below w.heap.size w w' := by
  have HN := Lib.hid fun (W : World) => act_none_nil W
  go_enter Tryz.func32, Tryz.ntmps32
  go_wp2_with fail
  refine (HN.out _).mono ?_
  rintro e w1 ⟨rfl, hw⟩
  subst w1
  go_wp2_with fail
  go_ret2
  exact ⟨rfl, Below.refl _ _⟩
theorem act_page_nil (id : Nat) (w : World) : Calls Tryz.prog 10 #[.pointer none, u32v id] w fun e w' => e = .returned (.tuple #[pgV (Sp.zeroPg 0) none 0, .int .i64 1]) ∧ Below w.heap.size w w' := by
  have HN := Lib.hid fun (W : World) => act_none_nil W
  go_enter Tryz.func10, Tryz.ntmps10
  go_wp2_with fail
  refine (HN.out _).mono ?_
  rintro e w1 ⟨rfl, hw⟩
  subst w1
  go_wp2_with fail
  have hB := Blk.new w 50 (pgCs (Sp.zeroPg 0) none 0)
  have hb := (Below.refl w.heap.size w).alloc (Nat.le_refl _) (.cells (pgCs (Sp.zeroPg 0) none 0) 50)
  change bodyPost _ _ _ _ _ (w.alloc (.cells (pgCs (Sp.zeroPg 0) none 0) 50))
  generalize w.alloc (.cells (pgCs (Sp.zeroPg 0) none 0) 50) = w1 at hB hb ⊢
  have z0 := hB.cell 0
  have z1 := hB.cell 1
  have z2 := hB.cell 2
  have z3 := hB.cell 3
  have z4 := hB.cell 4
  have z5 := hB.cell 5
  simp only [List.getElem?_toArray, List.getElem?_cons_succ, List.getElem?_cons_zero] at z0 z1 z2 z3 z4 z5
  exact bodyPost_ret (v := .tuple #[pgV (Sp.zeroPg 0) none 0, .int .i64 1]) (by rw [results_cell_tmp rfl]; go_simp) rfl ⟨rfl, hb⟩
set_option maxRecDepth 100000 in
theorem act_do_nil (w : World) : Calls Tryz.prog 9 #[.pointer none, recV Sp.recZ none none 0 0, .slice none 0 0] w fun e w' => e = .returned (.tuple #[.int .u64 0, .int .i64 1]) ∧ Below w.heap.size w w' := by
  have HN := Lib.hid fun (W : World) => act_none_nil W
  go_enter_defers Tryz.func9, Tryz.ntmps9
  go_upto_region 1 with fail
  have c3 := (Blk.new w 33 #[.pointer none]).alloc (.cells (recCs Sp.recZ none none 0 0) 48)
  have c3' := c3.cell 0
  simp only [List.getElem?_toArray, List.getElem?_cons_zero] at c3'
  go_wp2_with (first
    | (go_at_call 36; refine (HN.out _).mono ?_; rintro e w2 ⟨rfl, hw⟩; subst w2))
  exact ⟨_, results_tmp2 rfl _ _ _, rfl, ((Below.refl w.heap.size w).alloc (Nat.le_refl _) _).alloc (by simp) _⟩
end Go.Proofs.YtclpmkinjjhncaaGreat

/- The walk of the law ActNil. -/
namespace Go.Proofs.YtclpmkinjjhncaaGreat
open Go.RowKit Go.Conc

set_option maxRecDepth 100000 in
set_option maxHeartbeats 4000000 in
theorem law_actNil (id lsn : Nat) (w : World) : Calls Tryz.prog 6 #[u32v id, .int .u64 lsn] w fun e w' => e = .returned (.bool true) ∧ Below w.heap.size w w' := by
  have HAL := Lib.hid fun (W : World) => law17_alive W
  have HNE := Lib.hid fun (W : World) => act_new_nil W
  have HP := Lib.hid fun (W : World) => act_page_nil id W
  have HC := Lib.hid fun (W : World) => act_cost_nil W
  have HD := Lib.hid fun (W : World) => act_do_nil W
  have HG := Lib.hid fun (W : World) => act_again_nil lsn W
  have HL := Lib.hid fun (W : World) => act_log_nil W
  have HO := Lib.hid fun (W : World) => act_pool_nil W
  go_enter Tryz.func6, Tryz.ntmps6
  go_wp2_with fail
  refine (HNE.out _).mono ?_
  rintro e w1 ⟨rfl, hw1⟩
  subst w1
  go_wp2_with fail
  refine (HP.out _).mono ?_
  rintro e w2 ⟨rfl, hb2⟩
  have hb3 := hb2.alloc hb2.size (.cells (pgCs (Sp.zeroPg 0) none 0) 50)
  clear hb2
  go_wp2_with fail
  generalize World.alloc w2 _ = w3 at hb3 ⊢
  refine (HC.out _).mono ?_
  rintro e w4 ⟨rfl, hb4⟩
  have hb5 := hb3.trans (hb4.mono hb3.size)
  clear hb4 hb3
  go_wp2_with fail
  refine (HD.out _).mono ?_
  rintro e w6 ⟨rfl, hb6⟩
  have hb7 := hb5.trans (hb6.mono hb5.size)
  clear hb5 hb6
  go_wp2_with fail
  refine (HG.out _).mono ?_
  rintro e w8 ⟨rfl, hb8⟩
  have hb9 := hb7.trans (hb8.mono hb7.size)
  clear hb7 hb8
  go_wp2_with fail
  refine (HL.out _).mono ?_
  rintro e w9 ⟨rfl, hw9⟩
  subst w9
  go_wp2_with fail
  refine (HO.out _).mono ?_
  rintro e w9 ⟨rfl, hw9⟩
  subst w9
  go_wp2_with fail
  refine (HAL.out _).mono ?_
  rintro e w10 ⟨rfl, hb10⟩
  have hb11 := hb9.trans (hb10.mono hb9.size)
  go_wp2_with fail
  go_ret
  exact ⟨rfl, hb11⟩
end Go.Proofs.YtclpmkinjjhncaaGreat
