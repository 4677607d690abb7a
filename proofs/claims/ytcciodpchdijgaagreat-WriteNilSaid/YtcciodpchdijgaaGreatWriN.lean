/- The walks of package write where there is nothing. -/
import Derived.Test.YtcciodpchdijgaaGreatHead
import Derived.Laws.ResultCell
import Derived.Deep.Cut
namespace Go.Proofs.YtcciodpchdijgaaGreat
open Go.RowKit

theorem results_cell_tmp2W {fn : Func} {p u v : Tmp} {ty : TypeId} (h : fn.results = #[.cell p ty, .tmp u, .tmp v]) (tmps : Array Value) (P : Program) (w : World) :
    (results fn tmps).run P w =
      ((asAddr (tmps.getD p undef)).run P w).andThen fun a w₁ => ((loadVar ty a).run P w₁).andThen fun x w₂ => .ok (.tuple #[x, tmps.getD u undef, tmps.getD v undef]) w₂ := by
  simp only [results, h]
  simp [Sem.run_bind, Result.andThen]
abbrev viewZ : Value := .agg #[.int .u64 0, .int .u64 0, .slice none 0 0]
theorem write_none_nil (w : World) : Calls Tryz.prog 58 #[.pointer none] w fun e w' => e = .returned (.bool true) ∧ w' = w := by
  go_enter Tryz.func58, Tryz.ntmps58
  go_wp2_with fail
  go_ret
  exact ⟨rfl, rfl⟩
abbrev txnZ : Value := .agg #[.int .u64 0, .int .u64 0, .int .u64 0, .int .u64 0, .int .u32 0, .int .u16 0]
abbrev segW : Value := .agg #[.int .u64 0, .int .u8 0, .int .u64 0, .int .u32 0, .int .u32 0, .int .u32 0, .int .u16 0]
theorem write_may_nil (tx : Int) (w : World) : Calls Tryz.prog 65 #[.pointer none, .int .u64 tx] w fun e w' => e = .returned (.tuple #[txnZ, .int .i64 1]) ∧ Below w.heap.size w w' := by
  have HN := Lib.hid fun (W : World) => write_none_nil W
  go_enter Tryz.func65, Tryz.ntmps65
  go_wp2_with fail
  refine (HN.out _).mono ?_
  rintro e w1 ⟨rfl, hw⟩
  subst hw
  go_wp2_with fail
  exact bodyPost_ret (v := .tuple #[txnZ, .int .i64 1]) (by rw [results_cell_tmp rfl]; go_simp) rfl ⟨rfl, (Below.refl _ _).alloc (Nat.le_refl _) _⟩
theorem write_seg_nil (tx : Int) (w : World) : Calls Tryz.prog 22 #[.pointer none, .int .u64 tx] w fun e w' => e = .returned (.tuple #[segW, .bool false, .int .i64 1]) ∧ Below w.heap.size w w' := by
  have HN := Lib.hid fun (W : World) => write_none_nil W
  go_enter Tryz.func22, Tryz.ntmps22
  go_wp2_with fail
  refine (HN.out _).mono ?_
  rintro e w1 ⟨rfl, hw⟩
  subst hw
  go_wp2_with fail
  exact bodyPost_ret (v := .tuple #[segW, .bool false, .int .i64 1]) (by rw [results_cell_tmp2W rfl]; go_simp) rfl ⟨rfl, (Below.refl _ _).alloc (Nat.le_refl _) _⟩
theorem write_tree_nil (w : World) : Calls Tryz.prog 27 #[.pointer none] w fun e w' => e = .returned (.pointer none) ∧ w' = w := by
  go_enter Tryz.func27, Tryz.ntmps27
  go_wp2_with fail
  go_ret
  exact ⟨rfl, rfl⟩
theorem write_table_nil (w : World) : Calls Tryz.prog 28 #[.pointer none] w fun e w' => e = .returned (.pointer none) ∧ w' = w := by
  go_enter Tryz.func28, Tryz.ntmps28
  go_wp2_with fail
  go_ret
  exact ⟨rfl, rfl⟩
theorem write_locks_nil (w : World) : Calls Tryz.prog 29 #[.pointer none] w fun e w' => e = .returned (.pointer none) ∧ w' = w := by
  go_enter Tryz.func29, Tryz.ntmps29
  go_wp2_with fail
  go_ret
  exact ⟨rfl, rfl⟩
theorem write_delete_nil (tx : Int) (k : Sp.Bs) (w : World) : Calls Tryz.prog 19 #[.pointer none, .int .u64 tx, viewZ, str k] w fun e w' => e = .returned (.tuple #[.bool false, .int .i64 1]) ∧ Below w.heap.size w w' := by
  have HM := Lib.hid fun (W : World) => write_may_nil tx W
  go_enter Tryz.func19, Tryz.ntmps19
  go_wp2_with fail
  have hb0 := ((((Below.refl w.heap.size w).alloc (Nat.le_refl _) (.cells #[.pointer none] 48)).alloc (by simp <;> omega) (.cells #[.int .u64 tx] 22)).alloc (by simp <;> omega) (.cells #[.int .u64 0, .int .u64 0, .slice none 0 0] 55)).alloc (by simp <;> omega) (.cells #[str k] 9)
  refine (HM.out _).mono ?_
  rintro e w1 ⟨rfl, hb⟩
  have hb1 := hb0.trans (hb.mono hb0.size)
  clear hb hb0
  go_wp2_with fail
  go_ret2
  exact ⟨rfl, hb1.alloc hb1.size _⟩
theorem write_commit_nil (tx : Int) (w : World) : Calls Tryz.prog 20 #[.pointer none, .int .u64 tx] w fun e w' => e = .returned (.tuple #[.int .u64 0, .int .i64 1]) ∧ Below w.heap.size w w' := by
  have HM := Lib.hid fun (W : World) => write_may_nil tx W
  go_enter Tryz.func20, Tryz.ntmps20
  go_wp2_with fail
  have hb0 := ((Below.refl w.heap.size w).alloc (Nat.le_refl _) (.cells #[.pointer none] 48)).alloc (by simp <;> omega) (.cells #[.int .u64 tx] 22)
  refine (HM.out _).mono ?_
  rintro e w1 ⟨rfl, hb⟩
  have hb1 := hb0.trans (hb.mono hb0.size)
  clear hb hb0
  go_wp2_with fail
  go_ret2
  exact ⟨rfl, hb1.alloc hb1.size _⟩
theorem write_finish_nil (tx : Int) (w : World) : Calls Tryz.prog 24 #[.pointer none, .int .u64 tx] w fun e w' => e = .returned (.int .i64 1) ∧ Below w.heap.size w w' := by
  have HM := Lib.hid fun (W : World) => write_may_nil tx W
  go_enter Tryz.func24, Tryz.ntmps24
  go_wp2_with fail
  have hb0 := ((Below.refl w.heap.size w).alloc (Nat.le_refl _) (.cells #[.pointer none] 48)).alloc (by simp <;> omega) (.cells #[.int .u64 tx] 22)
  refine (HM.out _).mono ?_
  rintro e w1 ⟨rfl, hb⟩
  have hb1 := hb0.trans (hb.mono hb0.size)
  clear hb hb0
  go_wp2_with fail
  go_ret
  exact ⟨rfl, hb1.alloc hb1.size _⟩
theorem write_put_nil (tx : Int) (k v : Sp.Bs) (w : World) : Calls Tryz.prog 23 #[.pointer none, .int .u64 tx, viewZ, str k, str v] w fun e w' => e = .returned (.int .i64 1) ∧ Below w.heap.size w w' := by
  have HM := Lib.hid fun (W : World) => write_may_nil tx W
  go_enter Tryz.func23, Tryz.ntmps23
  go_wp2_with fail
  have hb0 := (((((Below.refl w.heap.size w).alloc (Nat.le_refl _) (.cells #[.pointer none] 48)).alloc (by simp <;> omega) (.cells #[.int .u64 tx] 22)).alloc (by simp <;> omega) (.cells #[.int .u64 0, .int .u64 0, .slice none 0 0] 55)).alloc (by simp <;> omega) (.cells #[str k] 9)).alloc (by simp <;> omega) (.cells #[str v] 9)
  refine (HM.out _).mono ?_
  rintro e w1 ⟨rfl, hb⟩
  have hb1 := hb0.trans (hb.mono hb0.size)
  clear hb hb0
  go_wp2_with fail
  go_ret
  exact ⟨rfl, hb1.alloc hb1.size _⟩
end Go.Proofs.YtcciodpchdijgaaGreat
