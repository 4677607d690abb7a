/- Laws of their own; law 20 alive. -/
import Derived.Test.YtcciodpchdijgaaGreatEvCS
import Derived.Test.YtcciodpchdijgaaGreatEFS
import Derived.Test.YtcciodpchdijgaaGreatEMSS
set_option linter.constructorNameAsVariable false
set_option linter.unusedVariables false
set_option linter.unusedSimpArgs false
set_option maxRecDepth 100000
namespace Ev
open Go Go.Conc Go.RowKit Go.Proofs
theorem mixed : Tryz.prog.follows .mixedOrders = true := by kernel_rfl
theorem runs : ClOk T0 Tryz.prog Fence.wide (E P19b 100000) := sound19 rfl (fun _ => rnd0 cs_ok mixed) (fs0 cs_ok mixed cmp_ok more_ok)
theorem alive_calls (w : World) : Calls Tryz.prog 11 #[] w fun e w' => e = .returned (.bool true) ∧ Below w.heap.size w w' :=
  run_true runs run19 w
theorem step_run : R.is (E P19b 100000 (.f (Ps.of 14)) (.c .pn (.c (.nt .u64 (.ofNat 1)) (.c .un .nil))) ⟨.e, .h⟩ (fun v _ => R.of (AV.same v (.tu (.c (.bo false) (.c (.nt .i64 (.ofNat 1)) .nil)))))) = true := by kernel_rfl
theorem step_nil (x : Value) (w : World) : Calls Tryz.prog 14 #[.pointer none, .int .u64 1, x] w fun e w' => e = .returned (.tuple #[.bool false, .int .i64 1]) ∧ Below w.heap.size w w' := by
  refine (run_val runs step_run (vals := #[.pointer none, .int .u64 1, x]) (.cons .pn (.cons (.nt _ _) (.cons (.un _) .nil))) trivial w).mono ?_
  rintro e w' ⟨⟨σ, y, rfl, hy⟩, hb⟩
  refine ⟨?_, hb⟩
  cases hy with
  | @tu _ xs h hw =>
    obtain ⟨l⟩ := xs
    have h : AL σ _ l := h
    cases h with
    | cons h1 t1 => cases t1 with
      | cons h2 t2 => cases t2; cases h1; cases h2; rfl
theorem tidy_run : R.is (E P19b 100000 (.f (Ps.of 15)) (.c .pn (.c (.nt .u64 (.ofNat 1)) (.c .un .nil))) ⟨.e, .h⟩ (fun v _ => R.of (AV.same v (.tu (.c (.nt .i64 (.ofNat 0)) (.c (.nt .i64 (.ofNat 1)) .nil)))))) = true := by kernel_rfl
theorem tidy_nil (x : Value) (w : World) : Calls Tryz.prog 15 #[.pointer none, .int .u64 1, x] w fun e w' => e = .returned (.tuple #[.int .i64 0, .int .i64 1]) ∧ Below w.heap.size w w' := by
  refine (run_val runs tidy_run (vals := #[.pointer none, .int .u64 1, x]) (.cons .pn (.cons (.nt _ _) (.cons (.un _) .nil))) trivial w).mono ?_
  rintro e w' ⟨⟨σ, y, rfl, hy⟩, hb⟩
  refine ⟨?_, hb⟩
  cases hy with
  | @tu _ xs h hw =>
    obtain ⟨l⟩ := xs
    have h : AL σ _ l := h
    cases h with
    | cons h1 t1 => cases t1 with
      | cons h2 t2 => cases t2; cases h1; cases h2; rfl
end Ev
