/- Laws of their own; law 27 alive. -/
import Derived.Test.YtcciodpchdijgaaGreatEvCW
import Derived.Test.YtcciodpchdijgaaGreatEFW
import Derived.Test.YtcciodpchdijgaaGreatEMSW
set_option linter.constructorNameAsVariable false
set_option linter.unusedVariables false
set_option linter.unusedSimpArgs false
set_option maxRecDepth 100000
namespace Ev
open Go Go.Conc Go.RowKit Go.Proofs
theorem mixed : Tryz.prog.follows .mixedOrders = true := by kernel_rfl
theorem runs : ClOk T0 Tryz.prog Fence.wide (E P19b 100000) := sound19 rfl (fun _ => rnd0 cs_ok mixed) (fs0 cs_ok mixed cmp_ok more_ok)
theorem alive_calls (w : World) : Calls Tryz.prog 16 #[] w fun e w' => e = .returned (.bool true) ∧ Below w.heap.size w w' :=
  run_true runs run19 w
theorem tu_of {σ : Rho} {c : CV} {x : Value} {ys : List Value} (h : VR σ (.tu c) x) (e : c.exp.map plV = ys.map some) : x = .tuple ys.toArray := by
  cases h with
  | @tu _ xs h hw =>
    obtain ⟨l⟩ := xs
    have := plL_ok h e
    simp only at this
    subst this
    rfl
theorem new_run : R.is (E P19b 100000 (.f (Ps.of 17)) (.c .pn (.c .pn (.c .pn .nil))) ⟨.e, .h⟩ (fun v _ => R.of (AV.same v (.tu (.c .pn (.c (.nt .i64 (.ofNat 1)) .nil)))))) = true := by kernel_rfl
theorem new_nil (w : World) : Calls Tryz.prog 17 #[.pointer none, .pointer none, .pointer none] w fun e w' => e = .returned (.tuple #[.pointer none, .int .i64 1]) ∧ Below w.heap.size w w' := by
  refine (run_val runs new_run (vals := #[.pointer none, .pointer none, .pointer none]) (.cons .pn (.cons .pn (.cons .pn .nil))) trivial w).mono ?_
  rintro e w' ⟨⟨σ, y, rfl, hy⟩, hb⟩
  exact ⟨by rw [tu_of (ys := [.pointer none, .int .i64 1]) hy rfl], hb⟩
theorem begin_run : R.is (E P19b 100000 (.f (Ps.of 18)) (.c .pn .nil) ⟨.e, .h⟩ (fun v _ => R.of (AV.same v (.tu (.c (.nt .u64 (.ofNat 0)) (.c (.nt .i64 (.ofNat 1)) .nil)))))) = true := by kernel_rfl
theorem begin_nil (w : World) : Calls Tryz.prog 18 #[.pointer none] w fun e w' => e = .returned (.tuple #[.int .u64 0, .int .i64 1]) ∧ Below w.heap.size w w' := by
  refine (run_val runs begin_run (vals := #[.pointer none]) (.cons .pn .nil) trivial w).mono ?_
  rintro e w' ⟨⟨σ, y, rfl, hy⟩, hb⟩
  exact ⟨by rw [tu_of (ys := [.int .u64 0, .int .i64 1]) hy rfl], hb⟩
theorem back_run : R.is (E P19b 100000 (.f (Ps.of 21)) (.c .pn (.c .un .nil)) ⟨.e, .h⟩ (fun v _ => R.of (AV.same v (.tu (.c (.bo false) (.c (.nt .i64 (.ofNat 1)) .nil)))))) = true := by kernel_rfl
theorem back_nil (x : Value) (w : World) : Calls Tryz.prog 21 #[.pointer none, x] w fun e w' => e = .returned (.tuple #[.bool false, .int .i64 1]) ∧ Below w.heap.size w w' := by
  refine (run_val runs back_run (vals := #[.pointer none, x]) (.cons .pn (.cons (.un _) .nil)) trivial w).mono ?_
  rintro e w' ⟨⟨σ, y, rfl, hy⟩, hb⟩
  exact ⟨by rw [tu_of (ys := [.bool false, .int .i64 1]) hy rfl], hb⟩
theorem abort_run : R.is (E P19b 100000 (.f (Ps.of 25)) (.c .pn (.c .un .nil)) ⟨.e, .h⟩ (fun v _ => R.of (AV.same v (.nt .i64 (.ofNat 1))))) = true := by kernel_rfl
theorem abort_nil (x : Value) (w : World) : Calls Tryz.prog 25 #[.pointer none, x] w fun e w' => e = .returned (.int .i64 1) ∧ Below w.heap.size w w' := by
  refine (run_val runs abort_run (vals := #[.pointer none, x]) (.cons .pn (.cons (.un _) .nil)) trivial w).mono ?_
  rintro e w' ⟨⟨σ, y, rfl, hy⟩, hb⟩
  exact ⟨by rw [plV_ok (y := .int .i64 1) hy rfl], hb⟩
theorem reserved_run : R.is (E P19b 100000 (.f (Ps.of 26)) (.c .pn (.c .un .nil)) ⟨.e, .h⟩ (fun v _ => R.of (AV.same v (.nt .i64 (.ofNat 0))))) = true := by kernel_rfl
theorem reserved_nil (x : Value) (w : World) : Calls Tryz.prog 26 #[.pointer none, x] w fun e w' => e = .returned (.int .i64 0) ∧ Below w.heap.size w w' := by
  refine (run_val runs reserved_run (vals := #[.pointer none, x]) (.cons .pn (.cons (.un _) .nil)) trivial w).mono ?_
  rintro e w' ⟨⟨σ, y, rfl, hy⟩, hb⟩
  exact ⟨by rw [plV_ok (y := .int .i64 0) hy rfl], hb⟩
end Ev
