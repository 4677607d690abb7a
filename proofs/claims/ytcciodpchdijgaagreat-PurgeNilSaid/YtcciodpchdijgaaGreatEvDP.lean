/- Laws of their own; law 28 alive. -/
import Derived.Test.YtcciodpchdijgaaGreatEvCP
import Derived.Test.YtcciodpchdijgaaGreatEFP
import Derived.Test.YtcciodpchdijgaaGreatEMSP
set_option linter.constructorNameAsVariable false
set_option linter.unusedVariables false
set_option linter.unusedSimpArgs false
set_option maxRecDepth 100000
namespace Ev
open Go Go.Conc Go.RowKit Go.Proofs
theorem mixed : Tryz.prog.follows .mixedOrders = true := by kernel_rfl
theorem runs : ClOk T0 Tryz.prog Fence.wide (E P19b 100000) := sound19 rfl (fun _ => rnd0 cs_ok mixed) (fs0 cs_ok mixed cmp_ok more_ok)
theorem alive_calls (w : World) : Calls Tryz.prog 30 #[] w fun e w' => e = .returned (.bool true) ∧ Below w.heap.size w w' :=
  run_true runs run19 w
noncomputable def segC : CV := .c (.nt .u64 (.ofNat 0)) (.b 1 0 (.c (.nt .u64 (.ofNat 0)) (.c (.nt .u32 (.ofNat 0)) (.c (.nt .u32 (.ofNat 0)) (.c (.nt .u32 (.ofNat 0)) (.c (.nt .u16 (.ofNat 0)) .nil))))))
noncomputable def segA : AV := .tu (.c (.ag segC) (.c (.bo false) (.c (.nt .i64 (.ofNat 1)) .nil)))
theorem seg_of {σ : Rho} {x : Value} (h : VR σ segA x) : x = .tuple #[.agg #[.int .u64 0, .int .u8 0, .int .u64 0, .int .u32 0, .int .u32 0, .int .u32 0, .int .u16 0], .bool false, .int .i64 1] := by
  unfold segA at h
  cases h with
  | @tu _ xs h hw =>
    obtain ⟨l⟩ := xs
    have h : AL σ [.ag segC, .bo false, .nt .i64 (.ofNat 1)] l := h
    cases h with
    | cons h1 t1 => cases t1 with
      | cons h2 t2 => cases t2 with
        | cons h3 t3 =>
          cases t3; cases h2; cases h3
          cases h1 with
          | @ag _ ys h4 hw4 =>
            obtain ⟨m⟩ := ys
            have h4 : AL σ segC.exp m := h4
            have := plL_ok (ys := [.int .u64 0, .int .u8 0, .int .u64 0, .int .u32 0, .int .u32 0, .int .u32 0, .int .u16 0]) h4 rfl
            subst this
            rfl
theorem tu_of {σ : Rho} {c : CV} {x : Value} {ys : List Value} (h : VR σ (.tu c) x) (e : c.exp.map plV = ys.map some) : x = .tuple ys.toArray := by
  cases h with
  | @tu _ xs h hw =>
    obtain ⟨l⟩ := xs
    have := plL_ok h e
    simp only at this
    subst this
    rfl
theorem hist_run : R.is (E P19b 100000 (.f (Ps.of 33)) (.c .pn .nil) ⟨.e, .h⟩ (fun v _ => R.of (AV.same v (.tu (.c .sn (.c (.nt .i64 (.ofNat 1)) .nil)))))) = true := by kernel_rfl
theorem hist_nil (w : World) : Calls Tryz.prog 33 #[.pointer none] w fun e w' => e = .returned (.tuple #[.slice none 0 0, .int .i64 1]) ∧ Below w.heap.size w w' := by
  refine (run_val runs hist_run (vals := #[.pointer none]) (.cons .pn .nil) trivial w).mono ?_
  rintro e w' ⟨⟨σ, y, rfl, hy⟩, hb⟩
  exact ⟨by rw [tu_of (ys := [.slice none 0 0, .int .i64 1]) hy rfl], hb⟩
theorem next_run : R.is (E P19b 100000 (.f (Ps.of 34)) (.c .pn (.c (.pt .h 0) .nil)) ⟨.e, .o .h⟩ (fun v _ => R.of (AV.same v segA))) = true := by kernel_rfl
theorem next_nil (g : Nat) (w : World) : Calls Tryz.prog 34 #[.pointer none, .pointer (some ⟨g, 0, none⟩)] w fun e w' => e = .returned (.tuple #[.agg #[.int .u64 0, .int .u8 0, .int .u64 0, .int .u32 0, .int .u32 0, .int .u32 0, .int .u16 0], .bool false, .int .i64 1]) ∧ Below w.heap.size w w' := by
  refine (run_valP runs g next_run (vals := #[.pointer none, .pointer (some ⟨g, 0, none⟩)]) (.cons .pn (.cons (VR.pt (l := ⟨g, 0, 0⟩) 0 rfl) .nil)) trivial w).mono ?_
  rintro e w' ⟨⟨σ, y, rfl, hy⟩, hb⟩
  exact ⟨by rw [seg_of hy], hb⟩
theorem next0_run : R.is (E P19b 100000 (.f (Ps.of 34)) (.c .pn (.c .pn .nil)) ⟨.e, .h⟩ (fun v _ => R.of (AV.same v segA))) = true := by kernel_rfl
theorem next0_nil (w : World) : Calls Tryz.prog 34 #[.pointer none, .pointer none] w fun e w' => e = .returned (.tuple #[.agg #[.int .u64 0, .int .u8 0, .int .u64 0, .int .u32 0, .int .u32 0, .int .u32 0, .int .u16 0], .bool false, .int .i64 1]) ∧ Below w.heap.size w w' := by
  refine (run_val runs next0_run (vals := #[.pointer none, .pointer none]) (.cons .pn (.cons .pn .nil)) trivial w).mono ?_
  rintro e w' ⟨⟨σ, y, rfl, hy⟩, hb⟩
  exact ⟨by rw [seg_of hy], hb⟩
theorem step_run : R.is (E P19b 100000 (.f (Ps.of 35)) (.c .pn (.c .pn .nil)) ⟨.e, .h⟩ (fun v _ => R.of (AV.same v (.tu (.c (.bo false) (.c (.nt .i64 (.ofNat 1)) .nil)))))) = true := by kernel_rfl
theorem step_nil (w : World) : Calls Tryz.prog 35 #[.pointer none, .pointer none] w fun e w' => e = .returned (.tuple #[.bool false, .int .i64 1]) ∧ Below w.heap.size w w' := by
  refine (run_val runs step_run (vals := #[.pointer none, .pointer none]) (.cons .pn (.cons .pn .nil)) trivial w).mono ?_
  rintro e w' ⟨⟨σ, y, rfl, hy⟩, hb⟩
  exact ⟨by rw [tu_of (ys := [.bool false, .int .i64 1]) hy rfl], hb⟩
end Ev
