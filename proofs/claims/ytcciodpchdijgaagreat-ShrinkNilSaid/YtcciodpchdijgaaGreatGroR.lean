/- The walk of pentimentolaw19.Rec. -/
import Derived.Test.YtcciodpchdijgaaGreatHead
import Derived.Laws.ResultCell
namespace Go.Proofs.YtcciodpchdijgaaGreat
open Go.RowKit

/-- A record that puts. -/
abbrev recA : Value := .agg #[.int .u8 2, .int .u64 7, .int .u64 0, .int .u32 0, .int .u16 0, .int .u64 0, .int .u64 0, str [], .slice none 0 0, .slice none 0 0, .int .u64 0, .int .u64 0]
theorem results_cell1 {fn : Func} {p : Tmp} {ty : TypeId} (h : fn.results = #[.cell p ty]) (tmps : Array Value) (P : Program) (w : World) :
    (results fn tmps).run P w = ((asAddr (tmps.getD p undef)).run P w).andThen fun a w₁ => ((loadVar ty a).run P w₁).andThen fun v w₂ => .ok v w₂ := by
  simp only [results, h]
  simp [Sem.run_bind, Result.andThen]
  split
  · split <;> assumption
  · rfl
theorem law19_rec (w : World) : Calls Tryz.prog 9 #[] w fun e w' => e = .returned recA ∧ Below w.heap.size w w' := by
  go_enter Tryz.func9, Tryz.ntmps9
  go_wp2_with fail
  exact bodyPost_ret (v := recA) (by rw [results_cell1 rfl]; go_simp) rfl ⟨rfl, (Below.refl _ _).alloc (Nat.le_refl _) _⟩
end Go.Proofs.YtcciodpchdijgaaGreat
