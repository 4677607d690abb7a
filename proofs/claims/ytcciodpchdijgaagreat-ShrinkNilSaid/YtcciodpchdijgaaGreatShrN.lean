/- The walks of package shrink where there is no tree. -/
import Derived.Test.YtcciodpchdijgaaGreatGroR
namespace Go.Proofs.YtcciodpchdijgaaGreat
open Go.RowKit

/-- A record of nobody's row that goes. -/
abbrev recN : Value := .agg #[.int .u8 6, .int .u64 7, .int .u64 0, .int .u32 0, .int .u16 0, .int .u64 0, .int .u64 0, str [], .slice none 0 0, .slice none 0 0, .int .u64 0, .int .u64 0]
abbrev recNO : Obj := .cells #[.int .u8 6, .int .u64 7, .int .u64 0, .int .u32 0, .int .u16 0, .int .u64 0, .int .u64 0, str [], .slice none 0 0, .slice none 0 0, .int .u64 0, .int .u64 0] 38
theorem law20_nest (w : World) : Calls Tryz.prog 13 #[] w fun e w' => e = .returned recN ∧ w' = w.alloc recNO := by
  go_enter Tryz.func13, Tryz.ntmps13
  go_wp2_with fail
  exact bodyPost_ret (v := recN) (by rw [results_cell1 rfl]; go_simp) rfl ⟨rfl, rfl⟩
theorem shrink_drop_nil (k : Sp.Bs) (w : World) : Calls Tryz.prog 12 #[.pointer none, recN, str k] w fun e w' => e = .returned (.tuple #[.int .u64 0, .int .i64 1]) ∧ Below w.heap.size w w' := by
  go_enter Tryz.func12, Tryz.ntmps12
  go_wp2_with fail
  go_ret2
  exact ⟨rfl, (Below.refl _ _).alloc (Nat.le_refl _) _⟩
end Go.Proofs.YtcciodpchdijgaaGreat
