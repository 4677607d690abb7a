/- The walks of package grow where there is no tree. -/
import Derived.Test.YtcciodpchdijgaaGreatHead
import Derived.Laws.ResultCell
namespace Go.Proofs.YtcciodpchdijgaaGreat
open Go.RowKit

/-- A row. -/
abbrev rowA (k : Sp.Bs) (m : Bool) (t p s : Int) (v : Sp.Bs) (q : Int) : Value := .agg #[str k, .bool m, .int .u64 t, .int .u32 p, .int .u16 s, str v, .int .i64 q]
/-- A record that puts. -/
abbrev recA : Value := .agg #[.int .u8 2, .int .u64 7, .int .u64 0, .int .u32 0, .int .u16 0, .int .u64 0, .int .u64 0, str [], .slice none 0 0, .slice none 0 0, .int .u64 0, .int .u64 0]
theorem results_cell1 {fn : Func} {p : Tmp} {ty : TypeId} (h : fn.results = #[.cell p ty]) (tmps : Array Value) (P : Program) (w : World) :
    (results fn tmps).run P w = ((asAddr (tmps.getD p undef)).run P w).andThen fun a w₁ => ((loadVar ty a).run P w₁).andThen fun v w₂ => .ok v w₂ := by
  simp only [results, h]
  simp [Sem.run_bind, Result.andThen]
  split
  · split <;> assumption
  · rfl
/-- Rec's own cells. -/
abbrev recO : Obj := .cells #[.int .u8 2, .int .u64 7, .int .u64 0, .int .u32 0, .int .u16 0, .int .u64 0, .int .u64 0, str [], .slice none 0 0, .slice none 0 0, .int .u64 0, .int .u64 0] 38
theorem law19_recE (w : World) : Calls Tryz.prog 9 #[] w fun e w' => e = .returned recA ∧ w' = w.alloc recO := by
  go_enter Tryz.func9, Tryz.ntmps9
  go_wp2_with fail
  exact bodyPost_ret (v := recA) (by rw [results_cell1 rfl]; go_simp) rfl ⟨rfl, rfl⟩
theorem law19_rec (w : World) : Calls Tryz.prog 9 #[] w fun e w' => e = .returned recA ∧ Below w.heap.size w w' := by
  go_enter Tryz.func9, Tryz.ntmps9
  go_wp2_with fail
  exact bodyPost_ret (v := recA) (by rw [results_cell1 rfl]; go_simp) rfl ⟨rfl, (Below.refl _ _).alloc (Nat.le_refl _) _⟩
/-- A row's place that is none. -/
abbrev plZ : Array Value := #[.slice none 0 0, .int .u8 0, .int .u8 0, .int .u32 0, .int .u64 0, .int .u32 0, .slice none 0 0, .int .i64 0, .bool false, str []]
theorem grow_of_nil (k : Sp.Bs) (m : Bool) (t p s : Int) (v : Sp.Bs) (q : Int) (w : World) : Calls Tryz.prog 40 #[.pointer none, rowA k m t p s v q] w fun e w' => e = .returned (.tuple #[.agg plZ, .int .i64 1]) ∧ Below w.heap.size w w' := by
  go_enter Tryz.func40, Tryz.ntmps40
  go_wp2_with fail
  exact bodyPost_ret (v := .tuple #[.agg plZ, .int .i64 1]) (by rw [results_cell_tmp rfl]; go_simp) rfl ⟨rfl, ((Below.refl _ _).alloc (Nat.le_refl _) _).alloc (by simp) _⟩
theorem grow_step_nil (k : Sp.Bs) (m : Bool) (t p s : Int) (v : Sp.Bs) (q : Int) (tx : Int) (w : World) : Calls Tryz.prog 10 #[.pointer none, .int .u64 tx, rowA k m t p s v q] w fun e w' => e = .returned (.tuple #[.bool false, .int .i64 1]) ∧ Below w.heap.size w w' := by
  have HO := Lib.hid fun (W : World) => grow_of_nil k m t p s v q W
  go_enter Tryz.func10, Tryz.ntmps10
  go_wp2_with fail
  refine (HO.out _).mono ?_
  rintro e w1 ⟨rfl, hb⟩
  have hb2 := ((Below.refl w.heap.size w).alloc (Nat.le_refl _) (.cells #[str k, .bool m, .int .u64 t, .int .u32 p, .int .u16 s, str v, .int .i64 q] 28)).trans (hb.mono (by simp))
  clear hb
  go_wp2_with fail
  go_ret2
  exact ⟨rfl, hb2.alloc hb2.size _⟩
theorem grow_put_nil (k : Sp.Bs) (m : Bool) (t p s : Int) (v : Sp.Bs) (q : Int) (w : World) : Calls Tryz.prog 8 #[.pointer none, recA, rowA k m t p s v q] w fun e w' => e = .returned (.tuple #[.int .u64 0, .int .i64 1]) ∧ Below w.heap.size w w' := by
  have HO := Lib.hid fun (W : World) => grow_step_nil k m t p s v q 7 W
  go_enter Tryz.func8, Tryz.ntmps8
  go_wp2_with fail
  go_loopw [6] (fun _ wr => wr = (w.alloc (.cells #[.int .u8 2, .int .u64 7, .int .u64 0, .int .u32 0, .int .u16 0, .int .u64 0, .int .u64 0, str [], .slice none 0 0, .slice none 0 0, .int .u64 0, .int .u64 0] 38)).alloc (.cells #[str k, .bool m, .int .u64 t, .int .u32 p, .int .u16 s, str v, .int .i64 q] 28)) (fun _ _ => 0)
  case atStart => rfl
  case round =>
    subst hrel
    go_wp2_with fail
    refine (HO.out _).mono ?_
    rintro e w1 ⟨rfl, hb⟩
    have hb2 := (((Below.refl w.heap.size w).alloc (Nat.le_refl _) (.cells #[.int .u8 2, .int .u64 7, .int .u64 0, .int .u32 0, .int .u16 0, .int .u64 0, .int .u64 0, str [], .slice none 0 0, .slice none 0 0, .int .u64 0, .int .u64 0] 38)).alloc (by simp) (.cells #[str k, .bool m, .int .u64 t, .int .u32 p, .int .u16 s, str v, .int .i64 q] 28)).trans (hb.mono (by simp; omega))
    clear hb
    go_wp2_with fail
    go_ret2
    exact ⟨rfl, hb2⟩
end Go.Proofs.YtcciodpchdijgaaGreat
