/- The argument of the law GrowNil opened: a row. -/
import Derived.Test.YtcciodpchdijgaaGreatHead
import Derived.Test.YtcciodpchdijgaaGreatArg
import Derived.ChangeSlices
namespace Go.Proofs.YtcciodpchdijgaaGreat
open Go.ChangeShapes Go.WideShapes Go.ChangeAt Go.RowKit Go.Deep

set_option maxRecDepth 100000 in
/-- A roll, opened. -/
theorem roll_opened {H : Type} {enc : TypeId × Value → H} {w : World} {fuel : Nat} {cs : List Value} {x : DataW H × List MemPlace} (h : DataW.trod enc Tryz.prog w 0 (fun _ => true) true fuel 26 cs = some x) :
    ∃ p s : Int, cs = [.int .u32 p, .int .u16 s] := by
  obtain ⟨hl, ys, n, hx, hf⟩ := fields_opened Tryz.underlying26 h
  rw [show Tryz.prog.cellsOf 26 = 2 by kernel_rfl] at hl
  match cs, hl with
  | [v0, v1], _ =>
    obtain ⟨y0, _, _, h0⟩ := hf 0 _ rfl
    obtain ⟨y1, _, _, h1⟩ := hf 1 _ rfl
    have c32 : Tryz.prog.cellsOf 23 = 1 := by kernel_rfl
    have c16 : Tryz.prog.cellsOf 24 = 1 := by kernel_rfl
    replace h0 : DataW.trod enc Tryz.prog w 0 (fun _ => true) true n 23 [v0] = some y0 := by rw [← h0]; show _ = DataW.trod _ _ _ _ _ _ _ _ (List.take (Tryz.prog.cellsOf 23) _); rw [c32]; rfl
    replace h1 : DataW.trod enc Tryz.prog w 0 (fun _ => true) true n 24 [v1] = some y1 := by rw [← h1]; show _ = DataW.trod _ _ _ _ _ _ _ _ (List.take (Tryz.prog.cellsOf 24) _); rw [c16]; rfl
    obtain ⟨a, e0, _, w0⟩ := DataW.trod_int Tryz.underlying23 h0
    obtain ⟨b, e1, _, w1⟩ := DataW.trod_int Tryz.underlying24 h1
    simp at e0 e1
    subst e0 e1
    exact ⟨a, b, rfl⟩

set_option maxRecDepth 100000 in
/-- A row, opened. -/
theorem row_opened {H : Type} {enc : TypeId × Value → H} {w : World} {fuel : Nat} {cs : List Value} {x : DataW H × List MemPlace} (h : DataW.trod enc Tryz.prog w 0 (fun _ => true) true fuel 28 cs = some x) (hs : Small Tryz.prog 28 x.1) :
    ∃ (k : Sp.Bs) (m : Bool) (t p s : Int) (v : Sp.Bs) (q : Int), cs = [str k, .bool m, .int .u64 t, .int .u32 p, .int .u16 s, str v, .int .i64 q] ∧ k.length ≤ 140737488355328 ∧ v.length ≤ 140737488355328 := by
  obtain ⟨hl, ys, n, hx, hf⟩ := fields_opened Tryz.underlying28 h
  rw [show Tryz.prog.cellsOf 28 = 7 by kernel_rfl] at hl
  match cs, hl with
  | [v0, v1, v2, v3, v4, v5, v6], _ =>
    obtain ⟨y0, _, hy0, h0⟩ := hf 0 _ rfl
    obtain ⟨y1, _, _, h1⟩ := hf 1 _ rfl
    obtain ⟨y2, _, _, h2⟩ := hf 2 _ rfl
    obtain ⟨y3, _, _, h3⟩ := hf 3 _ rfl
    obtain ⟨y4, _, hy4, h4⟩ := hf 4 _ rfl
    obtain ⟨y5, _, _, h5⟩ := hf 5 _ rfl
    rw [hx] at hs
    have hs0 := small_field Tryz.underlying28 hs (j := 0) rfl hy0
    have hs4 := small_field Tryz.underlying28 hs (j := 4) rfl hy4
    have c64 : Tryz.prog.cellsOf 22 = 1 := by kernel_rfl
    have ci : Tryz.prog.cellsOf 3 = 1 := by kernel_rfl
    have cb : Tryz.prog.cellsOf 4 = 1 := by kernel_rfl
    have cs1 : Tryz.prog.cellsOf 9 = 1 := by kernel_rfl
    have cr : Tryz.prog.cellsOf 26 = 2 := by kernel_rfl
    replace h0 : DataW.trod enc Tryz.prog w 0 (fun _ => true) true n 9 [v0] = some y0 := by rw [← h0]; show _ = DataW.trod _ _ _ _ _ _ _ _ (List.take (Tryz.prog.cellsOf 9) _); rw [cs1]; rfl
    replace h1 : DataW.trod enc Tryz.prog w 0 (fun _ => true) true n 4 [v1] = some y1 := by rw [← h1]; show _ = DataW.trod _ _ _ _ _ _ _ _ (List.take (Tryz.prog.cellsOf 4) _); rw [cb]; rfl
    replace h2 : DataW.trod enc Tryz.prog w 0 (fun _ => true) true n 22 [v2] = some y2 := by rw [← h2]; show _ = DataW.trod _ _ _ _ _ _ _ _ (List.take (Tryz.prog.cellsOf 22) _); rw [c64]; rfl
    replace h3 : DataW.trod enc Tryz.prog w 0 (fun _ => true) true n 26 [v3, v4] = some y3 := by rw [← h3]; show _ = DataW.trod _ _ _ _ _ _ _ _ (List.take (Tryz.prog.cellsOf 26) _); rw [cr]; rfl
    replace h4 : DataW.trod enc Tryz.prog w 0 (fun _ => true) true n 9 [v5] = some y4 := by rw [← h4]; show _ = DataW.trod _ _ _ _ _ _ _ _ (List.take (Tryz.prog.cellsOf 9) _); rw [cs1]; rfl
    replace h5 : DataW.trod enc Tryz.prog w 0 (fun _ => true) true n 3 [v6] = some y5 := by rw [← h5]; show _ = DataW.trod _ _ _ _ _ _ _ _ (List.take (Tryz.prog.cellsOf 3) _); rw [ci]; rfl
    obtain ⟨k, e0, ey0, _⟩ := DataW.trod_string Tryz.underlying9 h0
    obtain ⟨b, e1, _⟩ := DataW.trod_bool Tryz.underlying4 h1
    obtain ⟨t, e2, _, w2⟩ := DataW.trod_int Tryz.underlying22 h2
    obtain ⟨p, s, e3⟩ := roll_opened h3
    obtain ⟨u, e4, ey4, _⟩ := DataW.trod_string Tryz.underlying9 h4
    obtain ⟨d, e5, _, w5⟩ := DataW.trod_int Tryz.underlying3 h5
    simp at e0 e1 e2 e3 e4 e5
    rw [ey0] at hs0
    rw [ey4] at hs4
    have hz0 := small_string hs0
    have hz4 := small_string hs4
    obtain ⟨e3, e3'⟩ := e3
    subst e0 e1 e2 e3 e3' e4 e5
    exact ⟨k.data.toList, b, t, p, s, u.data.toList, d, by simp [str], by omega, by omega⟩

end Go.Proofs.YtcciodpchdijgaaGreat
