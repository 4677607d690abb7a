/- PoolNil answers true for every number of frames, every page number and every page: the row of the law, proved for every input, with no condition. -/
import Derived.Test.YtbpjgdbkmnhnmaaGreatRows
import Derived.Test.YtbpjgdbkmnhnmaaGreatMS
import Derived.Test.YtbpjgdbkmnhnmaaGreatMR

namespace Go.Proofs.YtbpjgdbkmnhnmaaGreat
open Go.ChangeShapes Go.WideShapes Go.ChangeAt Go.RowKit Go.Deep

theorem Tryz.ownN : ownKnob Tryz.prog.godebug = none := by kernel_rfl
theorem Tryz.laidOutN : laidOutB Tryz.prog = true := by kernel_rfl

set_option maxRecDepth 100000 in
/-- A page, opened. -/
theorem page_opened {H : Type} {enc : TypeId × Value → H} {w : World} {fuel : Nat} {cs : List Value} {x : DataW H × List MemPlace} (h : DataW.trod enc Tryz.prog w 0 (fun _ => true) true fuel 30 cs = some x) (hs : Small Tryz.prog 30 x.1) :
    ∃ (k lv id lsn nx : Int) (A : Option Addr) (c : Nat) (rows : List ByteArray), cs = [.int .u8 k, .int .u8 lv, .int .u32 id, .int .u64 lsn, .int .u32 nx, .slice A rows.length c] ∧
      (Lit.int .u8 k).wf = true ∧ (Lit.int .u8 lv).wf = true ∧ (Lit.int .u32 id).wf = true ∧ (Lit.int .u64 lsn).wf = true ∧ (Lit.int .u32 nx).wf = true ∧
      Reads (fun b => b < w.heap.size) w 1 A rows.length (rows.map Value.string) ∧ rows.length * 16 ≤ 140737488351232 ∧ ∀ s ∈ rows, s.size ≤ 140737488351232 := by
  obtain ⟨hl, ys, n, hx, hf⟩ := fields_opened Tryz.underlying30 h
  rw [show Tryz.prog.cellsOf 30 = 6 by kernel_rfl] at hl
  match cs, hl with
  | [v0, v1, v2, v3, v4, v5], _ =>
    obtain ⟨y0, _, _, h0⟩ := hf 0 _ rfl
    obtain ⟨y1, _, _, h1⟩ := hf 1 _ rfl
    obtain ⟨y2, _, _, h2⟩ := hf 2 _ rfl
    obtain ⟨y3, _, _, h3⟩ := hf 3 _ rfl
    obtain ⟨y4, _, _, h4⟩ := hf 4 _ rfl
    obtain ⟨y5, _, hy5, h5⟩ := hf 5 _ rfl
    rw [hx] at hs
    have hs5 := small_field Tryz.underlying30 hs (j := 5) rfl hy5
    have c8 : Tryz.prog.cellsOf 5 = 1 := by kernel_rfl
    have c32 : Tryz.prog.cellsOf 26 = 1 := by kernel_rfl
    have c64 : Tryz.prog.cellsOf 27 = 1 := by kernel_rfl
    have cs1 : Tryz.prog.cellsOf 28 = 1 := by kernel_rfl
    replace h0 : DataW.trod enc Tryz.prog w 0 (fun _ => true) true n 5 [v0] = some y0 := by rw [← h0]; show _ = DataW.trod _ _ _ _ _ _ _ _ (List.take (Tryz.prog.cellsOf 5) _); rw [c8]; rfl
    replace h1 : DataW.trod enc Tryz.prog w 0 (fun _ => true) true n 5 [v1] = some y1 := by rw [← h1]; show _ = DataW.trod _ _ _ _ _ _ _ _ (List.take (Tryz.prog.cellsOf 5) _); rw [c8]; rfl
    replace h2 : DataW.trod enc Tryz.prog w 0 (fun _ => true) true n 26 [v2] = some y2 := by rw [← h2]; show _ = DataW.trod _ _ _ _ _ _ _ _ (List.take (Tryz.prog.cellsOf 26) _); rw [c32]; rfl
    replace h3 : DataW.trod enc Tryz.prog w 0 (fun _ => true) true n 27 [v3] = some y3 := by rw [← h3]; show _ = DataW.trod _ _ _ _ _ _ _ _ (List.take (Tryz.prog.cellsOf 27) _); rw [c64]; rfl
    replace h4 : DataW.trod enc Tryz.prog w 0 (fun _ => true) true n 26 [v4] = some y4 := by rw [← h4]; show _ = DataW.trod _ _ _ _ _ _ _ _ (List.take (Tryz.prog.cellsOf 26) _); rw [c32]; rfl
    replace h5 : DataW.trod enc Tryz.prog w 0 (fun _ => true) true n 28 [v5] = some y5 := by rw [← h5]; show _ = DataW.trod _ _ _ _ _ _ _ _ (List.take (Tryz.prog.cellsOf 28) _); rw [cs1]; rfl
    obtain ⟨k, e0, _, w0⟩ := DataW.trod_int Tryz.underlying5 h0
    obtain ⟨lv, e1, _, w1⟩ := DataW.trod_int Tryz.underlying5 h1
    obtain ⟨id, e2, _, w2⟩ := DataW.trod_int Tryz.underlying26 h2
    obtain ⟨lsn, e3, _, w3⟩ := DataW.trod_int Tryz.underlying27 h3
    obtain ⟨nx, e4, _, w4⟩ := DataW.trod_int Tryz.underlying26 h4
    obtain ⟨A, c, rows, rfl, hR, hl, hz⟩ := strings_opened Tryz.underlying28 Tryz.underlying9 (by kernel_rfl) (by kernel_rfl) h5 hs5
    simp at e0 e1 e2 e3 e4
    subst e0 e1 e2 e3 e4
    exact ⟨k, lv, id, lsn, nx, A, c, rows, rfl, w0, w1, w2, w3, w4, hR, hl, hz⟩

set_option maxRecDepth 100000 in
theorem nil_lifted (os : Os) (started : os.Started) (H : Type) (enc : TypeId × Value → H) :
    ReturnsInHanded {} Tryz.checked os 4 .any (Rows.poolNilSpec.pre6 enc Tryz.prog Tryz.f4 Rows.poolNilRow.domain false) (Rows.poolNilSpec.post enc Tryz.prog Tryz.f4 false true false false) := by
  refine returnsInHanded_of_change_sized (C := Tryz.checked) Tryz.ownN started (by kernel_rfl) Tryz.func4
    (ChangeSpec.witness6 (enc := enc) (C := Tryz.checked) false ⟨#[], #[.int .i64 0, .int .u32 0, .agg #[.int .u8 0, .int .u8 0, .int .u32 0, .int .u64 0, .int .u32 0, .slice none 0 0]], []⟩ 8 (by kernel_rfl) (by kernel_rfl) (by kernel_rfl) (by kernel_rfl)) ?_
  intro W base args ds gs before hval0 hW _ hsz0 _
  have hval : ∀ (j : Nat) t v, Tryz.f4.params[j]? = some t → args[j]? = some v → Value.okWide Tryz.prog W .any base t v := hval0
  have hsz : (DataW.weightsEach Tryz.prog (Tryz.f4.params.toList ++ Rows.poolNilSpec.plain.varTypes Tryz.prog) (ds ++ gs)).all (· ≤ reachBytes) = true := hsz0
  have hW' := hW
  obtain ⟨p, q, hA0, hV, rfl, hfz, hnd⟩ := hW
  have hA : DataW.TrodAll enc Tryz.prog W 0 (fun _ => true) true Tryz.f4.params.toList args.toList ds p := hA0
  rw [Tryz.params4] at hA hval hsz
  obtain ⟨v0, v1, v2, d0, d1, d2, p0, p1, p2, rfl, rfl, rfl, h0, h1, h2⟩ := trodAll_three hA
  obtain ⟨rfl, rfl⟩ := trodVars_none hV
  obtain ⟨a0, rfl, rfl, rfl, wa⟩ := open_int Tryz.underlying3 (hval 0 3 v0 rfl rfl) h0
  obtain ⟨b0, rfl, rfl, rfl, wb⟩ := open_int Tryz.underlying26 (hval 1 26 v1 rfl rfl) h1
  obtain ⟨cs2, rfl, _⟩ := okWide_struct Tryz.underlying30 (hval 2 30 v2 rfl rfl)
  obtain ⟨n2, h2'⟩ := h2
  obtain ⟨k, lv, id, lsn, nx, A, c, rows, hcs, _, _, _, _, _, hR, hl, hz⟩ := page_opened h2' (small_arg hsz (j := 2) rfl rfl)
  obtain ⟨l2⟩ := cs2
  obtain rfl : l2 = _ := hcs
  clear hA0 hval0
  refine (law_nil a0 b0 k lv id lsn nx A c rows (by omega) (fun s hs => by have := hz s hs; omega) W hR).mono fun e W' ⟨he, hb⟩ => ?_
  subst he
  exact ⟨_, rfl, law_post (TB := 4) Tryz.laidOutN (by rw [Tryz.params4]; intro t ht; simp at ht; rcases ht with rfl | rfl | rfl <;> exact ⟨by kernel_rfl, of_decide_eq_true (by kernel_rfl)⟩) Tryz.underlying4 rfl rfl hW' rfl hb⟩

theorem nil_holds : Rows.PoolNilSaid :=
  OpenClaim.holds_of_wide 4 Tryz.f4 rfl rfl rfl rfl rfl rfl rfl ⟨rfl, rfl, rfl, rfl, rfl⟩ rfl rfl rfl rfl rfl (by kernel_rfl) Tryz.func4 (by kernel_rfl)
    (of_decide_eq_true (by kernel_rfl)) (by unfold Func.isWrapper; rw [if_neg (of_decide_eq_false (by kernel_rfl))]; exact ⟨rfl, rfl⟩)
    (fun os started H enc _ => nil_lifted os started H enc)
end Go.Proofs.YtbpjgdbkmnhnmaaGreat
