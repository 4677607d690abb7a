/- The walks of rows as bytes: pentimentoref07.Encode. -/
import Derived.Test.YtphkggcdfkcidaaGreatMAG
import Derived.Test.YtphkggcdfkcidaaGreatMAE
import Derived.RangeFuncGives
import Derived.RangeFuncSeq
import Derived.Sort.MapsRangeIn
import Derived.Maps.AppendAt
import Derived.WalkKit
import Derived.OwnWalkIn
import Derived.TacticsInMore
import Derived.RegionIn
import Derived.LoopNIn
import Derived.LoopIn
import Derived.Test.YtphkggcdfkcidaaGreatMAF
import Derived.Shelf.SlIter.Collect

namespace Go.Proofs.YtphkggcdfkcidaaGreat
open Go.RowKit

theorem rw_cells {r : Sp.Rw} {g : Nat} {t : TypeId} {W : World} (h : Blk W g t (rwCs r).toArray) :
    W.cell? ⟨g, 0, none⟩ = some (str r.key) ∧ W.cell? ⟨g, 2, none⟩ = some (.int .u64 r.tx) ∧ W.cell? ⟨g, 3, none⟩ = some (.int .u32 r.page) ∧ W.cell? ⟨g, 4, none⟩ = some (.int .u16 r.slot) ∧ W.cell? ⟨g, 5, none⟩ = some (str r.value) ∧ W.cell? ⟨g, 6, none⟩ = some (.int .i64 r.pad) :=
  ⟨h.cell 0, h.cell 2, h.cell 3, h.cell 4, h.cell 5, h.cell 6⟩

theorem make0 (W : World) : (Instr.makeSlice 144 (.int .i64 0) (.int .i64 0)).run Tryz.prog W = .ok (.slice (some ⟨W.heap.size, 0, none⟩) 0 0) (W.alloc (.cells #[] 5)) := by
  obtain ⟨i0, hi, hz0, hz1, hz2⟩ := info_parts area_info
  have := run_make_rowN (P := Tryz.prog) 144 5 i0 (.int .u8 0) Tryz.underlying144 hi hz0 .i64 .i64 0 0 (Nat.le_refl _) (by omega) (by omega) W
  have e : madeCells (Value.int .u8 0).cells 0 = #[] := Array.eq_empty_of_size_eq_zero (by simp [madeCells])
  rw [Nat.zero_mul, e] at this
  exact this
theorem conv0 (W : World) (b : Nat) : (convert 144 9 (.slice (some ⟨b, 0, none⟩) 0 0)).run Tryz.prog W = .ok (str []) W :=
  run_bytes_back W 144 9 5 b 0 0 0 [] Tryz.underlying144 Tryz.underlying5 Tryz.underlying9 rfl (fun j hj => by simp at hj)

set_option maxRecDepth 100000 in
set_option maxHeartbeats 4000000 in
theorem ref07_encode (r : Sp.Rw) (h : r.may) (hwf : r.wf) (hpad : r.pad = 0) (w : World) : Calls Tryz.prog 28 #[rwV r] w fun e w' => e = .returned (.tuple #[str r.bytes, .int .i64 0]) ∧ Below w.heap.size w w' := by
  have HM := Lib.hid fun (W : World) => ref07_may r h W
  obtain ⟨h1, h2, h3, h4, h5⟩ := h
  have hkl : r.key.length < 256 := by omega
  have hvl : r.value.length < 256 := by omega
  have hsl := hwf.2
  have htx := hwf.1
  have cc1 : ¬ 9223372036854775807 < 16 + r.key.length := by omega
  have cc2 : ¬ 9223372036854775807 < 16 + r.key.length + 1 := by omega
  have cc3 : ¬ 9223372036854775807 < 16 + r.key.length + 1 + r.value.length := by omega
  have wr1 : IntKind.u64.wrap (r.page : Int) = r.page := by rw [IntKind.wrap_u64]; omega
  have wr2 : IntKind.u64.wrap (r.slot : Int) = r.slot := by rw [IntKind.wrap_u64]; omega
  have wr3 : IntKind.u64.wrap (r.key.length : Int) = r.key.length := by rw [IntKind.wrap_u64]; omega
  have wr4 : IntKind.u64.wrap (r.value.length : Int) = r.value.length := by rw [IntKind.wrap_u64]; omega
  have HP0 := Lib.hid hpad
  clear hpad
  go_enter Tryz.func28, Tryz.ntmps28
  go_wp2_with fail
  refine (HM.out _).mono ?_
  rintro e w1 ⟨rfl, hb1⟩
  have hB0 := (Blk.new w 37 (rwCs r).toArray)
  have hB1 := hB0.below hb1 hB0.lt
  have hb0 : Below w.heap.size w w1 := ((Below.refl w.heap.size w).alloc (Nat.le_refl _) (.cells (rwCs r).toArray 37)).trans (hb1.mono (by simp))
  obtain ⟨g, hg⟩ : ∃ g, g = w.heap.size := ⟨_, rfl⟩
  rw [← hg] at hB1 ⊢
  have HB := Lib.hid hB1
  have m0 := hB1.cell 1
  simp only [List.getElem?_toArray, List.getElem?_cons_succ, List.getElem?_cons_zero] at m0
  clear hg hB0 hB1 HM hb1
  cases hm : r.mark with
  | false =>
    rw [hm] at m0
    have HMN : Hid (r.markN = 0) := Lib.hid (by unfold Sp.Rw.markN; rw [hm]; rfl)
    clear hm
    go_wp2_with fail
    have hS0 := Lib.hid (rw_cells HB.out.drew)
    clear m0
    refine R_begin (fun W => W.cell? ⟨g, 0, none⟩ = some (str r.key) ∧ W.cell? ⟨g, 2, none⟩ = some (.int .u64 r.tx) ∧ W.cell? ⟨g, 3, none⟩ = some (.int .u32 r.page) ∧ W.cell? ⟨g, 4, none⟩ = some (.int .u16 r.slot) ∧ W.cell? ⟨g, 5, none⟩ = some (str r.value) ∧ W.cell? ⟨g, 6, none⟩ = some (.int .i64 r.pad)) (fun _ => false) rfl ?_
    refine R_take 0 11 (v := ?_) rfl rfl (by rfl) (by kernel_rfl) (fun _ _ _ h => h) hS0.out ?_ ?_
    rotate_left
    · intro w hSw; (try dsimp only at hSw); go_simp; (try with_reducible rfl)
    simp only [List.setIfInBounds_toArray, List.set_cons_zero, List.set_cons_succ]
    refine R_take 2 13 (v := ?_) rfl rfl (by rfl) (by kernel_rfl) (fun _ _ _ h => h) hS0.out ?_ ?_
    rotate_left
    · intro w hSw; (try dsimp only at hSw); go_simp; (try with_reducible rfl)
    simp only [List.setIfInBounds_toArray, List.set_cons_zero, List.set_cons_succ]
    refine R_take 3 14 (v := ?_) rfl rfl (by rfl) (by kernel_rfl) (fun _ _ _ h => h) hS0.out ?_ ?_
    rotate_left
    · intro w hSw; (try dsimp only at hSw); go_simp; (try with_reducible rfl)
    simp only [List.setIfInBounds_toArray, List.set_cons_zero, List.set_cons_succ]
    refine R_take 6 17 (v := ?_) rfl rfl (by rfl) (by kernel_rfl) (fun _ _ _ h => h) hS0.out ?_ ?_
    rotate_left
    · intro w hSw; (try dsimp only at hSw); go_simp; (try with_reducible rfl)
    simp only [List.setIfInBounds_toArray, List.set_cons_zero, List.set_cons_succ]
    refine R_take 7 18 (v := ?_) rfl rfl (by rfl) (by kernel_rfl) (fun _ _ _ h => h) hS0.out ?_ ?_
    rotate_left
    · intro w hSw; (try dsimp only at hSw); go_simp; (try with_reducible rfl)
    simp only [List.setIfInBounds_toArray, List.set_cons_zero, List.set_cons_succ]
    refine R_take 8 19 (v := ?_) rfl rfl (by rfl) (by kernel_rfl) (fun _ _ _ h => h) hS0.out ?_ ?_
    rotate_left
    · intro w hSw; (try dsimp only at hSw); go_simp; (try with_reducible rfl)
    simp only [List.setIfInBounds_toArray, List.set_cons_zero, List.set_cons_succ]
    refine R_take 9 20 (v := ?_) rfl rfl (by rfl) (by kernel_rfl) (fun _ _ _ h => h) hS0.out ?_ ?_
    rotate_left
    · intro w hSw; (try dsimp only at hSw); go_simp; (try with_reducible rfl)
    simp only [List.setIfInBounds_toArray, List.set_cons_zero, List.set_cons_succ]
    refine R_take 12 23 (v := ?_) rfl rfl (by rfl) (by kernel_rfl) (fun _ _ _ h => h) hS0.out ?_ ?_
    rotate_left
    · intro w hSw; (try dsimp only at hSw); go_simp; (try with_reducible rfl)
    simp only [List.setIfInBounds_toArray, List.set_cons_zero, List.set_cons_succ]
    refine R_take 13 24 (v := ?_) rfl rfl (by rfl) (by kernel_rfl) (fun _ _ _ h => h) hS0.out ?_ ?_
    rotate_left
    · intro w hSw; (try dsimp only at hSw); go_simp; (try with_reducible rfl)
    simp only [List.setIfInBounds_toArray, List.set_cons_zero, List.set_cons_succ]
    refine R_take 14 25 (v := ?_) rfl rfl (by rfl) (by kernel_rfl) (fun _ _ _ h => h) hS0.out ?_ ?_
    rotate_left
    · intro w hSw; (try dsimp only at hSw); go_simp; (try with_reducible rfl)
    simp only [List.setIfInBounds_toArray, List.set_cons_zero, List.set_cons_succ]
    refine R_take 15 26 (v := ?_) rfl rfl (by rfl) (by kernel_rfl) (fun _ _ _ h => h) hS0.out ?_ ?_
    rotate_left
    · intro w hSw; (try dsimp only at hSw); go_simp; (try with_reducible rfl)
    simp only [List.setIfInBounds_toArray, List.set_cons_zero, List.set_cons_succ]
    refine R_call 1 12 (w' := w1.drew) rfl rfl (by rfl) (by kernel_rfl) ?_ (ref07_num 0 1 w1.drew (by omega) (by omega) (by omega) (by omega)) ?_
    · go_simp
    rintro e v1 ⟨rfl, hbv1⟩
    have hBv1 : Below w1.heap.size w1 v1 := ⟨hbv1.os, hbv1.tape, hbv1.output, hbv1.size, hbv1.block⟩
    have hsv1 := rw_cells (HB.out.below hBv1 HB.out.lt)
    refine ⟨_, rfl, fun _ => hsv1, ?_⟩
    simp only [List.setIfInBounds_toArray, List.set_cons_zero, List.set_cons_succ]
    have hS1 := Lib.hid hsv1
    clear hsv1 hbv1
    refine R_call 4 15 (w' := v1) rfl rfl (by rfl) (by kernel_rfl) ?_ (ref07_num r.tx 8 v1 (by omega) (by omega) hwf.1 hwf.1) ?_
    · go_simp
    rintro e v2 ⟨rfl, hbv2⟩
    have hBv2 : Below w1.heap.size w1 v2 := hBv1.trans (hbv2.mono hBv1.size)
    have hsv2 := rw_cells (HB.out.below hBv2 HB.out.lt)
    refine ⟨_, rfl, fun _ => hsv2, ?_⟩
    simp only [List.setIfInBounds_toArray, List.set_cons_zero, List.set_cons_succ]
    have hS2 := Lib.hid hsv2
    clear hsv2 hbv2 hBv1
    refine R_take 5 16 (v := ?_) rfl rfl (by rfl) (by kernel_rfl) (fun _ _ _ h => h) hS2.out ?_ ?_
    rotate_left
    · intro w hSw; (try dsimp only at hSw); go_simp; (try with_reducible rfl)
    simp only [List.setIfInBounds_toArray, List.set_cons_zero, List.set_cons_succ]
    refine R_call 10 21 (w' := v2) rfl rfl (by rfl) (by kernel_rfl) ?_ (ref07_num r.page 4 v2 (by omega) (by omega) (by omega) (by omega)) ?_
    · go_simp
    rintro e v3 ⟨rfl, hbv3⟩
    have hBv3 : Below w1.heap.size w1 v3 := hBv2.trans (hbv3.mono hBv2.size)
    have hsv3 := rw_cells (HB.out.below hBv3 HB.out.lt)
    refine ⟨_, rfl, fun _ => hsv3, ?_⟩
    simp only [List.setIfInBounds_toArray, List.set_cons_zero, List.set_cons_succ]
    have hS3 := Lib.hid hsv3
    clear hsv3 hbv3 hBv2
    refine R_take 11 22 (v := ?_) rfl rfl (by rfl) (by kernel_rfl) (fun _ _ _ h => h) hS3.out ?_ ?_
    rotate_left
    · intro w hSw; (try dsimp only at hSw); go_simp; (try with_reducible rfl)
    simp only [List.setIfInBounds_toArray, List.set_cons_zero, List.set_cons_succ]
    refine R_call 16 27 (w' := v3) rfl rfl (by rfl) (by kernel_rfl) ?_ (ref07_num r.slot 2 v3 (by omega) (by omega) hwf.2 (by omega)) ?_
    · go_simp
    rintro e v4 ⟨rfl, hbv4⟩
    have hBv4 : Below w1.heap.size w1 v4 := hBv3.trans (hbv4.mono hBv3.size)
    have hsv4 := rw_cells (HB.out.below hBv4 HB.out.lt)
    refine ⟨_, rfl, fun _ => hsv4, ?_⟩
    simp only [List.setIfInBounds_toArray, List.set_cons_zero, List.set_cons_succ]
    have hS4 := Lib.hid hsv4
    clear hsv4 hbv4 hBv3
    refine R_take 17 28 (v := ?_) rfl rfl (by rfl) (by kernel_rfl) (fun _ _ _ h => h) hS4.out ?_ ?_
    rotate_left
    · intro w hSw; (try dsimp only at hSw); go_simp; (try with_reducible rfl)
    simp only [List.setIfInBounds_toArray, List.set_cons_zero, List.set_cons_succ]
    refine R_take 18 5 (v := ?_) rfl rfl (by rfl) (by kernel_rfl) (fun _ _ _ h => h) hS4.out ?_ ?_
    rotate_left
    · intro w hSw; (try dsimp only at hSw); go_simp; (try with_reducible rfl)
    simp only [List.setIfInBounds_toArray, List.set_cons_zero, List.set_cons_succ]
    refine R_done (by kernel_rfl) ?_ _
    rename_i K9 hK9
    refine hK9 _ _ ?_
    clear hK9
    have HB2 := Lib.hid (HB.out.below hBv4 HB.out.lt)
    have hb2 := hb0.trans (hBv4.mono hb0.size)
    clear hS0 hS1 hS2 hS3 hS4 HB hBv4
    obtain ⟨w2, hw2⟩ : ∃ w2, w2 = v4 := ⟨_, rfl⟩
    rw [← hw2] at HB2 hb2 ⊢
    clear hw2
    go_wp2_with fail
    have hS0 := Lib.hid (rw_cells HB2.out.drew)
    refine R_begin (fun W => W.cell? ⟨g, 0, none⟩ = some (str r.key) ∧ W.cell? ⟨g, 2, none⟩ = some (.int .u64 r.tx) ∧ W.cell? ⟨g, 3, none⟩ = some (.int .u32 r.page) ∧ W.cell? ⟨g, 4, none⟩ = some (.int .u16 r.slot) ∧ W.cell? ⟨g, 5, none⟩ = some (str r.value) ∧ W.cell? ⟨g, 6, none⟩ = some (.int .i64 r.pad)) (fun _ => false) rfl ?_
    refine R_take 0 29 (v := ?_) rfl rfl (by rfl) (by kernel_rfl) (fun _ _ _ h => h) hS0.out ?_ ?_
    rotate_left
    · intro w hSw; (try dsimp only at hSw); go_simp; (try with_reducible rfl)
    simp only [List.setIfInBounds_toArray, List.set_cons_zero, List.set_cons_succ]
    refine R_take 1 30 (v := ?_) rfl rfl (by rfl) (by kernel_rfl) (fun _ _ _ h => h) hS0.out ?_ ?_
    rotate_left
    · intro w hSw; (try dsimp only at hSw); go_simp; (try with_reducible rfl)
    simp only [List.setIfInBounds_toArray, List.set_cons_zero, List.set_cons_succ]
    refine R_take 2 31 (v := ?_) rfl rfl (by rfl) (by kernel_rfl) (fun _ _ _ h => h) hS0.out ?_ ?_
    rotate_left
    · intro w hSw; (try dsimp only at hSw); go_simp; (try with_reducible rfl)
    simp only [List.setIfInBounds_toArray, List.set_cons_zero, List.set_cons_succ]
    refine R_take 3 32 (v := ?_) rfl rfl (by rfl) (by kernel_rfl) (fun _ _ _ h => h) hS0.out ?_ ?_
    rotate_left
    · intro w hSw; (try dsimp only at hSw); go_simp; (try with_reducible rfl)
    simp only [List.setIfInBounds_toArray, List.set_cons_zero, List.set_cons_succ]
    refine R_take 4 33 (v := ?_) rfl rfl (by rfl) (by kernel_rfl) (fun _ _ _ h => h) hS0.out ?_ ?_
    rotate_left
    · intro w hSw; (try dsimp only at hSw); go_simp; (try with_reducible rfl)
    simp only [List.setIfInBounds_toArray, List.set_cons_zero, List.set_cons_succ]
    refine R_take 7 36 (v := ?_) rfl rfl (by rfl) (by kernel_rfl) (fun _ _ _ h => h) hS0.out ?_ ?_
    rotate_left
    · intro w hSw; (try dsimp only at hSw); go_simp; (try with_reducible rfl)
    simp only [List.setIfInBounds_toArray, List.set_cons_zero, List.set_cons_succ]
    refine R_take 8 37 (v := ?_) rfl rfl (by rfl) (by kernel_rfl) (fun _ _ _ h => h) hS0.out ?_ ?_
    rotate_left
    · intro w hSw; (try dsimp only at hSw); go_simp; (try with_reducible rfl)
    simp only [List.setIfInBounds_toArray, List.set_cons_zero, List.set_cons_succ]
    refine R_take 10 39 (v := ?_) rfl rfl (by rfl) (by kernel_rfl) (fun _ _ _ h => h) hS0.out ?_ ?_
    rotate_left
    · intro w hSw; (try dsimp only at hSw); go_simp; (try with_reducible rfl)
    simp only [List.setIfInBounds_toArray, List.set_cons_zero, List.set_cons_succ]
    refine R_take 11 40 (v := ?_) rfl rfl (by rfl) (by kernel_rfl) (fun _ _ _ h => h) hS0.out ?_ ?_
    rotate_left
    · intro w hSw; (try dsimp only at hSw); go_simp; (try with_reducible rfl)
    simp only [List.setIfInBounds_toArray, List.set_cons_zero, List.set_cons_succ]
    refine R_take 12 41 (v := ?_) rfl rfl (by rfl) (by kernel_rfl) (fun _ _ _ h => h) hS0.out ?_ ?_
    rotate_left
    · intro w hSw; (try dsimp only at hSw); go_simp; (try with_reducible rfl)
    simp only [List.setIfInBounds_toArray, List.set_cons_zero, List.set_cons_succ]
    refine R_take 13 42 (v := ?_) rfl rfl (by rfl) (by kernel_rfl) (fun _ _ _ h => h) hS0.out ?_ ?_
    rotate_left
    · intro w hSw; (try dsimp only at hSw); go_simp; (try with_reducible rfl)
    simp only [List.setIfInBounds_toArray, List.set_cons_zero, List.set_cons_succ]
    refine R_take 16 45 (v := ?_) rfl rfl (by rfl) (by kernel_rfl) (fun _ _ _ h => h) hS0.out ?_ ?_
    rotate_left
    · intro w hSw; (try dsimp only at hSw); go_simp; (try with_reducible rfl)
    simp only [List.setIfInBounds_toArray, List.set_cons_zero, List.set_cons_succ]
    refine R_take 17 46 (v := ?_) rfl rfl (by rfl) (by kernel_rfl) (fun _ _ _ h => h) hS0.out ?_ ?_
    rotate_left
    · intro w hSw; (try dsimp only at hSw); go_simp; (try with_reducible rfl)
    simp only [List.setIfInBounds_toArray, List.set_cons_zero, List.set_cons_succ]
    refine R_call 5 34 (w' := w2.drew) rfl rfl (by rfl) (by kernel_rfl) ?_ (ref07_num r.key.length 1 w2.drew (by omega) (by omega) (by omega) (by omega)) ?_
    · go_simp
    rintro e v1 ⟨rfl, hbv1⟩
    have hBv1 : Below w2.heap.size w2 v1 := ⟨hbv1.os, hbv1.tape, hbv1.output, hbv1.size, hbv1.block⟩
    have hsv1 := rw_cells (HB2.out.below hBv1 HB2.out.lt)
    refine ⟨_, rfl, fun _ => hsv1, ?_⟩
    simp only [List.setIfInBounds_toArray, List.set_cons_zero, List.set_cons_succ]
    have hS1 := Lib.hid hsv1
    clear hsv1 hbv1
    refine R_take 6 35 (v := ?_) rfl rfl (by rfl) (by kernel_rfl) (fun _ _ _ h => h) hS1.out ?_ ?_
    rotate_left
    · intro w hSw; (try dsimp only at hSw); go_simp; (try with_reducible rfl)
    simp only [List.setIfInBounds_toArray, List.set_cons_zero, List.set_cons_succ]
    refine R_take 9 38 (v := ?_) rfl rfl (by rfl) (by kernel_rfl) (fun _ _ _ h => h) hS1.out ?_ ?_
    rotate_left
    · intro w hSw; (try dsimp only at hSw); go_simp; (try with_reducible rfl)
    simp only [List.setIfInBounds_toArray, List.set_cons_zero, List.set_cons_succ]
    refine R_call 14 43 (w' := v1) rfl rfl (by rfl) (by kernel_rfl) ?_ (ref07_num r.value.length 1 v1 (by omega) (by omega) (by omega) (by omega)) ?_
    · go_simp
    rintro e v2 ⟨rfl, hbv2⟩
    have hBv2 : Below w2.heap.size w2 v2 := hBv1.trans (hbv2.mono hBv1.size)
    have hsv2 := rw_cells (HB2.out.below hBv2 HB2.out.lt)
    refine ⟨_, rfl, fun _ => hsv2, ?_⟩
    simp only [List.setIfInBounds_toArray, List.set_cons_zero, List.set_cons_succ]
    have hS2 := Lib.hid hsv2
    clear hsv2 hbv2 hBv1
    refine R_take 15 44 (v := ?_) rfl rfl (by rfl) (by kernel_rfl) (fun _ _ _ h => h) hS2.out ?_ ?_
    rotate_left
    · intro w hSw; (try dsimp only at hSw); go_simp; (try with_reducible rfl)
    simp only [List.setIfInBounds_toArray, List.set_cons_zero, List.set_cons_succ]
    refine R_take 18 47 (v := ?_) rfl rfl (by rfl) (by kernel_rfl) (fun _ _ _ h => h) hS2.out ?_ ?_
    rotate_left
    · intro w hSw; (try dsimp only at hSw); go_simp; (try with_reducible rfl)
    simp only [List.setIfInBounds_toArray, List.set_cons_zero, List.set_cons_succ]
    refine R_take 19 5 (v := ?_) rfl rfl (by rfl) (by kernel_rfl) (fun _ _ _ h => h) hS2.out ?_ ?_
    rotate_left
    · intro w hSw; (try dsimp only at hSw); go_simp; (try with_reducible rfl)
    simp only [List.setIfInBounds_toArray, List.set_cons_zero, List.set_cons_succ]
    refine R_done (by kernel_rfl) ?_ _
    rename_i K9 hK9
    refine hK9 _ _ ?_
    clear hK9
    have HB3 := Lib.hid (HB2.out.below hBv2 HB2.out.lt)
    have hb3 := hb2.trans (hBv2.mono hb2.size)
    have p6 := HB3.out.cell 6
    simp only [List.getElem?_toArray, List.getElem?_cons_succ, List.getElem?_cons_zero, HP0.out] at p6
    clear hS0 hS1 hS2 HB2 hBv2
    have hmk := make0
    have hcv := conv0
    go_wp2_with fail
    go_ret2
    refine ⟨?_, hb3.alloc hb3.size _⟩
    have e : r.bytes = Sp.be 1 0 ++ Sp.be 8 r.tx ++ Sp.be 4 r.page ++ Sp.be 2 r.slot ++ Sp.be 1 r.key.length ++ r.key ++ Sp.be 1 r.value.length ++ r.value ++ [] := by
      unfold Sp.Rw.bytes Sp.Rw.head
      rw [HMN.out, HP0.out]; rfl
    rw [e]
    rfl
  | true =>
    rw [hm] at m0
    have HMN : Hid (r.markN = 1) := Lib.hid (by unfold Sp.Rw.markN; rw [hm]; rfl)
    clear hm
    go_wp2_with fail
    have hS0 := Lib.hid (rw_cells HB.out.drew)
    clear m0
    refine R_begin (fun W => W.cell? ⟨g, 0, none⟩ = some (str r.key) ∧ W.cell? ⟨g, 2, none⟩ = some (.int .u64 r.tx) ∧ W.cell? ⟨g, 3, none⟩ = some (.int .u32 r.page) ∧ W.cell? ⟨g, 4, none⟩ = some (.int .u16 r.slot) ∧ W.cell? ⟨g, 5, none⟩ = some (str r.value) ∧ W.cell? ⟨g, 6, none⟩ = some (.int .i64 r.pad)) (fun _ => false) rfl ?_
    refine R_take 0 11 (v := ?_) rfl rfl (by rfl) (by kernel_rfl) (fun _ _ _ h => h) hS0.out ?_ ?_
    rotate_left
    · intro w hSw; (try dsimp only at hSw); go_simp; (try with_reducible rfl)
    simp only [List.setIfInBounds_toArray, List.set_cons_zero, List.set_cons_succ]
    refine R_take 2 13 (v := ?_) rfl rfl (by rfl) (by kernel_rfl) (fun _ _ _ h => h) hS0.out ?_ ?_
    rotate_left
    · intro w hSw; (try dsimp only at hSw); go_simp; (try with_reducible rfl)
    simp only [List.setIfInBounds_toArray, List.set_cons_zero, List.set_cons_succ]
    refine R_take 3 14 (v := ?_) rfl rfl (by rfl) (by kernel_rfl) (fun _ _ _ h => h) hS0.out ?_ ?_
    rotate_left
    · intro w hSw; (try dsimp only at hSw); go_simp; (try with_reducible rfl)
    simp only [List.setIfInBounds_toArray, List.set_cons_zero, List.set_cons_succ]
    refine R_take 6 17 (v := ?_) rfl rfl (by rfl) (by kernel_rfl) (fun _ _ _ h => h) hS0.out ?_ ?_
    rotate_left
    · intro w hSw; (try dsimp only at hSw); go_simp; (try with_reducible rfl)
    simp only [List.setIfInBounds_toArray, List.set_cons_zero, List.set_cons_succ]
    refine R_take 7 18 (v := ?_) rfl rfl (by rfl) (by kernel_rfl) (fun _ _ _ h => h) hS0.out ?_ ?_
    rotate_left
    · intro w hSw; (try dsimp only at hSw); go_simp; (try with_reducible rfl)
    simp only [List.setIfInBounds_toArray, List.set_cons_zero, List.set_cons_succ]
    refine R_take 8 19 (v := ?_) rfl rfl (by rfl) (by kernel_rfl) (fun _ _ _ h => h) hS0.out ?_ ?_
    rotate_left
    · intro w hSw; (try dsimp only at hSw); go_simp; (try with_reducible rfl)
    simp only [List.setIfInBounds_toArray, List.set_cons_zero, List.set_cons_succ]
    refine R_take 9 20 (v := ?_) rfl rfl (by rfl) (by kernel_rfl) (fun _ _ _ h => h) hS0.out ?_ ?_
    rotate_left
    · intro w hSw; (try dsimp only at hSw); go_simp; (try with_reducible rfl)
    simp only [List.setIfInBounds_toArray, List.set_cons_zero, List.set_cons_succ]
    refine R_take 12 23 (v := ?_) rfl rfl (by rfl) (by kernel_rfl) (fun _ _ _ h => h) hS0.out ?_ ?_
    rotate_left
    · intro w hSw; (try dsimp only at hSw); go_simp; (try with_reducible rfl)
    simp only [List.setIfInBounds_toArray, List.set_cons_zero, List.set_cons_succ]
    refine R_take 13 24 (v := ?_) rfl rfl (by rfl) (by kernel_rfl) (fun _ _ _ h => h) hS0.out ?_ ?_
    rotate_left
    · intro w hSw; (try dsimp only at hSw); go_simp; (try with_reducible rfl)
    simp only [List.setIfInBounds_toArray, List.set_cons_zero, List.set_cons_succ]
    refine R_take 14 25 (v := ?_) rfl rfl (by rfl) (by kernel_rfl) (fun _ _ _ h => h) hS0.out ?_ ?_
    rotate_left
    · intro w hSw; (try dsimp only at hSw); go_simp; (try with_reducible rfl)
    simp only [List.setIfInBounds_toArray, List.set_cons_zero, List.set_cons_succ]
    refine R_take 15 26 (v := ?_) rfl rfl (by rfl) (by kernel_rfl) (fun _ _ _ h => h) hS0.out ?_ ?_
    rotate_left
    · intro w hSw; (try dsimp only at hSw); go_simp; (try with_reducible rfl)
    simp only [List.setIfInBounds_toArray, List.set_cons_zero, List.set_cons_succ]
    refine R_call 1 12 (w' := w1.drew) rfl rfl (by rfl) (by kernel_rfl) ?_ (ref07_num 1 1 w1.drew (by omega) (by omega) (by omega) (by omega)) ?_
    · go_simp
    rintro e v1 ⟨rfl, hbv1⟩
    have hBv1 : Below w1.heap.size w1 v1 := ⟨hbv1.os, hbv1.tape, hbv1.output, hbv1.size, hbv1.block⟩
    have hsv1 := rw_cells (HB.out.below hBv1 HB.out.lt)
    refine ⟨_, rfl, fun _ => hsv1, ?_⟩
    simp only [List.setIfInBounds_toArray, List.set_cons_zero, List.set_cons_succ]
    have hS1 := Lib.hid hsv1
    clear hsv1 hbv1
    refine R_call 4 15 (w' := v1) rfl rfl (by rfl) (by kernel_rfl) ?_ (ref07_num r.tx 8 v1 (by omega) (by omega) hwf.1 hwf.1) ?_
    · go_simp
    rintro e v2 ⟨rfl, hbv2⟩
    have hBv2 : Below w1.heap.size w1 v2 := hBv1.trans (hbv2.mono hBv1.size)
    have hsv2 := rw_cells (HB.out.below hBv2 HB.out.lt)
    refine ⟨_, rfl, fun _ => hsv2, ?_⟩
    simp only [List.setIfInBounds_toArray, List.set_cons_zero, List.set_cons_succ]
    have hS2 := Lib.hid hsv2
    clear hsv2 hbv2 hBv1
    refine R_take 5 16 (v := ?_) rfl rfl (by rfl) (by kernel_rfl) (fun _ _ _ h => h) hS2.out ?_ ?_
    rotate_left
    · intro w hSw; (try dsimp only at hSw); go_simp; (try with_reducible rfl)
    simp only [List.setIfInBounds_toArray, List.set_cons_zero, List.set_cons_succ]
    refine R_call 10 21 (w' := v2) rfl rfl (by rfl) (by kernel_rfl) ?_ (ref07_num r.page 4 v2 (by omega) (by omega) (by omega) (by omega)) ?_
    · go_simp
    rintro e v3 ⟨rfl, hbv3⟩
    have hBv3 : Below w1.heap.size w1 v3 := hBv2.trans (hbv3.mono hBv2.size)
    have hsv3 := rw_cells (HB.out.below hBv3 HB.out.lt)
    refine ⟨_, rfl, fun _ => hsv3, ?_⟩
    simp only [List.setIfInBounds_toArray, List.set_cons_zero, List.set_cons_succ]
    have hS3 := Lib.hid hsv3
    clear hsv3 hbv3 hBv2
    refine R_take 11 22 (v := ?_) rfl rfl (by rfl) (by kernel_rfl) (fun _ _ _ h => h) hS3.out ?_ ?_
    rotate_left
    · intro w hSw; (try dsimp only at hSw); go_simp; (try with_reducible rfl)
    simp only [List.setIfInBounds_toArray, List.set_cons_zero, List.set_cons_succ]
    refine R_call 16 27 (w' := v3) rfl rfl (by rfl) (by kernel_rfl) ?_ (ref07_num r.slot 2 v3 (by omega) (by omega) hwf.2 (by omega)) ?_
    · go_simp
    rintro e v4 ⟨rfl, hbv4⟩
    have hBv4 : Below w1.heap.size w1 v4 := hBv3.trans (hbv4.mono hBv3.size)
    have hsv4 := rw_cells (HB.out.below hBv4 HB.out.lt)
    refine ⟨_, rfl, fun _ => hsv4, ?_⟩
    simp only [List.setIfInBounds_toArray, List.set_cons_zero, List.set_cons_succ]
    have hS4 := Lib.hid hsv4
    clear hsv4 hbv4 hBv3
    refine R_take 17 28 (v := ?_) rfl rfl (by rfl) (by kernel_rfl) (fun _ _ _ h => h) hS4.out ?_ ?_
    rotate_left
    · intro w hSw; (try dsimp only at hSw); go_simp; (try with_reducible rfl)
    simp only [List.setIfInBounds_toArray, List.set_cons_zero, List.set_cons_succ]
    refine R_take 18 5 (v := ?_) rfl rfl (by rfl) (by kernel_rfl) (fun _ _ _ h => h) hS4.out ?_ ?_
    rotate_left
    · intro w hSw; (try dsimp only at hSw); go_simp; (try with_reducible rfl)
    simp only [List.setIfInBounds_toArray, List.set_cons_zero, List.set_cons_succ]
    refine R_done (by kernel_rfl) ?_ _
    rename_i K9 hK9
    refine hK9 _ _ ?_
    clear hK9
    have HB2 := Lib.hid (HB.out.below hBv4 HB.out.lt)
    have hb2 := hb0.trans (hBv4.mono hb0.size)
    clear hS0 hS1 hS2 hS3 hS4 HB hBv4
    obtain ⟨w2, hw2⟩ : ∃ w2, w2 = v4 := ⟨_, rfl⟩
    rw [← hw2] at HB2 hb2 ⊢
    clear hw2
    go_wp2_with fail
    have hS0 := Lib.hid (rw_cells HB2.out.drew)
    refine R_begin (fun W => W.cell? ⟨g, 0, none⟩ = some (str r.key) ∧ W.cell? ⟨g, 2, none⟩ = some (.int .u64 r.tx) ∧ W.cell? ⟨g, 3, none⟩ = some (.int .u32 r.page) ∧ W.cell? ⟨g, 4, none⟩ = some (.int .u16 r.slot) ∧ W.cell? ⟨g, 5, none⟩ = some (str r.value) ∧ W.cell? ⟨g, 6, none⟩ = some (.int .i64 r.pad)) (fun _ => false) rfl ?_
    refine R_take 0 29 (v := ?_) rfl rfl (by rfl) (by kernel_rfl) (fun _ _ _ h => h) hS0.out ?_ ?_
    rotate_left
    · intro w hSw; (try dsimp only at hSw); go_simp; (try with_reducible rfl)
    simp only [List.setIfInBounds_toArray, List.set_cons_zero, List.set_cons_succ]
    refine R_take 1 30 (v := ?_) rfl rfl (by rfl) (by kernel_rfl) (fun _ _ _ h => h) hS0.out ?_ ?_
    rotate_left
    · intro w hSw; (try dsimp only at hSw); go_simp; (try with_reducible rfl)
    simp only [List.setIfInBounds_toArray, List.set_cons_zero, List.set_cons_succ]
    refine R_take 2 31 (v := ?_) rfl rfl (by rfl) (by kernel_rfl) (fun _ _ _ h => h) hS0.out ?_ ?_
    rotate_left
    · intro w hSw; (try dsimp only at hSw); go_simp; (try with_reducible rfl)
    simp only [List.setIfInBounds_toArray, List.set_cons_zero, List.set_cons_succ]
    refine R_take 3 32 (v := ?_) rfl rfl (by rfl) (by kernel_rfl) (fun _ _ _ h => h) hS0.out ?_ ?_
    rotate_left
    · intro w hSw; (try dsimp only at hSw); go_simp; (try with_reducible rfl)
    simp only [List.setIfInBounds_toArray, List.set_cons_zero, List.set_cons_succ]
    refine R_take 4 33 (v := ?_) rfl rfl (by rfl) (by kernel_rfl) (fun _ _ _ h => h) hS0.out ?_ ?_
    rotate_left
    · intro w hSw; (try dsimp only at hSw); go_simp; (try with_reducible rfl)
    simp only [List.setIfInBounds_toArray, List.set_cons_zero, List.set_cons_succ]
    refine R_take 7 36 (v := ?_) rfl rfl (by rfl) (by kernel_rfl) (fun _ _ _ h => h) hS0.out ?_ ?_
    rotate_left
    · intro w hSw; (try dsimp only at hSw); go_simp; (try with_reducible rfl)
    simp only [List.setIfInBounds_toArray, List.set_cons_zero, List.set_cons_succ]
    refine R_take 8 37 (v := ?_) rfl rfl (by rfl) (by kernel_rfl) (fun _ _ _ h => h) hS0.out ?_ ?_
    rotate_left
    · intro w hSw; (try dsimp only at hSw); go_simp; (try with_reducible rfl)
    simp only [List.setIfInBounds_toArray, List.set_cons_zero, List.set_cons_succ]
    refine R_take 10 39 (v := ?_) rfl rfl (by rfl) (by kernel_rfl) (fun _ _ _ h => h) hS0.out ?_ ?_
    rotate_left
    · intro w hSw; (try dsimp only at hSw); go_simp; (try with_reducible rfl)
    simp only [List.setIfInBounds_toArray, List.set_cons_zero, List.set_cons_succ]
    refine R_take 11 40 (v := ?_) rfl rfl (by rfl) (by kernel_rfl) (fun _ _ _ h => h) hS0.out ?_ ?_
    rotate_left
    · intro w hSw; (try dsimp only at hSw); go_simp; (try with_reducible rfl)
    simp only [List.setIfInBounds_toArray, List.set_cons_zero, List.set_cons_succ]
    refine R_take 12 41 (v := ?_) rfl rfl (by rfl) (by kernel_rfl) (fun _ _ _ h => h) hS0.out ?_ ?_
    rotate_left
    · intro w hSw; (try dsimp only at hSw); go_simp; (try with_reducible rfl)
    simp only [List.setIfInBounds_toArray, List.set_cons_zero, List.set_cons_succ]
    refine R_take 13 42 (v := ?_) rfl rfl (by rfl) (by kernel_rfl) (fun _ _ _ h => h) hS0.out ?_ ?_
    rotate_left
    · intro w hSw; (try dsimp only at hSw); go_simp; (try with_reducible rfl)
    simp only [List.setIfInBounds_toArray, List.set_cons_zero, List.set_cons_succ]
    refine R_take 16 45 (v := ?_) rfl rfl (by rfl) (by kernel_rfl) (fun _ _ _ h => h) hS0.out ?_ ?_
    rotate_left
    · intro w hSw; (try dsimp only at hSw); go_simp; (try with_reducible rfl)
    simp only [List.setIfInBounds_toArray, List.set_cons_zero, List.set_cons_succ]
    refine R_take 17 46 (v := ?_) rfl rfl (by rfl) (by kernel_rfl) (fun _ _ _ h => h) hS0.out ?_ ?_
    rotate_left
    · intro w hSw; (try dsimp only at hSw); go_simp; (try with_reducible rfl)
    simp only [List.setIfInBounds_toArray, List.set_cons_zero, List.set_cons_succ]
    refine R_call 5 34 (w' := w2.drew) rfl rfl (by rfl) (by kernel_rfl) ?_ (ref07_num r.key.length 1 w2.drew (by omega) (by omega) (by omega) (by omega)) ?_
    · go_simp
    rintro e v1 ⟨rfl, hbv1⟩
    have hBv1 : Below w2.heap.size w2 v1 := ⟨hbv1.os, hbv1.tape, hbv1.output, hbv1.size, hbv1.block⟩
    have hsv1 := rw_cells (HB2.out.below hBv1 HB2.out.lt)
    refine ⟨_, rfl, fun _ => hsv1, ?_⟩
    simp only [List.setIfInBounds_toArray, List.set_cons_zero, List.set_cons_succ]
    have hS1 := Lib.hid hsv1
    clear hsv1 hbv1
    refine R_take 6 35 (v := ?_) rfl rfl (by rfl) (by kernel_rfl) (fun _ _ _ h => h) hS1.out ?_ ?_
    rotate_left
    · intro w hSw; (try dsimp only at hSw); go_simp; (try with_reducible rfl)
    simp only [List.setIfInBounds_toArray, List.set_cons_zero, List.set_cons_succ]
    refine R_take 9 38 (v := ?_) rfl rfl (by rfl) (by kernel_rfl) (fun _ _ _ h => h) hS1.out ?_ ?_
    rotate_left
    · intro w hSw; (try dsimp only at hSw); go_simp; (try with_reducible rfl)
    simp only [List.setIfInBounds_toArray, List.set_cons_zero, List.set_cons_succ]
    refine R_call 14 43 (w' := v1) rfl rfl (by rfl) (by kernel_rfl) ?_ (ref07_num r.value.length 1 v1 (by omega) (by omega) (by omega) (by omega)) ?_
    · go_simp
    rintro e v2 ⟨rfl, hbv2⟩
    have hBv2 : Below w2.heap.size w2 v2 := hBv1.trans (hbv2.mono hBv1.size)
    have hsv2 := rw_cells (HB2.out.below hBv2 HB2.out.lt)
    refine ⟨_, rfl, fun _ => hsv2, ?_⟩
    simp only [List.setIfInBounds_toArray, List.set_cons_zero, List.set_cons_succ]
    have hS2 := Lib.hid hsv2
    clear hsv2 hbv2 hBv1
    refine R_take 15 44 (v := ?_) rfl rfl (by rfl) (by kernel_rfl) (fun _ _ _ h => h) hS2.out ?_ ?_
    rotate_left
    · intro w hSw; (try dsimp only at hSw); go_simp; (try with_reducible rfl)
    simp only [List.setIfInBounds_toArray, List.set_cons_zero, List.set_cons_succ]
    refine R_take 18 47 (v := ?_) rfl rfl (by rfl) (by kernel_rfl) (fun _ _ _ h => h) hS2.out ?_ ?_
    rotate_left
    · intro w hSw; (try dsimp only at hSw); go_simp; (try with_reducible rfl)
    simp only [List.setIfInBounds_toArray, List.set_cons_zero, List.set_cons_succ]
    refine R_take 19 5 (v := ?_) rfl rfl (by rfl) (by kernel_rfl) (fun _ _ _ h => h) hS2.out ?_ ?_
    rotate_left
    · intro w hSw; (try dsimp only at hSw); go_simp; (try with_reducible rfl)
    simp only [List.setIfInBounds_toArray, List.set_cons_zero, List.set_cons_succ]
    refine R_done (by kernel_rfl) ?_ _
    rename_i K9 hK9
    refine hK9 _ _ ?_
    clear hK9
    have HB3 := Lib.hid (HB2.out.below hBv2 HB2.out.lt)
    have hb3 := hb2.trans (hBv2.mono hb2.size)
    have p6 := HB3.out.cell 6
    simp only [List.getElem?_toArray, List.getElem?_cons_succ, List.getElem?_cons_zero, HP0.out] at p6
    clear hS0 hS1 hS2 HB2 hBv2
    have hmk := make0
    have hcv := conv0
    go_wp2_with fail
    go_ret2
    refine ⟨?_, hb3.alloc hb3.size _⟩
    have e : r.bytes = Sp.be 1 1 ++ Sp.be 8 r.tx ++ Sp.be 4 r.page ++ Sp.be 2 r.slot ++ Sp.be 1 r.key.length ++ r.key ++ Sp.be 1 r.value.length ++ r.value ++ [] := by
      unfold Sp.Rw.bytes Sp.Rw.head
      rw [HMN.out, HP0.out]; rfl
    rw [e]
    rfl
end Go.Proofs.YtphkggcdfkcidaaGreat

/- The walks of undo records as bytes: pentimentoref21.Encode. -/
namespace Go.Proofs.YtphkggcdfkcidaaGreat
open Go.RowKit

theorem ud_cells {u : Sp.Ud} {g : Nat} {t : TypeId} {W : World} (h : Blk W g t (udCs u).toArray) :
    W.cell? ⟨g, 0, none⟩ = some (.int .u8 u.kind) ∧ W.cell? ⟨g, 1, none⟩ = some (.int .u64 u.tx) ∧ W.cell? ⟨g, 2, none⟩ = some (.int .u32 u.ppage) ∧ W.cell? ⟨g, 3, none⟩ = some (.int .u16 u.pslot) :=
  ⟨h.cell 0, h.cell 1, h.cell 2, h.cell 3⟩

set_option maxRecDepth 100000 in
set_option maxHeartbeats 4000000 in
theorem ref21_encode (u : Sp.Ud) (h : u.may) (hwf : u.wf) (hpad : u.was.pad = 0) (w : World) : Calls Tryz.prog 13 #[udV u] w fun e w' => e = .returned (str u.bytes) ∧ Below w.heap.size w w' := by
  have HM := Lib.hid fun (W : World) => ref21_may u h W
  obtain ⟨h1, h2, h3, h4, h5, h6⟩ := h
  have hps := hwf.2.1
  have htx := hwf.1
  have hk2 : u.kind ≤ 2 := by rcases h6 with h | h <;> omega
  have hbt : u.was.bytes.length ≤ 161 ∨ u.kind = 1 := by
    rcases h6 with h | ⟨_, hk, hm⟩
    · exact .inr h.1
    · left
      rw [Sp.Rw.bytes_length]
      obtain ⟨m1, m2, m3, _⟩ := hm
      omega
  have wr0 : IntKind.u64.wrap (u.kind : Int) = u.kind := by rw [IntKind.wrap_u64]; omega
  have wr1 : IntKind.u64.wrap (u.ppage : Int) = u.ppage := by rw [IntKind.wrap_u64]; omega
  have wr2 : IntKind.u64.wrap (u.pslot : Int) = u.pslot := by rw [IntKind.wrap_u64]; omega
  have H6 := Lib.hid h6
  have HBT := Lib.hid hbt
  have HPD := Lib.hid hpad
  clear h6 hbt hpad
  go_enter Tryz.func13, Tryz.ntmps13
  go_wp2_with fail
  refine (HM.out _).mono ?_
  rintro e w1 ⟨rfl, hb1⟩
  have hB0 := (Blk.new w 48 (udCs u).toArray)
  have hB1 := hB0.below hb1 hB0.lt
  have hb0 : Below w.heap.size w w1 := ((Below.refl w.heap.size w).alloc (Nat.le_refl _) (.cells (udCs u).toArray 48)).trans (hb1.mono (by simp))
  obtain ⟨g, hg⟩ : ∃ g, g = w.heap.size := ⟨_, rfl⟩
  rw [← hg] at hB1 ⊢
  have HB := Lib.hid hB1
  clear hg hB0 hB1 HM hb1
  go_wp2_with fail
  have hS0 := Lib.hid (ud_cells HB.out.drew)
  refine R_begin (fun W => W.cell? ⟨g, 0, none⟩ = some (.int .u8 u.kind) ∧ W.cell? ⟨g, 1, none⟩ = some (.int .u64 u.tx) ∧ W.cell? ⟨g, 2, none⟩ = some (.int .u32 u.ppage) ∧ W.cell? ⟨g, 3, none⟩ = some (.int .u16 u.pslot)) (fun _ => false) rfl ?_
  refine R_take 0 9 (v := ?_) rfl rfl (by rfl) (by kernel_rfl) (fun _ _ _ h => h) hS0.out ?_ ?_
  rotate_left
  · intro w hSw; (try dsimp only at hSw); go_simp; (try with_reducible rfl)
  simp only [List.setIfInBounds_toArray, List.set_cons_zero, List.set_cons_succ]
  refine R_take 1 10 (v := ?_) rfl rfl (by rfl) (by kernel_rfl) (fun _ _ _ h => h) hS0.out ?_ ?_
  rotate_left
  · intro w hSw; (try dsimp only at hSw); go_simp; (try with_reducible rfl)
  simp only [List.setIfInBounds_toArray, List.set_cons_zero, List.set_cons_succ]
  refine R_take 2 11 (v := ?_) rfl rfl (by rfl) (by kernel_rfl) (fun _ _ _ h => h) hS0.out ?_ ?_
  rotate_left
  · intro w hSw; (try dsimp only at hSw); go_simp; (try with_reducible rfl)
  simp only [List.setIfInBounds_toArray, List.set_cons_zero, List.set_cons_succ]
  refine R_take 4 13 (v := ?_) rfl rfl (by rfl) (by kernel_rfl) (fun _ _ _ h => h) hS0.out ?_ ?_
  rotate_left
  · intro w hSw; (try dsimp only at hSw); go_simp; (try with_reducible rfl)
  simp only [List.setIfInBounds_toArray, List.set_cons_zero, List.set_cons_succ]
  refine R_take 5 14 (v := ?_) rfl rfl (by rfl) (by kernel_rfl) (fun _ _ _ h => h) hS0.out ?_ ?_
  rotate_left
  · intro w hSw; (try dsimp only at hSw); go_simp; (try with_reducible rfl)
  simp only [List.setIfInBounds_toArray, List.set_cons_zero, List.set_cons_succ]
  refine R_take 8 17 (v := ?_) rfl rfl (by rfl) (by kernel_rfl) (fun _ _ _ h => h) hS0.out ?_ ?_
  rotate_left
  · intro w hSw; (try dsimp only at hSw); go_simp; (try with_reducible rfl)
  simp only [List.setIfInBounds_toArray, List.set_cons_zero, List.set_cons_succ]
  refine R_take 9 18 (v := ?_) rfl rfl (by rfl) (by kernel_rfl) (fun _ _ _ h => h) hS0.out ?_ ?_
  rotate_left
  · intro w hSw; (try dsimp only at hSw); go_simp; (try with_reducible rfl)
  simp only [List.setIfInBounds_toArray, List.set_cons_zero, List.set_cons_succ]
  refine R_take 10 19 (v := ?_) rfl rfl (by rfl) (by kernel_rfl) (fun _ _ _ h => h) hS0.out ?_ ?_
  rotate_left
  · intro w hSw; (try dsimp only at hSw); go_simp; (try with_reducible rfl)
  simp only [List.setIfInBounds_toArray, List.set_cons_zero, List.set_cons_succ]
  refine R_take 11 20 (v := ?_) rfl rfl (by rfl) (by kernel_rfl) (fun _ _ _ h => h) hS0.out ?_ ?_
  rotate_left
  · intro w hSw; (try dsimp only at hSw); go_simp; (try with_reducible rfl)
  simp only [List.setIfInBounds_toArray, List.set_cons_zero, List.set_cons_succ]
  refine R_take 14 23 (v := ?_) rfl rfl (by rfl) (by kernel_rfl) (fun _ _ _ h => h) hS0.out ?_ ?_
  rotate_left
  · intro w hSw; (try dsimp only at hSw); go_simp; (try with_reducible rfl)
  simp only [List.setIfInBounds_toArray, List.set_cons_zero, List.set_cons_succ]
  refine R_take 15 24 (v := ?_) rfl rfl (by rfl) (by kernel_rfl) (fun _ _ _ h => h) hS0.out ?_ ?_
  rotate_left
  · intro w hSw; (try dsimp only at hSw); go_simp; (try with_reducible rfl)
  simp only [List.setIfInBounds_toArray, List.set_cons_zero, List.set_cons_succ]
  refine R_take 16 25 (v := ?_) rfl rfl (by rfl) (by kernel_rfl) (fun _ _ _ h => h) hS0.out ?_ ?_
  rotate_left
  · intro w hSw; (try dsimp only at hSw); go_simp; (try with_reducible rfl)
  simp only [List.setIfInBounds_toArray, List.set_cons_zero, List.set_cons_succ]
  refine R_take 17 26 (v := ?_) rfl rfl (by rfl) (by kernel_rfl) (fun _ _ _ h => h) hS0.out ?_ ?_
  rotate_left
  · intro w hSw; (try dsimp only at hSw); go_simp; (try with_reducible rfl)
  simp only [List.setIfInBounds_toArray, List.set_cons_zero, List.set_cons_succ]
  refine R_call 3 12 (w' := w1.drew) rfl rfl (by rfl) (by kernel_rfl) ?_ (ref21_put u.kind 1 w1.drew (by omega) (by omega) (by omega) (by omega)) ?_
  · go_simp
  rintro e v1 ⟨rfl, hbv1⟩
  have hBv1 : Below w1.heap.size w1 v1 := ⟨hbv1.os, hbv1.tape, hbv1.output, hbv1.size, hbv1.block⟩
  have hsv1 := ud_cells (HB.out.below hBv1 HB.out.lt)
  refine ⟨_, rfl, fun _ => hsv1, ?_⟩
  simp only [List.setIfInBounds_toArray, List.set_cons_zero, List.set_cons_succ]
  have hS1 := Lib.hid hsv1
  clear hsv1 hbv1
  refine R_call 6 15 (w' := v1) rfl rfl (by rfl) (by kernel_rfl) ?_ (ref21_put u.tx 8 v1 (by omega) (by omega) hwf.1 hwf.1) ?_
  · go_simp
  rintro e v2 ⟨rfl, hbv2⟩
  have hBv2 : Below w1.heap.size w1 v2 := hBv1.trans (hbv2.mono hBv1.size)
  have hsv2 := ud_cells (HB.out.below hBv2 HB.out.lt)
  refine ⟨_, rfl, fun _ => hsv2, ?_⟩
  simp only [List.setIfInBounds_toArray, List.set_cons_zero, List.set_cons_succ]
  have hS2 := Lib.hid hsv2
  clear hsv2 hbv2 hBv1
  refine R_take 7 16 (v := ?_) rfl rfl (by rfl) (by kernel_rfl) (fun _ _ _ h => h) hS2.out ?_ ?_
  rotate_left
  · intro w hSw; (try dsimp only at hSw); go_simp; (try with_reducible rfl)
  simp only [List.setIfInBounds_toArray, List.set_cons_zero, List.set_cons_succ]
  refine R_call 12 21 (w' := v2) rfl rfl (by rfl) (by kernel_rfl) ?_ (ref21_put u.ppage 4 v2 (by omega) (by omega) (by omega) (by omega)) ?_
  · go_simp
  rintro e v3 ⟨rfl, hbv3⟩
  have hBv3 : Below w1.heap.size w1 v3 := hBv2.trans (hbv3.mono hBv2.size)
  have hsv3 := ud_cells (HB.out.below hBv3 HB.out.lt)
  refine ⟨_, rfl, fun _ => hsv3, ?_⟩
  simp only [List.setIfInBounds_toArray, List.set_cons_zero, List.set_cons_succ]
  have hS3 := Lib.hid hsv3
  clear hsv3 hbv3 hBv2
  refine R_take 13 22 (v := ?_) rfl rfl (by rfl) (by kernel_rfl) (fun _ _ _ h => h) hS3.out ?_ ?_
  rotate_left
  · intro w hSw; (try dsimp only at hSw); go_simp; (try with_reducible rfl)
  simp only [List.setIfInBounds_toArray, List.set_cons_zero, List.set_cons_succ]
  refine R_call 18 27 (w' := v3) rfl rfl (by rfl) (by kernel_rfl) ?_ (ref21_put u.pslot 2 v3 (by omega) (by omega) hwf.2.1 (by omega)) ?_
  · go_simp
  rintro e v4 ⟨rfl, hbv4⟩
  have hBv4 : Below w1.heap.size w1 v4 := hBv3.trans (hbv4.mono hBv3.size)
  have hsv4 := ud_cells (HB.out.below hBv4 HB.out.lt)
  refine ⟨_, rfl, fun _ => hsv4, ?_⟩
  simp only [List.setIfInBounds_toArray, List.set_cons_zero, List.set_cons_succ]
  have hS4 := Lib.hid hsv4
  clear hsv4 hbv4 hBv3
  refine R_take 19 28 (v := ?_) rfl rfl (by rfl) (by kernel_rfl) (fun _ _ _ h => h) hS4.out ?_ ?_
  rotate_left
  · intro w hSw; (try dsimp only at hSw); go_simp; (try with_reducible rfl)
  simp only [List.setIfInBounds_toArray, List.set_cons_zero, List.set_cons_succ]
  refine R_take 20 3 (v := ?_) rfl rfl (by rfl) (by kernel_rfl) (fun _ _ _ h => h) hS4.out ?_ ?_
  rotate_left
  · intro w hSw; (try dsimp only at hSw); go_simp; (try with_reducible rfl)
  simp only [List.setIfInBounds_toArray, List.set_cons_zero, List.set_cons_succ]
  refine R_done (by kernel_rfl) ?_ _
  rename_i K9 hK9
  refine hK9 _ _ ?_
  clear hK9
  have HB4 := Lib.hid (HB.out.below hBv4 HB.out.lt)
  have hb4 := hb0.trans (hBv4.mono hb0.size)
  clear hS0 hS1 hS2 hS3 HB hBv4
  obtain ⟨c0, c1, c2, c3⟩ := ud_cells HB4.out
  clear hS4 c1 c2 c3
  by_cases hk1 : u.kind = 1
  · have d1 : decide ((u.kind : Int) = 1) = true := by rw [decide_eq_true_eq]; omega
    have d1' : ((u.kind : Int) == 1) = true := by simp; omega
    have k4 := HB4.out.cell 4
    simp only [List.getElem?_toArray, List.getElem?_cons_succ, List.getElem?_cons_zero] at k4
    have cc : ¬ 9223372036854775807 < 15 + u.key.length := by omega
    have HE : Hid (u.bytes = Sp.be 1 u.kind ++ Sp.be 8 u.tx ++ Sp.be 4 u.ppage ++ Sp.be 2 u.pslot ++ u.key) := Lib.hid (by unfold Sp.Ud.bytes Sp.Ud.tail Sp.Ud.head; rw [if_pos hk1])
    clear hk1 H6 HBT
    go_wp2_with fail
    go_ret
    refine ⟨?_, hb4⟩
    rw [HE.out]
    rfl
  · have d1 : decide ((u.kind : Int) = 1) = false := by rw [decide_eq_false_iff_not]; omega
    have d1' : ((u.kind : Int) == 1) = false := by simp; omega
    have hw : u.was.may := by
      rcases H6.out with h | h
      · exact absurd h.1 hk1
      · exact h.2.2
    have HC := Lib.hid fun (W : World) => ref07_encode u.was hw hwf.2.2 HPD.out W
    have hbt := HBT.out.resolve_right hk1
    have k5 := HB4.out.cell 5
    have k6 := HB4.out.cell 6
    have k7 := HB4.out.cell 7
    have k8 := HB4.out.cell 8
    have k9 := HB4.out.cell 9
    have k10 := HB4.out.cell 10
    have k11 := HB4.out.cell 11
    simp only [List.getElem?_toArray, List.getElem?_cons_succ, List.getElem?_cons_zero] at k5 k6 k7 k8 k9 k10 k11
    have cc : ¬ 9223372036854775807 < 15 + u.was.bytes.length := by omega
    have HE : Hid (u.bytes = Sp.be 1 u.kind ++ Sp.be 8 u.tx ++ Sp.be 4 u.ppage ++ Sp.be 2 u.pslot ++ u.was.bytes) := Lib.hid (by unfold Sp.Ud.bytes Sp.Ud.tail Sp.Ud.head; rw [if_neg hk1])
    clear hk1 H6 HBT hw hbt
    go_wp2_with fail
    refine (HC.out _).mono ?_
    rintro e w5 ⟨rfl, hb5⟩
    have hb6 := hb4.trans (hb5.mono hb4.size)
    clear hb5 k5 k6 k7 k8 k9 k10 k11
    go_wp2_with fail
    go_ret
    refine ⟨?_, hb6⟩
    rw [HE.out]
    rfl
end Go.Proofs.YtphkggcdfkcidaaGreat

/- The iterator of maps.Keys at uint32 keys (after the kit's worked proof at string keys): all keys come, each once. -/
namespace Go.Proofs.YtphkggcdfkcidaaGreat
open Go.RowKit Go.Maps Go.Sort

theorem keyOf_u32 {P : Program} {k : TypeId} (hk : P.underlying k = some (.int .u32)) {key : Value} {kl : Lit} (h : keyOf P k key = some kl) : ∃ x : Nat, key = u32v x ∧ kl = uKey x ∧ x < 4294967296 := by
  cases key <;> simp [keyOf, hk, mapKey] at h
  rename_i q a
  obtain ⟨⟨rfl, hw⟩, rfl⟩ := h
  have e1 : IntKind.u32.min = 0 := rfl
  have e2 : IntKind.u32.max = 4294967295 := rfl
  simp [Lit.wf, e1, e2] at hw
  obtain ⟨x, rfl⟩ := Int.eq_ofNat_of_zero_le hw.1
  exact ⟨x, rfl, rfl, by omega⟩
theorem u32v_inj {x y : Nat} (h : u32v x = u32v y) : x = y := by
  simp only [u32v, Value.int.injEq, true_and] at h
  omega

/-- the keys that have come. -/
def CollectedU (D0 : DataW Unit) (left : Lit → Bool) (ss : List Nat) : Prop := ss.Nodup ∧ ∀ x, x ∈ ss ↔ (has D0 (uKey x) = true ∧ left (uKey x) = false)
section
variable {D0 : DataW Unit} {left : Lit → Bool} {ss : List Nat}
theorem CollectedU.start (D0 : DataW Unit) : CollectedU D0 (has D0) [] := ⟨List.nodup_nil, fun x => by cases has D0 (uKey x) <;> simp⟩
theorem CollectedU.step (h : CollectedU D0 left ss) {x : Nat} {y : DataW Unit} (hlk : left (uKey x) = true) (hat : ∀ zd, D0.atKey (uKey x) zd = y) : CollectedU D0 (fun z => left z && !z.sameKey (uKey x)) (ss ++ [x]) := by
  have hhas : has D0 (uKey x) = true := has_true_of_atKey hat
  have hnew : x ∉ ss := fun hx => by have := ((h.2 x).1 hx).2; rw [hlk] at this; cases this
  refine ⟨List.nodup_append.2 ⟨h.1, by simp, fun a ha b hb => by simp at hb; subst hb; exact fun e => hnew (e ▸ ha)⟩, fun y => ?_⟩
  by_cases hy : y = x
  · subst hy
    simp [hhas, WideAt.sameKey_self (uKey_lit y)]
  · have hs : (uKey y).sameKey (uKey x) = false := by
      cases he : (uKey y).sameKey (uKey x) with
      | false => rfl
      | true => exact absurd (uKey_inj ((WideAt.sameKey_iff (uKey_lit x)).1 he)) hy
    simp [h.2 y, hy, hs]
end

set_option maxRecDepth 100000 in
set_option maxHeartbeats 1000000 in
theorem keys1_u32 (F : Fence) (n : Nat) (h10 : F.fn 105) (hro : F.round = none) (hn : 1 ≤ n) (l Bm b nn : Nat) (D0 : DataW Unit) (J : List Nat → World → Prop)
    (hY : ∀ pre x W, J pre W → pre.length < Maps.size D0 → YieldAt F (n - 1) Tryz.prog l #[u32v x] W fun e W' => e = .returned (.bool true) ∧ J (pre ++ [x]) W' ∧ KeepsWalks W W')
    (W : World) (hJ : AbidesFrom W.heap.size J) (hm : W.cell? ⟨Bm, 0, none⟩ = some (.map (some b))) (hown : W.ownsMap Tryz.prog 23 (plainElem Tryz.prog 3) b nn D0) (h0 : J [] W) :
    CallsIn F n Tryz.prog 105 #[.func (.yield l) #[] #[], .pointer (some ⟨Bm, 0, none⟩)] W fun e W' => (∃ v, e = .returned v) ∧ ∃ ss : List Nat, (ss.Nodup ∧ ∀ x, x ∈ ss ↔ has D0 (uKey x) = true) ∧ J ss W' := by
  refine callsIn_of_wp Tryz.func105 rfl h10 ?_ hro
  simp only [Tryz.ntmps105, List.size_toArray, List.length_cons, List.length_nil, Nat.reduceAdd, Nat.reduceSub, Array.replicate_succ, Array.replicate_zero, List.push_toArray, List.append_toArray, List.nil_append, List.cons_append]
  gi_wp2_with (first
    | (gi_at_range; refine wpListIn_range_own _ rfl _ 97 rfl 23 3 (int_keyed Tryz.underlying23) Tryz.underlying97 _ b nn _ rfl hown ?_; intro w0 hrg0 hg0 hs0)
    | gi_in)
  go_frame
  gi_loopw [3] (fun _ wr => ∃ (left : Lit → Bool) (cnt : Nat) (ss : List Nat), wr.ranges Tryz.prog 23 (plainElem Tryz.prog 3) b W.heap.size nn D0 left cnt ∧ ss.length + cnt ≤ Maps.size D0 ∧ CollectedU D0 left ss ∧ J ss wr)
    (fun _ wr => wr.rangeLeft b W.heap.size)
  case atStart =>
    exact ⟨_, _, [], hrg0, by simp, CollectedU.start D0, hJ [] W w0 none h0 hg0 (fun r e => by cases e)⟩
  case round =>
    obtain ⟨left, cnt, ss, hrg, hcs, hC, hJs⟩ := hrel
    gi_wp2_with (first
      | (gi_at_next; refine wpListIn_next_ranges _ rfl _ rfl 23 (int_keyed Tryz.underlying23) (plainElem Tryz.prog 3) u32v (Value.int .i64) (fun key kl hk => by obtain ⟨x, hx, _⟩ := keyOf_u32 Tryz.underlying23 hk; exact ⟨x, hx⟩) (fun v y hv => by obtain ⟨c, rfl, _⟩ := plainElem_int_inv Tryz.underlying3 hv; exact ⟨c, rfl⟩) b W.heap.size nn _ _ _ rfl hrg ?_ ?_)
      | gi_in)
    · intro hc0 hl0
      gi_wp2
      go_end0
      exact ⟨⟨_, rfl⟩, ss, ⟨hC.1, fun x => by rw [hC.2 x, hl0]; simp⟩, hJs⟩
    · intro x c kl yd yp w2 cnt2 hkey hlk hv hat hrg2 hlt hg2 hs2 hen
      obtain ⟨x', ex, rfl, _⟩ := keyOf_u32 Tryz.underlying23 hkey
      obtain rfl : x = x' := u32v_inj ex
      have hJ2 : J ss w2 := hJ ss wr w2 (some W.heap.size) hJs hg2 (fun r e => by cases e; exact ⟨Nat.le_refl _, hrg.iter_walk⟩)
      obtain ⟨fn, tmps, assign, body, hy, hR⟩ := hY ss x w2 hJ2 (by omega)
      clear hs2
      gi_wp2
      refine hR.mono ?_
      rintro e W3 ⟨rfl, hJ3, hk3⟩
      gi_wp2
      have hrg3 := hrg2.of_walks hk3
      go_roundw
      case rel => exact ⟨_, cnt2, ss ++ [x], hrg3, by simp; omega, hC.step hlk hat, hJ3⟩
      case measure => rw [hrg3.left_eq, hrg.left_eq]; exact hlt
end Go.Proofs.YtphkggcdfkcidaaGreat

/- slices.Collect, slices.Sorted of the keys of a map of uint32 (turned from the kit's worked proof at string keys, GgCollectAtTheDump). -/
namespace Go.Proofs.YtphkggcdfkcidaaGreat
open Go.RowKit Go.Maps Go.Sort Go.Shelf


def apAssign : Code := (Code.region 2 #[{ dst := some 5, op := Op.assign (Operand.tmp 7), type := 23, pos := "iter.go:51", after := #[], guard := none }] false)
def apBody : Code := (Code.block 1 (Code.region 3 #[{ dst := some 8, op := Op.load 98 (Operand.tmp 2), type := 98, pos := "iter.go:52", after := #[], guard := none }, { dst := some 9, op := Op.move (Operand.tmp 5), type := 23, pos := "iter.go:52", after := #[], guard := none }, { dst := some 10, op := Op.buildSlice 98 1 #[(0, Operand.tmp 9)], type := 98, pos := "iter.go:52", after := #[{ on := 1, ground := Ground.data }], guard := none }, { dst := some 11, op := Op.call { callee := Callee.builtin Builtin.append, args := #[Operand.tmp 8, Operand.tmp 10], argTypes := #[98, 98] }, type := 98, pos := "iter.go:52", after := #[{ on := 0, ground := Ground.data }, { on := 2, ground := Ground.data }], guard := none }, { dst := none, op := Op.store 98 (Operand.tmp 2) (Operand.tmp 11), type := 0, pos := "iter.go:52", after := #[{ on := 3, ground := Ground.data }, { on := 3, ground := Ground.chain }, { on := 0, ground := Ground.phase }, { on := 1, ground := Ground.phase }, { on := 2, ground := Ground.phase }, { on := 3, ground := Ground.phase }], guard := none }] false))
/-- The loop's record: AppendSeq's temporaries as they stood at the entering: 's' boxed in block Bs; sv: the iterator's value. -/
def apRec (fn : FuncId) (sv : Value) (Bs D : Nat) (st : LoopState) (pend : Option Code) : Loop :=
  { state := st, pending := pend, fn, tmps := #[.slice none 0 0, sv, .pointer (some ⟨Bs, 0, none⟩), undef, .slice none 0 0, undef, sv, undef, undef, undef, undef, undef, undef], params := #[7], assign := apAssign, body := apBody, defers := D }

/-- BETWEEN TWO ROUNDS: the box holds a slice that owns, in a block of the call's own, what has come so far; IT IS nil JUST AS LONG AS NOTHING HAS COME; nothing that lay before the call has turned. -/
structure ApAt (w0 : World) (fn : FuncId) (sv : Value) (Bs l D : Nat) (ss : List Nat) (W : World) : Prop where
  box : ∃ v, W.heap[Bs]? = some (.cells #[v] 98 (0, 0)) ∧ W.ownsRow w0.heap.size 23 1 v ss.length (ss.map u32v) ∧ (v = .slice none 0 0 ↔ ss = [])
  L : W.heap[l]? = some (.loop (apRec fn sv Bs D .ready none))
  K : W.heap[D]? = some (.deferred (some []))
  below : Below w0.heap.size w0 W

theorem ap_abides (w0 : World) (fn : FuncId) (sv : Value) (Bs l D B : Nat) (hB : w0.heap.size ≤ B) : AbidesFrom B (ApAt w0 fn sv Bs l D) := fun s W W' row h hg hrow => by
  have hrow' : ∀ r, row = some r → ∃ o : Obj, W.heap[r]? = some o ∧ o.isWalk = true := fun r e => (hrow r e).2
  obtain ⟨v, hv, hr, hn⟩ := h.box
  exact ⟨⟨v, (grownBy_keeps hg hrow' hv rfl).trans hv, ownsRow_abides_a hr hg hrow', hn⟩, (grownBy_keeps hg hrow' h.L rfl).trans h.L, (grownBy_keeps hg hrow' h.K rfl).trans h.K,
    h.below.grown hg h.below.size (fun k e => Nat.le_trans hB (hrow k e).1)⟩

set_option maxRecDepth 100000 in
set_option maxHeartbeats 2000000 in
theorem apYield (F : Fence) (m : Nat) (w0 : World) (fn : FuncId) (hfn : F.fn fn) (sv : Value) (Bs l D : Nat) (hBl : Bs ≠ l) (hDl : D ≠ l) (hDB : D ≠ Bs) (h0B : w0.heap.size ≤ Bs) (h0l : w0.heap.size ≤ l)
    (N : Nat) (hN : N ≤ maxLen) (hNb : N * 4 ≤ 140737488355328) (ss : List Nat) (x : Nat) (W : World) (h : ApAt w0 fn sv Bs l D ss W) (hlen : ss.length < N) :
    YieldAt F m Tryz.prog l #[u32v x] W fun e W' => e = .returned (.bool true) ∧ ApAt w0 fn sv Bs l D (ss ++ [x]) W' ∧ KeepsWalks W W' := by
  obtain ⟨i0, hi, hz0, hz1, hz2⟩ := info_parts u32_info
  obtain ⟨v, hv, hrow, _⟩ := h.box
  refine ⟨fn, #[.slice none 0 0, sv, .pointer (some ⟨Bs, 0, none⟩), undef, .slice none 0 0, undef, sv, u32v x, undef, undef, undef, undef, undef], apAssign, apBody, by simpa [apRec] using run_yield (P := Tryz.prog) (args := #[u32v x]) h.L rfl, roundIn_of_wpIn hfn ?_⟩
  have hl : l < W.heap.size := (Array.getElem?_eq_some_iff.1 h.L).1
  have hbr := run_beginRound (P := Tryz.prog) h.L rfl
  obtain ⟨W2, hW2⟩ : ∃ W2, W.putObj l (.loop { apRec fn sv Bs D .ready none with state := .busy }) = W2 := ⟨_, rfl⟩
  rw [hW2] at hbr
  have hg2 : W.grownBy W2 (some l) := by rw [← hW2]; exact grownBy_putObj_a _ _ _
  have hk2 : KeepsWalks W W2 := by rw [← hW2]; exact KeepsWalks.putObj _ h.L rfl
  have hv2 : W2.heap[Bs]? = some (.cells #[v] 98 (0, 0)) := by rw [← hW2]; exact (World.putObj_heap_other hBl).trans hv
  have hK2 : W2.heap[D]? = some (.deferred (some [])) := by rw [← hW2]; exact (World.putObj_heap_other hDl).trans h.K
  have hL2 : W2.heap[l]? = some (.loop { apRec fn sv Bs D .ready none with state := .busy }) := by rw [← hW2]; exact World.putObj_heap_same hl
  have hrow2 : W2.ownsRow w0.heap.size 23 1 v ss.length (ss.map u32v) := hrow.kept hg2 (ownsRow_ne_a hrow h.L (fun cur e => by cases e))
  have hb2 : Below w0.heap.size w0 W2 := h.below.grown hg2 h.below.size (fun k e => by cases e; exact h0l)
  obtain ⟨hc2, hf2⟩ := cell_of_box_a hv2
  have hBlt : Bs < W2.heap.size := (Array.getElem?_eq_some_iff.1 hv2).1
  have hl2 : l < W2.heap.size := (Array.getElem?_eq_some_iff.1 hL2).1
  have hDlt : D < W2.heap.size := (Array.getElem?_eq_some_iff.1 hK2).1
  have ne_of : ∀ {j : Nat} {o : Obj}, W2.heap[j]? = some o → (∀ cur, o ≠ .cells cur 23 (0, 0)) → some j ≠ v.ownBlock := fun hj hno => by
    rcases ownsRow_ne_a hrow2 hj hno with e | e
    · rw [e]; simp
    · exact fun e' => e e'.symm
  clear hW2
  unfold apAssign
  gi_wp2_with (rw [Oper.semAt_eq _ _ _ (fun c h => by cases h)]; go_simp; try go_bits)
  unfold apBody
  gi_wp2_with (first
    | (gi_at_builtin; refine wpListIn_append_own _ rfl _ _ 98 rfl w0.heap.size 23 i0 (.int .u32 0) 1 4 Tryz.underlying98 hi hz0 hz1 hz2 rfl (by decide) _ _ _ rfl (hrow2.alloc _) ⟨W2.heap.size, 0, none⟩ 1 1 [u32v x] rfl rfl (cell_one_new _ _ _) (by simp [Value.oneCell', u32v]) (by omega) (by omega) (by have := hb2.size; simp; omega) ?_; intro v' w3 hown' hg3 hnil3
       have hv3 : w3.heap[Bs]? = some (.cells #[v] 98 (0, 0)) := (hg3.block Bs (by simp; omega) (ne_of hv2 (fun cur e => by cases e))).trans ((Below.heap_alloc _ _ Bs hBlt).trans hv2)
       obtain ⟨hc3, hf3⟩ := cell_of_box_a hv3
       obtain ⟨g', cap', cur', rfl, hbase', hgb', hr1, hr2, hr3, hr4⟩ : ∃ g' cap' cur', v' = .slice (some ⟨g', 0, none⟩) (ss.length + 1) cap' ∧ w0.heap.size ≤ g' ∧ w3.heap[g']? = some (.cells cur' 23 (0, 0)) ∧ ss.length + 1 ≤ cap' ∧ cap' ≤ maxLen ∧ cur'.size = cap' * 1 ∧ cur'.toList.take ((ss.length + 1) * 1) = ss.map u32v ++ [u32v x] := by
         rcases hown'.2 with ⟨_, h0⟩ | h'
         · exact absurd h0 (by omega)
         · exact h'
       go_frame)
    | (rw [Oper.semAt_eq _ _ _ (fun c h => by cases h)]; go_simp; try go_bits))
  have hg3' : (W2.alloc (.cells #[u32v x] 23)).grownBy w3 v.ownBlock := hg3
  have hL3 : w3.heap[l]? = some (.loop { apRec fn sv Bs D .ready none with state := .busy }) := (hg3'.block l (by simp; omega) (ne_of hL2 (fun cur e => by cases e))).trans ((Below.heap_alloc _ _ l hl2).trans hL2)
  have hK3 : w3.heap[D]? = some (.deferred (some [])) := (hg3'.block D (by simp; omega) (ne_of hK2 (fun cur e => by cases e))).trans ((Below.heap_alloc _ _ D hDlt).trans hK2)
  obtain ⟨w4, hw4⟩ : ∃ w4, w3.setCell ⟨Bs, 0, none⟩ (.slice (some ⟨g', 0, none⟩) (ss.length + 1) cap') = w4 := ⟨_, rfl⟩
  rw [hw4]
  have hg4 : w3.grownBy w4 (some Bs) := by rw [← hw4]; exact grownBy_setCell0_a _ _ _
  have hv4 : w4.heap[Bs]? = some (.cells #[.slice (some ⟨g', 0, none⟩) (ss.length + 1) cap'] 98 (0, 0)) := by rw [← hw4]; exact heap_setCell_box_a _ hv3
  have hL4 : w4.heap[l]? = some (.loop { apRec fn sv Bs D .ready none with state := .busy }) := (hg4.block l (Array.getElem?_eq_some_iff.1 hL3).1 (fun e => hBl (by cases e; rfl))).trans hL3
  have hK4 : w4.heap[D]? = some (.deferred (some [])) := (hg4.block D (Array.getElem?_eq_some_iff.1 hK3).1 (fun e => hDB (by cases e; rfl))).trans hK3
  have hrow4 := hown'.kept hg4 (ownsRow_ne_a hown' hv3 (fun cur e => by cases e))
  have hl4 : l < w4.heap.size := (Array.getElem?_eq_some_iff.1 hL4).1
  have hb3 : Below w0.heap.size w0 w3 := (hb2.alloc hb2.size _).grown hg3' (by have := hb2.size; simp; omega) (fun k e => (hrow2.lt k e).1)
  have hb4 : Below w0.heap.size w0 w4 := hb3.grown hg4 hb3.size (fun k e => by cases e; exact h0B)
  have hk4 : KeepsWalks W w4 := ((hk2.trans (KeepsWalks.alloc _ _)).trans (KeepsWalks.of_grownBy hg3' (ownsRow_not_walk_a (hrow2.alloc _)))).trans (by rw [← hw4]; exact KeepsWalks.setCell _ _ _)
  clear hw4
  refine ⟨_, _, run_endRound none hL4, rfl, ⟨⟨_, (World.putObj_heap_other hBl).trans hv4, ?_, by simp⟩, World.putObj_heap_same hl4, (World.putObj_heap_other hDl).trans hK4, hb4.grown (grownBy_putObj_a _ _ _) hb4.size (fun k e => by cases e; exact h0l)⟩, hk4.trans (KeepsWalks.putObj _ hL4 rfl)⟩
  have := hrow4.kept (grownBy_putObj_a w4 l (.loop { { apRec fn sv Bs D .ready none with state := .busy } with state := if (none : Option Code).isNone then .ready else .done, pending := none })) (ownsRow_ne_a hrow4 hL4 (fun cur e => by cases e))
  simpa using this

set_option maxRecDepth 100000 in
set_option maxHeartbeats 2000000 in
/-- **slices.AppendSeq(nil, seq), AGAINST WHATEVER ITERATOR VALUE THAT 'SeqGives'**: it hands back a slice that owns, in a block of the call's own, JUST WHAT THE ITERATOR GAVE, IN THAT ORDER; nil JUST WHERE IT GAVE NOTHING (as Go: 'slices.Collect' of nothing is nil); nothing that lay before the call has turned. -/
theorem appendSeq_in (F : Fence) (n : Nat) (h11 : F.fn 128) (hro : F.round = none) (hn : 2 ≤ n) (g : Nat) (lb : Array Value) (hFg : F.fn g) (eg : ∀ args w, (callFunc g args).run Tryz.prog w = .ok (.enter g args) w)
    (S : List Nat → Prop) (N : Nat) (hN : N ≤ maxLen) (hNb : N * 4 ≤ 140737488355328) (w : World) (hseq : SeqGives F (n - 1) Tryz.prog g lb u32v S N w) :
    CallsIn F n Tryz.prog 128 #[.slice none 0 0, .func (.func g) #[] lb] w fun e w' => ∃ (v : Value) (ss : List Nat), e = .returned v ∧ S ss ∧ w'.ownsRow w.heap.size 23 1 v ss.length (ss.map u32v) ∧ (v = .slice none 0 0 ↔ ss = []) ∧ Below w.heap.size w w' := by
  have h1 : 1 ≤ n := by omega
  refine callsIn_of_wp_marks Tryz.func128 rfl h11 ?_ hro
  simp only [Tryz.ntmps128, List.size_toArray, List.length_cons, List.length_nil, Nat.reduceAdd, Nat.reduceSub, Array.replicate_succ, Array.replicate_zero, List.push_toArray, List.append_toArray, List.nil_append, List.cons_append]
  gi_wp2
  refine wpIn_rangeFunc ?_
  intro fn hfn
  rw [hro]
  obtain ⟨W0, hW0⟩ : ∃ W0, w.alloc (.cells #[.slice none 0 0] 98) = W0 := ⟨_, rfl⟩
  have hs0 : W0.heap.size = w.heap.size + 1 := by rw [← hW0]; simp
  have hv0 : W0.heap[w.heap.size]? = some (.cells #[.slice none 0 0] 98 (0, 0)) := by rw [← hW0]; exact World.alloc_heap_new w _
  have hb0 : Below w.heap.size w W0 := by rw [← hW0]; exact (Below.refl _ w).alloc (Nat.le_refl _) _
  rw [hW0]
  obtain ⟨W1, hW1⟩ : ∃ W1, (W0.alloc (.deferred (some []))).alloc (.loop (apRec fn (.func (.func g) #[] lb) w.heap.size W0.heap.size .ready none)) = W1 := ⟨_, rfl⟩
  have hold : ∀ k, k < W0.heap.size → W1.heap[k]? = W0.heap[k]? := fun k hk => by
    rw [← hW1]; exact (Below.heap_alloc _ _ k (by simp; omega)).trans (Below.heap_alloc _ _ k hk)
  have hb1 : Below w.heap.size w W1 := by rw [← hW1]; exact (hb0.alloc hb0.size _).alloc (by have := hb0.size; simp; omega) _
  have hs1 : W1.heap.size = W0.heap.size + 2 := by rw [← hW1]; simp
  have hM : ApAt w fn (.func (.func g) #[] lb) w.heap.size (W0.heap.size + 1) W0.heap.size [] W1 :=
    ⟨⟨_, (hold w.heap.size (by omega)).trans hv0, ⟨rfl, .inl ⟨rfl, rfl⟩⟩, by simp⟩,
     by rw [← hW1]; have := World.alloc_heap_new (W0.alloc (.deferred (some []))) (.loop (apRec fn (.func (.func g) #[] lb) w.heap.size W0.heap.size .ready none)); rwa [World.size_alloc] at this,
     by rw [← hW1]; exact (Below.heap_alloc _ _ _ (by simp)).trans (World.alloc_heap_new W0 _), hb1⟩
  refine ⟨W0.heap.size + 1, [{ target := .collected W0.heap.size, args := #[] }], W1, { target := .fn (.func g) lb, args := #[.func (.yield (W0.heap.size + 1)) #[] #[]] }, W1, g,
    #[.func (.yield (W0.heap.size + 1)) #[] #[]] ++ lb, W1, ?_, ?_, ?_, ?_, fun _ => h1, ?_⟩
  · rw [← hW1]; exact run_enterLoop_outer _ _ _ _ _
  · simp [resolve, go_sem]
  · intro f' hf'; simp [Target.leads] at hf'; subst hf'; exact hFg
  · simp [invoke, go_sem, eg]
  · refine (hseq (W0.heap.size + 1) (ApAt w fn (.func (.func g) #[] lb) w.heap.size (W0.heap.size + 1) W0.heap.size) W1 hb1 (ap_abides _ _ _ _ _ _ _ hb1.size)
      (fun pre x W hJ hl => apYield F (n - 1 - 1) w fn hfn _ w.heap.size (W0.heap.size + 1) W0.heap.size (by omega) (by omega) (by omega) (Nat.le_refl _) (by omega) N hN hNb pre x W hJ hl) hM).mono ?_
    rintro e W2 ⟨⟨v0, rfl⟩, ss, hS, h2⟩
    obtain ⟨v, hv, hrow, hnil⟩ := h2.box
    have hend := run_endLoop (P := Tryz.prog) h2.L (by simp [apRec])
    obtain ⟨W3, hW3⟩ : ∃ W3, W2.putObj (W0.heap.size + 1) (.loop { apRec fn (.func (.func g) #[] lb) w.heap.size W0.heap.size .ready none with state := .exhausted }) = W3 := ⟨_, rfl⟩
    rw [hW3] at hend
    have hg3 : W2.grownBy W3 (some (W0.heap.size + 1)) := by rw [← hW3]; exact grownBy_putObj_a _ _ _
    have hv3 : W3.heap[w.heap.size]? = some (.cells #[v] 98 (0, 0)) := by rw [← hW3]; exact (World.putObj_heap_other (by omega)).trans hv
    have hK3 : W3.heap[W0.heap.size]? = some (.deferred (some [])) := by rw [← hW3]; exact (World.putObj_heap_other (by omega)).trans h2.K
    have hrow3 := hrow.kept hg3 (ownsRow_ne_a hrow h2.L (fun cur e => by cases e))
    have hb3 : Below w.heap.size w W3 := h2.below.grown hg3 h2.below.size (fun k e => by cases e; omega)
    obtain ⟨hc3, hf3⟩ := cell_of_box_a hv3
    clear hW3
    refine ⟨none, W3, hend, ?_⟩
    gi_wp2
    rw [← hs0]
    refine ⟨by simp, .inl ⟨_, _, rfl, run_takeDeferred hK3, ?_⟩⟩
    exact ⟨_, results_tmp rfl _ _ _, v, ss, rfl, hS, hrow3.kept (grownBy_putObj_a _ _ _) (ownsRow_ne_a hrow3 hK3 (fun cur e => by cases e)), hnil, hb3.grown (grownBy_putObj_a _ _ _) hb3.size (fun k e => by cases e; omega)⟩

set_option maxHeartbeats 1000000 in
/-- **slices.Collect(seq), AGAINST WHATEVER ITERATOR VALUE.** -/
theorem collect_in (F : Fence) (n : Nat) (h8 : F.fn 103) (h11 : F.fn 128) (hro : F.round = none) (hn : 3 ≤ n) (g : Nat) (lb : Array Value) (hFg : F.fn g) (eg : ∀ args w, (callFunc g args).run Tryz.prog w = .ok (.enter g args) w)
    (S : List Nat → Prop) (N : Nat) (hN : N ≤ maxLen) (hNb : N * 4 ≤ 140737488355328) (w : World) (hseq : SeqGives F (n - 1 - 1) Tryz.prog g lb u32v S N w) :
    CallsIn F n Tryz.prog 103 #[.func (.func g) #[] lb] w fun e w' => ∃ (v : Value) (ss : List Nat), e = .returned v ∧ S ss ∧ w'.ownsRow w.heap.size 23 1 v ss.length (ss.map u32v) ∧ (v = .slice none 0 0 ↔ ss = []) ∧ Below w.heap.size w w' := by
  have h1 : 1 ≤ n := by omega
  refine callsIn_of_wp Tryz.func103 rfl h8 ?_ hro
  simp only [Tryz.ntmps103, List.size_toArray, List.length_cons, List.length_nil, Nat.reduceAdd, Nat.reduceSub, Array.replicate_succ, Array.replicate_zero, List.push_toArray, List.append_toArray, List.nil_append, List.cons_append]
  gi_wp2_with (gi_at_call 128; refine (appendSeq_in F (n - 1) h11 hro (by omega) g lb hFg eg S N hN hNb _ hseq).mono ?_; rintro e w' ⟨v, ss, rfl, hS, hrow, hnil, hb⟩)
  go_ret
  exact ⟨v, ss, rfl, hS, hrow, hnil, hb⟩

end Go.Proofs.YtphkggcdfkcidaaGreat

/- The walk of package pool: Pages. -/
namespace Go.Proofs.YtphkggcdfkcidaaGreat
open Go.RowKit Go.Maps Go.Sort

set_option maxRecDepth 100000 in
theorem keys_u32 (F : Fence) (n : Nat) (h7 : F.fn 64) (hro : F.round = none) (mb : Option Nat) (w : World) :
    CallsIn F n Tryz.prog 64 #[.map mb] w fun e w' => e = .returned (.func (.func 105) #[] #[.pointer (some ⟨w.heap.size, 0, none⟩)]) ∧ w' = w.alloc (.cells #[.map mb] 97) := by
  refine callsIn_of_wp Tryz.func64 rfl h7 ?_ hro
  simp only [Tryz.ntmps64, List.size_toArray, List.length_cons, List.length_nil, Nat.reduceAdd, Nat.reduceSub, Array.replicate_succ, Array.replicate_zero, List.push_toArray, List.append_toArray, List.nil_append, List.cons_append]
  gi_wp2
  go_ret
  exact ⟨rfl, rfl⟩

theorem keys_gives (F : Fence) (n : Nat) (h10 : F.fn 105) (hro : F.round = none) (hn : 1 ≤ n) (Bm b nn : Nat) (D0 : DataW Unit) (w : World) (hBm : Bm < w.heap.size)
    (hm : w.cell? ⟨Bm, 0, none⟩ = some (.map (some b))) (hown : w.ownsMap Tryz.prog 23 (plainElem Tryz.prog 3) b nn D0) :
    SeqGives F n Tryz.prog 105 #[.pointer (some ⟨Bm, 0, none⟩)] u32v (fun ss => ss.Nodup ∧ ∀ x, x ∈ ss ↔ has D0 (uKey x) = true) (Maps.size D0) w := fun l J W hW hJ hY h0 => by
  have hown' : W.ownsMap Tryz.prog 23 (plainElem Tryz.prog 3) b nn D0 := by
    have hbl := hown.lt
    obtain ⟨es, clock, hb, Ft, hs, hD⟩ := hown
    exact ⟨es, clock, (hW.block b hbl).trans hb, Ft, hs, hD⟩
  exact keys1_u32 F n h10 hro hn l Bm b nn D0 J hY W hJ ((hW.cell (p := ⟨Bm, 0, none⟩) hBm).trans hm) hown' h0

theorem insertion_nil (p : Option Addr) (cap : Nat) (w : World) :
    Calls Tryz.prog 142 #[.slice p 0 cap, .int .i64 0, .int .i64 0] w fun e w' => e = .returned (.tuple #[]) ∧ w' = w := by
  go_enter Tryz.func142, Tryz.ntmps142
  go_wp2_with fail
  refine wp_loop_rounds 1 ?_
  rw [rounds_succ]
  go_wp2_with fail
  go_end0
  exact ⟨rfl, rfl⟩
set_option maxRecDepth 100000 in
theorem pdq_nil (p : Option Addr) (cap : Nat) (w : World) (lim : Int) :
    Calls Tryz.prog 129 #[.slice p 0 cap, .int .i64 0, .int .i64 0, .int .i64 lim] w fun e w' => e = .returned (.tuple #[]) ∧ w' = w := by
  have HI := Lib.hid (insertion_nil p cap w)
  go_enter Tryz.func129, Tryz.ntmps129
  go_wp2_with fail
  refine wp_loop_rounds 1 ?_
  rw [rounds_succ]
  go_wp2_with fail
  refine HI.out.mono ?_
  rintro e w1 ⟨rfl, hw⟩
  subst w1
  go_wp2_with fail
  refine bodyPost_ret (results_none rfl _ _ _) rfl ?_
  exact ⟨rfl, rfl⟩
set_option maxRecDepth 100000 in
theorem sort_nil (p : Option Addr) (cap : Nat) (w : World) :
    Calls Tryz.prog 104 #[.slice p 0 cap] w fun e w' => e = .returned (.tuple #[]) ∧ w' = w := by
  have HP := Lib.hid (pdq_nil p cap w)
  have HL := Lib.hid fun (x : Int) (W : World) (h0 : 0 ≤ x) (h1 : x ≤ 18446744073709551615) => Tryz.bits_Len x W h0 h1
  go_enter Tryz.func104, Tryz.ntmps104
  go_wp2_with fail
  refine (HL.out _ _ (by omega) (by omega)).mono ?_
  rintro e w1 ⟨rfl, hw⟩
  subst w1
  go_wp2_with fail
  refine (HP.out _).mono ?_
  rintro e w1 ⟨rfl, hw⟩
  subst w1
  go_wp2_with fail
  go_end0
  exact ⟨rfl, rfl⟩

set_option maxRecDepth 100000 in
/-- slices.Sorted(maps.Keys(m)). -/
theorem sorted_u32 {w : World} {Bm b m : Nat} {lk : Nat → Option Nat} (hm : w.cell? ⟨Bm, 0, none⟩ = some (.map (some b))) (hBm : Bm < w.heap.size) (hM : UMap Tryz.prog 23 3 w b m lk) (h12 : m ≤ 12) :
    Calls Tryz.prog 63 #[.func (.func 105) #[] #[.pointer (some ⟨Bm, 0, none⟩)]] w fun e w' =>
      ∃ v ss, e = .returned v ∧ ss.Nodup ∧ (∀ x, x ∈ ss ↔ (lk x).isSome) ∧ w'.ownsRow w.heap.size 23 1 v ss.length ((Sp.sorted ss).map u32v) ∧ Below w.heap.size w w' := by
  obtain ⟨D, hown, hsz, hlk⟩ := hM
  have hseq := keys_gives Fence.wide (5 - 1 - 1) trivial rfl (by omega) Bm b m D w hBm hm hown
  have HC := Lib.hid (callsIn_wide.1 (collect_in Fence.wide 5 trivial trivial rfl (by omega) 105 _ trivial (enters_of Tryz.func105 (by kernel_rfl) rfl) _ (Maps.size D) (by unfold maxLen; omega) (by omega) w hseq.bounded))
  go_enter Tryz.func63, Tryz.ntmps63
  go_wp2_with fail
  refine HC.out.mono ?_
  rintro e w1 ⟨v, ss, rfl, ⟨⟨hnd, hS⟩, hlen⟩, hrow, hnil, hb⟩
  have hS' : ∀ x, x ∈ ss ↔ (lk x).isSome := fun x => by
    rw [hS x]
    cases hl : lk x with
    | none => simp [(hlk x).2 hl]
    | some i => simp [((hlk x).1 i hl).1]
  rcases hrow.2 with ⟨rfl, h0⟩ | ⟨g, cap, cur, rfl, hbg, hh, r1, r2, r3, r4⟩
  · have he : ss = [] := List.eq_nil_of_length_eq_zero h0
    subst he
    have HN := Lib.hid (sort_nil none 0 w1)
    go_wp2_with fail
    refine HN.out.mono ?_
    rintro e w2 ⟨rfl, hw⟩
    subst w2
    go_wp2_with fail
    go_ret
    have e0 : Sp.sorted [] = [] := List.eq_nil_of_length_eq_zero (by rw [(Sp.sorted_spec []).1.length_eq]; rfl)
    exact ⟨.slice none 0 0, [], rfl, hnd, hS', by rw [e0]; exact World.ownsRow_nil _ _ _ _, hb⟩
  · have hcj : ∀ j, j < ss.length → cur[j]? = some (u32v ss[j]!) := fun j hj => by
      have := congrArg (fun l => l[j]?) r4
      simp only [Nat.mul_one, List.getElem?_take, hj, if_true] at this
      rw [Array.getElem?_toList] at this
      rw [this]
      simp [hj]
    have HS := Lib.hid (sort_row (cap := cap) (show Blk w1 g 23 cur from hh) (by omega) hcj)
    have hlen2 : (Sp.sorted ss).length = ss.length := (Sp.sorted_spec ss).1.length_eq
    go_wp2_with fail
    refine HS.out.mono ?_
    rintro e w2 ⟨rfl, cs', hB', hsz', hc', hg'⟩
    go_wp2_with fail
    go_ret
    refine ⟨.slice (some ⟨g, 0, none⟩) ss.length cap, ss, rfl, hnd, hS', ⟨by simp [hlen2], .inr ⟨g, cap, cs', rfl, hbg, hB', r1, r2, by rw [hsz']; exact r3, ?_⟩⟩, hb.grown hg' hb.size (fun k e => by injection e with e; omega)⟩
    apply List.ext_getElem?
    intro j
    rw [Nat.mul_one, List.getElem?_take]
    split
    · rename_i hj
      rw [Array.getElem?_toList, hc' j hj, List.getElem?_map, List.getElem?_eq_getElem (by omega), getElem!_pos _ j (by omega)]
      rfl
    · rename_i hj
      rw [List.getElem?_eq_none (by simp; omega)]

theorem row_mono2 {w : World} {base base' : Nat} {e : TypeId} {sz : Nat} {v : Value} {n : Nat} {xs : List Value} (h : w.ownsRow base e sz v n xs) (hb : base' ≤ base) : w.ownsRow base' e sz v n xs := by
  refine ⟨h.1, ?_⟩
  rcases h.2 with h' | ⟨b, cap, cur, rfl, hbb, rest⟩
  · exact .inl h'
  · exact .inr ⟨b, cap, cur, rfl, Nat.le_trans hb hbb, rest⟩
theorem Sp.sorted_perm {l l' : List Nat} (h : l.Perm l') : Sp.sorted l = Sp.sorted l' :=
  List.Perm.eq_of_pairwise (le := fun a b => a ≤ b) (fun _ _ _ _ h1 h2 => Nat.le_antisymm h1 h2) (Sp.sorted_spec l).2 (Sp.sorted_spec l').2 (((Sp.sorted_spec l).1.trans h).trans (Sp.sorted_spec l').1.symm)

set_option maxRecDepth 100000 in
set_option maxHeartbeats 1000000 in
theorem pool_pages {F : Foot} {w : World} {gp gd gl at_ base : Nat} {p : Sp.Pl} (h : IsPl F w gp gd gl at_ base p) (h12 : p.n ≤ 12) :
    Calls Tryz.prog 34 #[ptr gp] w fun e w' => ∃ v, e = .returned v ∧ w'.ownsRow w.heap.size 23 1 v p.items.length ((Sp.sorted (p.items.map (·.page.id))).map u32v) ∧ Below w.heap.size w w' := by
  obtain ⟨R, fb, cb, mb, v, s, r, cs, h⟩ := h
  obtain ⟨c0, c1, c2, c3, c4, c5, c6, c7⟩ := h.cells
  have HM := Lib.hid (pool_made c6)
  have hlen := h.wf.len
  have HK := Lib.hid (callsIn_wide.1 (keys_u32 Fence.wide 5 trivial rfl (some mb) w))
  have hb0 := (Below.refl w.heap.size w).alloc (Nat.le_refl _) (.cells #[.map (some mb)] 97)
  have HS := Lib.hid (sorted_u32 (w := w.alloc (.cells #[.map (some mb)] 97)) (Bm := w.heap.size) (((Blk.new w 97 #[.map (some mb)]).cell 0).trans rfl) (by simp) (h.map.alloc (.cells #[.map (some mb)] 97)) (by omega))
  have hwf := h.wf
  clear h c0 c1 c2 c3 c4 c5 c7
  go_enter Tryz.func34, Tryz.ntmps34
  go_wp2_with fail
  refine HM.out.mono ?_
  rintro e w1 ⟨rfl, hw⟩
  subst w1
  go_wp2_with fail
  refine HK.out.mono ?_
  rintro e w1 ⟨rfl, hw⟩
  subst w1
  go_wp2_with fail
  refine HS.out.mono ?_
  rintro e w2 ⟨v2, ss, rfl, hnd, hS, hrow, hb⟩
  have hperm : ss.Perm (p.items.map (·.page.id)) := (List.perm_ext_iff_of_nodup hnd hwf.ids).2 fun x => by
    rw [hS x]
    unfold Sp.Pl.lk
    rw [Option.isSome_map, List.mem_map]
    constructor
    · intro hx
      obtain ⟨it, hit⟩ := Option.isSome_iff_exists.1 hx
      obtain ⟨h1, h2⟩ := Sp.Pl.find_mem hit
      exact ⟨it, h1, h2⟩
    · rintro ⟨it, hit, rfl⟩
      rw [Sp.Pl.find_of hwf hit]; rfl
  have hl2 : ss.length = p.items.length := by rw [hperm.length_eq, List.length_map]
  rw [Sp.sorted_perm hperm, hl2] at hrow
  go_wp2_with fail
  go_ret
  exact ⟨v2, rfl, row_mono2 hrow (by simp), hb0.trans (hb.mono (by simp))⟩
end Go.Proofs.YtphkggcdfkcidaaGreat

/- A pool of the law pentimentolaw15 whose pages stand as they were laid first: its rows as a plain list of (page, how often pinned). -/
namespace Go.Proofs.YtphkggcdfkcidaaGreat
open Go.RowKit

namespace Sp
/-- the plain list. -/
def Pl.abs (p : Pl) : List (Nat × Nat) := p.items.map fun it => (it.page.id, it.pins)
/-- all pages clean, and as they were laid first. -/
def Pl.fresh (p : Pl) : Prop := ∀ it ∈ p.items, it.dirty = false ∧ it.page = first it.page.id ∧ 1 ≤ it.page.id ∧ it.page.id ≤ 6

def aHas (L : List (Nat × Nat)) (k : Nat) : Bool := L.any fun x => x.1 == k
/-- one more pin: it stands last. -/
def aUp (L : List (Nat × Nat)) (k : Nat) : List (Nat × Nat) := L.filter (fun x => x.1 != k) ++ (L.filter (fun x => x.1 == k)).map fun x => (x.1, x.2 + 1)
/-- the first that is not pinned goes. -/
def aDrop : List (Nat × Nat) → Option (List (Nat × Nat))
  | [] => none
  | x :: L => if x.2 = 0 then some L else (aDrop L).map (x :: ·)
/-- Pin: none: there is no room. -/
def aPin (n : Nat) (L : List (Nat × Nat)) (k : Nat) : Option (List (Nat × Nat)) :=
  if aHas L k then some (aUp L k) else if L.length < n then some (L ++ [(k, 1)]) else (aDrop L).map (· ++ [(k, 1)])
def aUnpin (L : List (Nat × Nat)) (k : Nat) : List (Nat × Nat) := L.map fun x => if x.1 = k then (x.1, x.2 - 1) else x

theorem aHas_iff {p : Pl} {k : Nat} : aHas p.abs k = true ↔ (p.find k).isSome := by
  unfold aHas Pl.abs Pl.find
  rw [List.any_map, List.find?_isSome, List.any_eq_true]
  rfl

theorem abs_last {p : Pl} (k : Nat) : ((p.pinUp k).last k).abs = aUp p.abs k := by
  unfold Pl.last Pl.pinUp Pl.upd Pl.abs aUp
  simp only [List.map_append, List.filter_map, List.map_map]
  congr 1
  · have e : ((fun x : It => x.page.id != k) ∘ fun x => if x.page.id = k then { x with pins := x.pins + 1 } else x) = ((fun x : Nat × Nat => x.1 != k) ∘ fun it : It => (it.page.id, it.pins)) := by
      funext x
      simp only [Function.comp]
      split <;> simp_all
    rw [e]
    apply List.map_congr_left
    intro x hx
    have hne : x.page.id ≠ k := by simpa using (List.mem_filter.1 hx).2
    simp [Function.comp, hne]
  · have e : ((fun x : It => x.page.id == k) ∘ fun x => if x.page.id = k then { x with pins := x.pins + 1 } else x) = ((fun x : Nat × Nat => x.1 == k) ∘ fun it : It => (it.page.id, it.pins)) := by
      funext x
      simp only [Function.comp]
      split <;> simp_all
    rw [e]
    apply List.map_congr_left
    intro x hx
    have he : x.page.id = k := by simpa using (List.mem_filter.1 hx).2
    simp [Function.comp, he]
theorem abs_bring {p : Pl} {x : Pg} {i : Nat} {rest : List Nat} (hn : p.find x.id = none) : ((p.bring x i rest).pinUp x.id).abs = p.abs ++ [(x.id, 1)] := by
  have hn' := Pl.find_none.1 hn
  unfold Pl.bring Pl.pinUp Pl.upd Pl.abs
  simp only [List.map_append, List.map_map, List.map_cons, List.map_nil]
  congr 1
  · apply List.map_congr_left
    intro y hy
    simp [Function.comp, hn' y hy]
theorem abs_unpin {p : Pl} (k : Nat) : (p.upd k fun x => { x with pins := x.pins - 1 }).abs = aUnpin p.abs k := by
  unfold Pl.upd Pl.abs aUnpin
  simp only [List.map_map]
  apply List.map_congr_left
  intro x _
  simp only [Function.comp]
  split <;> rfl
theorem aDrop_split : ∀ (pre : List (Nat × Nat)) (x : Nat × Nat) (post : List (Nat × Nat)), (∀ y ∈ pre, 0 < y.2) → x.2 = 0 → aDrop (pre ++ x :: post) = some (pre ++ post)
  | [], x, post, _, h => by simp [aDrop, h]
  | y :: pre, x, post, hp, h => by
    have hy := hp y (List.mem_cons_self)
    have ih := aDrop_split pre x post (fun z hz => hp z (List.mem_cons_of_mem _ hz)) h
    simp only [List.cons_append, aDrop]
    rw [if_neg (by omega), ih]; rfl
theorem aDrop_none : ∀ (L : List (Nat × Nat)), (∀ y ∈ L, 0 < y.2) → aDrop L = none
  | [], _ => rfl
  | y :: L, h => by
    have hy := h y (List.mem_cons_self)
    simp only [aDrop]
    rw [if_neg (by omega), aDrop_none L (fun z hz => h z (List.mem_cons_of_mem _ hz))]; rfl
theorem abs_drop {p : Pl} (h : p.wf) {pre post : List It} {it : It} (e : p.items = pre ++ it :: post) : (p.drop it.page.id it.idx).abs = (pre ++ post).map fun it => (it.page.id, it.pins) := by
  have hn := h.ids
  rw [e, List.map_append, List.map_cons, List.nodup_append] at hn
  obtain ⟨_, h2, h3⟩ := hn
  rw [List.nodup_cons] at h2
  unfold Pl.drop Pl.abs
  simp only [e, List.filter_append]
  rw [List.filter_cons_of_neg (by simp)]
  congr 2
  · rw [List.filter_eq_self]
    intro y hy
    have := h3 _ (List.mem_map.2 ⟨y, hy, rfl⟩) it.page.id (List.mem_cons_self)
    simpa using this
  · rw [List.filter_eq_self]
    intro y hy
    have : y.page.id ≠ it.page.id := fun e => h2.1 (List.mem_map.2 ⟨y, hy, e⟩)
    simpa using this
end Sp
end Go.Proofs.YtphkggcdfkcidaaGreat

/- A pool of the law pentimentolaw15 in memory, and what its calls do to the plain list. -/
namespace Go.Proofs.YtphkggcdfkcidaaGreat
open Go.RowKit

/-- The blocks of K are kept. -/
structure Kept (K : Foot) (w w' : World) : Prop where
  os : w'.os = w.os
  tape : w'.tape = w.tape
  output : w'.output = w.output
  size : w.heap.size ≤ w'.heap.size
  block : ∀ b, K b → w'.heap[b]? = w.heap[b]?
theorem Kept.refl (K : Foot) (w : World) : Kept K w w := ⟨rfl, rfl, rfl, Nat.le_refl _, fun _ _ => rfl⟩
theorem Kept.trans {K : Foot} {w w' w'' : World} (h : Kept K w w') (h' : Kept K w' w'') : Kept K w w'' :=
  ⟨h'.os.trans h.os, h'.tape.trans h.tape, h'.output.trans h.output, Nat.le_trans h.size h'.size, fun b hb => (h'.block b hb).trans (h.block b hb)⟩
theorem Kept.mono {K K' : Foot} {w w' : World} (h : Kept K w w') (hk : ∀ b, K' b → K b) : Kept K' w w' := ⟨h.os, h.tape, h.output, h.size, fun b hb => h.block b (hk b hb)⟩
theorem Kept.below {K : Foot} {w w' : World} (h : Kept K w w') {B : Nat} (hk : ∀ b, b < B → K b) : Below B w w' := ⟨h.os, h.tape, h.output, h.size, fun b hb => h.block b (hk b hb)⟩
theorem Kept.of_below {K : Foot} {w w' : World} {B : Nat} (h : Below B w w') (hk : ∀ b, K b → b < B) : Kept K w w' := ⟨h.os, h.tape, h.output, h.size, fun b hb => h.block b (hk b hb)⟩
theorem Kept.of_turns {K F F' : Foot} {w w' : World} (h : Turns F F' w w') (hk : ∀ b, K b → b < w.heap.size ∧ ¬ F b) : Kept K w w' := ⟨h.os, h.tape, h.output, h.size, fun b hb => h.block b (hk b hb).1 (hk b hb).2⟩
theorem Blk.kept {K : Foot} {w w' : World} {g : Nat} {t : TypeId} {cs : Array Value} (h : Blk w g t cs) (hk : Kept K w w') (hg : K g) : Blk w' g t cs := (hk.block g hg).trans h

/-- A pool (block gp), its disk (block gd); the blocks of K are none of theirs. -/
def LpAt (K : Foot) (w : World) (gd gl gp n : Nat) (L : List (Nat × Nat)) : Prop :=
  ∃ (p : Sp.Pl) (D F : Foot) (dk : Sp.Dk), IsDk D w gd dk ∧ LawDk dk 7 ∧ IsPl F w gp gd gl 8 44 p ∧ p.n = n ∧ p.fresh ∧ p.abs = L ∧ (∀ b, D b → ¬ F b) ∧ (∀ b, D b ∨ F b → ¬ K b) ∧ (∀ b, K b → b < w.heap.size)

theorem lp_make {K : Foot} {w w' : World} {gd gl gp n : Nat} {p' : Sp.Pl} {D F F' : Foot} {dk : Sp.Dk} (hd : IsDk D w gd dk) (hlk : LawDk dk 7) (hpl : IsPl F' w' gp gd gl 8 44 p') (hn : p'.n = n) (hfr : p'.fresh) (hDF : ∀ b, D b → ¬ F b) (hK : ∀ b, D b ∨ F b → ¬ K b)
    (hb : ∀ b, K b → b < w.heap.size) (ht : Turns F F' w w') : LpAt K w' gd gl gp n p'.abs := by
  have hin := hd.in_
  refine ⟨p', D, F', dk, hd.keep (fun b hD => ht.block b (hin b hD) (hDF b hD)), hlk, hpl, hn, hfr, rfl, fun b hD hF => ?_, fun b h hk => ?_, fun b h => Nat.lt_of_lt_of_le (hb b h) ht.size⟩
  · rcases ht.foot b hF with h | h
    · exact hDF b hD h
    · have := hin b hD; omega
  · rcases h with h | h
    · exact hK b (.inl h) hk
    · rcases ht.foot b h with h | h
      · exact hK b (.inr h) hk
      · have := hb b hk; omega

theorem lp_len {K : Foot} {w : World} {gd gl gp n : Nat} {L : List (Nat × Nat)} (h : LpAt K w gd gl gp n L) : L.length ≤ n ∧ (L.map (·.1)).Nodup ∧ ∀ x ∈ L, 1 ≤ x.1 ∧ x.1 ≤ 6 := by
  obtain ⟨p, D, F, dk, hd, hlk, hpl, rfl, hfr, rfl, hDF, hb0⟩ := h
  have hl := hpl.wf.len
  have hids := hpl.wf.ids
  refine ⟨by simp [Sp.Pl.abs]; omega, ?_, fun x hx => ?_⟩
  · have e1 : p.abs.map (·.1) = p.items.map (·.page.id) := by simp [Sp.Pl.abs, Function.comp]
    rw [e1]; exact hids
  · obtain ⟨it, hit, rfl⟩ := List.mem_map.1 hx
    exact ⟨(hfr it hit).2.2.1, (hfr it hit).2.2.2⟩

/-- The blocks made meanwhile are none of theirs. -/
theorem LpAt.more {K K' : Foot} {w w' : World} {gd gl gp n : Nat} {L : List (Nat × Nat)} (h : LpAt K w gd gl gp n L) (hb : Below w.heap.size w w') (hK : ∀ b, K' b → K b ∨ (w.heap.size ≤ b ∧ b < w'.heap.size)) : LpAt K' w' gd gl gp n L := by
  obtain ⟨p, D, F, dk, hd, hlk, hpl, hn, hfr, hL, hDF, hb0, hKl⟩ := h
  have hin := hd.in_
  have hlt := hpl.lt
  refine ⟨p, D, F, dk, hd.below hb, hlk, hpl.below hb, hn, hfr, hL, hDF, fun b h hk => ?_, fun b hk => ?_⟩
  · rcases hK b hk with h' | h'
    · exact hb0 b h h'
    · rcases h with h | h
      · have := hin b h; omega
      · have := hlt b h; omega
  · rcases hK b hk with h' | h'
    · exact Nat.lt_of_lt_of_le (hKl b h') hb.size
    · exact h'.2
theorem LpAt.below {K : Foot} {w w' : World} {gd gl gp n : Nat} {L : List (Nat × Nat)} (h : LpAt K w gd gl gp n L) (hb : Below w.heap.size w w') : LpAt K w' gd gl gp n L := h.more hb (fun _ h => .inl h)
theorem LpAt.lt {K : Foot} {w : World} {gd gl gp n : Nat} {L : List (Nat × Nat)} (h : LpAt K w gd gl gp n L) : ∀ b, K b → b < w.heap.size := by
  obtain ⟨p, D, F, dk, _, _, _, _, _, _, _, _, h⟩ := h
  exact h

/-- What Pin answers, and leaves. -/
def PinLp (K : Foot) (w : World) (gd gl gp n : Nat) (L : List (Nat × Nat)) (k : Nat) (e : Ending) (w' : World) : Prop :=
  Kept K w w' ∧ ((Sp.aPin n L k = none ∧ e = .returned (.tuple #[zeroPgV, .int .i64 4]) ∧ LpAt K w' gd gl gp n L) ∨
    ∃ L' A c, Sp.aPin n L k = some L' ∧ e = .returned (.tuple #[pgV (Sp.first k) A c, .int .i64 0]) ∧ OkAddr A ∧ RowsAt (fun b => w.heap.size ≤ b) w' A (Sp.first k).rows ∧ LpAt K w' gd gl gp n L')

theorem lp_pin {K : Foot} {w : World} {gd gl gp n : Nat} {L : List (Nat × Nat)} (h : LpAt K w gd gl gp n L) {k : Nat} (h1 : 1 ≤ k) (h6 : k ≤ 6) (hs : ∀ x ∈ L, x.2 < 1000000) :
    Calls Tryz.prog 23 #[ptr gp, u32v k] w (PinLp K w gd gl gp n L k) := by
  obtain ⟨p, D, F, dk, hd, hlk, hpl, rfl, hfr, rfl, hDF, hb0, hKl⟩ := h
  have hwf := hpl.wf
  cases hf : p.find k with
  | some it =>
    obtain ⟨hit, hk⟩ := Sp.Pl.find_mem hf
    have hpg : it.page = Sp.first k := by rw [← hk]; exact (hfr it hit).2.1
    have hsm := hs (it.page.id, it.pins) (List.mem_map.2 ⟨it, hit, rfl⟩)
    have hsm : it.pins < 1000000 := hsm
    refine (pool_pin_in' hpl (by omega) hf (by omega)).mono ?_
    rintro e w' ⟨F', A, c, rfl, hA, hR, h', ht⟩
    rw [hpg] at hR ⊢
    have hfr' : ((p.pinUp k).last k).fresh := fun y hy => by
      have hy' := (Sp.Pl.last_perm (p.pinUp k) k).mem_iff.1 hy
      obtain ⟨x, hx, rfl⟩ := Sp.Pl.upd_mem hy'
      split <;> exact hfr x hx
    refine ⟨Kept.of_turns ht (fun b hk => ⟨hKl b hk, fun hF => hb0 b (.inr hF) hk⟩), .inr ⟨Sp.aUp p.abs k, A, c, ?_, rfl, hA, hR, ?_⟩⟩
    · unfold Sp.aPin
      rw [if_pos (Sp.aHas_iff.2 (by rw [hf]; rfl))]
    · rw [← Sp.abs_last]
      exact lp_make hd hlk h' rfl hfr' hDF hb0 hKl ht
  | none =>
    have hno : Sp.aHas p.abs k = false := by
      cases ha : Sp.aHas p.abs k with
      | false => rfl
      | true => rw [Sp.aHas_iff, hf] at ha; cases ha
    have hlen : p.abs.length = p.items.length := by simp [Sp.Pl.abs]
    have hwl := hwf.len
    refine (pool_pin_out' (x := Sp.first k) hpl (fun it hit => (hfr it hit).1) (Sp.first_ok h1 (by omega)) hf hd (by rw [hlk.fuse]; decide) hlk.loose (by rw [hlk.len]; show 44 + k * 4 + 4 ≤ 72; omega) (hlk.page k h1 (by omega))).mono ?_
    rintro e w' (⟨rfl, hfree, hall, h', ht⟩ | ⟨F', A, c, p', i, rest, rfl, hA, hR, hfree, hnone, h', ht, hp'⟩)
    · refine ⟨Kept.of_turns ht (fun b hk => ⟨hKl b hk, fun hF => hb0 b (.inr hF) hk⟩), .inl ⟨?_, rfl, lp_make hd hlk h' rfl hfr hDF hb0 hKl ht⟩⟩
      unfold Sp.aPin
      rw [hfree, List.length_nil] at hwl
      rw [hno, if_neg (by simp), if_neg (by omega), Sp.aDrop_none _ (fun y hy => by
        obtain ⟨it, hit, rfl⟩ := List.mem_map.1 hy
        exact hall it hit)]
      rfl
    · have hsub : ∀ y ∈ p'.items, y ∈ p.items := by
        rcases hp' with rfl | ⟨_, pre, it, post, _, _, _, rfl⟩
        · exact fun y hy => hy
        · exact fun y hy => (List.mem_filter.1 hy).1
      have hfr' : ((p'.bring (Sp.first k) i rest).pinUp k).fresh := fun y hy => by
        obtain ⟨x, hx, rfl⟩ := Sp.Pl.upd_mem hy
        have hx' : x.dirty = false ∧ x.page = Sp.first x.page.id ∧ 1 ≤ x.page.id ∧ x.page.id ≤ 6 := by
          rcases List.mem_append.1 hx with hx | hx
          · exact hfr x (hsub x hx)
          · rw [List.mem_singleton.1 hx]
            exact ⟨rfl, rfl, h1, h6⟩
        split <;> exact hx'
      have hpn : p'.n = p.n := by
        rcases hp' with rfl | ⟨_, pre, it, post, _, _, _, rfl⟩ <;> rfl
      have habs : Sp.aPin p.n p.abs k = some (p'.abs ++ [(k, 1)]) := by
        unfold Sp.aPin
        rw [hno, if_neg (by simp)]
        rcases hp' with rfl | ⟨hf0, pre, it, post, hsp, hpre, hp0, rfl⟩
        · rw [hfree, List.length_cons] at hwl
          rw [if_pos (by omega)]
        · rw [hf0, List.length_nil] at hwl
          rw [if_neg (by omega), Sp.abs_drop hwf hsp]
          unfold Sp.Pl.abs
          rw [hsp, List.map_append, List.map_cons, Sp.aDrop_split _ _ _ (fun y hy => by
            obtain ⟨z, hz, rfl⟩ := List.mem_map.1 hy
            exact hpre z hz) hp0, List.map_append]
          rfl
      refine ⟨Kept.of_turns ht (fun b hk => ⟨hKl b hk, fun hF => hb0 b (.inr hF) hk⟩), .inr ⟨_, A, c, habs, rfl, hA, hR, ?_⟩⟩
      have ha := Sp.abs_bring (x := Sp.first k) (i := i) (rest := rest) hnone
      have ha' : ((p'.bring (Sp.first k) i rest).pinUp k).abs = p'.abs ++ [(k, 1)] := ha
      rw [← ha']
      exact lp_make hd hlk h' hpn hfr' hDF hb0 hKl ht

theorem lp_unpin {K : Foot} {w : World} {gd gl gp n : Nat} {L : List (Nat × Nat)} (h : LpAt K w gd gl gp n L) {k m : Nat} (hk : k < 4294967296) (hm : (k, m) ∈ L) (h0 : 1 ≤ m) :
    Calls Tryz.prog 24 #[ptr gp, u32v k] w fun e w' => e = .returned (.int .i64 0) ∧ Kept K w w' ∧ LpAt K w' gd gl gp n (Sp.aUnpin L k) := by
  obtain ⟨p, D, F, dk, hd, hlk, hpl, rfl, hfr, rfl, hDF, hb0, hKl⟩ := h
  obtain ⟨it, hit, e⟩ := List.mem_map.1 hm
  injection e with e1 e2
  have hf := Sp.Pl.find_of hpl.wf hit
  rw [e1] at hf
  refine (pool_unpin hpl hk hf (by omega)).mono ?_
  rintro e w' ⟨rfl, h', ht⟩
  refine ⟨rfl, Kept.of_turns ht (fun b hk => ⟨hKl b hk, fun hF => hb0 b (.inr hF) hk⟩), ?_⟩
  rw [← Sp.abs_unpin]
  refine lp_make hd hlk h' rfl (fun y hy => ?_) hDF hb0 hKl ht
  obtain ⟨x, hx, rfl⟩ := Sp.Pl.upd_mem hy
  split <;> exact hfr x hx

theorem lp_pins {K : Foot} {w : World} {gd gl gp n : Nat} {L : List (Nat × Nat)} (h : LpAt K w gd gl gp n L) {k m : Nat} (hk : k < 4294967296) (hm : (k, m) ∈ L) :
    Calls Tryz.prog 17 #[ptr gp, u32v k] w fun e w' => e = .returned (.int .i64 m) ∧ w' = w := by
  obtain ⟨p, D, F, dk, hd, hlk, hpl, rfl, hfr, rfl, hDF, hb0, hKl⟩ := h
  obtain ⟨it, hit, e⟩ := List.mem_map.1 hm
  injection e with e1 e2
  have hf := Sp.Pl.find_of hpl.wf hit
  rw [e1] at hf
  rw [← e2]
  exact pool_pins_in hpl hk hf

theorem lp_pages {K : Foot} {w : World} {gd gl gp n : Nat} {L : List (Nat × Nat)} (h : LpAt K w gd gl gp n L) (h12 : n ≤ 12) :
    Calls Tryz.prog 34 #[ptr gp] w fun e w' => ∃ v, e = .returned v ∧ w'.ownsRow w.heap.size 23 1 v L.length ((Sp.sorted (L.map (·.1))).map u32v) ∧ Below w.heap.size w w' ∧ LpAt K w' gd gl gp n L := by
  have h' := h
  obtain ⟨p, D, F, dk, hd, hlk, hpl, rfl, hfr, rfl, hDF, hb0, hKl⟩ := h
  refine (pool_pages hpl h12).mono ?_
  rintro e w' ⟨v, rfl, hrow, hb⟩
  have e1 : p.abs.map (·.1) = p.items.map (·.page.id) := by simp [Sp.Pl.abs, Function.comp]
  have e2 : p.abs.length = p.items.length := by simp [Sp.Pl.abs]
  rw [e1, e2]
  exact ⟨v, rfl, hrow, hb, h'.below hb⟩

/-- A pool that has begun. -/
theorem begun_lp {w w' : World} {n : Nat} {e : Ending} (h : BegunPost w n e w') :
    ∃ gP gr gd gl gp, e = .returned (ptr gP) ∧ Blk w' gP 46 #[ptr gd, ptr gl, ptr gp, ptr gr] ∧ Below w.heap.size w w' ∧ LpAt (fun b => b < w.heap.size ∨ b = gP) w' gd gl gp n [] := by
  obtain ⟨gP, gr, gd, gl, gp, v, xs, D, F, dk, rfl, hP, _, _, _, hd, hlk, hpl, hDF, hb0, hb⟩ := h
  have hs := hb.size
  have hg := hP.lt
  refine ⟨gP, gr, gd, gl, gp, rfl, hP, hb, _, D, F, dk, hd, hlk, hpl, rfl, fun it h => by simp at h, rfl, hDF, fun b h hk => ?_, fun b hk => ?_⟩
  · obtain ⟨h1, h2, _⟩ := hb0 b h
    rcases hk with hk | hk <;> omega
  · rcases hk with hk | hk <;> omega
end Go.Proofs.YtphkggcdfkcidaaGreat
