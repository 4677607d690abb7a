/- The walks of package row: num and text of a reading. -/
import Derived.Test.YtafopojibpifoaaGreatMAG
import Derived.Test.YtafopojibpifoaaGreatMAC

namespace Go.Proofs.YtafopojibpifoaaGreat
open Go.RowKit

theorem rd_cells {W : World} {g a : Nat} {l : Sp.Bs} {t : TypeId} {v : Value} (h : Blk W g t #[str l, .int .i64 a, v]) : W.cell? ⟨g, 0, none⟩ = some (str l) ∧ W.cell? ⟨g, 1, none⟩ = some (.int .i64 a) := ⟨h.cell 0, h.cell 1⟩
theorem word_cutB (l : Sp.Bs) (a n : Nat) (w : World) (h : a + n ≤ l.length) (hl : l.length ≤ 1000000000) :
    Calls Tryz.prog 72 #[str l, .int .i64 a, .int .i64 n] w fun e w' => e = .returned (.tuple #[str ((l.drop a).take n), .bool true]) ∧ Below w.heap.size w w' := by
  refine (word_cut l a n w h hl).mono ?_
  rintro e w' ⟨rfl, rfl⟩
  exact ⟨rfl, Below.refl _ _⟩

set_option maxRecDepth 100000 in
set_option maxHeartbeats 2000000 in
theorem rd_num (l : Sp.Bs) (g a n : Nat) (w : World) (h : a + n ≤ l.length) (h1 : 1 ≤ n) (h8 : n ≤ 8) (hl : l.length ≤ 1000000000) (hB : Blk w g 117 #[str l, .int .i64 a, .bool true]) :
    Calls Tryz.prog 47 #[ptr g, .int .i64 n] w fun e w' => e = .returned (.int .u64 (Sp.num ((l.drop a).take n))) ∧ Blk w' g 117 #[str l, .int .i64 (a + n : Nat), .bool true] ∧ Turns (only g) (only g) w w' := by
  have HB := Lib.hid hB
  clear hB
  go_enter Tryz.func47, Tryz.ntmps47
  go_wp2_with fail
  have hS0 : Hid (w.drew.cell? ⟨g, 0, none⟩ = some (str l) ∧ w.drew.cell? ⟨g, 1, none⟩ = some (.int .i64 a)) := Lib.hid ⟨HB.out.cell 0, HB.out.cell 1⟩
  refine R_begin (fun W => W.cell? ⟨g, 0, none⟩ = some (str l) ∧ W.cell? ⟨g, 1, none⟩ = some (.int .i64 a)) (fun _ => false) rfl ?_
  refine R_take 0 8 (v := ?_) rfl rfl (by rfl) (by kernel_rfl) (fun _ _ _ h => h) hS0.out ?_ ?_
  rotate_left
  · intro w hSw; (try dsimp only at hSw); go_simp; (try with_reducible rfl)
  simp only [List.setIfInBounds_toArray, List.set_cons_zero, List.set_cons_succ]
  refine R_take 1 9 (v := ?_) rfl rfl (by rfl) (by kernel_rfl) (fun _ _ _ h => h) hS0.out ?_ ?_
  rotate_left
  · intro w hSw; (try dsimp only at hSw); go_simp; (try with_reducible rfl)
  simp only [List.setIfInBounds_toArray, List.set_cons_zero, List.set_cons_succ]
  refine R_take 2 10 (v := ?_) rfl rfl (by rfl) (by kernel_rfl) (fun _ _ _ h => h) hS0.out ?_ ?_
  rotate_left
  · intro w hSw; (try dsimp only at hSw); go_simp; (try with_reducible rfl)
  simp only [List.setIfInBounds_toArray, List.set_cons_zero, List.set_cons_succ]
  refine R_take 3 11 (v := ?_) rfl rfl (by rfl) (by kernel_rfl) (fun _ _ _ h => h) hS0.out ?_ ?_
  rotate_left
  · intro w hSw; (try dsimp only at hSw); go_simp; (try with_reducible rfl)
  simp only [List.setIfInBounds_toArray, List.set_cons_zero, List.set_cons_succ]
  refine R_take 4 12 (v := ?_) rfl rfl (by rfl) (by kernel_rfl) (fun _ _ _ h => h) hS0.out ?_ ?_
  rotate_left
  · intro w hSw; (try dsimp only at hSw); go_simp; (try with_reducible rfl)
  simp only [List.setIfInBounds_toArray, List.set_cons_zero, List.set_cons_succ]
  refine R_take 5 13 (v := ?_) rfl rfl (by rfl) (by kernel_rfl) (fun _ _ _ h => h) hS0.out ?_ ?_
  rotate_left
  · intro w hSw; (try dsimp only at hSw); go_simp; (try with_reducible rfl)
  simp only [List.setIfInBounds_toArray, List.set_cons_zero, List.set_cons_succ]
  refine R_take 6 14 (v := ?_) rfl rfl (by rfl) (by kernel_rfl) (fun _ _ _ h => h) hS0.out ?_ ?_
  rotate_left
  · intro w hSw; (try dsimp only at hSw); go_simp; (try with_reducible rfl)
  simp only [List.setIfInBounds_toArray, List.set_cons_zero, List.set_cons_succ]
  refine R_take 7 15 (v := ?_) rfl rfl (by rfl) (by kernel_rfl) (fun _ _ _ h => h) hS0.out ?_ ?_
  rotate_left
  · intro w hSw; (try dsimp only at hSw); go_simp; (try with_reducible rfl)
  simp only [List.setIfInBounds_toArray, List.set_cons_zero, List.set_cons_succ]
  refine R_take 8 16 (v := ?_) rfl rfl (by rfl) (by kernel_rfl) (fun _ _ _ h => h) hS0.out ?_ ?_
  rotate_left
  · intro w hSw; (try dsimp only at hSw); go_simp; (try with_reducible rfl)
  simp only [List.setIfInBounds_toArray, List.set_cons_zero, List.set_cons_succ]
  refine R_take 9 17 (v := ?_) rfl rfl (by rfl) (by kernel_rfl) (fun _ _ _ h => h) hS0.out ?_ ?_
  rotate_left
  · intro w hSw; (try dsimp only at hSw); go_simp; (try with_reducible rfl)
  simp only [List.setIfInBounds_toArray, List.set_cons_zero, List.set_cons_succ]
  refine R_take 10 18 (v := ?_) rfl rfl (by rfl) (by kernel_rfl) (fun _ _ _ h => h) hS0.out ?_ ?_
  rotate_left
  · intro w hSw; (try dsimp only at hSw); go_simp; (try with_reducible rfl)
  simp only [List.setIfInBounds_toArray, List.set_cons_zero, List.set_cons_succ]
  refine R_call 11 19 (w' := w.drew) rfl rfl (by rfl) (by kernel_rfl) ?_ (word_get l a n w.drew h h1 h8 hl) ?_
  · go_simp
  rintro e v1 ⟨rfl, hbv1⟩
  have hBv1 : Below w.heap.size w v1 := ⟨hbv1.os, hbv1.tape, hbv1.output, hbv1.size, hbv1.block⟩
  have hsv1 := rd_cells (HB.out.below hBv1 HB.out.lt)
  refine ⟨_, rfl, fun _ => hsv1, ?_⟩
  simp only [List.setIfInBounds_toArray, List.set_cons_zero, List.set_cons_succ]
  have hS1 := Lib.hid hsv1
  clear hsv1 hbv1
  refine R_take 12 7 (v := ?_) rfl rfl (by rfl) (by kernel_rfl) (fun _ _ _ h => h) hS1.out ?_ ?_
  rotate_left
  · intro w hSw; (try dsimp only at hSw); go_simp; (try with_reducible rfl)
  simp only [List.setIfInBounds_toArray, List.set_cons_zero, List.set_cons_succ]
  refine R_take 13 20 (v := ?_) rfl rfl (by rfl) (by kernel_rfl) (fun _ _ _ h => h) hS1.out ?_ ?_
  rotate_left
  · intro w hSw; (try dsimp only at hSw); go_simp; (try with_reducible rfl)
  simp only [List.setIfInBounds_toArray, List.set_cons_zero, List.set_cons_succ]
  refine R_take 14 21 (v := ?_) rfl rfl (by rfl) (by kernel_rfl) (fun _ _ _ h => h) hS1.out ?_ ?_
  rotate_left
  · intro w hSw; (try dsimp only at hSw); go_simp; (try with_reducible rfl)
  simp only [List.setIfInBounds_toArray, List.set_cons_zero, List.set_cons_succ]
  refine R_take 15 5 (v := ?_) rfl rfl (by rfl) (by kernel_rfl) (fun _ _ _ h => h) hS1.out ?_ ?_
  rotate_left
  · intro w hSw; (try dsimp only at hSw); go_simp; (try with_reducible rfl)
  simp only [List.setIfInBounds_toArray, List.set_cons_zero, List.set_cons_succ]
  refine R_take 16 6 (v := ?_) rfl rfl (by rfl) (by kernel_rfl) (fun _ _ _ h => h) hS1.out ?_ ?_
  rotate_left
  · intro w hSw; (try dsimp only at hSw); go_simp; (try with_reducible rfl)
  simp only [List.setIfInBounds_toArray, List.set_cons_zero, List.set_cons_succ]
  refine R_done (by kernel_rfl) ?_ _
  rename_i K9 hK9
  refine hK9 _ _ ?_
  clear hK9
  have HB1 := Lib.hid (HB.out.below hBv1 HB.out.lt)
  have ht1 : Turns (only g) (only g) w v1 := Turns.of_below hBv1 _
  have p1 := HB1.out.cell 1
  have p2 := HB1.out.cell 2
  have f1 := HB1.out.frozen 1
  have f2 := HB1.out.frozen 2
  simp only [List.getElem?_toArray, List.getElem?_cons_succ, List.getElem?_cons_zero] at p1 p2
  have H2 := Lib.hid ((HB1.out.set_ 1 (.int .i64 (a + n : Nat))).set_ 2 (.bool true))
  have ht2 := (ht1.setCell (p := ⟨g, 1, none⟩) (.inl rfl) (.int .i64 (a + n : Nat))).setCell (p := ⟨g, 2, none⟩) (.inl rfl) (.bool true)
  have hr : Hid (Blk ((v1.setCell ⟨g, 1, none⟩ (.int .i64 ((a : Int) + n))).setCell ⟨g, 2, none⟩ (.bool true)) g 117 #[str l, .int .i64 (a + n : Nat), .bool true] ∧ Turns (only g) (only g) w ((v1.setCell ⟨g, 1, none⟩ (.int .i64 ((a : Int) + n))).setCell ⟨g, 2, none⟩ (.bool true))) := Lib.hid ⟨H2.out, ht2⟩
  clear hS0 hS1 hBv1 ht1 H2 HB HB1 ht2
  go_wp2_with fail
  go_ret
  exact ⟨rfl, hr.out.1, hr.out.2⟩

set_option maxRecDepth 100000 in
set_option maxHeartbeats 2000000 in
theorem rd_text (l : Sp.Bs) (g a n : Nat) (w : World) (h : a + n ≤ l.length) (hl : l.length ≤ 1000000000) (hB : Blk w g 117 #[str l, .int .i64 a, .bool true]) :
    Calls Tryz.prog 52 #[ptr g, .int .i64 n] w fun e w' => e = .returned (str ((l.drop a).take n)) ∧ Blk w' g 117 #[str l, .int .i64 (a + n : Nat), .bool true] ∧ Turns (only g) (only g) w w' := by
  have HB := Lib.hid hB
  clear hB
  go_enter Tryz.func52, Tryz.ntmps52
  go_wp2_with fail
  have hS0 : Hid (w.drew.cell? ⟨g, 0, none⟩ = some (str l) ∧ w.drew.cell? ⟨g, 1, none⟩ = some (.int .i64 a)) := Lib.hid ⟨HB.out.cell 0, HB.out.cell 1⟩
  refine R_begin (fun W => W.cell? ⟨g, 0, none⟩ = some (str l) ∧ W.cell? ⟨g, 1, none⟩ = some (.int .i64 a)) (fun _ => false) rfl ?_
  refine R_take 0 8 (v := ?_) rfl rfl (by rfl) (by kernel_rfl) (fun _ _ _ h => h) hS0.out ?_ ?_
  rotate_left
  · intro w hSw; (try dsimp only at hSw); go_simp; (try with_reducible rfl)
  simp only [List.setIfInBounds_toArray, List.set_cons_zero, List.set_cons_succ]
  refine R_take 1 9 (v := ?_) rfl rfl (by rfl) (by kernel_rfl) (fun _ _ _ h => h) hS0.out ?_ ?_
  rotate_left
  · intro w hSw; (try dsimp only at hSw); go_simp; (try with_reducible rfl)
  simp only [List.setIfInBounds_toArray, List.set_cons_zero, List.set_cons_succ]
  refine R_take 2 10 (v := ?_) rfl rfl (by rfl) (by kernel_rfl) (fun _ _ _ h => h) hS0.out ?_ ?_
  rotate_left
  · intro w hSw; (try dsimp only at hSw); go_simp; (try with_reducible rfl)
  simp only [List.setIfInBounds_toArray, List.set_cons_zero, List.set_cons_succ]
  refine R_take 3 11 (v := ?_) rfl rfl (by rfl) (by kernel_rfl) (fun _ _ _ h => h) hS0.out ?_ ?_
  rotate_left
  · intro w hSw; (try dsimp only at hSw); go_simp; (try with_reducible rfl)
  simp only [List.setIfInBounds_toArray, List.set_cons_zero, List.set_cons_succ]
  refine R_take 4 12 (v := ?_) rfl rfl (by rfl) (by kernel_rfl) (fun _ _ _ h => h) hS0.out ?_ ?_
  rotate_left
  · intro w hSw; (try dsimp only at hSw); go_simp; (try with_reducible rfl)
  simp only [List.setIfInBounds_toArray, List.set_cons_zero, List.set_cons_succ]
  refine R_take 5 13 (v := ?_) rfl rfl (by rfl) (by kernel_rfl) (fun _ _ _ h => h) hS0.out ?_ ?_
  rotate_left
  · intro w hSw; (try dsimp only at hSw); go_simp; (try with_reducible rfl)
  simp only [List.setIfInBounds_toArray, List.set_cons_zero, List.set_cons_succ]
  refine R_take 6 14 (v := ?_) rfl rfl (by rfl) (by kernel_rfl) (fun _ _ _ h => h) hS0.out ?_ ?_
  rotate_left
  · intro w hSw; (try dsimp only at hSw); go_simp; (try with_reducible rfl)
  simp only [List.setIfInBounds_toArray, List.set_cons_zero, List.set_cons_succ]
  refine R_take 7 15 (v := ?_) rfl rfl (by rfl) (by kernel_rfl) (fun _ _ _ h => h) hS0.out ?_ ?_
  rotate_left
  · intro w hSw; (try dsimp only at hSw); go_simp; (try with_reducible rfl)
  simp only [List.setIfInBounds_toArray, List.set_cons_zero, List.set_cons_succ]
  refine R_take 8 16 (v := ?_) rfl rfl (by rfl) (by kernel_rfl) (fun _ _ _ h => h) hS0.out ?_ ?_
  rotate_left
  · intro w hSw; (try dsimp only at hSw); go_simp; (try with_reducible rfl)
  simp only [List.setIfInBounds_toArray, List.set_cons_zero, List.set_cons_succ]
  refine R_take 9 17 (v := ?_) rfl rfl (by rfl) (by kernel_rfl) (fun _ _ _ h => h) hS0.out ?_ ?_
  rotate_left
  · intro w hSw; (try dsimp only at hSw); go_simp; (try with_reducible rfl)
  simp only [List.setIfInBounds_toArray, List.set_cons_zero, List.set_cons_succ]
  refine R_take 10 18 (v := ?_) rfl rfl (by rfl) (by kernel_rfl) (fun _ _ _ h => h) hS0.out ?_ ?_
  rotate_left
  · intro w hSw; (try dsimp only at hSw); go_simp; (try with_reducible rfl)
  simp only [List.setIfInBounds_toArray, List.set_cons_zero, List.set_cons_succ]
  refine R_call 11 19 (w' := w.drew) rfl rfl (by rfl) (by kernel_rfl) ?_ (word_cutB l a n w.drew h hl) ?_
  · go_simp
  rintro e v1 ⟨rfl, hbv1⟩
  have hBv1 : Below w.heap.size w v1 := ⟨hbv1.os, hbv1.tape, hbv1.output, hbv1.size, hbv1.block⟩
  have hsv1 := rd_cells (HB.out.below hBv1 HB.out.lt)
  refine ⟨_, rfl, fun _ => hsv1, ?_⟩
  simp only [List.setIfInBounds_toArray, List.set_cons_zero, List.set_cons_succ]
  have hS1 := Lib.hid hsv1
  clear hsv1 hbv1
  refine R_take 12 7 (v := ?_) rfl rfl (by rfl) (by kernel_rfl) (fun _ _ _ h => h) hS1.out ?_ ?_
  rotate_left
  · intro w hSw; (try dsimp only at hSw); go_simp; (try with_reducible rfl)
  simp only [List.setIfInBounds_toArray, List.set_cons_zero, List.set_cons_succ]
  refine R_take 13 20 (v := ?_) rfl rfl (by rfl) (by kernel_rfl) (fun _ _ _ h => h) hS1.out ?_ ?_
  rotate_left
  · intro w hSw; (try dsimp only at hSw); go_simp; (try with_reducible rfl)
  simp only [List.setIfInBounds_toArray, List.set_cons_zero, List.set_cons_succ]
  refine R_take 14 21 (v := ?_) rfl rfl (by rfl) (by kernel_rfl) (fun _ _ _ h => h) hS1.out ?_ ?_
  rotate_left
  · intro w hSw; (try dsimp only at hSw); go_simp; (try with_reducible rfl)
  simp only [List.setIfInBounds_toArray, List.set_cons_zero, List.set_cons_succ]
  refine R_take 15 5 (v := ?_) rfl rfl (by rfl) (by kernel_rfl) (fun _ _ _ h => h) hS1.out ?_ ?_
  rotate_left
  · intro w hSw; (try dsimp only at hSw); go_simp; (try with_reducible rfl)
  simp only [List.setIfInBounds_toArray, List.set_cons_zero, List.set_cons_succ]
  refine R_take 16 6 (v := ?_) rfl rfl (by rfl) (by kernel_rfl) (fun _ _ _ h => h) hS1.out ?_ ?_
  rotate_left
  · intro w hSw; (try dsimp only at hSw); go_simp; (try with_reducible rfl)
  simp only [List.setIfInBounds_toArray, List.set_cons_zero, List.set_cons_succ]
  refine R_done (by kernel_rfl) ?_ _
  rename_i K9 hK9
  refine hK9 _ _ ?_
  clear hK9
  have HB1 := Lib.hid (HB.out.below hBv1 HB.out.lt)
  have ht1 : Turns (only g) (only g) w v1 := Turns.of_below hBv1 _
  have p1 := HB1.out.cell 1
  have p2 := HB1.out.cell 2
  have f1 := HB1.out.frozen 1
  have f2 := HB1.out.frozen 2
  simp only [List.getElem?_toArray, List.getElem?_cons_succ, List.getElem?_cons_zero] at p1 p2
  have H2 := Lib.hid ((HB1.out.set_ 1 (.int .i64 (a + n : Nat))).set_ 2 (.bool true))
  have ht2 := (ht1.setCell (p := ⟨g, 1, none⟩) (.inl rfl) (.int .i64 (a + n : Nat))).setCell (p := ⟨g, 2, none⟩) (.inl rfl) (.bool true)
  have hr : Hid (Blk ((v1.setCell ⟨g, 1, none⟩ (.int .i64 ((a : Int) + n))).setCell ⟨g, 2, none⟩ (.bool true)) g 117 #[str l, .int .i64 (a + n : Nat), .bool true] ∧ Turns (only g) (only g) w ((v1.setCell ⟨g, 1, none⟩ (.int .i64 ((a : Int) + n))).setCell ⟨g, 2, none⟩ (.bool true))) := Lib.hid ⟨H2.out, ht2⟩
  clear hS0 hS1 hBv1 ht1 H2 HB HB1 ht2
  go_wp2_with fail
  go_ret
  exact ⟨rfl, hr.out.1, hr.out.2⟩
end Go.Proofs.YtafopojibpifoaaGreat

/- The walks of package row: a piece of a reading. -/
namespace Go.Proofs.YtafopojibpifoaaGreat
open Go.RowKit

set_option maxRecDepth 100000 in
set_option maxHeartbeats 2000000 in
theorem rd_piece (l : Sp.Bs) (gb g a m : Nat) (w : World) (hm : Sp.num ((l.drop a).take 1) = m) (h : a + 1 + m ≤ l.length) (hl : l.length ≤ 1000000000) (hne : gb ≠ g) (hX : Blk w gb 113 #[ptr g]) (hG : Blk w g 117 #[str l, .int .i64 a, .bool true]) :
    Calls Tryz.prog 51 #[ptr gb] w fun e w' => e = .returned (str ((l.drop (a + 1)).take m)) ∧ Blk w' g 117 #[str l, .int .i64 (a + 1 + m : Nat), .bool true] ∧ Turns (only g) (only g) w w' := by
  have HBX := Lib.hid hX
  have HG := Lib.hid hG
  have HM := Lib.hid hm
  have wr : IntKind.i64.wrap (m : Int) = m := by rw [IntKind.wrap_i64]; omega
  clear hX hG hm
  go_enter Tryz.func51, Tryz.ntmps51
  go_wp2_with fail
  have hS0 := Lib.hid (HBX.out.drew.cell 0)
  refine R_begin (fun W => W.cell? ⟨gb, 0, none⟩ = some (ptr g)) (fun _ => false) rfl ?_
  refine R_take 0 2 (v := ?_) rfl rfl (by rfl) (by kernel_rfl) (fun _ _ _ h => h) hS0.out ?_ ?_
  rotate_left
  · intro w hSw; (try dsimp only at hSw); go_simp; (try with_reducible rfl)
  simp only [List.setIfInBounds_toArray, List.set_cons_zero, List.set_cons_succ]
  refine R_take 1 3 (v := ?_) rfl rfl (by rfl) (by kernel_rfl) (fun _ _ _ h => h) hS0.out ?_ ?_
  rotate_left
  · intro w hSw; (try dsimp only at hSw); go_simp; (try with_reducible rfl)
  simp only [List.setIfInBounds_toArray, List.set_cons_zero, List.set_cons_succ]
  refine R_call 2 4 (w' := w.drew) rfl rfl (by rfl) (by kernel_rfl) ?_ (rd_num l g a 1 w.drew (by omega) (by omega) (by omega) hl HG.out.drew) ?_
  · go_simp
  rintro e v1 ⟨rfl, hg1, ht1⟩
  have HG1 := Lib.hid hg1
  have HBX1 := Lib.hid (HBX.out.drew.turns ht1 (fun e => hne e))
  have hT1 : Turns (only g) (only g) w v1 := ⟨ht1.os, ht1.tape, ht1.output, ht1.size, ht1.block, ht1.foot⟩
  have hS1 := Lib.hid (HBX1.out.cell 0)
  rw [HM.out]
  refine ⟨_, rfl, fun _ => hS1.out, ?_⟩
  simp only [List.setIfInBounds_toArray, List.set_cons_zero, List.set_cons_succ]
  clear hS0 hg1 ht1 HG HBX
  refine R_take 3 5 (v := ?_) rfl rfl (by rfl) (by kernel_rfl) (fun _ _ _ h => h) hS1.out ?_ ?_
  rotate_left
  · intro w hSw; (try dsimp only at hSw); go_simp; (try with_reducible rfl)
  simp only [List.setIfInBounds_toArray, List.set_cons_zero, List.set_cons_succ]
  refine R_call 4 6 (w' := v1) rfl rfl (by rfl) (by kernel_rfl) ?_ (rd_text l g (a + 1) m v1 (by omega) hl HG1.out) ?_
  · go_simp
  rintro e v2 ⟨rfl, hg2, ht2⟩
  have hT2 := hT1.trans ht2
  have hS2 := Lib.hid ((HBX1.out.turns ht2 (fun e => hne e)).cell 0)
  have HG2 := Lib.hid hg2
  refine ⟨_, rfl, fun _ => hS2.out, ?_⟩
  simp only [List.setIfInBounds_toArray, List.set_cons_zero, List.set_cons_succ]
  clear hS1 hg2 ht2 hT1
  refine R_take 5 1 (v := ?_) rfl rfl (by rfl) (by kernel_rfl) (fun _ _ _ h => h) hS2.out ?_ ?_
  rotate_left
  · intro w hSw; (try dsimp only at hSw); go_simp; (try with_reducible rfl)
  simp only [List.setIfInBounds_toArray, List.set_cons_zero, List.set_cons_succ]
  refine R_done (by kernel_rfl) ?_ _
  rename_i K9 hK9
  refine hK9 _ _ ?_
  clear hK9
  go_wp2_with fail
  go_ret
  exact ⟨rfl, HG2.out, hT2⟩
end Go.Proofs.YtafopojibpifoaaGreat

/- The walks of rows as bytes: package row's Encode, at any pad (strings.Repeat's contract is handed in). -/
namespace Go.Proofs.YtafopojibpifoaaGreat
open Go.RowKit

/-- What strings.Repeat makes of one zero byte. -/
def RepZ : Prop := ∀ (n : Nat), n ≤ 96 → ∀ w : World, Calls Tryz.prog 74 #[str [0], .int .i64 n] w fun e w' => e = .returned (str (Sp.zeros n)) ∧ Below w.heap.size w w'
theorem rw_cells1 {r : Sp.Rw} {g : Nat} {t : TypeId} {W : World} (h : Blk W g t (rwCs r).toArray) :
    W.cell? ⟨g, 0, none⟩ = some (str r.key) ∧ W.cell? ⟨g, 2, none⟩ = some (.int .u64 r.tx) ∧ W.cell? ⟨g, 3, none⟩ = some (.int .u32 r.page) ∧ W.cell? ⟨g, 4, none⟩ = some (.int .u16 r.slot) ∧ W.cell? ⟨g, 5, none⟩ = some (str r.value) ∧ W.cell? ⟨g, 6, none⟩ = some (.int .i64 r.pad) :=
  ⟨h.cell 0, h.cell 2, h.cell 3, h.cell 4, h.cell 5, h.cell 6⟩

set_option maxRecDepth 100000 in
set_option maxHeartbeats 4000000 in
theorem row_encodeP (HR : RepZ) (r : Sp.Rw) (h : r.may) (hwf : r.wf) (w : World) : Calls Tryz.prog 53 #[rwV r] w fun e w' => e = .returned (.tuple #[str r.bytes, .int .i64 0]) ∧ Below w.heap.size w w' := by
  have HM := Lib.hid fun (W : World) => row_may r h W
  obtain ⟨h1, h2, h3, h4, h5⟩ := h
  have hkl : r.key.length < 256 := by omega
  have hvl : r.value.length < 256 := by omega
  have hsl := hwf.2
  have htx := hwf.1
  have cc1 : ¬ 9223372036854775807 < 16 + r.key.length := by omega
  have cc2 : ¬ 9223372036854775807 < 16 + r.key.length + 1 := by omega
  have cc3 : ¬ 9223372036854775807 < 16 + r.key.length + 1 + r.value.length := by omega
  have wr1 : IntKind.u64.wrap (r.page : Int) = r.page := by rw [IntKind.wrap_u64]; omega
  have wr2 : IntKind.u64.wrap (r.slot : Int) = r.slot := by rw [IntKind.wrap_u64]; omega
  have wr3 : IntKind.u64.wrap (r.key.length : Int) = r.key.length := by rw [IntKind.wrap_u64]; omega
  have wr4 : IntKind.u64.wrap (r.value.length : Int) = r.value.length := by rw [IntKind.wrap_u64]; omega
  have HP0 := Lib.hid (show r.pad ≤ 96 by omega)
  have HRP := Lib.hid HR
  have cc4 : ¬ 9223372036854775807 < 16 + r.key.length + 1 + r.value.length + (Sp.zeros r.pad).length := by rw [Sp.zeros_length]; omega
  clear HR
  go_enter Tryz.func53, Tryz.ntmps53
  go_wp2_with fail
  refine (HM.out _).mono ?_
  rintro e w1 ⟨rfl, hb1⟩
  have hB0 := (Blk.new w 43 (rwCs r).toArray)
  have hB1 := hB0.below hb1 hB0.lt
  have hb0 : Below w.heap.size w w1 := ((Below.refl w.heap.size w).alloc (Nat.le_refl _) (.cells (rwCs r).toArray 43)).trans (hb1.mono (by simp))
  obtain ⟨g, hg⟩ : ∃ g, g = w.heap.size := ⟨_, rfl⟩
  rw [← hg] at hB1 ⊢
  have HB := Lib.hid hB1
  have m0 := hB1.cell 1
  simp only [List.getElem?_toArray, List.getElem?_cons_succ, List.getElem?_cons_zero] at m0
  clear hg hB0 hB1 HM hb1
  cases hm : r.mark with
  | false =>
    rw [hm] at m0
    have HMN : Hid (r.markN = 0) := Lib.hid (by unfold Sp.Rw.markN; rw [hm]; rfl)
    clear hm
    go_wp2_with fail
    have hS0 := Lib.hid (rw_cells1 HB.out.drew)
    clear m0
    refine R_begin (fun W => W.cell? ⟨g, 0, none⟩ = some (str r.key) ∧ W.cell? ⟨g, 2, none⟩ = some (.int .u64 r.tx) ∧ W.cell? ⟨g, 3, none⟩ = some (.int .u32 r.page) ∧ W.cell? ⟨g, 4, none⟩ = some (.int .u16 r.slot) ∧ W.cell? ⟨g, 5, none⟩ = some (str r.value) ∧ W.cell? ⟨g, 6, none⟩ = some (.int .i64 r.pad)) (fun _ => false) rfl ?_
    refine R_take 0 10 (v := ?_) rfl rfl (by rfl) (by kernel_rfl) (fun _ _ _ h => h) hS0.out ?_ ?_
    rotate_left
    · intro w hSw; (try dsimp only at hSw); go_simp; (try with_reducible rfl)
    simp only [List.setIfInBounds_toArray, List.set_cons_zero, List.set_cons_succ]
    refine R_take 1 11 (v := ?_) rfl rfl (by rfl) (by kernel_rfl) (fun _ _ _ h => h) hS0.out ?_ ?_
    rotate_left
    · intro w hSw; (try dsimp only at hSw); go_simp; (try with_reducible rfl)
    simp only [List.setIfInBounds_toArray, List.set_cons_zero, List.set_cons_succ]
    refine R_take 2 12 (v := ?_) rfl rfl (by rfl) (by kernel_rfl) (fun _ _ _ h => h) hS0.out ?_ ?_
    rotate_left
    · intro w hSw; (try dsimp only at hSw); go_simp; (try with_reducible rfl)
    simp only [List.setIfInBounds_toArray, List.set_cons_zero, List.set_cons_succ]
    refine R_take 5 15 (v := ?_) rfl rfl (by rfl) (by kernel_rfl) (fun _ _ _ h => h) hS0.out ?_ ?_
    rotate_left
    · intro w hSw; (try dsimp only at hSw); go_simp; (try with_reducible rfl)
    simp only [List.setIfInBounds_toArray, List.set_cons_zero, List.set_cons_succ]
    refine R_take 6 16 (v := ?_) rfl rfl (by rfl) (by kernel_rfl) (fun _ _ _ h => h) hS0.out ?_ ?_
    rotate_left
    · intro w hSw; (try dsimp only at hSw); go_simp; (try with_reducible rfl)
    simp only [List.setIfInBounds_toArray, List.set_cons_zero, List.set_cons_succ]
    refine R_take 7 17 (v := ?_) rfl rfl (by rfl) (by kernel_rfl) (fun _ _ _ h => h) hS0.out ?_ ?_
    rotate_left
    · intro w hSw; (try dsimp only at hSw); go_simp; (try with_reducible rfl)
    simp only [List.setIfInBounds_toArray, List.set_cons_zero, List.set_cons_succ]
    refine R_take 8 18 (v := ?_) rfl rfl (by rfl) (by kernel_rfl) (fun _ _ _ h => h) hS0.out ?_ ?_
    rotate_left
    · intro w hSw; (try dsimp only at hSw); go_simp; (try with_reducible rfl)
    simp only [List.setIfInBounds_toArray, List.set_cons_zero, List.set_cons_succ]
    refine R_take 11 21 (v := ?_) rfl rfl (by rfl) (by kernel_rfl) (fun _ _ _ h => h) hS0.out ?_ ?_
    rotate_left
    · intro w hSw; (try dsimp only at hSw); go_simp; (try with_reducible rfl)
    simp only [List.setIfInBounds_toArray, List.set_cons_zero, List.set_cons_succ]
    refine R_take 12 22 (v := ?_) rfl rfl (by rfl) (by kernel_rfl) (fun _ _ _ h => h) hS0.out ?_ ?_
    rotate_left
    · intro w hSw; (try dsimp only at hSw); go_simp; (try with_reducible rfl)
    simp only [List.setIfInBounds_toArray, List.set_cons_zero, List.set_cons_succ]
    refine R_take 13 23 (v := ?_) rfl rfl (by rfl) (by kernel_rfl) (fun _ _ _ h => h) hS0.out ?_ ?_
    rotate_left
    · intro w hSw; (try dsimp only at hSw); go_simp; (try with_reducible rfl)
    simp only [List.setIfInBounds_toArray, List.set_cons_zero, List.set_cons_succ]
    refine R_take 14 24 (v := ?_) rfl rfl (by rfl) (by kernel_rfl) (fun _ _ _ h => h) hS0.out ?_ ?_
    rotate_left
    · intro w hSw; (try dsimp only at hSw); go_simp; (try with_reducible rfl)
    simp only [List.setIfInBounds_toArray, List.set_cons_zero, List.set_cons_succ]
    refine R_take 17 27 (v := ?_) rfl rfl (by rfl) (by kernel_rfl) (fun _ _ _ h => h) hS0.out ?_ ?_
    rotate_left
    · intro w hSw; (try dsimp only at hSw); go_simp; (try with_reducible rfl)
    simp only [List.setIfInBounds_toArray, List.set_cons_zero, List.set_cons_succ]
    refine R_take 18 28 (v := ?_) rfl rfl (by rfl) (by kernel_rfl) (fun _ _ _ h => h) hS0.out ?_ ?_
    rotate_left
    · intro w hSw; (try dsimp only at hSw); go_simp; (try with_reducible rfl)
    simp only [List.setIfInBounds_toArray, List.set_cons_zero, List.set_cons_succ]
    refine R_take 19 29 (v := ?_) rfl rfl (by rfl) (by kernel_rfl) (fun _ _ _ h => h) hS0.out ?_ ?_
    rotate_left
    · intro w hSw; (try dsimp only at hSw); go_simp; (try with_reducible rfl)
    simp only [List.setIfInBounds_toArray, List.set_cons_zero, List.set_cons_succ]
    refine R_take 20 30 (v := ?_) rfl rfl (by rfl) (by kernel_rfl) (fun _ _ _ h => h) hS0.out ?_ ?_
    rotate_left
    · intro w hSw; (try dsimp only at hSw); go_simp; (try with_reducible rfl)
    simp only [List.setIfInBounds_toArray, List.set_cons_zero, List.set_cons_succ]
    refine R_take 23 33 (v := ?_) rfl rfl (by rfl) (by kernel_rfl) (fun _ _ _ h => h) hS0.out ?_ ?_
    rotate_left
    · intro w hSw; (try dsimp only at hSw); go_simp; (try with_reducible rfl)
    simp only [List.setIfInBounds_toArray, List.set_cons_zero, List.set_cons_succ]
    refine R_take 24 34 (v := ?_) rfl rfl (by rfl) (by kernel_rfl) (fun _ _ _ h => h) hS0.out ?_ ?_
    rotate_left
    · intro w hSw; (try dsimp only at hSw); go_simp; (try with_reducible rfl)
    simp only [List.setIfInBounds_toArray, List.set_cons_zero, List.set_cons_succ]
    refine R_take 26 36 (v := ?_) rfl rfl (by rfl) (by kernel_rfl) (fun _ _ _ h => h) hS0.out ?_ ?_
    rotate_left
    · intro w hSw; (try dsimp only at hSw); go_simp; (try with_reducible rfl)
    simp only [List.setIfInBounds_toArray, List.set_cons_zero, List.set_cons_succ]
    refine R_take 27 37 (v := ?_) rfl rfl (by rfl) (by kernel_rfl) (fun _ _ _ h => h) hS0.out ?_ ?_
    rotate_left
    · intro w hSw; (try dsimp only at hSw); go_simp; (try with_reducible rfl)
    simp only [List.setIfInBounds_toArray, List.set_cons_zero, List.set_cons_succ]
    refine R_take 28 38 (v := ?_) rfl rfl (by rfl) (by kernel_rfl) (fun _ _ _ h => h) hS0.out ?_ ?_
    rotate_left
    · intro w hSw; (try dsimp only at hSw); go_simp; (try with_reducible rfl)
    simp only [List.setIfInBounds_toArray, List.set_cons_zero, List.set_cons_succ]
    refine R_take 29 39 (v := ?_) rfl rfl (by rfl) (by kernel_rfl) (fun _ _ _ h => h) hS0.out ?_ ?_
    rotate_left
    · intro w hSw; (try dsimp only at hSw); go_simp; (try with_reducible rfl)
    simp only [List.setIfInBounds_toArray, List.set_cons_zero, List.set_cons_succ]
    refine R_take 32 42 (v := ?_) rfl rfl (by rfl) (by kernel_rfl) (fun _ _ _ h => h) hS0.out ?_ ?_
    rotate_left
    · intro w hSw; (try dsimp only at hSw); go_simp; (try with_reducible rfl)
    simp only [List.setIfInBounds_toArray, List.set_cons_zero, List.set_cons_succ]
    refine R_take 33 43 (v := ?_) rfl rfl (by rfl) (by kernel_rfl) (fun _ _ _ h => h) hS0.out ?_ ?_
    rotate_left
    · intro w hSw; (try dsimp only at hSw); go_simp; (try with_reducible rfl)
    simp only [List.setIfInBounds_toArray, List.set_cons_zero, List.set_cons_succ]
    refine R_take 35 45 (v := ?_) rfl rfl (by rfl) (by kernel_rfl) (fun _ _ _ h => h) hS0.out ?_ ?_
    rotate_left
    · intro w hSw; (try dsimp only at hSw); go_simp; (try with_reducible rfl)
    simp only [List.setIfInBounds_toArray, List.set_cons_zero, List.set_cons_succ]
    refine R_take 36 46 (v := ?_) rfl rfl (by rfl) (by kernel_rfl) (fun _ _ _ h => h) hS0.out ?_ ?_
    rotate_left
    · intro w hSw; (try dsimp only at hSw); go_simp; (try with_reducible rfl)
    simp only [List.setIfInBounds_toArray, List.set_cons_zero, List.set_cons_succ]
    refine R_call 3 13 (w' := w1.drew) rfl rfl (by rfl) (by kernel_rfl) ?_ (row_number r.tx 8 w1.drew (by omega) (by omega) hwf.1 hwf.1) ?_
    · go_simp
    rintro e v1 ⟨rfl, hbv1⟩
    have hBv1 : Below w1.heap.size w1 v1 := ⟨hbv1.os, hbv1.tape, hbv1.output, hbv1.size, hbv1.block⟩
    have hsv1 := rw_cells1 (HB.out.below hBv1 HB.out.lt)
    refine ⟨_, rfl, fun _ => hsv1, ?_⟩
    simp only [List.setIfInBounds_toArray, List.set_cons_zero, List.set_cons_succ]
    have hS1 := Lib.hid hsv1
    clear hsv1 hbv1
    refine R_take 4 14 (v := ?_) rfl rfl (by rfl) (by kernel_rfl) (fun _ _ _ h => h) hS1.out ?_ ?_
    rotate_left
    · intro w hSw; (try dsimp only at hSw); go_simp; (try with_reducible rfl)
    simp only [List.setIfInBounds_toArray, List.set_cons_zero, List.set_cons_succ]
    refine R_call 9 19 (w' := v1) rfl rfl (by rfl) (by kernel_rfl) ?_ (row_number r.page 4 v1 (by omega) (by omega) (by omega) (by omega)) ?_
    · go_simp
    rintro e v2 ⟨rfl, hbv2⟩
    have hBv2 : Below w1.heap.size w1 v2 := hBv1.trans (hbv2.mono hBv1.size)
    have hsv2 := rw_cells1 (HB.out.below hBv2 HB.out.lt)
    refine ⟨_, rfl, fun _ => hsv2, ?_⟩
    simp only [List.setIfInBounds_toArray, List.set_cons_zero, List.set_cons_succ]
    have hS2 := Lib.hid hsv2
    clear hsv2 hbv2 hBv1
    refine R_take 10 20 (v := ?_) rfl rfl (by rfl) (by kernel_rfl) (fun _ _ _ h => h) hS2.out ?_ ?_
    rotate_left
    · intro w hSw; (try dsimp only at hSw); go_simp; (try with_reducible rfl)
    simp only [List.setIfInBounds_toArray, List.set_cons_zero, List.set_cons_succ]
    refine R_call 15 25 (w' := v2) rfl rfl (by rfl) (by kernel_rfl) ?_ (row_number r.slot 2 v2 (by omega) (by omega) hwf.2 (by omega)) ?_
    · go_simp
    rintro e v3 ⟨rfl, hbv3⟩
    have hBv3 : Below w1.heap.size w1 v3 := hBv2.trans (hbv3.mono hBv2.size)
    have hsv3 := rw_cells1 (HB.out.below hBv3 HB.out.lt)
    refine ⟨_, rfl, fun _ => hsv3, ?_⟩
    simp only [List.setIfInBounds_toArray, List.set_cons_zero, List.set_cons_succ]
    have hS3 := Lib.hid hsv3
    clear hsv3 hbv3 hBv2
    refine R_take 16 26 (v := ?_) rfl rfl (by rfl) (by kernel_rfl) (fun _ _ _ h => h) hS3.out ?_ ?_
    rotate_left
    · intro w hSw; (try dsimp only at hSw); go_simp; (try with_reducible rfl)
    simp only [List.setIfInBounds_toArray, List.set_cons_zero, List.set_cons_succ]
    refine R_call 21 31 (w' := v3) rfl rfl (by rfl) (by kernel_rfl) ?_ (row_number r.key.length 1 v3 (by omega) (by omega) (by omega) (by omega)) ?_
    · go_simp
    rintro e v4 ⟨rfl, hbv4⟩
    have hBv4 : Below w1.heap.size w1 v4 := hBv3.trans (hbv4.mono hBv3.size)
    have hsv4 := rw_cells1 (HB.out.below hBv4 HB.out.lt)
    refine ⟨_, rfl, fun _ => hsv4, ?_⟩
    simp only [List.setIfInBounds_toArray, List.set_cons_zero, List.set_cons_succ]
    have hS4 := Lib.hid hsv4
    clear hsv4 hbv4 hBv3
    refine R_take 22 32 (v := ?_) rfl rfl (by rfl) (by kernel_rfl) (fun _ _ _ h => h) hS4.out ?_ ?_
    rotate_left
    · intro w hSw; (try dsimp only at hSw); go_simp; (try with_reducible rfl)
    simp only [List.setIfInBounds_toArray, List.set_cons_zero, List.set_cons_succ]
    refine R_take 25 35 (v := ?_) rfl rfl (by rfl) (by kernel_rfl) (fun _ _ _ h => h) hS4.out ?_ ?_
    rotate_left
    · intro w hSw; (try dsimp only at hSw); go_simp; (try with_reducible rfl)
    simp only [List.setIfInBounds_toArray, List.set_cons_zero, List.set_cons_succ]
    refine R_call 30 40 (w' := v4) rfl rfl (by rfl) (by kernel_rfl) ?_ (row_number r.value.length 1 v4 (by omega) (by omega) (by omega) (by omega)) ?_
    · go_simp
    rintro e v5 ⟨rfl, hbv5⟩
    have hBv5 : Below w1.heap.size w1 v5 := hBv4.trans (hbv5.mono hBv4.size)
    have hsv5 := rw_cells1 (HB.out.below hBv5 HB.out.lt)
    refine ⟨_, rfl, fun _ => hsv5, ?_⟩
    simp only [List.setIfInBounds_toArray, List.set_cons_zero, List.set_cons_succ]
    have hS5 := Lib.hid hsv5
    clear hsv5 hbv5 hBv4
    refine R_take 31 41 (v := ?_) rfl rfl (by rfl) (by kernel_rfl) (fun _ _ _ h => h) hS5.out ?_ ?_
    rotate_left
    · intro w hSw; (try dsimp only at hSw); go_simp; (try with_reducible rfl)
    simp only [List.setIfInBounds_toArray, List.set_cons_zero, List.set_cons_succ]
    refine R_take 34 44 (v := ?_) rfl rfl (by rfl) (by kernel_rfl) (fun _ _ _ h => h) hS5.out ?_ ?_
    rotate_left
    · intro w hSw; (try dsimp only at hSw); go_simp; (try with_reducible rfl)
    simp only [List.setIfInBounds_toArray, List.set_cons_zero, List.set_cons_succ]
    refine R_call 37 47 (w' := v5) rfl rfl (by rfl) (by kernel_rfl) ?_ (HRP.out r.pad HP0.out v5) ?_
    · go_simp
    rintro e v6 ⟨rfl, hbv6⟩
    have hBv6 : Below w1.heap.size w1 v6 := hBv5.trans (hbv6.mono hBv5.size)
    have hsv6 := rw_cells1 (HB.out.below hBv6 HB.out.lt)
    refine ⟨_, rfl, fun _ => hsv6, ?_⟩
    simp only [List.setIfInBounds_toArray, List.set_cons_zero, List.set_cons_succ]
    have hS6 := Lib.hid hsv6
    clear hsv6 hbv6 hBv5
    refine R_take 38 48 (v := ?_) rfl rfl (by rfl) (by kernel_rfl) (fun _ _ _ h => h) hS6.out ?_ ?_
    rotate_left
    · intro w hSw; (try dsimp only at hSw); go_simp; (try with_reducible rfl)
    simp only [List.setIfInBounds_toArray, List.set_cons_zero, List.set_cons_succ]
    refine R_take 39 2 (v := ?_) rfl rfl (by rfl) (by kernel_rfl) (fun _ _ _ h => h) hS6.out ?_ ?_
    rotate_left
    · intro w hSw; (try dsimp only at hSw); go_simp; (try with_reducible rfl)
    simp only [List.setIfInBounds_toArray, List.set_cons_zero, List.set_cons_succ]
    refine R_take 40 3 (v := ?_) rfl rfl (by rfl) (by kernel_rfl) (fun _ _ _ h => h) hS6.out ?_ ?_
    rotate_left
    · intro w hSw; (try dsimp only at hSw); go_simp; (try with_reducible rfl)
    simp only [List.setIfInBounds_toArray, List.set_cons_zero, List.set_cons_succ]
    refine R_done (by kernel_rfl) ?_ _
    rename_i K9 hK9
    refine hK9 _ _ ?_
    clear hK9
    have hb2 := hb0.trans (hBv6.mono hb0.size)
    go_wp2_with fail
    go_ret2
    refine ⟨?_, hb2⟩
    have e : r.bytes = Sp.be 1 0 ++ Sp.be 8 r.tx ++ Sp.be 4 r.page ++ Sp.be 2 r.slot ++ Sp.be 1 r.key.length ++ r.key ++ Sp.be 1 r.value.length ++ r.value ++ Sp.zeros r.pad := by
      unfold Sp.Rw.bytes Sp.Rw.head
      rw [HMN.out]
    rw [e]
    rfl
  | true =>
    rw [hm] at m0
    have HMN : Hid (r.markN = 1) := Lib.hid (by unfold Sp.Rw.markN; rw [hm]; rfl)
    clear hm
    go_wp2_with fail
    have hS0 := Lib.hid (rw_cells1 HB.out.drew)
    clear m0
    refine R_begin (fun W => W.cell? ⟨g, 0, none⟩ = some (str r.key) ∧ W.cell? ⟨g, 2, none⟩ = some (.int .u64 r.tx) ∧ W.cell? ⟨g, 3, none⟩ = some (.int .u32 r.page) ∧ W.cell? ⟨g, 4, none⟩ = some (.int .u16 r.slot) ∧ W.cell? ⟨g, 5, none⟩ = some (str r.value) ∧ W.cell? ⟨g, 6, none⟩ = some (.int .i64 r.pad)) (fun _ => false) rfl ?_
    refine R_take 0 10 (v := ?_) rfl rfl (by rfl) (by kernel_rfl) (fun _ _ _ h => h) hS0.out ?_ ?_
    rotate_left
    · intro w hSw; (try dsimp only at hSw); go_simp; (try with_reducible rfl)
    simp only [List.setIfInBounds_toArray, List.set_cons_zero, List.set_cons_succ]
    refine R_take 1 11 (v := ?_) rfl rfl (by rfl) (by kernel_rfl) (fun _ _ _ h => h) hS0.out ?_ ?_
    rotate_left
    · intro w hSw; (try dsimp only at hSw); go_simp; (try with_reducible rfl)
    simp only [List.setIfInBounds_toArray, List.set_cons_zero, List.set_cons_succ]
    refine R_take 2 12 (v := ?_) rfl rfl (by rfl) (by kernel_rfl) (fun _ _ _ h => h) hS0.out ?_ ?_
    rotate_left
    · intro w hSw; (try dsimp only at hSw); go_simp; (try with_reducible rfl)
    simp only [List.setIfInBounds_toArray, List.set_cons_zero, List.set_cons_succ]
    refine R_take 5 15 (v := ?_) rfl rfl (by rfl) (by kernel_rfl) (fun _ _ _ h => h) hS0.out ?_ ?_
    rotate_left
    · intro w hSw; (try dsimp only at hSw); go_simp; (try with_reducible rfl)
    simp only [List.setIfInBounds_toArray, List.set_cons_zero, List.set_cons_succ]
    refine R_take 6 16 (v := ?_) rfl rfl (by rfl) (by kernel_rfl) (fun _ _ _ h => h) hS0.out ?_ ?_
    rotate_left
    · intro w hSw; (try dsimp only at hSw); go_simp; (try with_reducible rfl)
    simp only [List.setIfInBounds_toArray, List.set_cons_zero, List.set_cons_succ]
    refine R_take 7 17 (v := ?_) rfl rfl (by rfl) (by kernel_rfl) (fun _ _ _ h => h) hS0.out ?_ ?_
    rotate_left
    · intro w hSw; (try dsimp only at hSw); go_simp; (try with_reducible rfl)
    simp only [List.setIfInBounds_toArray, List.set_cons_zero, List.set_cons_succ]
    refine R_take 8 18 (v := ?_) rfl rfl (by rfl) (by kernel_rfl) (fun _ _ _ h => h) hS0.out ?_ ?_
    rotate_left
    · intro w hSw; (try dsimp only at hSw); go_simp; (try with_reducible rfl)
    simp only [List.setIfInBounds_toArray, List.set_cons_zero, List.set_cons_succ]
    refine R_take 11 21 (v := ?_) rfl rfl (by rfl) (by kernel_rfl) (fun _ _ _ h => h) hS0.out ?_ ?_
    rotate_left
    · intro w hSw; (try dsimp only at hSw); go_simp; (try with_reducible rfl)
    simp only [List.setIfInBounds_toArray, List.set_cons_zero, List.set_cons_succ]
    refine R_take 12 22 (v := ?_) rfl rfl (by rfl) (by kernel_rfl) (fun _ _ _ h => h) hS0.out ?_ ?_
    rotate_left
    · intro w hSw; (try dsimp only at hSw); go_simp; (try with_reducible rfl)
    simp only [List.setIfInBounds_toArray, List.set_cons_zero, List.set_cons_succ]
    refine R_take 13 23 (v := ?_) rfl rfl (by rfl) (by kernel_rfl) (fun _ _ _ h => h) hS0.out ?_ ?_
    rotate_left
    · intro w hSw; (try dsimp only at hSw); go_simp; (try with_reducible rfl)
    simp only [List.setIfInBounds_toArray, List.set_cons_zero, List.set_cons_succ]
    refine R_take 14 24 (v := ?_) rfl rfl (by rfl) (by kernel_rfl) (fun _ _ _ h => h) hS0.out ?_ ?_
    rotate_left
    · intro w hSw; (try dsimp only at hSw); go_simp; (try with_reducible rfl)
    simp only [List.setIfInBounds_toArray, List.set_cons_zero, List.set_cons_succ]
    refine R_take 17 27 (v := ?_) rfl rfl (by rfl) (by kernel_rfl) (fun _ _ _ h => h) hS0.out ?_ ?_
    rotate_left
    · intro w hSw; (try dsimp only at hSw); go_simp; (try with_reducible rfl)
    simp only [List.setIfInBounds_toArray, List.set_cons_zero, List.set_cons_succ]
    refine R_take 18 28 (v := ?_) rfl rfl (by rfl) (by kernel_rfl) (fun _ _ _ h => h) hS0.out ?_ ?_
    rotate_left
    · intro w hSw; (try dsimp only at hSw); go_simp; (try with_reducible rfl)
    simp only [List.setIfInBounds_toArray, List.set_cons_zero, List.set_cons_succ]
    refine R_take 19 29 (v := ?_) rfl rfl (by rfl) (by kernel_rfl) (fun _ _ _ h => h) hS0.out ?_ ?_
    rotate_left
    · intro w hSw; (try dsimp only at hSw); go_simp; (try with_reducible rfl)
    simp only [List.setIfInBounds_toArray, List.set_cons_zero, List.set_cons_succ]
    refine R_take 20 30 (v := ?_) rfl rfl (by rfl) (by kernel_rfl) (fun _ _ _ h => h) hS0.out ?_ ?_
    rotate_left
    · intro w hSw; (try dsimp only at hSw); go_simp; (try with_reducible rfl)
    simp only [List.setIfInBounds_toArray, List.set_cons_zero, List.set_cons_succ]
    refine R_take 23 33 (v := ?_) rfl rfl (by rfl) (by kernel_rfl) (fun _ _ _ h => h) hS0.out ?_ ?_
    rotate_left
    · intro w hSw; (try dsimp only at hSw); go_simp; (try with_reducible rfl)
    simp only [List.setIfInBounds_toArray, List.set_cons_zero, List.set_cons_succ]
    refine R_take 24 34 (v := ?_) rfl rfl (by rfl) (by kernel_rfl) (fun _ _ _ h => h) hS0.out ?_ ?_
    rotate_left
    · intro w hSw; (try dsimp only at hSw); go_simp; (try with_reducible rfl)
    simp only [List.setIfInBounds_toArray, List.set_cons_zero, List.set_cons_succ]
    refine R_take 26 36 (v := ?_) rfl rfl (by rfl) (by kernel_rfl) (fun _ _ _ h => h) hS0.out ?_ ?_
    rotate_left
    · intro w hSw; (try dsimp only at hSw); go_simp; (try with_reducible rfl)
    simp only [List.setIfInBounds_toArray, List.set_cons_zero, List.set_cons_succ]
    refine R_take 27 37 (v := ?_) rfl rfl (by rfl) (by kernel_rfl) (fun _ _ _ h => h) hS0.out ?_ ?_
    rotate_left
    · intro w hSw; (try dsimp only at hSw); go_simp; (try with_reducible rfl)
    simp only [List.setIfInBounds_toArray, List.set_cons_zero, List.set_cons_succ]
    refine R_take 28 38 (v := ?_) rfl rfl (by rfl) (by kernel_rfl) (fun _ _ _ h => h) hS0.out ?_ ?_
    rotate_left
    · intro w hSw; (try dsimp only at hSw); go_simp; (try with_reducible rfl)
    simp only [List.setIfInBounds_toArray, List.set_cons_zero, List.set_cons_succ]
    refine R_take 29 39 (v := ?_) rfl rfl (by rfl) (by kernel_rfl) (fun _ _ _ h => h) hS0.out ?_ ?_
    rotate_left
    · intro w hSw; (try dsimp only at hSw); go_simp; (try with_reducible rfl)
    simp only [List.setIfInBounds_toArray, List.set_cons_zero, List.set_cons_succ]
    refine R_take 32 42 (v := ?_) rfl rfl (by rfl) (by kernel_rfl) (fun _ _ _ h => h) hS0.out ?_ ?_
    rotate_left
    · intro w hSw; (try dsimp only at hSw); go_simp; (try with_reducible rfl)
    simp only [List.setIfInBounds_toArray, List.set_cons_zero, List.set_cons_succ]
    refine R_take 33 43 (v := ?_) rfl rfl (by rfl) (by kernel_rfl) (fun _ _ _ h => h) hS0.out ?_ ?_
    rotate_left
    · intro w hSw; (try dsimp only at hSw); go_simp; (try with_reducible rfl)
    simp only [List.setIfInBounds_toArray, List.set_cons_zero, List.set_cons_succ]
    refine R_take 35 45 (v := ?_) rfl rfl (by rfl) (by kernel_rfl) (fun _ _ _ h => h) hS0.out ?_ ?_
    rotate_left
    · intro w hSw; (try dsimp only at hSw); go_simp; (try with_reducible rfl)
    simp only [List.setIfInBounds_toArray, List.set_cons_zero, List.set_cons_succ]
    refine R_take 36 46 (v := ?_) rfl rfl (by rfl) (by kernel_rfl) (fun _ _ _ h => h) hS0.out ?_ ?_
    rotate_left
    · intro w hSw; (try dsimp only at hSw); go_simp; (try with_reducible rfl)
    simp only [List.setIfInBounds_toArray, List.set_cons_zero, List.set_cons_succ]
    refine R_call 3 13 (w' := w1.drew) rfl rfl (by rfl) (by kernel_rfl) ?_ (row_number r.tx 8 w1.drew (by omega) (by omega) hwf.1 hwf.1) ?_
    · go_simp
    rintro e v1 ⟨rfl, hbv1⟩
    have hBv1 : Below w1.heap.size w1 v1 := ⟨hbv1.os, hbv1.tape, hbv1.output, hbv1.size, hbv1.block⟩
    have hsv1 := rw_cells1 (HB.out.below hBv1 HB.out.lt)
    refine ⟨_, rfl, fun _ => hsv1, ?_⟩
    simp only [List.setIfInBounds_toArray, List.set_cons_zero, List.set_cons_succ]
    have hS1 := Lib.hid hsv1
    clear hsv1 hbv1
    refine R_take 4 14 (v := ?_) rfl rfl (by rfl) (by kernel_rfl) (fun _ _ _ h => h) hS1.out ?_ ?_
    rotate_left
    · intro w hSw; (try dsimp only at hSw); go_simp; (try with_reducible rfl)
    simp only [List.setIfInBounds_toArray, List.set_cons_zero, List.set_cons_succ]
    refine R_call 9 19 (w' := v1) rfl rfl (by rfl) (by kernel_rfl) ?_ (row_number r.page 4 v1 (by omega) (by omega) (by omega) (by omega)) ?_
    · go_simp
    rintro e v2 ⟨rfl, hbv2⟩
    have hBv2 : Below w1.heap.size w1 v2 := hBv1.trans (hbv2.mono hBv1.size)
    have hsv2 := rw_cells1 (HB.out.below hBv2 HB.out.lt)
    refine ⟨_, rfl, fun _ => hsv2, ?_⟩
    simp only [List.setIfInBounds_toArray, List.set_cons_zero, List.set_cons_succ]
    have hS2 := Lib.hid hsv2
    clear hsv2 hbv2 hBv1
    refine R_take 10 20 (v := ?_) rfl rfl (by rfl) (by kernel_rfl) (fun _ _ _ h => h) hS2.out ?_ ?_
    rotate_left
    · intro w hSw; (try dsimp only at hSw); go_simp; (try with_reducible rfl)
    simp only [List.setIfInBounds_toArray, List.set_cons_zero, List.set_cons_succ]
    refine R_call 15 25 (w' := v2) rfl rfl (by rfl) (by kernel_rfl) ?_ (row_number r.slot 2 v2 (by omega) (by omega) hwf.2 (by omega)) ?_
    · go_simp
    rintro e v3 ⟨rfl, hbv3⟩
    have hBv3 : Below w1.heap.size w1 v3 := hBv2.trans (hbv3.mono hBv2.size)
    have hsv3 := rw_cells1 (HB.out.below hBv3 HB.out.lt)
    refine ⟨_, rfl, fun _ => hsv3, ?_⟩
    simp only [List.setIfInBounds_toArray, List.set_cons_zero, List.set_cons_succ]
    have hS3 := Lib.hid hsv3
    clear hsv3 hbv3 hBv2
    refine R_take 16 26 (v := ?_) rfl rfl (by rfl) (by kernel_rfl) (fun _ _ _ h => h) hS3.out ?_ ?_
    rotate_left
    · intro w hSw; (try dsimp only at hSw); go_simp; (try with_reducible rfl)
    simp only [List.setIfInBounds_toArray, List.set_cons_zero, List.set_cons_succ]
    refine R_call 21 31 (w' := v3) rfl rfl (by rfl) (by kernel_rfl) ?_ (row_number r.key.length 1 v3 (by omega) (by omega) (by omega) (by omega)) ?_
    · go_simp
    rintro e v4 ⟨rfl, hbv4⟩
    have hBv4 : Below w1.heap.size w1 v4 := hBv3.trans (hbv4.mono hBv3.size)
    have hsv4 := rw_cells1 (HB.out.below hBv4 HB.out.lt)
    refine ⟨_, rfl, fun _ => hsv4, ?_⟩
    simp only [List.setIfInBounds_toArray, List.set_cons_zero, List.set_cons_succ]
    have hS4 := Lib.hid hsv4
    clear hsv4 hbv4 hBv3
    refine R_take 22 32 (v := ?_) rfl rfl (by rfl) (by kernel_rfl) (fun _ _ _ h => h) hS4.out ?_ ?_
    rotate_left
    · intro w hSw; (try dsimp only at hSw); go_simp; (try with_reducible rfl)
    simp only [List.setIfInBounds_toArray, List.set_cons_zero, List.set_cons_succ]
    refine R_take 25 35 (v := ?_) rfl rfl (by rfl) (by kernel_rfl) (fun _ _ _ h => h) hS4.out ?_ ?_
    rotate_left
    · intro w hSw; (try dsimp only at hSw); go_simp; (try with_reducible rfl)
    simp only [List.setIfInBounds_toArray, List.set_cons_zero, List.set_cons_succ]
    refine R_call 30 40 (w' := v4) rfl rfl (by rfl) (by kernel_rfl) ?_ (row_number r.value.length 1 v4 (by omega) (by omega) (by omega) (by omega)) ?_
    · go_simp
    rintro e v5 ⟨rfl, hbv5⟩
    have hBv5 : Below w1.heap.size w1 v5 := hBv4.trans (hbv5.mono hBv4.size)
    have hsv5 := rw_cells1 (HB.out.below hBv5 HB.out.lt)
    refine ⟨_, rfl, fun _ => hsv5, ?_⟩
    simp only [List.setIfInBounds_toArray, List.set_cons_zero, List.set_cons_succ]
    have hS5 := Lib.hid hsv5
    clear hsv5 hbv5 hBv4
    refine R_take 31 41 (v := ?_) rfl rfl (by rfl) (by kernel_rfl) (fun _ _ _ h => h) hS5.out ?_ ?_
    rotate_left
    · intro w hSw; (try dsimp only at hSw); go_simp; (try with_reducible rfl)
    simp only [List.setIfInBounds_toArray, List.set_cons_zero, List.set_cons_succ]
    refine R_take 34 44 (v := ?_) rfl rfl (by rfl) (by kernel_rfl) (fun _ _ _ h => h) hS5.out ?_ ?_
    rotate_left
    · intro w hSw; (try dsimp only at hSw); go_simp; (try with_reducible rfl)
    simp only [List.setIfInBounds_toArray, List.set_cons_zero, List.set_cons_succ]
    refine R_call 37 47 (w' := v5) rfl rfl (by rfl) (by kernel_rfl) ?_ (HRP.out r.pad HP0.out v5) ?_
    · go_simp
    rintro e v6 ⟨rfl, hbv6⟩
    have hBv6 : Below w1.heap.size w1 v6 := hBv5.trans (hbv6.mono hBv5.size)
    have hsv6 := rw_cells1 (HB.out.below hBv6 HB.out.lt)
    refine ⟨_, rfl, fun _ => hsv6, ?_⟩
    simp only [List.setIfInBounds_toArray, List.set_cons_zero, List.set_cons_succ]
    have hS6 := Lib.hid hsv6
    clear hsv6 hbv6 hBv5
    refine R_take 38 48 (v := ?_) rfl rfl (by rfl) (by kernel_rfl) (fun _ _ _ h => h) hS6.out ?_ ?_
    rotate_left
    · intro w hSw; (try dsimp only at hSw); go_simp; (try with_reducible rfl)
    simp only [List.setIfInBounds_toArray, List.set_cons_zero, List.set_cons_succ]
    refine R_take 39 2 (v := ?_) rfl rfl (by rfl) (by kernel_rfl) (fun _ _ _ h => h) hS6.out ?_ ?_
    rotate_left
    · intro w hSw; (try dsimp only at hSw); go_simp; (try with_reducible rfl)
    simp only [List.setIfInBounds_toArray, List.set_cons_zero, List.set_cons_succ]
    refine R_take 40 3 (v := ?_) rfl rfl (by rfl) (by kernel_rfl) (fun _ _ _ h => h) hS6.out ?_ ?_
    rotate_left
    · intro w hSw; (try dsimp only at hSw); go_simp; (try with_reducible rfl)
    simp only [List.setIfInBounds_toArray, List.set_cons_zero, List.set_cons_succ]
    refine R_done (by kernel_rfl) ?_ _
    rename_i K9 hK9
    refine hK9 _ _ ?_
    clear hK9
    have hb2 := hb0.trans (hBv6.mono hb0.size)
    go_wp2_with fail
    go_ret2
    refine ⟨?_, hb2⟩
    have e : r.bytes = Sp.be 1 1 ++ Sp.be 8 r.tx ++ Sp.be 4 r.page ++ Sp.be 2 r.slot ++ Sp.be 1 r.key.length ++ r.key ++ Sp.be 1 r.value.length ++ r.value ++ Sp.zeros r.pad := by
      unfold Sp.Rw.bytes Sp.Rw.head
      rw [HMN.out]
    rw [e]
    rfl
end Go.Proofs.YtafopojibpifoaaGreat
