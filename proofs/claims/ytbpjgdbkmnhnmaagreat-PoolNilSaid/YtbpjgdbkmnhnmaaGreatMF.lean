/- The loose writes of a disk: building one, a slice of one. -/
import Derived.Test.YtbpjgdbkmnhnmaaGreatME
import Derived.Test.YtbpjgdbkmnhnmaaGreatMB
import Derived.Laws.Cover3
import Derived.Great.BuildSlice
import Derived.Deep.WholeRow

namespace Go.Proofs.YtbpjgdbkmnhnmaaGreat
open Go.RowKit

theorem loos_append (l : List (Nat × Sp.Bs)) (k : Nat) (s : Sp.Bs) : loos (l ++ [(k, s)]) = loos l ++ (.int .i64 (k : Int) :: bcs s) := by simp [loos]

theorem wr_info : (Tryz.prog.info? 157).map (fun i => (i.zero, i.size, i.bytes)) = some (some (.agg (#[.int .i64 0] ++ Array.replicate 128 (.int .u8 0))), 129, 136) := by kernel_rfl

/-- A loose write's cells. -/
def wrC (k : Nat) (s : Sp.Bs) : Array Value := (Value.int .i64 (k : Int) :: bcs s).toArray
theorem wrC_size {k : Nat} {s : Sp.Bs} (hs : s.length = 128) : (wrC k s).size = 129 := by simp [wrC, hs]
theorem wrC_list (k : Nat) (s : Sp.Bs) : (wrC k s).toList = .int .i64 (k : Int) :: bcs s := by simp [wrC]
theorem wrC_one (k : Nat) (s : Sp.Bs) : ∀ u ∈ (wrC k s).toList, u.oneCell' = true := by
  intro u hu
  rw [wrC_list] at hu
  rcases List.mem_cons.1 hu with rfl | hu
  · rfl
  · obtain ⟨b, _, rfl⟩ := List.mem_map.1 hu; rfl

/-- A sector's cells, as an aggregate that nobody reckons. -/
def secC (s : Sp.Bs) : Array Value := (bcs s).toArray
theorem secC_size {s : Sp.Bs} (hs : s.length = 128) : (secC s).size = 128 := by simp [secC, hs]

theorem wr_built (parts : List (Nat × Value)) : Tryz.prog.built 157 parts = Instr.fill (#[(0, 1), (1, 128)][·]?) (#[.int .i64 0] ++ Array.replicate 128 (.int .u8 0)) parts := by kernel_rfl

/-- Two parts, the first of one cell. -/
theorem fill_two (pl : Nat → Option (Nat × Nat)) (v0 v1 x : Value) (n : Nat) (cells cs : Array Value) (h0 : pl 0 = some (0, 1)) (h1 : pl 1 = some (1, n)) (c0 : v0.cells = #[x]) (c1 : v1.cells = cs) (hs : cs.size = n) (hc : cells.size = 1 + n) :
    Instr.fill pl cells [(0, v0), (1, v1)] = some (x :: cs.toList).toArray := by
  subst c1
  unfold Instr.fill
  simp only [h0, c0]
  rw [if_neg (by simp [hc])]
  unfold Instr.fill
  simp only [h1, hs]
  have hsz : ((#[x].zipIdx).foldl (fun cs (x : Value × Nat) => cs.setIfInBounds (0 + x.2) x.1) cells) = cells.setIfInBounds 0 x := by simp
  rw [hsz, if_neg (by simp [hc])]
  unfold Instr.fill
  congr 1
  rw [← Array.foldl_toList, Array.toList_zipIdx]
  obtain ⟨g1, g2⟩ := Great.foldl_set 1 v1.cells.toList 0 (cells.setIfInBounds 0 x)
  apply Array.ext_getElem?
  intro k
  rw [g2 k]
  rcases k with _ | k
  · rw [if_neg (by omega)]
    simp [show 0 < cells.size by omega]
  · by_cases hk : k < n
    · rw [if_pos (by simp; omega)]
      simp only [Nat.add_zero, List.getElem?_toArray, List.getElem?_cons_succ, Array.getElem?_toList]
      congr 1
    · rw [if_neg (by simp; omega), Array.getElem?_eq_none (by simp; omega), Array.getElem?_eq_none (by simp; omega)]

theorem wr_build (k : Nat) (s : Sp.Bs) (hs : s.length = 128) (W : World) :
    (Instr.build 157 #[(0, .int .i64 k), (1, .agg (secC s))]).run Tryz.prog W = .ok (.agg (wrC k s)) W := by
  refine run_build W _ _ _ ?_
  rw [wr_built, fill_two _ _ _ (.int .i64 k) 128 _ (secC s) rfl rfl rfl rfl (secC_size hs) (by simp)]
  rfl

theorem wr_slice (k : Nat) (s : Sp.Bs) (hs : s.length = 128) (W : World) :
    (Instr.buildSlice 114 1 #[(0, .agg (wrC k s))]).run Tryz.prog W = .ok (.slice (some ⟨W.heap.size, 0, none⟩) 1 1) (W.alloc (.cells (wrC k s) 157)) := by
  obtain ⟨i0, hi, hz0, hz1, hz2⟩ := info_parts wr_info
  have hsz := wrC_size (k := k) hs
  refine run_buildSlice W _ _ 1 _ _ i0 _ Tryz.underlying114 hi hz0 (by rw [hz1]; decide) (by rw [hz1]; decide) ?_
  rw [hz1]
  have := Great.fill_whole (s := 129) (by omega) [Value.agg (wrC k s)] ((Array.range (1 * 129)).map ((Value.agg (#[.int .i64 0] ++ Array.replicate 128 (.int .u8 0))).cells[· % (Value.agg (#[.int .i64 0] ++ Array.replicate 128 (.int .u8 0))).cells.size]!)) (fun v hv => by rw [List.mem_singleton.1 hv]; exact hsz) (by simp)
  rw [show ([Value.agg (wrC k s)].flatMap fun v => v.cells.toList).toArray = wrC k s by simp [Value.cells]] at this
  exact this

theorem own_ne {w : World} {base e size n g t : Nat} {v : Value} {xs : List Value} {cs : Array Value} (h : w.ownsRow base e size v n xs) (hB : Blk w g t cs) (hne : e ≠ t) : v.ownBlock ≠ some g := by
  rcases h.2 with ⟨rfl, _⟩ | ⟨b, cap, cur, rfl, hb, hh, _⟩
  · simp [Value.ownBlock]
  · intro he
    have : b = g := by simpa [Value.ownBlock] using he
    subst this
    unfold Blk at hB
    rw [hB] at hh
    injection hh with hh
    injection hh with _ ht
    exact hne ht.symm

theorem own_form {w : World} {base e size n : Nat} {v : Value} {xs : List Value} (h : w.ownsRow base e size v (n + 1) xs) : ∃ g c, v = .slice (some ⟨g, 0, none⟩) (n + 1) c := by
  rcases h.2 with ⟨_, h0⟩ | ⟨g, c, _, h0, _⟩
  · omega
  · exact ⟨g, c, h0⟩

theorem Turns.grown_by {F' : Foot} {w w' : World} {g : Nat} (h : Turns (only g) F' w w') : w.grownBy w' (some g) := ⟨h.os, h.tape, h.output, h.size, fun b hb hne => h.block b hb (fun e => hne (by rw [e]))⟩

end Go.Proofs.YtbpjgdbkmnhnmaaGreat

/- The walks of package disk: Write. -/
namespace Go.Proofs.YtbpjgdbkmnhnmaaGreat
open Go.RowKit

set_option maxRecDepth 100000 in
set_option maxHeartbeats 4000000 in
theorem disk_write {F : Foot} {w : World} {g : Nat} {d : Sp.Dk} (h : IsDk F w g d) (k : Nat) (s : Sp.Bs) (hk : k < d.sure.length) (hs : s.length = 128) (hf : d.fuse ≠ 0) (hl : d.loose.length ≤ 1000000) :
    Calls Tryz.prog 104 #[.pointer (some ⟨g, 0, none⟩), .int .i64 k, str s] w fun e w' => ∃ F', e = .returned (.int .i64 0) ∧ IsDk F' w' g (d.put k s) ∧ Turns F F' w w' := by
  obtain ⟨h1, h2, a, v, h3, h4, h5, h6⟩ := h
  obtain ⟨i0, hi0, hz00, hz10, hz20⟩ := info_parts wr_info
  have hi := Lib.hid hi0
  have hz0 := Lib.hid hz00
  have hz1 := Lib.hid hz10
  have hz2 := Lib.hid hz20
  clear hi0 hz00 hz10 hz20
  have c0 := h3.cell 0
  simp only [dkCells, List.getElem?_toArray, List.getElem?_cons_zero] at c0
  have d1 : decide ((k : Int) < 0) = false := by simp
  have d2 : decide ((d.sure.length : Int) ≤ k) = false := by rw [decide_eq_false_iff_not]; omega
  have d3 : ((s.length : Int) != 128) = false := by rw [hs]; rfl
  have HM := Lib.hid (disk_may h3 h1.some_ hf)
  have HB := Lib.hid (disk_burns h3 h2)
  have H5 := Lib.hid h5
  have H4 := Lib.hid h4
  have HD := Lib.hid h3
  have HS := Lib.hid hs
  have hlt := h3.lt
  have hcv := conv_any (P := Tryz.prog) 9 22 5 s Tryz.underlying9 Tryz.underlying22 Tryz.underlying5
  have hat : ∀ w ad c, (Instr.arrayAt 155 (.slice ad s.length c)).run Tryz.prog w = .ok (.pointer ad) w := fun w ad c => run_arrayAt w 155 _ 128 ad s.length c Tryz.underlying155 (by omega)
  have hld : ∀ W, (loadVar 155 ⟨W.heap.size, 0, none⟩).run Tryz.prog (bytesW W 5 s) = .ok (.agg (secC s)) (bytesW W 5 s) := fun W => by
    refine run_loadVar_part _ _ _ (bcs s) _ (fun j v hv => ?_) Tryz.underlying155 rfl ?_
    · obtain ⟨hj, rfl⟩ := List.getElem?_eq_some_iff.1 hv
      have hj' : j < s.length := by simpa [bcs] using hj
      have hadd : (⟨W.heap.size, 0, none⟩ : Addr).add j = ⟨W.heap.size, j, none⟩ := by unfold Addr.add; split <;> simp_all
      rw [hadd, (bytesW_facts W 5 s).2.2.1 j hj']
      simp [bcs]
    · have hq := congrArg (fun o => o.map (·.2.1)) sec_info
      simp only [Option.map_map] at hq
      rw [show (bcs s).length = 128 by simpa [bcs] using hs]
      simpa using hq
  have hbd := wr_build k s hs
  have hbs := wr_slice k s hs
  clear h3 h4 h5 hs
  go_enter Tryz.func104, Tryz.ntmps104
  go_wp2_with fail
  refine HM.out.mono ?_
  rintro e w1 ⟨rfl, hw⟩
  subst w1
  go_wp2_with fail
  refine HB.out.mono ?_
  rintro e w1 ⟨rfl, hB1, ht1⟩
  have b1 := hB1.cell 1
  have f1 := hB1.frozen 1
  simp only [dkCells, List.getElem?_toArray, List.getElem?_cons_succ, List.getElem?_cons_zero] at b1
  have hne := own_ne H5.out HD.out (by decide)
  have HO := Lib.hid (H5.out.kept ht1.grown_by (.inr hne))
  have HB1 := Lib.hid hB1
  have hlt1 := hB1.lt
  have H41 := Lib.hid (H4.out.turns ht1 (fun e => Blk.ne_ H4.out HD.out (by decide) e))
  have hs1 : (wrC k s).size = 129 * 1 := wrC_size HS.out
  clear hB1 H5
  go_wp2_with fail
  have hbw := bytesW_facts w1.drew 5 s
  have hbsz : (bytesW w1.drew 5 s).heap.size = w1.heap.size + 1 := hbw.2.1
  have hSb : (bytesW w1.drew 5 s).cell? ⟨g, 1, none⟩ = some v := (hbw.1.cell (p := ⟨g, 1, none⟩) hlt1).trans b1
  have hld1 := hld w1.drew
  change (loadVar 155 ⟨w1.heap.size, 0, none⟩).run _ _ = _ at hld1
  clear hld
  have HBW := Lib.hid hbw
  clear hbw
  have hS0 : w1.drew.cell? ⟨g, 1, none⟩ = some v := b1
  refine R_begin (fun W => W.cell? ⟨g, 1, none⟩ = some v) (fun j => j == 15) (by kernel_rfl) ?_
  refine R_take 0 31 (v := ?_) rfl rfl (by rfl) (by kernel_rfl) (fun _ _ _ h => h) hS0 ?_ ?_
  rotate_left
  · intro w hSw; (try dsimp only at hSw); go_simp; (try with_reducible rfl)
  simp only [List.setIfInBounds_toArray, List.set_cons_zero, List.set_cons_succ]
  refine R_take 1 32 (v := ?_) rfl rfl (by rfl) (by kernel_rfl) (fun _ _ _ h => h) hS0 ?_ ?_
  rotate_left
  · intro w hSw; (try dsimp only at hSw); go_simp; (try with_reducible rfl)
  simp only [List.setIfInBounds_toArray, List.set_cons_zero, List.set_cons_succ]
  refine R_take 2 33 (v := ?_) rfl rfl (by rfl) (by kernel_rfl) (fun _ _ _ h => h) hS0 ?_ ?_
  rotate_left
  · intro w hSw; (try dsimp only at hSw); go_simp; (try with_reducible rfl)
  simp only [List.setIfInBounds_toArray, List.set_cons_zero, List.set_cons_succ]
  refine R_take 3 34 (v := ?_) rfl rfl (by rfl) (by kernel_rfl) (fun _ _ _ h => h) hS0 ?_ ?_
  rotate_left
  · intro w hSw; (try dsimp only at hSw); go_simp; (try with_reducible rfl)
  simp only [List.setIfInBounds_toArray, List.set_cons_zero, List.set_cons_succ]
  refine R_take 4 35 (v := ?_) rfl rfl (by rfl) (by kernel_rfl) (fun _ _ _ h => h) hS0 ?_ ?_
  rotate_left
  · intro w hSw; (try dsimp only at hSw); go_simp; (try with_reducible rfl)
  simp only [List.setIfInBounds_toArray, List.set_cons_zero, List.set_cons_succ]
  refine R_take 5 36 (v := ?_) rfl rfl (by rfl) (by kernel_rfl) (fun _ _ _ h => h) hS0 ?_ ?_
  rotate_left
  · intro w hSw; (try dsimp only at hSw); go_simp; (try with_reducible rfl)
  simp only [List.setIfInBounds_toArray, List.set_cons_zero, List.set_cons_succ]
  refine R_take 6 37 (v := ?_) rfl rfl (by rfl) (by kernel_rfl) (fun _ _ _ h => h) hS0 ?_ ?_
  rotate_left
  · intro w hSw; (try dsimp only at hSw); go_simp; (try with_reducible rfl)
  simp only [List.setIfInBounds_toArray, List.set_cons_zero, List.set_cons_succ]
  refine R_run 7 38 (v := .slice (some ⟨w1.heap.size, 0, none⟩) s.length (bytesC w1.drew 5 s)) (w' := bytesW w1.drew 5 s) rfl rfl (by rfl) (by kernel_rfl) (by go_simp) (fun _ => hSb) ?_
  simp only [List.setIfInBounds_toArray, List.set_cons_zero, List.set_cons_succ]
  refine R_take 8 39 (v := .pointer (some ⟨w1.heap.size, 0, none⟩)) rfl rfl (by rfl) (by kernel_rfl) (fun _ _ _ h => h) hSb (fun W _ => by go_simp) ?_
  simp only [List.setIfInBounds_toArray, List.set_cons_zero, List.set_cons_succ]
  refine R_run 9 40 (v := .agg (secC s)) (w' := bytesW w1.drew 5 s) rfl rfl (by rfl) (by kernel_rfl) (run_op_load _ _ ⟨w1.heap.size, 0, none⟩ rfl rfl hld1) (fun _ => hSb) ?_
  simp only [List.setIfInBounds_toArray, List.set_cons_zero, List.set_cons_succ]
  refine R_take 10 41 rfl rfl (by rfl) (by kernel_rfl) (fun _ _ _ h => h) hSb (fun W _ => run_op_build _ _ #[(0, .int .i64 k), (1, .agg (secC s))] rfl rfl (hbd W)) ?_
  simp only [List.setIfInBounds_toArray, List.set_cons_zero, List.set_cons_succ]
  have hSc : ((bytesW w1.drew 5 s).alloc (.cells (wrC k s) 157)).cell? ⟨g, 1, none⟩ = some v := (World.cell?_alloc_lt _ _ _ (show g < _ by omega)).trans hSb
  refine R_run 11 42 rfl rfl (by rfl) (by kernel_rfl) (run_op_buildSlice _ _ _ #[(0, .agg (wrC k s))] rfl rfl (hbs _)) (fun _ => hSc) ?_
  simp only [List.setIfInBounds_toArray, List.set_cons_zero, List.set_cons_succ]
  refine R_step 12 rfl (by rfl) (by kernel_rfl) ?_
  refine wp_append_own2 _ _ _ 114 rfl 0 157 i0 _ 129 136 Tryz.underlying114 hi.out hz0.out hz1.out hz2.out rfl (by decide) v d.loose.length (loos d.loose) rfl
    ((HO.out.kept (row := none) ⟨HBW.out.1.os, HBW.out.1.tape, HBW.out.1.output, HBW.out.1.size, fun b hb _ => HBW.out.1.block b hb⟩ (by cases v.ownBlock <;> simp)).alloc _)
    ⟨(bytesW w1.drew 5 s).heap.size, 0, none⟩ 1 1 (wrC k s).toList rfl (by simpa using hs1) (fun j u hu => ?_) (wrC_one k s) (by unfold maxLen; omega) (by omega) (Nat.zero_le _) (fun v6 w6 hown hgrow hwhere => ?_)
  · rw [show (⟨(bytesW w1.drew 5 s).heap.size, 0, none⟩ : Addr).add j = ⟨(bytesW w1.drew 5 s).heap.size, j, none⟩ by unfold Addr.add; split <;> simp_all]
    exact ((Blk.new _ _ _).cell j).trans (by simpa using hu)
  obtain ⟨g6, c6, rfl⟩ := own_form hown
  have hB6 := ((HB1.out.drew.below HBW.out.1 hlt1).alloc (.cells (wrC k s) 157)).grown hgrow (fun e => hne e.symm)
  have hS6 : w6.cell? ⟨g, 1, none⟩ = some v := hB6.cell 1
  refine ⟨fun _ => hS6, R_put 43 rfl ?_⟩
  simp only [List.setIfInBounds_toArray, List.set_cons_zero, List.set_cons_succ]
  refine R_run 13 44 (v := .pointer (some ⟨g, 0, none⟩)) (w' := w6) rfl rfl (by rfl) (by kernel_rfl) (by go_simp) (fun _ => hS6) ?_
  simp only [List.setIfInBounds_toArray, List.set_cons_zero, List.set_cons_succ]
  refine R_run 14 45 (v := .pointer (some ⟨g, 1, none⟩)) (w' := w6) rfl rfl (by rfl) (by kernel_rfl) (by go_simp) (fun _ => hS6) ?_
  simp only [List.setIfInBounds_toArray, List.set_cons_zero, List.set_cons_succ]
  refine R_store 15 (n := .skip) (w' := w6.setCell ⟨g, 1, none⟩ (.slice (some ⟨g6, 0, none⟩) (d.loose.length + 1) c6)) rfl rfl (by rfl) (by kernel_rfl) ?_ (.inl rfl) (fun h => absurd h (by decide)) ?_
  · have f6 := hB6.frozen 1
    go_simp
  refine R_done (by kernel_rfl) ?_ _
  have hB7 := hB6.set_ 1 (.slice (some ⟨g6, 0, none⟩) (d.loose.length + 1) c6)
  have hA7 := ((((H41.out.drew.below HBW.out.1 H41.out.lt).alloc (.cells (wrC k s) 157)).grown hgrow (fun e => own_ne HO.out H41.out (by decide) e.symm)).far (p := ⟨g, 1, none⟩) (fun e => Blk.ne_ H41.out HB1.out (by decide) e) (.slice (some ⟨g6, 0, none⟩) (d.loose.length + 1) c6))
  have hg6 : g6 ≠ g := fun e => own_ne hown hB6 (by decide) (by rw [e]; rfl)
  have hO7 := hown.kept (grown_set w6 ⟨g, 1, none⟩ (.slice (some ⟨g6, 0, none⟩) (d.loose.length + 1) c6)) (.inr (fun e => hg6 (by simpa [Value.ownBlock] using e)))
  have ht6 : Turns F F w w6 := (((((ht1.wider (F := F) (fun b hb => (h6 b).2 (.inl hb)) (fun b hb => .inl hb)).drew).next HBW.out.1).alloc (.cells (wrC k s) 157)).grown hgrow (fun k hk => .inl ((h6 k).2 (.inr (.inr hk)))))
  have ht7 := ht6.setCell (p := ⟨g, 1, none⟩) (.inl ((h6 g).2 (.inl rfl))) (.slice (some ⟨g6, 0, none⟩) (d.loose.length + 1) c6)
  have hg6w : F g6 ∨ w.heap.size ≤ g6 := by
    rcases hwhere g6 rfl with hk | hk
    · exact .inl ((h6 g6).2 (.inr (.inr hk)))
    · refine .inr ?_
      have := ht1.size
      simp only [World.size_alloc] at hk
      omega
  have HB7 := Lib.hid hB7
  have HA7 := Lib.hid hA7
  have HO7 := Lib.hid hO7
  have HLA := Lib.hid (loos_append d.loose k s)
  have HWC := Lib.hid (wrC_list k s)
  have H6 := Lib.hid h6
  clear hB7 hA7 hO7 ht6 hown hgrow hwhere hB6 hS6 hSb hSc hbsz hne b1 f1 hbd hbs hat hcv hld1 h6 hs1 hS0
  generalize w6.setCell ⟨g, 1, none⟩ (.slice (some ⟨g6, 0, none⟩) (d.loose.length + 1) c6) = w7 at *
  go_wp2_with fail
  go_ret
  refine ⟨fun b => b = g ∨ b = a ∨ b = g6, rfl, ⟨Sp.Dk.put_wf h1 hk HS.out, ?_, a, _, HB7.out, HA7.out, ?_, fun b => ?_⟩, ⟨ht7.os, ht7.tape, ht7.output, ht7.size, ht7.block, ?_⟩⟩
  · simp only [Sp.Dk.put, Sp.burn]
    split <;> omega
  · rw [HWC.out, ← HLA.out] at HO7
    simpa [Sp.Dk.put] using HO7.out
  · simp [Value.ownBlock, eq_comm]
  · rintro b (rfl | rfl | rfl)
    · exact .inl ((H6.out b).2 (.inl rfl))
    · exact .inl ((H6.out b).2 (.inr (.inl rfl)))
    · exact hg6w
end Go.Proofs.YtbpjgdbkmnhnmaaGreat

/- The walks of package disk: Sync. -/
namespace Go.Proofs.YtbpjgdbkmnhnmaaGreat
open Go.RowKit

theorem secs_append (a b : List Sp.Bs) : secs (a ++ b) = secs a ++ secs b := by simp [secs]
theorem secs_length {l : List Sp.Bs} (h : ∀ s ∈ l, s.length = 128) : (secs l).length = l.length * 128 :=
  flatten_length_all bcs 128 l (fun x hx => by rw [bcs_length]; exact h x hx)
theorem partRow_secs {l : List Sp.Bs} (h : ∀ s ∈ l, s.length = 128) {k : Nat} (hk : k < l.length) {s : Sp.Bs} (hs : s.length = 128) :
    partRow (secs l).toArray (k * 128) (secC s).toList = (secs (l.set k s)).toArray := by
  have e : l = l.take k ++ l[k] :: l.drop (k + 1) := by rw [← List.drop_eq_getElem_cons hk, List.take_append_drop]
  have h1 : (secs (l.take k)).length = k * 128 := by
    rw [secs_length (fun x hx => h x (List.mem_of_mem_take hx)), List.length_take, Nat.min_eq_left (by omega)]
  have h2 : (bcs l[k]).length = 128 := by rw [bcs_length]; exact h _ (List.getElem_mem hk)
  have h3 : (secC s).toList.length = 128 := by simp [secC, hs]
  have e2 : secs l = secs (l.take k) ++ (bcs l[k] ++ secs (l.drop (k + 1))) := by
    conv => lhs; rw [e]
    rw [secs_append]; rfl
  unfold partRow
  rw [List.toList_toArray, e2, List.take_left' h1, show k * 128 + (secC s).toList.length = (secs (l.take k)).length + 128 by omega, ← List.drop_drop, List.drop_left, List.drop_left' h2, List.set_eq_take_append_cons_drop, if_pos hk]
  simp [secs, secC]

theorem loos_app (a b : List (Nat × Sp.Bs)) : loos (a ++ b) = loos a ++ loos b := by simp [loos]
theorem loos_at {l : List (Nat × Sp.Bs)} (h : ∀ x ∈ l, x.2.length = 128) {i : Nat} (hi : i < l.length) : ((loos l).drop (i * 129)).take 129 = (wrC l[i].1 l[i].2).toList := by
  have e : l = l.take i ++ l[i] :: l.drop (i + 1) := by rw [← List.drop_eq_getElem_cons hi, List.take_append_drop]
  have h1 : (loos (l.take i)).length = i * 129 := by
    unfold loos
    rw [flatten_length_all _ 129 _ (fun x hx => by simp [h x (List.mem_of_mem_take hx)]), List.length_take, Nat.min_eq_left (by omega)]
  have h2 : (wrC l[i].1 l[i].2).toList.length = 129 := by simp [wrC, h _ (List.getElem_mem hi)]
  have e2 : loos l = loos (l.take i) ++ ((wrC l[i].1 l[i].2).toList ++ loos (l.drop (i + 1))) := by
    conv => lhs; rw [e]
    rw [loos_app, wrC_list]; rfl
  rw [e2, List.drop_left' h1, List.take_left' h2]

theorem wrC_cell0 (k : Nat) (s : Sp.Bs) : (wrC k s)[0]? = some (.int .i64 (k : Int)) := by simp [wrC]
theorem wrC_cell (k : Nat) (s : Sp.Bs) (j : Nat) : (wrC k s)[1 + j]? = (secC s)[j]? := by simp [wrC, secC, Nat.add_comm 1 j]

theorem partRow_all {Z : Array Value} {cs : List Value} (h : Z.size = cs.length) : partRow Z 0 cs = cs.toArray := by
  simp [partRow, List.drop_eq_nil_of_le, h]

theorem wr_agg : (Tryz.prog.info? 157).map (·.size) = some 129 := by kernel_rfl
theorem sec_agg : (Tryz.prog.info? 155).map (·.size) = some 128 := by kernel_rfl

/-- The element's load. -/
theorem wr_load {w : World} {b base n c : Nat} {l : List (Nat × Sp.Bs)} (h : w.ownsRow base 157 129 (.slice (some ⟨b, 0, none⟩) n c) l.length (loos l)) (hl : ∀ x ∈ l, x.2.length = 128) {i : Nat} (hi : i < l.length) :
    (loadVar 157 ⟨b, i * 129, none⟩).run Tryz.prog w = .ok (.agg (wrC l[i].1 l[i].2)) w := by
  have hsz := wrC_size (k := l[i].1) (hl _ (List.getElem_mem hi))
  have := run_loadVar_part (P := Tryz.prog) w ⟨b, i * 129, none⟩ 157 (wrC l[i].1 l[i].2).toList _ (fun j v hv => ?_) Tryz.underlying157 rfl (by rw [wr_agg]; simp [hsz])
  · rw [this]
  · have hj : j < 129 := by have := (List.getElem?_eq_some_iff.1 hv).1; simp [hsz] at this; exact this
    rw [show (⟨b, i * 129, none⟩ : Addr).add j = (⟨b, 0, none⟩ : Addr).add (i * 129 + j) by unfold Addr.add; split <;> simp_all]
    refine h.cells (g := b) rfl _ _ ?_
    rw [← loos_at hl hi, List.getElem?_take, if_pos hj, List.getElem?_drop] at hv
    exact hv

set_option maxRecDepth 100000 in
set_option maxHeartbeats 4000000 in
theorem disk_sync {F : Foot} {w : World} {g : Nat} {d : Sp.Dk} (h : IsDk F w g d) (hf : d.fuse ≠ 0) (hl : d.loose.length ≤ 1000000) :
    Calls Tryz.prog 63 #[.pointer (some ⟨g, 0, none⟩)] w fun e w' => ∃ F', e = .returned (.int .i64 0) ∧ IsDk F' w' g d.synced ∧ d.synced.loose = [] ∧ Turns F F' w w' := by
  obtain ⟨h1, h2, a, v, h3, h4, h5, h6⟩ := h
  have HM := Lib.hid (disk_may h3 h1.some_ hf)
  have HB := Lib.hid (disk_burns h3 h2)
  have H5 := Lib.hid h5
  have H4 := Lib.hid h4
  have HD := Lib.hid h3
  have hlt := h3.lt
  have hwr := fun x hx => (h1.loose x hx).2
  have hne := own_ne h5 h3 (by decide)
  obtain ⟨p, c, rfl⟩ : ∃ p c, v = .slice p d.loose.length c := by
    rcases h5.2 with ⟨rfl, e⟩ | ⟨b, cap, _, e, _⟩
    · exact ⟨none, 0, by rw [e]⟩
    · exact ⟨_, _, e⟩
  clear h3 h4 h5
  go_enter Tryz.func63, Tryz.ntmps63
  go_wp2_with fail
  refine HM.out.mono ?_
  rintro e w1 ⟨rfl, hw⟩
  subst w1
  go_wp2_with fail
  refine HB.out.mono ?_
  rintro e w1 ⟨rfl, hB1, ht1⟩
  have b1 := hB1.cell 1
  have b0 := hB1.cell 0
  simp only [dkCells, List.getElem?_toArray, List.getElem?_cons_succ, List.getElem?_cons_zero] at b0 b1
  have HO := Lib.hid (H5.out.kept ht1.grown_by (.inr hne))
  have HB1 := Lib.hid hB1
  have hlt1 := hB1.lt
  have H41 := Lib.hid (H4.out.turns ht1 (fun e => Blk.ne_ H4.out HD.out (by decide) e))
  clear hB1 H5
  go_wp2_with fail
  have HZ : Hid (∃ Z : Array Value, (Value.agg (#[.int .i64 0] ++ Array.replicate 128 (.int .u8 0))).cells = Z ∧ Z.size = 129) := ⟨_, rfl, rfl⟩
  obtain ⟨Z, hZ, hZs⟩ := HZ.out
  have hZ' := Lib.hid hZ
  have hZs' := Lib.hid hZs
  clear hZ hZs HZ
  obtain ⟨i0, hi0, hz00, hz10, hz20⟩ := info_parts wr_info
  have hi := Lib.hid hi0
  have hz0 := Lib.hid hz00
  clear hi0 hz00 hz10 hz20
  have HWF := Lib.hid hwr
  have HSU := Lib.hid h1.sure
  have HLK := Lib.hid (fun x hx => (h1.loose x hx).1)
  have hc0 := c
  clear hwr
  go_loopw [5, 18] (fun _ i wr => ∃ k : Nat, k ≤ d.loose.length ∧ i = .int .i64 k ∧ Blk wr a 155 (secs (Sp.lay (d.loose.take k) d.sure)).toArray ∧ Turns (only a) (only a) w1 wr) (fun _ i _ => d.loose.length - (intOf i).toNat)
  case atStart => exact ⟨0, by omega, rfl, by simpa [Sp.lay] using H41.out, Turns.refl _ _⟩
  case round =>
    obtain ⟨k, hk, rfl, hA, ht⟩ := hrel
    have hga : g ≠ a := fun e => Blk.ne_ HB1.out H41.out (by decide) e
    have HBr := HB1.out.turns ht hga
    have r0 := HBr.cell 0
    have r1 := HBr.cell 1
    have rf1 := HBr.frozen 1
    simp only [dkCells, List.getElem?_toArray, List.getElem?_cons_succ, List.getElem?_cons_zero] at r0 r1
    have HBR := Lib.hid HBr
    have HA := Lib.hid hA
    clear HBr hA b0 b1
    by_cases hlt : k < d.loose.length
    · have hna := own_ne HO.out H41.out (by decide)
      obtain ⟨b, rfl⟩ : ∃ b, p = some ⟨b, 0, none⟩ := by
        rcases HO.out.2 with ⟨e, e2⟩ | ⟨b, cap, _, e, _⟩
        · omega
        · injection e with e; exact ⟨b, e⟩
      have hOr := HO.out.kept (w' := wr) (row := some a) ht.grown_by (.inr hna)
      have hld := wr_load hOr HWF.out hlt
      have hsx := HWF.out _ (List.getElem_mem hlt)
      have hkx := HLK.out _ (List.getElem_mem hlt)
      have htk : Hid (Sp.lay (d.loose.take (k + 1)) d.sure = (Sp.lay (d.loose.take k) d.sure).set d.loose[k].1 d.loose[k].2) := by
        rw [List.take_succ_eq_append_getElem hlt, Sp.lay_append]; rfl
      have HLD := Lib.hid hld
      have HSX := Lib.hid hsx
      clear hld hsx hOr
      generalize d.loose[k] = x at *
      obtain ⟨xk, xs⟩ := x
      dsimp only at *
      have HZS := Lib.hid (run_storeVar_part (P := Tryz.prog) (wr.alloc (.cells Z 157)) wr.heap.size 0 157 157 Z (wrC xk xs) (heap_alloc_new _ _) (by rw [wr_agg, wrC_size HSX.out]) (by rw [wrC_size HSX.out, hZs'.out]; exact Nat.le_refl _) (Array.all_eq_true_iff_forall_mem.2 fun u hu => wrC_one xk xs u (by simpa using hu)))
      rw [partRow_all (by rw [hZs'.out]; simpa using (wrC_size HSX.out).symm), World.setRow_alloc_new] at HZS
      go_wp2_with (first
        | ((with_reducible refine wpList_run (v := .agg (wrC xk xs)) (w' := wr) 21 rfl rfl ?_ ?_); exact run_op_load _ _ ⟨b, k * 129, none⟩ rfl rfl HLD.out; simp only [List.setIfInBounds_toArray, List.set_cons_zero, List.set_cons_succ])
        | ((with_reducible refine wpList_run (v := .pointer (some ⟨wr.heap.size, 0, none⟩)) (w' := wr.alloc (.cells Z 157)) 5 rfl rfl ?_ ?_); exact run_op_alloc _ i0 _ Z rfl hi.out hz0.out hZ'.out; simp only [List.setIfInBounds_toArray, List.set_cons_zero, List.set_cons_succ])
        | ((with_reducible refine wpList_skip (w' := wr.alloc (.cells (wrC xk xs) 157)) rfl rfl ?_ ?_); exact run_op_store _ _ _ ⟨wr.heap.size, 0, none⟩ _ rfl rfl rfl HZS.out))
      have hnew : wr.heap.size ≠ a := by have := HA.out.lt; omega
      have hB5 := Blk.new wr 157 (wrC xk xs)
      have hS0 : ((wr.alloc (.cells (wrC xk xs) 157)).drew.cell? ⟨g, 0, none⟩ = some (.slice (some ⟨a, 0, none⟩) d.sure.length d.sure.length)) ∧ ((wr.alloc (.cells (wrC xk xs) 157)).drew.cell? ⟨wr.heap.size, 0, none⟩ = some (.int .i64 (xk : Int))) ∧
          ((loadVar 155 ⟨wr.heap.size, 1, none⟩).run Tryz.prog (wr.alloc (.cells (wrC xk xs) 157)).drew = .ok (.agg (secC xs)) (wr.alloc (.cells (wrC xk xs) 157)).drew) := by
        refine ⟨((HBR.out.alloc (.cells (wrC xk xs) 157)).cell 0).trans (by simp [dkCells]), (hB5.cell 0).trans (wrC_cell0 xk xs), ?_⟩
        refine (run_loadVar_part (P := Tryz.prog) (wr.alloc (.cells (wrC xk xs) 157)).drew ⟨wr.heap.size, 1, none⟩ 155 (secC xs).toList _ (fun j v hv => ?_) Tryz.underlying155 rfl (by rw [sec_agg]; simp [secC_size HSX.out])).trans (by rw [Array.toArray_toList])
        rw [show (⟨wr.heap.size, 1, none⟩ : Addr).add j = ⟨wr.heap.size, 1 + j, none⟩ by unfold Addr.add; split <;> simp_all]
        exact (hB5.cell (1 + j)).trans ((wrC_cell xk xs j).trans (by simpa using hv))
      refine R_begin (fun W => (W.cell? ⟨g, 0, none⟩ = some (.slice (some ⟨a, 0, none⟩) d.sure.length d.sure.length)) ∧ (W.cell? ⟨wr.heap.size, 0, none⟩ = some (.int .i64 (xk : Int))) ∧
          ((loadVar 155 ⟨wr.heap.size, 1, none⟩).run Tryz.prog W = .ok (.agg (secC xs)) W)) (fun j => j == 9) (by kernel_rfl) ?_
      refine R_take 0 22 (v := ?_) rfl rfl (by rfl) (by kernel_rfl) (fun _ _ _ h => h) hS0 ?_ ?_
      rotate_left
      · intro w hSw; obtain ⟨hS1, hS2, hS3⟩ := hSw; clear hS3; go_simp; (try with_reducible rfl)
      simp only [List.setIfInBounds_toArray, List.set_cons_zero, List.set_cons_succ]
      refine R_take 1 23 (v := ?_) rfl rfl (by rfl) (by kernel_rfl) (fun _ _ _ h => h) hS0 ?_ ?_
      rotate_left
      · intro w hSw; obtain ⟨hS1, hS2, hS3⟩ := hSw; clear hS3; go_simp; (try with_reducible rfl)
      simp only [List.setIfInBounds_toArray, List.set_cons_zero, List.set_cons_succ]
      refine R_take 2 24 (v := ?_) rfl rfl (by rfl) (by kernel_rfl) (fun _ _ _ h => h) hS0 ?_ ?_
      rotate_left
      · intro w hSw; obtain ⟨hS1, hS2, hS3⟩ := hSw; clear hS3; go_simp; (try with_reducible rfl)
      simp only [List.setIfInBounds_toArray, List.set_cons_zero, List.set_cons_succ]
      refine R_take 3 25 (v := ?_) rfl rfl (by rfl) (by kernel_rfl) (fun _ _ _ h => h) hS0 ?_ ?_
      rotate_left
      · intro w hSw; obtain ⟨hS1, hS2, hS3⟩ := hSw; clear hS3; go_simp; (try with_reducible rfl)
      simp only [List.setIfInBounds_toArray, List.set_cons_zero, List.set_cons_succ]
      refine R_take 4 26 (v := ?_) rfl rfl (by rfl) (by kernel_rfl) (fun _ _ _ h => h) hS0 ?_ ?_
      rotate_left
      · intro w hSw; obtain ⟨hS1, hS2, hS3⟩ := hSw; clear hS3; go_simp; (try with_reducible rfl)
      simp only [List.setIfInBounds_toArray, List.set_cons_zero, List.set_cons_succ]
      refine R_take 5 27 (v := ?_) rfl rfl (by rfl) (by kernel_rfl) (fun _ _ _ h => h) hS0 ?_ ?_
      rotate_left
      · intro w hSw; obtain ⟨hS1, hS2, hS3⟩ := hSw; clear hS3; go_simp; (try with_reducible rfl)
      simp only [List.setIfInBounds_toArray, List.set_cons_zero, List.set_cons_succ]
      refine R_take 6 28 (v := ?_) rfl rfl (by rfl) (by kernel_rfl) (fun _ _ _ h => h) hS0 ?_ ?_
      rotate_left
      · intro w hSw; obtain ⟨hS1, hS2, hS3⟩ := hSw; clear hS3; go_simp; (try with_reducible rfl)
      simp only [List.setIfInBounds_toArray, List.set_cons_zero, List.set_cons_succ]
      refine R_take 7 29 (v := .agg (secC xs)) rfl rfl (by rfl) (by kernel_rfl) (fun _ _ _ h => h) hS0 (fun W hW => run_op_load _ _ ⟨wr.heap.size, 1, none⟩ rfl rfl hW.2.2) ?_
      simp only [List.setIfInBounds_toArray, List.set_cons_zero, List.set_cons_succ]
      refine R_take 8 30 (v := ?_) rfl rfl (by rfl) (by kernel_rfl) (fun _ _ _ h => h) hS0 ?_ ?_
      rotate_left
      · intro w hSw; obtain ⟨hS1, hS2, hS3⟩ := hSw; clear hS3; go_simp; (try with_reducible rfl)
      simp only [List.setIfInBounds_toArray, List.set_cons_zero, List.set_cons_succ]
      have HAn := (HA.out.alloc (.cells (wrC xk xs) 157)).drew
      have hlen : (Sp.lay (d.loose.take k) d.sure).length = d.sure.length := Sp.lay_length _ _
      have hall : ∀ s ∈ Sp.lay (d.loose.take k) d.sure, s.length = 128 := Sp.lay_all HSU.out (fun x hx => HWF.out x (List.mem_of_mem_take hx))
      have hst := run_storeVar_part (P := Tryz.prog) (wr.alloc (.cells (wrC xk xs) 157)).drew a (xk * 128) 155 155 (secs (Sp.lay (d.loose.take k) d.sure)).toArray (secC xs) HAn (by rw [sec_agg, secC_size HSX.out])
        (by rw [secC_size HSX.out, List.size_toArray, secs_length hall, hlen]; omega) (Array.all_eq_true_iff_forall_mem.2 fun u hu => by
          obtain ⟨b, _, rfl⟩ := List.mem_map.1 (show u ∈ bcs xs by simpa [secC] using hu); rfl)
      rw [partRow_secs hall (by omega) HSX.out, ← htk.out] at hst
      have hA2 := HAn.setRow (secs (Sp.lay (d.loose.take (k + 1)) d.sure)).toArray
      refine R_store 9 (n := .skip) rfl rfl (by rfl) (by kernel_rfl) (run_op_store _ _ _ ⟨a, xk * 128, none⟩ _ rfl rfl rfl hst) (.inl rfl) (fun h => absurd h (by decide)) ?_
      refine R_done (by kernel_rfl) ?_ _
      have hT2 := ((ht.alloc (.cells (wrC xk xs) 157)).drew).setRow (g := a) (.inl rfl) (secs (Sp.lay (d.loose.take (k + 1)) d.sure)).toArray
      have HA2 := Lib.hid hA2
      have HT2 := Lib.hid hT2
      clear hA2 hT2 hst hS0 HAn hall hlen hB5
      generalize (wr.alloc (.cells (wrC xk xs) 157)).drew.setRow a (secs (Sp.lay (d.loose.take (k + 1)) d.sure)).toArray = w5 at *
      go_wp2_with fail
      go_roundw
      case rel => exact ⟨k + 1, by omega, by go_num, HA2.out, HT2.out⟩
      case measure => simp [intOf]; omega
    · obtain rfl : k = d.loose.length := by omega
      rw [List.take_length] at HA
      go_wp2_with fail
      go_ret
      have hsl : d.synced.sure.length = d.sure.length := by simp [Sp.Dk.synced, Sp.Dk.view]
      have ht7 : Turns F F w (wr.setCell ⟨g, 1, none⟩ (.slice none 0 0)) :=
        ((ht1.wider (F := F) (fun b hb => (h6 b).2 (.inl hb)) (fun b hb => .inl hb)).trans (ht.wider (F := F) (fun b hb => (h6 b).2 (.inr (.inl hb))) (fun b hb => .inl hb))).setCell (p := ⟨g, 1, none⟩) (.inl ((h6 g).2 (.inl rfl))) (.slice none 0 0)
      refine ⟨fun b => b = g ∨ b = a, rfl, ⟨Sp.Dk.synced_wf h1, ?_, a, .slice none 0 0, ?_, HA.out.far (p := ⟨g, 1, none⟩) (fun e => hga e.symm) _, World.ownsRow_nil _ _ _ _, fun b => by simp [Value.ownBlock]⟩, rfl, ⟨ht7.os, ht7.tape, ht7.output, ht7.size, ht7.block, ?_⟩⟩
      · simp only [Sp.Dk.synced, Sp.burn]
        split <;> omega
      · rw [hsl]
        exact HBR.out.set_ 1 (.slice none 0 0)
      · rintro b (rfl | rfl)
        · exact .inl ((h6 b).2 (.inl rfl))
        · exact .inl ((h6 b).2 (.inr (.inl rfl)))
end Go.Proofs.YtbpjgdbkmnhnmaaGreat
