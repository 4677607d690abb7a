/- The walks of package disk: Write. -/
import Derived.Test.YtndglfiepeefdaaGreatMPA
import Derived.Deep.WholeRow
import Derived.RangeFuncNested
import Derived.RangeFuncBound
import Derived.RangeFuncCalls
import Derived.RangeFuncLeaves
import Derived.Maps.OwnOps
import Derived.Maps.OwnSet
import Derived.Maps.Views
import Derived.Maps.Keyed
import Derived.Maps.Ext
import Derived.Lib.AppendStr
import Derived.Tactics
import Derived.WalkKit
import Derived.Deep.DeepCutAuto
import Derived.BigQuiet

namespace Go.Proofs.YtndglfiepeefdaaGreat
open Go.RowKit

set_option maxRecDepth 100000 in
set_option maxHeartbeats 4000000 in
theorem disk_write {F : Foot} {w : World} {g : Nat} {d : Sp.Dk} (h : IsDk F w g d) (k : Nat) (s : Sp.Bs) (hk : k < d.sure.length) (hs : s.length = 128) (hf : d.fuse ≠ 0) (hl : d.loose.length ≤ 1000000) :
    Calls Tryz.prog 112 #[.pointer (some ⟨g, 0, none⟩), .int .i64 k, str s] w fun e w' => ∃ F', e = .returned (.int .i64 0) ∧ IsDk F' w' g (d.put k s) ∧ Turns F F' w w' := by
  obtain ⟨h1, h2, a, v, h3, h4, h5, h6⟩ := h
  obtain ⟨i0, hi0, hz00, hz10, hz20⟩ := info_parts wr_info
  have hi := Lib.hid hi0
  have hz0 := Lib.hid hz00
  have hz1 := Lib.hid hz10
  have hz2 := Lib.hid hz20
  clear hi0 hz00 hz10 hz20
  have c0 := h3.cell 0
  simp only [dkCells, List.getElem?_toArray, List.getElem?_cons_zero] at c0
  have d1 : decide ((k : Int) < 0) = false := by simp
  have d2 : decide ((d.sure.length : Int) ≤ k) = false := by rw [decide_eq_false_iff_not]; omega
  have d3 : ((s.length : Int) != 128) = false := by rw [hs]; rfl
  have HM := Lib.hid (disk_may h3 h1.some_ hf)
  have HB := Lib.hid (disk_burns h3 h2)
  have H5 := Lib.hid h5
  have H4 := Lib.hid h4
  have HD := Lib.hid h3
  have HS := Lib.hid hs
  have hlt := h3.lt
  have hcv := conv_any (P := Tryz.prog) 9 114 5 s Tryz.underlying9 Tryz.underlying114 Tryz.underlying5
  have hat : ∀ w ad c, (Instr.arrayAt 180 (.slice ad s.length c)).run Tryz.prog w = .ok (.pointer ad) w := fun w ad c => run_arrayAt w 180 _ 128 ad s.length c Tryz.underlying180 (by omega)
  have hld : ∀ W, (loadVar 180 ⟨W.heap.size, 0, none⟩).run Tryz.prog (bytesW W 5 s) = .ok (.agg (secC s)) (bytesW W 5 s) := fun W => by
    refine run_loadVar_part _ _ _ (bcs s) _ (fun j v hv => ?_) Tryz.underlying180 rfl ?_
    · obtain ⟨hj, rfl⟩ := List.getElem?_eq_some_iff.1 hv
      have hj' : j < s.length := by simpa [bcs] using hj
      have hadd : (⟨W.heap.size, 0, none⟩ : Addr).add j = ⟨W.heap.size, j, none⟩ := by unfold Addr.add; split <;> simp_all
      rw [hadd, (bytesW_facts W 5 s).2.2.1 j hj']
      simp [bcs]
    · have hq := congrArg (fun o => o.map (·.2.1)) sec_info
      simp only [Option.map_map] at hq
      rw [show (bcs s).length = 128 by simpa [bcs] using hs]
      simpa using hq
  have hbd := wr_build k s hs
  have hbs := wr_slice k s hs
  clear h3 h4 h5 hs
  go_enter Tryz.func112, Tryz.ntmps112
  go_wp2_with fail
  refine HM.out.mono ?_
  rintro e w1 ⟨rfl, hw⟩
  subst w1
  go_wp2_with fail
  refine HB.out.mono ?_
  rintro e w1 ⟨rfl, hB1, ht1⟩
  have b1 := hB1.cell 1
  have f1 := hB1.frozen 1
  simp only [dkCells, zGA, zGB, zGC] at b1
  have hne := own_ne H5.out HD.out (by decide)
  have HO := Lib.hid (H5.out.kept ht1.grown_by (.inr hne))
  have HB1 := Lib.hid hB1
  have hlt1 := hB1.lt
  have H41 := Lib.hid (H4.out.turns ht1 (fun e => Blk.ne_ H4.out HD.out (by decide) e))
  have hs1 : (wrC k s).size = 129 * 1 := wrC_size HS.out
  clear hB1 H5
  go_wp2_with fail
  have hbw := bytesW_facts w1.drew 5 s
  have hbsz : (bytesW w1.drew 5 s).heap.size = w1.heap.size + 1 := hbw.2.1
  have hSb : (bytesW w1.drew 5 s).cell? ⟨g, 1, none⟩ = some v := (hbw.1.cell (p := ⟨g, 1, none⟩) hlt1).trans b1
  have hld1 := hld w1.drew
  change (loadVar 180 ⟨w1.heap.size, 0, none⟩).run _ _ = _ at hld1
  clear hld
  have HBW := Lib.hid hbw
  clear hbw
  have hS0 : w1.drew.cell? ⟨g, 1, none⟩ = some v := b1
  refine R_begin (fun W => W.cell? ⟨g, 1, none⟩ = some v) (fun j => j == 15) (by kernel_rfl) ?_
  refine R_take 0 31 (v := ?_) rfl rfl (by rfl) (by kernel_rfl) (fun _ _ _ h => h) hS0 ?_ ?_
  rotate_left
  · intro w hSw; (try dsimp only at hSw); go_simp; (try with_reducible rfl)
  simp only [zSA, zSB, zSC]
  refine R_take 1 32 (v := ?_) rfl rfl (by rfl) (by kernel_rfl) (fun _ _ _ h => h) hS0 ?_ ?_
  rotate_left
  · intro w hSw; (try dsimp only at hSw); go_simp; (try with_reducible rfl)
  simp only [zSA, zSB, zSC]
  refine R_take 2 33 (v := ?_) rfl rfl (by rfl) (by kernel_rfl) (fun _ _ _ h => h) hS0 ?_ ?_
  rotate_left
  · intro w hSw; (try dsimp only at hSw); go_simp; (try with_reducible rfl)
  simp only [zSA, zSB, zSC]
  refine R_take 3 34 (v := ?_) rfl rfl (by rfl) (by kernel_rfl) (fun _ _ _ h => h) hS0 ?_ ?_
  rotate_left
  · intro w hSw; (try dsimp only at hSw); go_simp; (try with_reducible rfl)
  simp only [zSA, zSB, zSC]
  refine R_take 4 35 (v := ?_) rfl rfl (by rfl) (by kernel_rfl) (fun _ _ _ h => h) hS0 ?_ ?_
  rotate_left
  · intro w hSw; (try dsimp only at hSw); go_simp; (try with_reducible rfl)
  simp only [zSA, zSB, zSC]
  refine R_take 5 36 (v := ?_) rfl rfl (by rfl) (by kernel_rfl) (fun _ _ _ h => h) hS0 ?_ ?_
  rotate_left
  · intro w hSw; (try dsimp only at hSw); go_simp; (try with_reducible rfl)
  simp only [zSA, zSB, zSC]
  refine R_take 6 37 (v := ?_) rfl rfl (by rfl) (by kernel_rfl) (fun _ _ _ h => h) hS0 ?_ ?_
  rotate_left
  · intro w hSw; (try dsimp only at hSw); go_simp; (try with_reducible rfl)
  simp only [zSA, zSB, zSC]
  refine R_run 7 38 (v := .slice (some ⟨w1.heap.size, 0, none⟩) s.length (bytesC w1.drew 5 s)) (w' := bytesW w1.drew 5 s) rfl rfl (by rfl) (by kernel_rfl) (by go_simp) (fun _ => hSb) ?_
  simp only [zSA, zSB, zSC]
  refine R_take 8 39 (v := .pointer (some ⟨w1.heap.size, 0, none⟩)) rfl rfl (by rfl) (by kernel_rfl) (fun _ _ _ h => h) hSb (fun W _ => by go_simp) ?_
  simp only [zSA, zSB, zSC]
  refine R_run 9 40 (v := .agg (secC s)) (w' := bytesW w1.drew 5 s) rfl rfl (by rfl) (by kernel_rfl) (run_op_load _ _ ⟨w1.heap.size, 0, none⟩ rfl rfl hld1) (fun _ => hSb) ?_
  simp only [zSA, zSB, zSC]
  refine R_take 10 41 rfl rfl (by rfl) (by kernel_rfl) (fun _ _ _ h => h) hSb (fun W _ => run_op_build _ _ #[(0, .int .i64 k), (1, .agg (secC s))] rfl rfl (hbd W)) ?_
  simp only [zSA, zSB, zSC]
  have hSc : ((bytesW w1.drew 5 s).alloc (.cells (wrC k s) 182)).cell? ⟨g, 1, none⟩ = some v := (World.cell?_alloc_lt _ _ _ (show g < _ by omega)).trans hSb
  refine R_run 11 42 rfl rfl (by rfl) (by kernel_rfl) (run_op_buildSlice _ _ _ #[(0, .agg (wrC k s))] rfl rfl (hbs _)) (fun _ => hSc) ?_
  simp only [zSA, zSB, zSC]
  refine R_step 12 rfl (by rfl) (by kernel_rfl) ?_
  refine wp_append_own2 _ _ _ 141 rfl 0 182 i0 _ 129 136 Tryz.underlying141 hi.out hz0.out hz1.out hz2.out rfl (by decide) v d.loose.length (loos d.loose) rfl
    ((HO.out.kept (row := none) ⟨HBW.out.1.os, HBW.out.1.tape, HBW.out.1.output, HBW.out.1.size, fun b hb _ => HBW.out.1.block b hb⟩ (by cases v.ownBlock <;> simp)).alloc _)
    ⟨(bytesW w1.drew 5 s).heap.size, 0, none⟩ 1 1 (wrC k s).toList rfl (by simpa using hs1) (fun j u hu => ?_) (wrC_one k s) (by unfold maxLen; omega) (by omega) (Nat.zero_le _) (fun v6 w6 hown hgrow hwhere => ?_)
  · rw [show (⟨(bytesW w1.drew 5 s).heap.size, 0, none⟩ : Addr).add j = ⟨(bytesW w1.drew 5 s).heap.size, j, none⟩ by unfold Addr.add; split <;> simp_all]
    exact ((Blk.new _ _ _).cell j).trans (by simpa using hu)
  obtain ⟨g6, c6, rfl⟩ := own_form hown
  have hB6 := ((HB1.out.drew.below HBW.out.1 hlt1).alloc (.cells (wrC k s) 182)).grown hgrow (fun e => hne e.symm)
  have hS6 : w6.cell? ⟨g, 1, none⟩ = some v := hB6.cell 1
  refine ⟨fun _ => hS6, R_put 43 rfl ?_⟩
  simp only [zSA, zSB, zSC]
  refine R_run 13 44 (v := .pointer (some ⟨g, 0, none⟩)) (w' := w6) rfl rfl (by rfl) (by kernel_rfl) (by go_simp) (fun _ => hS6) ?_
  simp only [zSA, zSB, zSC]
  refine R_run 14 45 (v := .pointer (some ⟨g, 1, none⟩)) (w' := w6) rfl rfl (by rfl) (by kernel_rfl) (by go_simp) (fun _ => hS6) ?_
  simp only [zSA, zSB, zSC]
  refine R_store 15 (n := .skip) (w' := w6.setCell ⟨g, 1, none⟩ (.slice (some ⟨g6, 0, none⟩) (d.loose.length + 1) c6)) rfl rfl (by rfl) (by kernel_rfl) ?_ (.inl rfl) (fun h => absurd h (by decide)) ?_
  · have f6 := hB6.frozen 1
    go_simp
  refine R_done (by kernel_rfl) ?_ _
  have hB7 := hB6.set_ 1 (.slice (some ⟨g6, 0, none⟩) (d.loose.length + 1) c6)
  have hA7 := ((((H41.out.drew.below HBW.out.1 H41.out.lt).alloc (.cells (wrC k s) 182)).grown hgrow (fun e => own_ne HO.out H41.out (by decide) e.symm)).far (p := ⟨g, 1, none⟩) (fun e => Blk.ne_ H41.out HB1.out (by decide) e) (.slice (some ⟨g6, 0, none⟩) (d.loose.length + 1) c6))
  have hg6 : g6 ≠ g := fun e => own_ne hown hB6 (by decide) (by rw [e]; rfl)
  have hO7 := hown.kept (grown_set w6 ⟨g, 1, none⟩ (.slice (some ⟨g6, 0, none⟩) (d.loose.length + 1) c6)) (.inr (fun e => hg6 (by simpa [Value.ownBlock] using e)))
  have ht6 : Turns F F w w6 := (((((ht1.wider (F := F) (fun b hb => (h6 b).2 (.inl hb)) (fun b hb => .inl hb)).drew).next HBW.out.1).alloc (.cells (wrC k s) 182)).grown hgrow (fun k hk => .inl ((h6 k).2 (.inr (.inr hk)))))
  have ht7 := ht6.setCell (p := ⟨g, 1, none⟩) (.inl ((h6 g).2 (.inl rfl))) (.slice (some ⟨g6, 0, none⟩) (d.loose.length + 1) c6)
  have hg6w : F g6 ∨ w.heap.size ≤ g6 := by
    rcases hwhere g6 rfl with hk | hk
    · exact .inl ((h6 g6).2 (.inr (.inr hk)))
    · refine .inr ?_
      have := ht1.size
      simp only [World.size_alloc] at hk
      omega
  have HB7 := Lib.hid hB7
  have HA7 := Lib.hid hA7
  have HO7 := Lib.hid hO7
  have HLA := Lib.hid (loos_append d.loose k s)
  have HWC := Lib.hid (wrC_list k s)
  have H6 := Lib.hid h6
  clear hB7 hA7 hO7 ht6 hown hgrow hwhere hB6 hS6 hSb hSc hbsz hne b1 f1 hbd hbs hat hcv hld1 h6 hs1 hS0
  generalize w6.setCell ⟨g, 1, none⟩ (.slice (some ⟨g6, 0, none⟩) (d.loose.length + 1) c6) = w7 at *
  go_wp2_with fail
  go_ret
  refine ⟨fun b => b = g ∨ b = a ∨ b = g6, rfl, ⟨Sp.Dk.put_wf h1 hk HS.out, ?_, a, _, HB7.out, HA7.out, ?_, fun b => ?_⟩, ⟨ht7.os, ht7.tape, ht7.output, ht7.size, ht7.block, ?_⟩⟩
  · simp only [Sp.Dk.put, Sp.burn]
    split <;> omega
  · rw [HWC.out, ← HLA.out] at HO7
    simpa [Sp.Dk.put] using HO7.out
  · simp [Value.ownBlock, eq_comm]
  · rintro b (rfl | rfl | rfl)
    · exact .inl ((H6.out b).2 (.inl rfl))
    · exact .inl ((H6.out b).2 (.inr (.inl rfl)))
    · exact hg6w
end Go.Proofs.YtndglfiepeefdaaGreat

/- The walks of package disk: Sync. -/
namespace Go.Proofs.YtndglfiepeefdaaGreat
open Go.RowKit

theorem secs_append (a b : List Sp.Bs) : secs (a ++ b) = secs a ++ secs b := by simp [secs]
theorem secs_length {l : List Sp.Bs} (h : ∀ s ∈ l, s.length = 128) : (secs l).length = l.length * 128 :=
  flatten_length_all bcs 128 l (fun x hx => by rw [bcs_length]; exact h x hx)
theorem partRow_secs {l : List Sp.Bs} (h : ∀ s ∈ l, s.length = 128) {k : Nat} (hk : k < l.length) {s : Sp.Bs} (hs : s.length = 128) :
    partRow (secs l).toArray (k * 128) (secC s).toList = (secs (l.set k s)).toArray := by
  have e : l = l.take k ++ l[k] :: l.drop (k + 1) := by rw [← List.drop_eq_getElem_cons hk, List.take_append_drop]
  have h1 : (secs (l.take k)).length = k * 128 := by
    rw [secs_length (fun x hx => h x (List.mem_of_mem_take hx)), List.length_take, Nat.min_eq_left (by omega)]
  have h2 : (bcs l[k]).length = 128 := by rw [bcs_length]; exact h _ (List.getElem_mem hk)
  have h3 : (secC s).toList.length = 128 := by simp [secC, hs]
  have e2 : secs l = secs (l.take k) ++ (bcs l[k] ++ secs (l.drop (k + 1))) := by
    conv => lhs; rw [e]
    rw [secs_append]; rfl
  unfold partRow
  rw [List.toList_toArray, e2, List.take_left' h1, show k * 128 + (secC s).toList.length = (secs (l.take k)).length + 128 by omega, ← List.drop_drop, List.drop_left, List.drop_left' h2, List.set_eq_take_append_cons_drop, if_pos hk]
  simp [secs, secC]

theorem loos_app (a b : List (Nat × Sp.Bs)) : loos (a ++ b) = loos a ++ loos b := by simp [loos]
theorem loos_at {l : List (Nat × Sp.Bs)} (h : ∀ x ∈ l, x.2.length = 128) {i : Nat} (hi : i < l.length) : ((loos l).drop (i * 129)).take 129 = (wrC l[i].1 l[i].2).toList := by
  have e : l = l.take i ++ l[i] :: l.drop (i + 1) := by rw [← List.drop_eq_getElem_cons hi, List.take_append_drop]
  have h1 : (loos (l.take i)).length = i * 129 := by
    unfold loos
    rw [flatten_length_all _ 129 _ (fun x hx => by simp [h x (List.mem_of_mem_take hx)]), List.length_take, Nat.min_eq_left (by omega)]
  have h2 : (wrC l[i].1 l[i].2).toList.length = 129 := by simp [wrC, h _ (List.getElem_mem hi)]
  have e2 : loos l = loos (l.take i) ++ ((wrC l[i].1 l[i].2).toList ++ loos (l.drop (i + 1))) := by
    conv => lhs; rw [e]
    rw [loos_app, wrC_list]; rfl
  rw [e2, List.drop_left' h1, List.take_left' h2]

theorem wrC_cell0 (k : Nat) (s : Sp.Bs) : (wrC k s)[0]? = some (.int .i64 (k : Int)) := by simp [wrC]
theorem wrC_cell (k : Nat) (s : Sp.Bs) (j : Nat) : (wrC k s)[1 + j]? = (secC s)[j]? := by simp [wrC, secC, Nat.add_comm 1 j]

theorem partRow_all {Z : Array Value} {cs : List Value} (h : Z.size = cs.length) : partRow Z 0 cs = cs.toArray := by
  simp [partRow, List.drop_eq_nil_of_le, h]

theorem wr_agg : (Tryz.prog.info? 182).map (·.size) = some 129 := by kernel_rfl
theorem sec_agg : (Tryz.prog.info? 180).map (·.size) = some 128 := by kernel_rfl

/-- The element's load. -/
theorem wr_load {w : World} {b base n c : Nat} {l : List (Nat × Sp.Bs)} (h : w.ownsRow base 182 129 (.slice (some ⟨b, 0, none⟩) n c) l.length (loos l)) (hl : ∀ x ∈ l, x.2.length = 128) {i : Nat} (hi : i < l.length) :
    (loadVar 182 ⟨b, i * 129, none⟩).run Tryz.prog w = .ok (.agg (wrC l[i].1 l[i].2)) w := by
  have hsz := wrC_size (k := l[i].1) (hl _ (List.getElem_mem hi))
  have := run_loadVar_part (P := Tryz.prog) w ⟨b, i * 129, none⟩ 182 (wrC l[i].1 l[i].2).toList _ (fun j v hv => ?_) Tryz.underlying182 rfl (by rw [wr_agg]; simp [hsz])
  · rw [this]
  · have hj : j < 129 := by have := (List.getElem?_eq_some_iff.1 hv).1; simp [hsz] at this; exact this
    rw [show (⟨b, i * 129, none⟩ : Addr).add j = (⟨b, 0, none⟩ : Addr).add (i * 129 + j) by unfold Addr.add; split <;> simp_all]
    refine h.cells (g := b) rfl _ _ ?_
    rw [← loos_at hl hi, List.getElem?_take, if_pos hj, List.getElem?_drop] at hv
    exact hv

set_option maxRecDepth 100000 in
set_option maxHeartbeats 4000000 in
theorem disk_sync {F : Foot} {w : World} {g : Nat} {d : Sp.Dk} (h : IsDk F w g d) (hf : d.fuse ≠ 0) (hl : d.loose.length ≤ 1000000) :
    Calls Tryz.prog 60 #[.pointer (some ⟨g, 0, none⟩)] w fun e w' => ∃ F', e = .returned (.int .i64 0) ∧ IsDk F' w' g d.synced ∧ d.synced.loose = [] ∧ Turns F F' w w' := by
  obtain ⟨h1, h2, a, v, h3, h4, h5, h6⟩ := h
  have HM := Lib.hid (disk_may h3 h1.some_ hf)
  have HB := Lib.hid (disk_burns h3 h2)
  have H5 := Lib.hid h5
  have H4 := Lib.hid h4
  have HD := Lib.hid h3
  have hlt := h3.lt
  have hwr := fun x hx => (h1.loose x hx).2
  have hne := own_ne h5 h3 (by decide)
  obtain ⟨p, c, rfl⟩ : ∃ p c, v = .slice p d.loose.length c := by
    rcases h5.2 with ⟨rfl, e⟩ | ⟨b, cap, _, e, _⟩
    · exact ⟨none, 0, by rw [e]⟩
    · exact ⟨_, _, e⟩
  clear h3 h4 h5
  go_enter Tryz.func60, Tryz.ntmps60
  go_wp2_with fail
  refine HM.out.mono ?_
  rintro e w1 ⟨rfl, hw⟩
  subst w1
  go_wp2_with fail
  refine HB.out.mono ?_
  rintro e w1 ⟨rfl, hB1, ht1⟩
  have b1 := hB1.cell 1
  have b0 := hB1.cell 0
  simp only [dkCells, zGA, zGB, zGC] at b0 b1
  have HO := Lib.hid (H5.out.kept ht1.grown_by (.inr hne))
  have HB1 := Lib.hid hB1
  have hlt1 := hB1.lt
  have H41 := Lib.hid (H4.out.turns ht1 (fun e => Blk.ne_ H4.out HD.out (by decide) e))
  clear hB1 H5
  go_wp2_with fail
  have HZ : Hid (∃ Z : Array Value, (Value.agg (#[.int .i64 0] ++ Array.replicate 128 (.int .u8 0))).cells = Z ∧ Z.size = 129) := ⟨_, rfl, rfl⟩
  obtain ⟨Z, hZ, hZs⟩ := HZ.out
  have hZ' := Lib.hid hZ
  have hZs' := Lib.hid hZs
  clear hZ hZs HZ
  obtain ⟨i0, hi0, hz00, hz10, hz20⟩ := info_parts wr_info
  have hi := Lib.hid hi0
  have hz0 := Lib.hid hz00
  clear hi0 hz00 hz10 hz20
  have HWF := Lib.hid hwr
  have HSU := Lib.hid h1.sure
  have HLK := Lib.hid (fun x hx => (h1.loose x hx).1)
  have hc0 := c
  clear hwr
  go_loopw [5, 18] (fun _ i wr => ∃ k : Nat, k ≤ d.loose.length ∧ i = .int .i64 k ∧ Blk wr a 180 (secs (Sp.lay (d.loose.take k) d.sure)).toArray ∧ Turns (only a) (only a) w1 wr) (fun _ i _ => d.loose.length - (intOf i).toNat)
  case atStart => exact ⟨0, by omega, rfl, by simpa [Sp.lay] using H41.out, Turns.refl _ _⟩
  case round =>
    obtain ⟨k, hk, rfl, hA, ht⟩ := hrel
    have hga : g ≠ a := fun e => Blk.ne_ HB1.out H41.out (by decide) e
    have HBr := HB1.out.turns ht hga
    have r0 := HBr.cell 0
    have r1 := HBr.cell 1
    have rf1 := HBr.frozen 1
    simp only [dkCells, zGA, zGB, zGC] at r0 r1
    have HBR := Lib.hid HBr
    have HA := Lib.hid hA
    clear HBr hA b0 b1
    by_cases hlt : k < d.loose.length
    · have hna := own_ne HO.out H41.out (by decide)
      obtain ⟨b, rfl⟩ : ∃ b, p = some ⟨b, 0, none⟩ := by
        rcases HO.out.2 with ⟨e, e2⟩ | ⟨b, cap, _, e, _⟩
        · omega
        · injection e with e; exact ⟨b, e⟩
      have hOr := HO.out.kept (w' := wr) (row := some a) ht.grown_by (.inr hna)
      have hld := wr_load hOr HWF.out hlt
      have hsx := HWF.out _ (List.getElem_mem hlt)
      have hkx := HLK.out _ (List.getElem_mem hlt)
      have htk : Hid (Sp.lay (d.loose.take (k + 1)) d.sure = (Sp.lay (d.loose.take k) d.sure).set d.loose[k].1 d.loose[k].2) := by
        rw [List.take_succ_eq_append_getElem hlt, Sp.lay_append]; rfl
      have HLD := Lib.hid hld
      have HSX := Lib.hid hsx
      clear hld hsx hOr
      generalize d.loose[k] = x at *
      obtain ⟨xk, xs⟩ := x
      dsimp only at *
      have HZS := Lib.hid (run_storeVar_part (P := Tryz.prog) (wr.alloc (.cells Z 182)) wr.heap.size 0 182 182 Z (wrC xk xs) (heap_alloc_new _ _) (by rw [wr_agg, wrC_size HSX.out]) (by rw [wrC_size HSX.out, hZs'.out]; exact Nat.le_refl _) (Array.all_eq_true_iff_forall_mem.2 fun u hu => wrC_one xk xs u (by simpa using hu)))
      rw [partRow_all (by rw [hZs'.out]; simpa using (wrC_size HSX.out).symm), World.setRow_alloc_new] at HZS
      go_wp2_with (first
        | ((with_reducible refine wpList_run (v := .agg (wrC xk xs)) (w' := wr) 21 rfl rfl ?_ ?_); exact run_op_load _ _ ⟨b, k * 129, none⟩ rfl rfl HLD.out; simp only [zSA, zSB, zSC])
        | ((with_reducible refine wpList_run (v := .pointer (some ⟨wr.heap.size, 0, none⟩)) (w' := wr.alloc (.cells Z 182)) 5 rfl rfl ?_ ?_); exact run_op_alloc _ i0 _ Z rfl hi.out hz0.out hZ'.out; simp only [zSA, zSB, zSC])
        | ((with_reducible refine wpList_skip (w' := wr.alloc (.cells (wrC xk xs) 182)) rfl rfl ?_ ?_); exact run_op_store _ _ _ ⟨wr.heap.size, 0, none⟩ _ rfl rfl rfl HZS.out))
      have hnew : wr.heap.size ≠ a := by have := HA.out.lt; omega
      have hB5 := Blk.new wr 182 (wrC xk xs)
      have hS0 : ((wr.alloc (.cells (wrC xk xs) 182)).drew.cell? ⟨g, 0, none⟩ = some (.slice (some ⟨a, 0, none⟩) d.sure.length d.sure.length)) ∧ ((wr.alloc (.cells (wrC xk xs) 182)).drew.cell? ⟨wr.heap.size, 0, none⟩ = some (.int .i64 (xk : Int))) ∧
          ((loadVar 180 ⟨wr.heap.size, 1, none⟩).run Tryz.prog (wr.alloc (.cells (wrC xk xs) 182)).drew = .ok (.agg (secC xs)) (wr.alloc (.cells (wrC xk xs) 182)).drew) := by
        refine ⟨((HBR.out.alloc (.cells (wrC xk xs) 182)).cell 0).trans (by simp [dkCells]), (hB5.cell 0).trans (wrC_cell0 xk xs), ?_⟩
        refine (run_loadVar_part (P := Tryz.prog) (wr.alloc (.cells (wrC xk xs) 182)).drew ⟨wr.heap.size, 1, none⟩ 180 (secC xs).toList _ (fun j v hv => ?_) Tryz.underlying180 rfl (by rw [sec_agg]; simp [secC_size HSX.out])).trans (by rw [Array.toArray_toList])
        rw [show (⟨wr.heap.size, 1, none⟩ : Addr).add j = ⟨wr.heap.size, 1 + j, none⟩ by unfold Addr.add; split <;> simp_all]
        exact (hB5.cell (1 + j)).trans ((wrC_cell xk xs j).trans (by simpa using hv))
      refine R_begin (fun W => (W.cell? ⟨g, 0, none⟩ = some (.slice (some ⟨a, 0, none⟩) d.sure.length d.sure.length)) ∧ (W.cell? ⟨wr.heap.size, 0, none⟩ = some (.int .i64 (xk : Int))) ∧
          ((loadVar 180 ⟨wr.heap.size, 1, none⟩).run Tryz.prog W = .ok (.agg (secC xs)) W)) (fun j => j == 9) (by kernel_rfl) ?_
      refine R_take 0 22 (v := ?_) rfl rfl (by rfl) (by kernel_rfl) (fun _ _ _ h => h) hS0 ?_ ?_
      rotate_left
      · intro w hSw; obtain ⟨hS1, hS2, hS3⟩ := hSw; clear hS3; go_simp; (try with_reducible rfl)
      simp only [zSA, zSB, zSC]
      refine R_take 1 23 (v := ?_) rfl rfl (by rfl) (by kernel_rfl) (fun _ _ _ h => h) hS0 ?_ ?_
      rotate_left
      · intro w hSw; obtain ⟨hS1, hS2, hS3⟩ := hSw; clear hS3; go_simp; (try with_reducible rfl)
      simp only [zSA, zSB, zSC]
      refine R_take 2 24 (v := ?_) rfl rfl (by rfl) (by kernel_rfl) (fun _ _ _ h => h) hS0 ?_ ?_
      rotate_left
      · intro w hSw; obtain ⟨hS1, hS2, hS3⟩ := hSw; clear hS3; go_simp; (try with_reducible rfl)
      simp only [zSA, zSB, zSC]
      refine R_take 3 25 (v := ?_) rfl rfl (by rfl) (by kernel_rfl) (fun _ _ _ h => h) hS0 ?_ ?_
      rotate_left
      · intro w hSw; obtain ⟨hS1, hS2, hS3⟩ := hSw; clear hS3; go_simp; (try with_reducible rfl)
      simp only [zSA, zSB, zSC]
      refine R_take 4 26 (v := ?_) rfl rfl (by rfl) (by kernel_rfl) (fun _ _ _ h => h) hS0 ?_ ?_
      rotate_left
      · intro w hSw; obtain ⟨hS1, hS2, hS3⟩ := hSw; clear hS3; go_simp; (try with_reducible rfl)
      simp only [zSA, zSB, zSC]
      refine R_take 5 27 (v := ?_) rfl rfl (by rfl) (by kernel_rfl) (fun _ _ _ h => h) hS0 ?_ ?_
      rotate_left
      · intro w hSw; obtain ⟨hS1, hS2, hS3⟩ := hSw; clear hS3; go_simp; (try with_reducible rfl)
      simp only [zSA, zSB, zSC]
      refine R_take 6 28 (v := ?_) rfl rfl (by rfl) (by kernel_rfl) (fun _ _ _ h => h) hS0 ?_ ?_
      rotate_left
      · intro w hSw; obtain ⟨hS1, hS2, hS3⟩ := hSw; clear hS3; go_simp; (try with_reducible rfl)
      simp only [zSA, zSB, zSC]
      refine R_take 7 29 (v := .agg (secC xs)) rfl rfl (by rfl) (by kernel_rfl) (fun _ _ _ h => h) hS0 (fun W hW => run_op_load _ _ ⟨wr.heap.size, 1, none⟩ rfl rfl hW.2.2) ?_
      simp only [zSA, zSB, zSC]
      refine R_take 8 30 (v := ?_) rfl rfl (by rfl) (by kernel_rfl) (fun _ _ _ h => h) hS0 ?_ ?_
      rotate_left
      · intro w hSw; obtain ⟨hS1, hS2, hS3⟩ := hSw; clear hS3; go_simp; (try with_reducible rfl)
      simp only [zSA, zSB, zSC]
      have HAn := (HA.out.alloc (.cells (wrC xk xs) 182)).drew
      have hlen : (Sp.lay (d.loose.take k) d.sure).length = d.sure.length := Sp.lay_length _ _
      have hall : ∀ s ∈ Sp.lay (d.loose.take k) d.sure, s.length = 128 := Sp.lay_all HSU.out (fun x hx => HWF.out x (List.mem_of_mem_take hx))
      have hst := run_storeVar_part (P := Tryz.prog) (wr.alloc (.cells (wrC xk xs) 182)).drew a (xk * 128) 180 180 (secs (Sp.lay (d.loose.take k) d.sure)).toArray (secC xs) HAn (by rw [sec_agg, secC_size HSX.out])
        (by rw [secC_size HSX.out, List.size_toArray, secs_length hall, hlen]; omega) (Array.all_eq_true_iff_forall_mem.2 fun u hu => by
          obtain ⟨b, _, rfl⟩ := List.mem_map.1 (show u ∈ bcs xs by simpa [secC] using hu); rfl)
      rw [partRow_secs hall (by omega) HSX.out, ← htk.out] at hst
      have hA2 := HAn.setRow (secs (Sp.lay (d.loose.take (k + 1)) d.sure)).toArray
      refine R_store 9 (n := .skip) rfl rfl (by rfl) (by kernel_rfl) (run_op_store _ _ _ ⟨a, xk * 128, none⟩ _ rfl rfl rfl hst) (.inl rfl) (fun h => absurd h (by decide)) ?_
      refine R_done (by kernel_rfl) ?_ _
      have hT2 := ((ht.alloc (.cells (wrC xk xs) 182)).drew).setRow (g := a) (.inl rfl) (secs (Sp.lay (d.loose.take (k + 1)) d.sure)).toArray
      have HA2 := Lib.hid hA2
      have HT2 := Lib.hid hT2
      clear hA2 hT2 hst hS0 HAn hall hlen hB5
      generalize (wr.alloc (.cells (wrC xk xs) 182)).drew.setRow a (secs (Sp.lay (d.loose.take (k + 1)) d.sure)).toArray = w5 at *
      go_wp2_with fail
      go_roundw
      case rel => exact ⟨k + 1, by omega, by go_num, HA2.out, HT2.out⟩
      case measure => simp [intOf]; omega
    · obtain rfl : k = d.loose.length := by omega
      rw [List.take_length] at HA
      go_wp2_with fail
      go_ret
      have hsl : d.synced.sure.length = d.sure.length := by simp [Sp.Dk.synced, Sp.Dk.view]
      have ht7 : Turns F F w (wr.setCell ⟨g, 1, none⟩ (.slice none 0 0)) :=
        ((ht1.wider (F := F) (fun b hb => (h6 b).2 (.inl hb)) (fun b hb => .inl hb)).trans (ht.wider (F := F) (fun b hb => (h6 b).2 (.inr (.inl hb))) (fun b hb => .inl hb))).setCell (p := ⟨g, 1, none⟩) (.inl ((h6 g).2 (.inl rfl))) (.slice none 0 0)
      refine ⟨fun b => b = g ∨ b = a, rfl, ⟨Sp.Dk.synced_wf h1, ?_, a, .slice none 0 0, ?_, HA.out.far (p := ⟨g, 1, none⟩) (fun e => hga e.symm) _, World.ownsRow_nil _ _ _ _, fun b => by simp [Value.ownBlock]⟩, rfl, ⟨ht7.os, ht7.tape, ht7.output, ht7.size, ht7.block, ?_⟩⟩
      · simp only [Sp.Dk.synced, Sp.burn]
        split <;> omega
      · rw [hsl]
        exact HBR.out.set_ 1 (.slice none 0 0)
      · rintro b (rfl | rfl)
        · exact .inl ((h6 b).2 (.inl rfl))
        · exact .inl ((h6 b).2 (.inr (.inl rfl)))
end Go.Proofs.YtndglfiepeefdaaGreat

/- The walks of package disk: Read, where nothing is loose. -/
namespace Go.Proofs.YtndglfiepeefdaaGreat
open Go.RowKit

theorem backward_any (p : Option Addr) (n c : Nat) (w : World) :
    Calls Tryz.prog 148 #[.slice p n c] w fun e w' => e = .returned (.func (.func 172) #[] #[.pointer (some ⟨w.heap.size, 0, none⟩)]) ∧ w' = w.alloc (.cells #[.slice p n c] 141) := by
  go_enter Tryz.func148, Tryz.ntmps148
  go_wp2_with fail
  go_ret
  exact ⟨rfl, rfl⟩

theorem secs_at {l : List Sp.Bs} (h : ∀ s ∈ l, s.length = 128) {i : Nat} (hi : i < l.length) {j : Nat} (hj : j < 128) : (secs l)[i * 128 + j]? = (bcs l[i])[j]? := by
  have e : l = l.take i ++ l[i] :: l.drop (i + 1) := by rw [← List.drop_eq_getElem_cons hi, List.take_append_drop]
  have h1 : (secs (l.take i)).length = i * 128 := by
    rw [secs_length (fun x hx => h x (List.mem_of_mem_take hx)), List.length_take, Nat.min_eq_left (by omega)]
  have h2 : (bcs l[i]).length = 128 := by rw [bcs_length]; exact h _ (List.getElem_mem hi)
  have e2 : secs l = secs (l.take i) ++ (bcs l[i] ++ secs (l.drop (i + 1))) := by
    conv => lhs; rw [e]
    rw [secs_append]; rfl
  rw [e2, List.getElem?_append_right (by omega), h1, Nat.add_sub_cancel_left, List.getElem?_append_left (by omega)]

theorem putObj_other (w : World) (D : Nat) (o : Obj) (b : Nat) (h : b ≠ D) : (w.putObj D o).heap[b]? = w.heap[b]? := World.putObj_heap_other h

set_option maxRecDepth 100000 in
set_option maxHeartbeats 2000000 in
theorem backward_none {n : Nat} {w : World} {B : Nat} {p : Option Addr} {c : Nat} (hc : w.cell? ⟨B, 0, none⟩ = some (.slice p 0 c)) (hB : B < w.heap.size) :
    SeqStopsA Fence.wide n Tryz.prog 172 #[.pointer (some ⟨B, 0, none⟩)] (fun _ : Empty => #[undef, undef]) (fun _ => True) (fun _ => False) 0 w := by
  intro l J Jx W hW hJ hJx hY h0
  have hcW := (hW.cell (p := ⟨B, 0, none⟩) hB).trans hc
  refine callsIn_wide.2 ?_
  clear hY hJ hJx
  simp only [List.append_toArray, List.cons_append, List.nil_append]
  go_enter Tryz.func172, Tryz.ntmps172
  go_wp2_with fail
  go_loop [3] (fun i => i = .int .i64 (-1)) (fun _ => 0)
  case atStart => rfl
  case round =>
    subst hrel
    go_wp2_with fail
    go_end0
    exact ⟨⟨_, rfl⟩, [], h0⟩

set_option maxRecDepth 100000 in
set_option maxHeartbeats 4000000 in
theorem disk_read {F : Foot} {w : World} {g : Nat} {d : Sp.Dk} (h : IsDk F w g d) (hf : d.fuse ≠ 0) (hl : d.loose = []) (k : Nat) (hk : k < d.sure.length) :
    Calls Tryz.prog 99 #[.pointer (some ⟨g, 0, none⟩), .int .i64 k] w fun e w' => e = .returned (.tuple #[str d.sure[k], .int .i64 0]) ∧ Below w.heap.size w w' := by
  obtain ⟨h1, h2, a, v, h3, h4, h5, h6⟩ := h
  have HM := Lib.hid fun W (h : Blk W g 143 (dkCells (.slice (some ⟨a, 0, none⟩) d.sure.length d.sure.length) v d.fuse)) => disk_may h h1.some_ hf
  have HD := Lib.hid h3
  have H4 := Lib.hid h4
  have hlt := h3.lt
  have hs := h1.sure _ (List.getElem_mem hk)
  have HS := Lib.hid hs
  obtain ⟨p, c, rfl⟩ : ∃ p c, v = .slice p 0 c := by
    rw [hl] at h5
    rcases h5.2 with ⟨rfl, e⟩ | ⟨b, cap, _, e, _⟩
    · exact ⟨none, 0, rfl⟩
    · exact ⟨_, _, e⟩
  have d1 : decide ((k : Int) < 0) = false := by simp
  have d2 : decide ((d.sure.length : Int) ≤ k) = false := by rw [decide_eq_false_iff_not]; omega
  clear h3 h4 h5 hl hs
  refine (callsIn_wide (n := 3)).1 ?_
  refine callsIn_of_wp_marks Tryz.func99 rfl trivial ?_ rfl
  rw [wpIn_wide]
  simp only [Tryz.ntmps99, List.size_toArray, List.length_cons, List.length_nil, Nat.reduceAdd, Nat.reduceSub, Array.replicate_succ, Array.replicate_zero, List.push_toArray, List.append_toArray, List.nil_append, List.cons_append]
  go_wp2_with fail
  obtain ⟨W0, hW0⟩ : ∃ W0, ((w.alloc (.cells #[.int .i64 k] 3)).alloc (.cells #[.string ⟨#[]⟩] 9)).alloc (.cells #[.int .i64 0] 37) = W0 := ⟨_, rfl⟩
  have b3 : Blk W0 w.heap.size 3 #[.int .i64 k] := by rw [← hW0]; exact ((Blk.new w _ _).alloc _).alloc _
  have b4 : Blk W0 (w.heap.size + 1) 9 #[.string ⟨#[]⟩] := by
    rw [← hW0]
    have := (Blk.new (w.alloc (.cells #[.int .i64 k] 3)) 9 #[.string ⟨#[]⟩]).alloc (.cells #[.int .i64 0] 37)
    rwa [World.size_alloc] at this
  have b5 : Blk W0 (w.heap.size + 1 + 1) 37 #[.int .i64 0] := by
    rw [← hW0]
    have := Blk.new ((w.alloc (.cells #[.int .i64 k] 3)).alloc (.cells #[.string ⟨#[]⟩] 9)) 37 #[.int .i64 0]
    rwa [World.size_alloc, World.size_alloc] at this
  have hbw0 : Below w.heap.size w W0 := by rw [← hW0]; exact (((Below.refl _ w).alloc (Nat.le_refl _) _).alloc (by simp) _).alloc (by simp; omega) _
  have hs0 : W0.heap.size = w.heap.size + 3 := by rw [← hW0]; simp
  rw [hW0]
  clear hW0
  have HS0 := Lib.hid hs0
  have hs0' : w.heap.size + 3 ≤ W0.heap.size := by omega
  clear hs0
  have hD0 := HD.out.below hbw0 hlt
  have hA0 := H4.out.below hbw0 H4.out.lt
  refine (HM.out _ hD0).mono ?_
  rintro e w1 ⟨rfl, hw⟩
  subst w1
  have c3 := b3.cell 0
  have c0 := hD0.cell 0
  have c1 := hD0.cell 1
  simp only [dkCells, zGA, zGB, zGC] at c0 c1 c3
  have B3 := Lib.hid b3
  have B4 := Lib.hid b4
  have B5 := Lib.hid b5
  have HD0 := Lib.hid hD0
  have HA0 := Lib.hid hA0
  clear b3 b4 b5 hD0 hA0
  go_wp2_with fail
  go_quiet (fail)
  go_wp2_with fail
  refine (backward_any _ _ _ _).mono ?_
  rintro e w2 ⟨rfl, rfl⟩
  go_wp2_with fail
  have hbq : Below w.heap.size w (W0.drewN nq) := below_drewN' hbw0 nq
  have hBox := Blk.new (W0.drewN nq) 141 #[.slice p 0 c]
  have HB3 := Lib.hid ((B3.out.drewN nq).alloc (.cells #[.slice p 0 c] 141))
  have HB4 := Lib.hid ((B4.out.drewN nq).alloc (.cells #[.slice p 0 c] 141))
  have HB5 := Lib.hid ((B5.out.drewN nq).alloc (.cells #[.slice p 0 c] 141))
  have HDq := Lib.hid ((HD0.out.drewN nq).alloc (.cells #[.slice p 0 c] 141))
  have HAq := Lib.hid ((HA0.out.drewN nq).alloc (.cells #[.slice p 0 c] 141))
  have hbw1 := hbq.alloc hbq.size (.cells #[.slice p 0 c] 141)
  have hcB := hBox.cell 0
  have hBlt := hBox.lt
  have hsz : w.heap.size + 3 < ((W0.drewN nq).alloc (.cells #[.slice p 0 c] 141)).heap.size := by simp; omega
  rw [show (W0.drewN nq).heap.size = W0.heap.size from rfl] at hcB hBlt
  clear hBox hbq B3 B4 B5 HD0 HA0 c0 c1 c3
  generalize (W0.drewN nq).alloc (.cells #[.slice p 0 c] 141) = W1 at *
  rw [← wpIn_wide (n := 3)]
  refine wpIn_rangeFunc_ownF (α := Empty) rfl (by decide) (gf := 172) (lb := #[.pointer (some ⟨W0.heap.size, 0, none⟩)]) rfl trivial (enters_of Tryz.func172 (by kernel_rfl) rfl)
    (seqStopsA_iff.1 (backward_none hcB hBlt)) (fun h k => walksK_t h k) walksK_b (Below.refl _ _) (fun x => x.elim) (fun _ W => Below W1.heap.size W1 W) (fun _ _ _ => False) (ownFrom_below (Nat.le_refl _) (Nat.le_refl _)) (fun _ _ _ _ _ h => h.elim) (Below.refl _ _) (fun x => x.elim) (fun _ x => x.elim) (fun _ _ x => x.elim) ?done (fun _ _ _ _ _ _ h => h.elim)
  case done =>
    intro D xs W hD _ hI hK
    have hB3 := HB3.out.below hI (by omega)
    have hB4 := HB4.out.below hI (by omega)
    have hB5 := HB5.out.below hI (by omega)
    have hDW := HDq.out.below hI (by omega)
    have hAW := HAq.out.below hI HAq.out.lt
    have hbW := hbw1.trans (hI.mono hbw1.size)
    have HK := Lib.hid hK
    clear hI hK
    go_wp2_with fail
    have c3 := hB3.cell 0
    have c0 := hDW.cell 0
    simp only [dkCells, List.getElem?_toArray, List.getElem?_cons_zero] at c0 c3
    have hcv : (convert 114 9 (.slice (some ⟨a, k * 128, none⟩) 128 128)).run Tryz.prog W.drew = .ok (str d.sure[k]) W.drew := by
      refine run_bytes_back W.drew _ _ 5 a (k * 128) 128 128 d.sure[k] Tryz.underlying114 Tryz.underlying5 Tryz.underlying9 HS.out.symm (fun j hj => ?_)
      refine (hAW.cell (k * 128 + j)).trans ?_
      rw [List.getElem?_toArray]
      have := secs_at h1.sure hk (show j < 128 by rw [HS.out] at hj; exact hj)
      rw [this, bcs_at _ _ hj]
    have hS0 : (W.drew.cell? ⟨g, 0, none⟩ = some (.slice (some ⟨a, 0, none⟩) d.sure.length d.sure.length)) ∧ (W.drew.cell? ⟨w.heap.size, 0, none⟩ = some (.int .i64 k)) ∧
        ((convert 114 9 (.slice (some ⟨a, k * 128, none⟩) 128 128)).run Tryz.prog W.drew = .ok (str d.sure[k]) W.drew) := ⟨c0, c3, hcv⟩
    have HAW := Lib.hid hAW
    have HB4 := Lib.hid hB4
    have HB5 := Lib.hid hB5
    clear c0 c3 hcv hAW hB3 hDW hB4 hB5
    refine wp_region_noPanic ?_
    refine R_begin (fun W => (W.cell? ⟨g, 0, none⟩ = some (.slice (some ⟨a, 0, none⟩) d.sure.length d.sure.length)) ∧ (W.cell? ⟨w.heap.size, 0, none⟩ = some (.int .i64 k)) ∧
        ((convert 114 9 (.slice (some ⟨a, k * 128, none⟩) 128 128)).run Tryz.prog W = .ok (str d.sure[k]) W)) (fun j => j == 8 || j == 9) (by kernel_rfl) ?_
    refine R_take 0 39 (v := ?_) rfl rfl (by rfl) (by kernel_rfl) (fun _ _ _ h => h) hS0 ?_ ?_
    rotate_left
    · intro w hSw; obtain ⟨hS1, hS2, hS3⟩ := hSw; go_simp; (try with_reducible rfl)
    simp only [zSA, zSB, zSC]
    refine R_take 1 40 (v := ?_) rfl rfl (by rfl) (by kernel_rfl) (fun _ _ _ h => h) hS0 ?_ ?_
    rotate_left
    · intro w hSw; obtain ⟨hS1, hS2, hS3⟩ := hSw; go_simp; (try with_reducible rfl)
    simp only [zSA, zSB, zSC]
    refine R_take 2 41 (v := ?_) rfl rfl (by rfl) (by kernel_rfl) (fun _ _ _ h => h) hS0 ?_ ?_
    rotate_left
    · intro w hSw; obtain ⟨hS1, hS2, hS3⟩ := hSw; go_simp; (try with_reducible rfl)
    simp only [zSA, zSB, zSC]
    refine R_take 3 42 (v := ?_) rfl rfl (by rfl) (by kernel_rfl) (fun _ _ _ h => h) hS0 ?_ ?_
    rotate_left
    · intro w hSw; obtain ⟨hS1, hS2, hS3⟩ := hSw; go_simp; (try with_reducible rfl)
    simp only [zSA, zSB, zSC]
    refine R_take 4 43 (v := ?_) rfl rfl (by rfl) (by kernel_rfl) (fun _ _ _ h => h) hS0 ?_ ?_
    rotate_left
    · intro w hSw; obtain ⟨hS1, hS2, hS3⟩ := hSw; go_simp; (try with_reducible rfl)
    simp only [zSA, zSB, zSC]
    refine R_take 5 44 (v := ?_) rfl rfl (by rfl) (by kernel_rfl) (fun _ _ _ h => h) hS0 ?_ ?_
    rotate_left
    · intro w hSw; obtain ⟨hS1, hS2, hS3⟩ := hSw; go_simp; (try with_reducible rfl)
    simp only [zSA, zSB, zSC]
    refine R_take 6 45 (v := ?_) rfl rfl (by rfl) (by kernel_rfl) (fun _ _ _ h => h) hS0 ?_ ?_
    rotate_left
    · intro w hSw; obtain ⟨hS1, hS2, hS3⟩ := hSw; go_simp; (try with_reducible rfl)
    simp only [zSA, zSB, zSC]
    refine R_take 7 46 (v := ?_) rfl rfl (by rfl) (by kernel_rfl) (fun _ _ _ h => h) hS0 ?_ ?_
    rotate_left
    · intro w hSw; obtain ⟨hS1, hS2, hS3⟩ := hSw; go_simp; (try with_reducible rfl)
    simp only [zSA, zSB, zSC]
    have f4 := HB4.out.drew.frozen 0
    have hc4 := HB4.out.drew.cell 0
    have f5 := HB5.out.frozen 0
    have hc5 := HB5.out.cell 0
    simp only [List.getElem?_toArray, List.getElem?_cons_zero] at hc4 hc5
    refine R_store 8 (n := .skip) (w' := W.drew.setCell ⟨w.heap.size + 1, 0, none⟩ (str d.sure[k])) rfl rfl (by rfl) (by kernel_rfl) (by go_simp) (.inl rfl) (fun h => absurd h (by decide)) ?_
    refine R_store 9 (n := .skip) (w' := (W.drew.setCell ⟨w.heap.size + 1, 0, none⟩ (str d.sure[k])).setCell ⟨w.heap.size + 1 + 1, 0, none⟩ (.int .i64 0)) rfl rfl (by rfl) (by kernel_rfl) (run_op_store _ _ _ ⟨w.heap.size + 1 + 1, 0, none⟩ _ rfl rfl rfl (by go_simp)) (.inl rfl) (fun h => absurd h (by decide)) ?_
    refine R_done (by kernel_rfl) (NoPanic.normal ?_) _
    go_wp2_with fail
    have b4 := ((HB4.out.drew.set_ 0 (str d.sure[k])).far (p := ⟨w.heap.size + 1 + 1, 0, none⟩) (by simp) (.int .i64 0))
    have b5 := ((HB5.out.drew.far (p := ⟨w.heap.size + 1, 0, none⟩) (by simp) (str d.sure[k])).set_ 0 (.int .i64 0))
    have hKD : ((W.drew.setCell ⟨w.heap.size + 1, 0, none⟩ (str d.sure[k])).setCell ⟨w.heap.size + 1 + 1, 0, none⟩ (.int .i64 0)).heap[D]? = some (.deferred (some [])) := by
      rw [Below.heap_setCell _ _ _ D (show D ≠ w.heap.size + 1 + 1 by omega), Below.heap_setCell _ _ _ D (show D ≠ w.heap.size + 1 by omega)]
      exact HK.out
    have hb7 : Below w.heap.size w ((W.drew.setCell ⟨w.heap.size + 1, 0, none⟩ (str d.sure[k])).setCell ⟨w.heap.size + 1 + 1, 0, none⟩ (.int .i64 0)) := (hbW.drew.setCell (by simp) _).setCell (by simp; omega) _
    clear hS0 HAW HB4 HB5 f4 f5 hc4 hc5
    generalize (W.drew.setCell ⟨w.heap.size + 1, 0, none⟩ (str d.sure[k])).setCell ⟨w.heap.size + 1 + 1, 0, none⟩ (.int .i64 0) = W7 at *
    refine ⟨by simp, .inl ⟨_, _, rfl, run_takeDeferred hKD, ?_⟩⟩
    have b4' : Blk (W7.putObj D (.deferred none)) (w.heap.size + 1) 9 #[str d.sure[k]] := b4.keep (putObj_other _ _ _ _ (by omega))
    have b5' : Blk (W7.putObj D (.deferred none)) (w.heap.size + 1 + 1) 37 #[.int .i64 0] := b5.keep (putObj_other _ _ _ _ (by omega))
    have hb8 : Below w.heap.size w (W7.putObj D (.deferred none)) := hb7.grown (grownBy_putObj' _ _ _) hb7.size (fun q e => by cases e; omega)
    have c4 := b4'.cell 0
    have c5 := b5'.cell 0
    simp only [List.getElem?_toArray, List.getElem?_cons_zero] at c4 c5
    refine ⟨.tuple #[str d.sure[k], .int .i64 0], ?_, rfl, hb8⟩
    simp [results, Tryz.results99, go_sem, c4, c5]
end Go.Proofs.YtndglfiepeefdaaGreat

/- The walks of package twin: placed, inside, clear, Read. -/
namespace Go.Proofs.YtndglfiepeefdaaGreat
open Go.RowKit

set_option maxRecDepth 100000 in
set_option maxHeartbeats 2000000 in
theorem twin_placed {F : Foot} {w : World} {g : Nat} {d : Sp.Dk} (h : IsDk F w g d) (at_ base : Nat) (h1 : at_ + 33 ≤ d.sure.length) (h2 : base ≤ d.sure.length) :
    Calls Tryz.prog 84 #[.pointer (some ⟨g, 0, none⟩), .int .i64 at_, .int .i64 base] w fun e w' => e = .returned (.int .i64 0) ∧ w' = w := by
  have hfew := h.wf.few
  have HL := Lib.hid (disk_len h)
  have d1 : decide ((at_ : Int) < 0) = false := by simp
  have d2 : decide ((base : Int) < 0) = false := by simp
  have d3 : decide ((d.sure.length : Int) - 33 < at_) = false := by rw [decide_eq_false_iff_not]; omega
  have d4 : decide ((d.sure.length : Int) < base) = false := by rw [decide_eq_false_iff_not]; omega
  clear h
  go_enter Tryz.func84, Tryz.ntmps84
  go_wp2_with fail
  refine HL.out.mono ?_
  rintro e w1 ⟨rfl, hw⟩
  subst w1
  go_wp2_with fail
  refine HL.out.mono ?_
  rintro e w1 ⟨rfl, hw⟩
  subst w1
  go_wp2_with fail
  go_ret
  exact ⟨rfl, rfl⟩

/-- A page's home lies on the disk, and apart from the area. -/
def Sp.inside (n at_ base page : Nat) : Prop := base + page * 4 + 4 ≤ n ∧ at_ + 33 ≤ base + page * 4

set_option maxRecDepth 100000 in
set_option maxHeartbeats 2000000 in
theorem twin_inside {F : Foot} {w : World} {g : Nat} {d : Sp.Dk} (h : IsDk F w g d) (at_ base page : Nat) (hp : page < 4294967296) (hi : Sp.inside d.sure.length at_ base page) :
    Calls Tryz.prog 143 #[.pointer (some ⟨g, 0, none⟩), .int .i64 at_, .int .i64 base, .int .u32 page] w fun e w' => e = .returned (.bool true) ∧ w' = w := by
  have hfew := h.wf.few
  obtain ⟨i1, i2⟩ := hi
  have HL := Lib.hid (disk_len h)
  have d1 : decide ((base : Int) + page * 4 + 4 ≤ d.sure.length) = true := by rw [decide_eq_true_eq]; omega
  have d2 : decide ((at_ : Int) + 33 ≤ base + page * 4) = true := by rw [decide_eq_true_eq]; omega
  clear h
  go_enter Tryz.func143, Tryz.ntmps143
  go_wp2_with fail
  refine HL.out.mono ?_
  rintro e w1 ⟨rfl, hw⟩
  subst w1
  go_wp2_with fail
  go_ret
  exact ⟨rfl, rfl⟩

/-- A row of noughts. -/
def zrow (n : Nat) : Array Value := (List.replicate n (Value.int .u8 0)).toArray

theorem u8_info2 : (Tryz.prog.info? 5).map (fun i => (i.zero, i.size, i.bytes)) = some (some (.int .u8 0), 1, 1) := by kernel_rfl

set_option maxRecDepth 100000 in
theorem run_zmake (n : Nat) (hn : n ≤ 1000000) (W : World) : (Instr.makeSlice 114 (.int .i64 (n : Int)) (.int .i64 (n : Int))).run Tryz.prog W = .ok (.slice (some ⟨W.heap.size, 0, none⟩) n n) (W.alloc (.cells (zrow n) 5)) := by
  obtain ⟨i0, hi, hz0, hz1, hz2⟩ := info_parts u8_info2
  have := run_make_rowN (P := Tryz.prog) 114 5 i0 (.int .u8 0) Tryz.underlying114 hi hz0 .i64 .i64 n n (Nat.le_refl _) (by rw [hz2]; omega) (by omega) W
  rw [this, hz1, Nat.mul_one]
  rw [show (Value.int IntKind.u8 0).cells = #[.int .u8 0] from rfl, madeCells_one]
  rfl

theorem run_zback (n : Nat) (W : World) : (convert 114 9 (.slice (some ⟨W.heap.size, 0, none⟩) n n)).run Tryz.prog (W.alloc (.cells (zrow n) 5)) = .ok (str (Sp.zeros n)) (W.alloc (.cells (zrow n) 5)) := by
  refine run_bytes_back _ _ _ 5 W.heap.size 0 n n (Sp.zeros n) Tryz.underlying114 Tryz.underlying5 Tryz.underlying9 (by simp [Sp.zeros]) (fun j hj => ?_)
  have hj' : j < n := by simpa [Sp.zeros] using hj
  refine ((Blk.new W 5 (zrow n)).cell (0 + j)).trans ?_
  simp [zrow, Sp.zeros, hj']

set_option maxRecDepth 100000 in
set_option maxHeartbeats 2000000 in
theorem twin_clear (w : World) :
    Calls Tryz.prog 90 #[] w fun e w' => e = .returned (str (Sp.zeros 128)) ∧ Below w.heap.size w w' := by
  have hmk := run_zmake 128 (by omega)
  have hbk := run_zback 128
  change ∀ W, (Instr.makeSlice 114 (.int .i64 128) (.int .i64 128)).run _ W = _ at hmk
  obtain ⟨z, hz⟩ : ∃ z, Sp.zeros 128 = z := ⟨_, rfl⟩
  rw [hz] at hbk ⊢
  clear hz
  go_enter Tryz.func90, Tryz.ntmps90
  go_wp2_with fail
  go_ret
  exact ⟨rfl, (Below.refl _ w).alloc (Nat.le_refl _) _⟩

/-- A page's bytes on the disk. -/
def Sp.pageAt (s : List Sp.Bs) (at_ : Nat) : Sp.Bs := ((s.drop at_).take 4).flatten

set_option maxRecDepth 100000 in
set_option maxHeartbeats 2000000 in
theorem twin_read {F : Foot} {w : World} {g : Nat} {d : Sp.Dk} (h : IsDk F w g d) (hf : d.fuse ≠ 0) (hl : d.loose = []) (base page : Nat) (hp : page < 4294967296) (hi : base + page * 4 + 4 ≤ d.sure.length) :
    Calls Tryz.prog 49 #[.pointer (some ⟨g, 0, none⟩), .int .i64 base, .int .u32 page] w fun e w' => e = .returned (.tuple #[str (Sp.pageAt d.sure (base + page * 4)), .int .i64 0]) ∧ Below w.heap.size w w' := by
  have hfew := h.wf.few
  have hsec := h.wf.sure
  have HL := Lib.hid (disk_len h)
  have HR := Lib.hid fun W (h : IsDk F W g d) => disk_read h hf hl
  have HD := Lib.hid h
  have HSC := Lib.hid hsec
  have d1 : decide ((base : Int) < 0) = false := by simp
  have d2 : decide ((d.sure.length : Int) < base) = false := by rw [decide_eq_false_iff_not]; omega
  have d3 : decide ((d.sure.length : Int) - 4 < base + page * 4) = false := by rw [decide_eq_false_iff_not]; omega
  clear h hf hl hsec
  go_enter Tryz.func49, Tryz.ntmps49
  go_wp2_with fail
  refine HL.out.mono ?_
  rintro e w1 ⟨rfl, hw⟩
  subst w1
  go_wp2_with fail
  refine HL.out.mono ?_
  rintro e w1 ⟨rfl, hw⟩
  subst w1
  go_wp2_with fail
  go_loopw [8, 9, 10, 11, 31] (fun s _ _ _ i wr => ∃ k : Nat, k ≤ 4 ∧ i = .int .i64 k ∧ s = str ((d.sure.drop (base + page * 4)).take k).flatten ∧ Below w.heap.size w wr) (fun _ _ _ _ i _ => 4 - (intOf i).toNat)
  case atStart => exact ⟨0, by omega, rfl, by simp, Below.refl _ _⟩
  case round =>
    obtain ⟨k, hk, rfl, rfl, hb⟩ := hrel
    by_cases hlt : k < 4
    · have hR := HR.out _ (HD.out.below hb) (base + page * 4 + k) (by omega)
      have htk : ((d.sure.drop (base + page * 4)).take (k + 1)).flatten = ((d.sure.drop (base + page * 4)).take k).flatten ++ d.sure[base + page * 4 + k] := by
        rw [List.take_succ_eq_append_getElem (by rw [List.length_drop]; omega), List.flatten_append]
        simp
      have hlen : (((d.sure.drop (base + page * 4)).take k).flatten).length ≤ 1000 := by
        have := flatten_length_all (fun x : Sp.Bs => x) 128 ((d.sure.drop (base + page * 4)).take k) (fun x hx => HSC.out x (List.mem_of_mem_drop (List.mem_of_mem_take hx)))
        rw [List.map_id'] at this
        rw [this, List.length_take]
        have := Nat.min_le_left k (d.sure.drop (base + page * 4)).length
        omega
      have hlen2 := HSC.out _ (List.getElem_mem (show base + page * 4 + k < d.sure.length by omega))
      have hlen3 : (d.sure[base + page * 4 + k]).length ≤ 128 := by omega
      have HTK := Lib.hid htk
      have HRR := Lib.hid hR
      clear htk hR hlen2
      generalize d.sure[base + page * 4 + k] = s1 at *
      generalize ((d.sure.drop (base + page * 4)).take k).flatten = s0 at *
      go_wp2_with fail
      refine HRR.out.mono ?_
      rintro e w1 ⟨rfl, hb1⟩
      go_wp2_with fail
      go_roundw
      case rel => exact ⟨k + 1, by omega, by go_num, by rw [HTK.out, str_append], hb.trans (hb1.mono hb.size)⟩
      case measure => simp [intOf]; omega
    · obtain rfl : k = 4 := by omega
      go_wp2_with fail
      go_ret2
      exact ⟨rfl, hb⟩
end Go.Proofs.YtndglfiepeefdaaGreat

/- The walks of package twin: the calls that write and sync (closures), one by one. -/
namespace Go.Proofs.YtndglfiepeefdaaGreat
open Go.RowKit

/-- What a call of twin's does to a disk. -/
inductive Sp.TAct
  | wr (k : Nat) (s : Sp.Bs)
  | sync

def Sp.Dk.act (d : Sp.Dk) : Sp.TAct → Sp.Dk
  | .wr k s => d.put k s
  | .sync => d.synced
def Sp.Dk.acts (d : Sp.Dk) (l : List Sp.TAct) : Sp.Dk := l.foldl Sp.Dk.act d
def Sp.TAct.ok (n : Nat) : Sp.TAct → Prop
  | .wr k s => k < n ∧ s.length = 128
  | .sync => True

/-- A pointer to a variable of its own. -/
abbrev ptr (b : Nat) : Value := .pointer (some ⟨b, 0, none⟩)

/-- A function value that does this to the disk in block g; its variables lie in G. -/
def IsAct (G : Foot) (w : World) (g : Nat) (v : Value) : Sp.TAct → Prop
  | .wr k s => (∃ b0 b1 b2 b3 p t j, v = .func (.func 144) #[] #[ptr b0, ptr b1, ptr b2, ptr b3] ∧ (G b0 ∧ G b1 ∧ G b2 ∧ G b3) ∧ Blk w b0 39 #[ptr g] ∧ Blk w b1 3 #[.int .i64 (k : Nat)] ∧
        Blk w b2 86 #[.int .u32 (p : Nat), str t] ∧ Blk w b3 3 #[.int .i64 (j : Nat)] ∧ j < 4 ∧ t.length = 512 ∧ s = (t.drop (j * 128)).take 128) ∨
      (∃ b0 b1 b2, v = .func (.func 145) #[] #[ptr b0, ptr b1, ptr b2] ∧ (G b0 ∧ G b1 ∧ G b2) ∧ Blk w b0 39 #[ptr g] ∧ Blk w b1 3 #[.int .i64 (k : Nat)] ∧ Blk w b2 9 #[str s])
  | .sync => v = .func (.func 60) #[ptr g] #[]

theorem IsAct.keep {G : Foot} {w w' : World} {g : Nat} {v : Value} {a : Sp.TAct} (h : IsAct G w g v a) (hk : ∀ b, G b → w'.heap[b]? = w.heap[b]?) : IsAct G w' g v a := by
  cases a with
  | sync => exact h
  | wr k s =>
    rcases h with ⟨b0, b1, b2, b3, p, t, j, e, ⟨g0, g1, g2, g3⟩, h0, h1, h2, h3, rest⟩ | ⟨b0, b1, b2, e, ⟨g0, g1, g2⟩, h0, h1, h2⟩
    · exact .inl ⟨b0, b1, b2, b3, p, t, j, e, ⟨g0, g1, g2, g3⟩, h0.keep (hk _ g0), h1.keep (hk _ g1), h2.keep (hk _ g2), h3.keep (hk _ g3), rest⟩
    · exact .inr ⟨b0, b1, b2, e, ⟨g0, g1, g2⟩, h0.keep (hk _ g0), h1.keep (hk _ g1), h2.keep (hk _ g2)⟩
theorem IsAct.mono {G G' : Foot} {w : World} {g : Nat} {v : Value} {a : Sp.TAct} (h : IsAct G w g v a) (hG : ∀ b, G b → G' b) : IsAct G' w g v a := by
  cases a with
  | sync => exact h
  | wr k s =>
    rcases h with ⟨b0, b1, b2, b3, p, t, j, e, ⟨g0, g1, g2, g3⟩, rest⟩ | ⟨b0, b1, b2, e, ⟨g0, g1, g2⟩, rest⟩
    · exact .inl ⟨b0, b1, b2, b3, p, t, j, e, ⟨hG _ g0, hG _ g1, hG _ g2, hG _ g3⟩, rest⟩
    · exact .inr ⟨b0, b1, b2, e, ⟨hG _ g0, hG _ g1, hG _ g2⟩, rest⟩

/-- What a call of such a value says. -/
abbrev ActPost (F : Foot) (w : World) (g : Nat) (d' : Sp.Dk) : Ending → World → Prop := fun e w' => ∃ F', e = .returned (.int .i64 0) ∧ IsDk F' w' g d' ∧ Turns F F' w w'

set_option maxRecDepth 100000 in
set_option maxHeartbeats 2000000 in
theorem marks1_any {F : Foot} {w : World} {g : Nat} {d : Sp.Dk} (h : IsDk F w g d) (k : Nat) (s : Sp.Bs) (hk : k < d.sure.length) (hs : s.length = 128) (hf : d.fuse ≠ 0) (hl : d.loose.length ≤ 1000000)
    {b0 b1 b2 : Nat} (h0 : Blk w b0 39 #[ptr g]) (h1 : Blk w b1 3 #[.int .i64 (k : Nat)]) (h2 : Blk w b2 9 #[str s]) :
    Calls Tryz.prog 145 #[ptr b0, ptr b1, ptr b2] w (ActPost F w g (d.put k s)) := by
  have HW := Lib.hid (disk_write h k s hk hs hf hl)
  have c0 := h0.cell 0
  have c1 := h1.cell 0
  have c2 := h2.cell 0
  simp only [List.getElem?_toArray, List.getElem?_cons_zero] at c0 c1 c2
  clear h h0 h1 h2 hk hs
  go_enter Tryz.func145, Tryz.ntmps145
  go_wp2_with fail
  refine HW.out.mono ?_
  rintro e w1 ⟨F', rfl, hD, ht⟩
  have H1 := Lib.hid hD
  have H2 := Lib.hid ht
  clear hD ht
  go_wp2_with fail
  go_ret
  exact ⟨F', rfl, H1.out, H2.out⟩

set_option maxRecDepth 100000 in
set_option maxHeartbeats 4000000 in
theorem homes1_any {F : Foot} {w : World} {g : Nat} {d : Sp.Dk} (h : IsDk F w g d) (k p j : Nat) (t : Sp.Bs) (hk : k < d.sure.length) (ht : t.length = 512) (hj : j < 4) (hf : d.fuse ≠ 0) (hl : d.loose.length ≤ 1000000)
    {b0 b1 b2 b3 : Nat} (h0 : Blk w b0 39 #[ptr g]) (h1 : Blk w b1 3 #[.int .i64 (k : Nat)]) (h2 : Blk w b2 86 #[.int .u32 (p : Nat), str t]) (h3 : Blk w b3 3 #[.int .i64 (j : Nat)]) (hb : ¬ F b0 ∧ ¬ F b1 ∧ ¬ F b2 ∧ ¬ F b3) :
    Calls Tryz.prog 144 #[ptr b0, ptr b1, ptr b2, ptr b3] w (ActPost F w g (d.put k ((t.drop (j * 128)).take 128))) := by
  have hsl : ((t.drop (j * 128)).take 128).length = 128 := by rw [List.length_take, List.length_drop]; omega
  have HW := Lib.hid fun W (h : IsDk F W g d) => disk_write h k ((t.drop (j * 128)).take 128) hk hsl hf hl
  have c0 := h0.cell 0
  have c1 := h1.cell 0
  have c2 := h2.cell 1
  have c3 := h3.cell 0
  simp only [List.getElem?_toArray, List.getElem?_cons_zero, List.getElem?_cons_succ] at c0 c1 c2 c3
  have HD := Lib.hid h
  have w1 : IntKind.i64.wrap ((j : Int) * 128) = j * 128 := IntWalk.i64_in _ (by omega)
  have w2 : IntKind.i64.wrap ((j : Int) + 1) = j + 1 := IntWalk.i64_in _ (by omega)
  have w3 : IntKind.i64.wrap (((j : Int) + 1) * 128) = (j + 1) * 128 := IntWalk.i64_in _ (by omega)
  have hcut : ∀ W, (Instr.slice 9 (str t) (some (.int .i64 ((j : Int) * 128))) (some (.int .i64 (((j : Int) + 1) * 128))) none).run Tryz.prog W = Result.ok (str ((t.drop (j * 128)).take 128)) W := fun W => by
    have := run_slice_string (P := Tryz.prog) (w := W) 9 ⟨t.toArray⟩ .i64 .i64 ((j : Int) * 128) (((j : Int) + 1) * 128) Tryz.underlying9 (by omega) (by omega) (by rw [str_size]; omega)
    rw [this, str_extract]
    congr 3
    rw [show (((j : Int) * 128).toNat) = j * 128 by omega, show ((((j : Int) + 1) * 128).toNat) - j * 128 = 128 by omega]
  have HC := Lib.hid hcut
  have H0 := Lib.hid h0.drew
  have H1 := Lib.hid h1.drew
  have H2 := Lib.hid h2.drew
  have H3 := Lib.hid h3.drew
  clear h h0 h1 h2 h3 hk hsl hcut ht
  go_enter Tryz.func144, Tryz.ntmps144
  go_wp2_with fail
  have hS0 : (w.drew.cell? ⟨b0, 0, none⟩ = some (ptr g)) ∧ (w.drew.cell? ⟨b1, 0, none⟩ = some (.int .i64 k)) ∧ (w.drew.cell? ⟨b2, 1, none⟩ = some (str t)) ∧ (w.drew.cell? ⟨b3, 0, none⟩ = some (.int .i64 j)) := ⟨c0, c1, c2, c3⟩
  refine R_begin (fun W => (W.cell? ⟨b0, 0, none⟩ = some (ptr g)) ∧ (W.cell? ⟨b1, 0, none⟩ = some (.int .i64 k)) ∧ (W.cell? ⟨b2, 1, none⟩ = some (str t)) ∧ (W.cell? ⟨b3, 0, none⟩ = some (.int .i64 j))) (fun _ => false) (by kernel_rfl) ?_
  refine R_take 0 5 (v := ?_) rfl rfl (by rfl) (by kernel_rfl) (fun _ _ _ h => h) hS0 ?_ ?_
  rotate_left
  · intro w hSw; obtain ⟨hS1, hS2, hS3, hS4⟩ := hSw; go_simp; (try with_reducible rfl)
  simp only [zSA, zSB, zSC]
  refine R_take 1 6 (v := ?_) rfl rfl (by rfl) (by kernel_rfl) (fun _ _ _ h => h) hS0 ?_ ?_
  rotate_left
  · intro w hSw; obtain ⟨hS1, hS2, hS3, hS4⟩ := hSw; go_simp; (try with_reducible rfl)
  simp only [zSA, zSB, zSC]
  refine R_take 2 7 (v := ?_) rfl rfl (by rfl) (by kernel_rfl) (fun _ _ _ h => h) hS0 ?_ ?_
  rotate_left
  · intro w hSw; obtain ⟨hS1, hS2, hS3, hS4⟩ := hSw; go_simp; (try with_reducible rfl)
  simp only [zSA, zSB, zSC]
  refine R_take 3 8 (v := ?_) rfl rfl (by rfl) (by kernel_rfl) (fun _ _ _ h => h) hS0 ?_ ?_
  rotate_left
  · intro w hSw; obtain ⟨hS1, hS2, hS3, hS4⟩ := hSw; go_simp; (try with_reducible rfl)
  simp only [zSA, zSB, zSC]
  refine R_take 4 9 (v := ?_) rfl rfl (by rfl) (by kernel_rfl) (fun _ _ _ h => h) hS0 ?_ ?_
  rotate_left
  · intro w hSw; obtain ⟨hS1, hS2, hS3, hS4⟩ := hSw; go_simp; (try with_reducible rfl)
  simp only [zSA, zSB, zSC]
  refine R_take 5 10 (v := .int .i64 ((j : Int) * 128)) rfl rfl (by rfl) (by kernel_rfl) (fun _ _ _ h => h) hS0 (fun W hSw => by obtain ⟨hS1, hS2, hS3, hS4⟩ := hSw; go_simp) ?_
  simp only [zSA, zSB, zSC]
  refine R_take 6 11 (v := ?_) rfl rfl (by rfl) (by kernel_rfl) (fun _ _ _ h => h) hS0 ?_ ?_
  rotate_left
  · intro w hSw; obtain ⟨hS1, hS2, hS3, hS4⟩ := hSw; go_simp; (try with_reducible rfl)
  simp only [zSA, zSB, zSC]
  refine R_take 7 12 (v := .int .i64 ((j : Int) + 1)) rfl rfl (by rfl) (by kernel_rfl) (fun _ _ _ h => h) hS0 (fun W hSw => by obtain ⟨hS1, hS2, hS3, hS4⟩ := hSw; go_simp) ?_
  simp only [zSA, zSB, zSC]
  refine R_take 8 13 (v := .int .i64 (((j : Int) + 1) * 128)) rfl rfl (by rfl) (by kernel_rfl) (fun _ _ _ h => h) hS0 (fun W hSw => by obtain ⟨hS1, hS2, hS3, hS4⟩ := hSw; go_simp) ?_
  simp only [zSA, zSB, zSC]
  refine R_take 9 14 (v := str ((t.drop (j * 128)).take 128)) rfl rfl (by rfl) (by kernel_rfl) (fun _ _ _ h => h) hS0 (fun W _ => run_op_slice _ _ _ _ rfl rfl rfl rfl ((run_sliceAt_string (P := Tryz.prog) (w := W) _ _ _ _ _ Tryz.underlying9).trans (HC.out W))) ?_
  simp only [zSA, zSB, zSC]
  refine R_call 10 15 (f := 112) (args := #[ptr g, .int .i64 k, str ((t.drop (j * 128)).take 128)]) (w' := w.drew) rfl rfl (by rfl) (by kernel_rfl) (by go_simp) (HW.out w.drew (HD.out.keep (fun _ _ => rfl))) (fun e w'' hR => ?_)
  obtain ⟨F', rfl, hD, htt⟩ := hR
  have hS1 : (w''.cell? ⟨b0, 0, none⟩ = some (ptr g)) ∧ (w''.cell? ⟨b1, 0, none⟩ = some (.int .i64 k)) ∧ (w''.cell? ⟨b2, 1, none⟩ = some (str t)) ∧ (w''.cell? ⟨b3, 0, none⟩ = some (.int .i64 j)) := by
    obtain ⟨n0, n1, n2, n3⟩ := hb
    exact ⟨(H0.out.turns htt n0).cell 0, (H1.out.turns htt n1).cell 0, (H2.out.turns htt n2).cell 1, (H3.out.turns htt n3).cell 0⟩
  refine ⟨_, rfl, fun _ => hS1, ?_⟩
  simp only [zSA, zSB, zSC]
  refine R_run 11 4 (v := .int .i64 0) (w' := w'') rfl rfl (by rfl) (by kernel_rfl) (by clear hS1; go_simp) (fun _ => hS1) ?_
  simp only [zSA, zSB, zSC]
  refine R_done (by kernel_rfl) ?_ _
  have H4 := Lib.hid hD
  have H5 : Hid (Turns F F' w w'') := Lib.hid (⟨htt.os, htt.tape, htt.output, htt.size, htt.block, htt.foot⟩)
  clear hD htt hS1
  go_wp2_with fail
  go_ret
  exact ⟨F', rfl, H4.out, H5.out⟩
end Go.Proofs.YtndglfiepeefdaaGreat

/- The walks of package twin: steps. -/
namespace Go.Proofs.YtndglfiepeefdaaGreat
open Go.RowKit

namespace Sp
theorem act_fuse (d : Dk) (a : TAct) (h : d.fuse = -1) : (d.act a).fuse = -1 := by
  cases a <;> simp [Dk.act, Dk.put, Dk.synced, burn, h]
theorem act_sure (d : Dk) (a : TAct) : (d.act a).sure.length = d.sure.length := by
  cases a <;> simp [Dk.act, Dk.put, Dk.synced, Dk.view]
theorem act_loose (d : Dk) (a : TAct) : (d.act a).loose.length ≤ d.loose.length + 1 := by
  cases a <;> simp [Dk.act, Dk.put, Dk.synced]
theorem acts_snoc (d : Dk) (l : List TAct) (a : TAct) : d.acts (l ++ [a]) = (d.acts l).act a := by simp [Dk.acts]
theorem acts_app (d : Dk) (l m : List TAct) : d.acts (l ++ m) = (d.acts l).acts m := by simp [Dk.acts]
theorem acts_fuse (d : Dk) (h : d.fuse = -1) : ∀ l, (d.acts l).fuse = -1 := fun l => by
  induction l generalizing d with
  | nil => exact h
  | cons a l ih => exact ih (d.act a) (act_fuse d a h)
theorem acts_sure (d : Dk) : ∀ l, (d.acts l).sure.length = d.sure.length := fun l => by
  induction l generalizing d with
  | nil => rfl
  | cons a l ih => exact (ih (d.act a)).trans (act_sure d a)
theorem acts_loose (d : Dk) : ∀ l, (d.acts l).loose.length ≤ d.loose.length + l.length := fun l => by
  induction l generalizing d with
  | nil => exact Nat.le_refl _
  | cons a l ih =>
    have h1 := ih (d.act a)
    have h2 := act_loose d a
    show (Dk.acts (d.act a) l).loose.length ≤ _
    rw [List.length_cons]
    omega
end Sp

/-- A list of such values. -/
def IsActs (G : Foot) (w : World) (g : Nat) (fs : List Value) (as_ : List Sp.TAct) : Prop :=
  fs.length = as_.length ∧ ∀ (i : Nat) (v : Value) (a : Sp.TAct), fs[i]? = some v → as_[i]? = some a → IsAct G w g v a

theorem IsActs.nil (G : Foot) (w : World) (g : Nat) : IsActs G w g [] [] := ⟨rfl, fun i v a h => by simp at h⟩
theorem IsActs.app {G : Foot} {w : World} {g : Nat} {fs hs : List Value} {as_ bs : List Sp.TAct} (h : IsActs G w g fs as_) (k : IsActs G w g hs bs) : IsActs G w g (fs ++ hs) (as_ ++ bs) := by
  refine ⟨by simp [h.1, k.1], fun i v a hv ha => ?_⟩
  rcases Nat.lt_or_ge i fs.length with hi | hi
  · rw [List.getElem?_append_left hi] at hv
    rw [List.getElem?_append_left (by rw [← h.1]; exact hi)] at ha
    exact h.2 i v a hv ha
  · rw [List.getElem?_append_right hi] at hv
    rw [List.getElem?_append_right (by rw [← h.1]; exact hi), ← h.1] at ha
    exact k.2 _ v a hv ha
theorem IsActs.one {G : Foot} {w : World} {g : Nat} {v : Value} {a : Sp.TAct} (h : IsAct G w g v a) : IsActs G w g [v] [a] := by
  refine ⟨rfl, fun i v' a' hv ha => ?_⟩
  cases i with
  | zero => simp at hv ha; subst hv ha; exact h
  | succ i => simp at hv
theorem IsActs.keep {G : Foot} {w w' : World} {g : Nat} {fs : List Value} {as_ : List Sp.TAct} (h : IsActs G w g fs as_) (hk : ∀ b, G b → w'.heap[b]? = w.heap[b]?) : IsActs G w' g fs as_ := ⟨h.1, fun i v a hv ha => (h.2 i v a hv ha).keep hk⟩
theorem IsActs.mono {G G' : Foot} {w : World} {g : Nat} {fs : List Value} {as_ : List Sp.TAct} (h : IsActs G w g fs as_) (hG : ∀ b, G b → G' b) : IsActs G' w g fs as_ := ⟨h.1, fun i v a hv ha => (h.2 i v a hv ha).mono hG⟩

set_option maxRecDepth 100000 in
set_option maxHeartbeats 4000000 in
theorem twin_steps {F G : Foot} {w : World} {g : Nat} {d : Sp.Dk} (h : IsDk F w g d) (hf : d.fuse = -1) {A : Option Addr} {c : Nat} {fs : List Value} {as_ : List Sp.TAct} (hR : Reads G w 1 A fs.length fs)
    (hA : IsActs G w g fs as_) (hG : Apart w F G) (hok : ∀ a ∈ as_, a.ok d.sure.length) (hn : d.loose.length + as_.length ≤ 1000000) :
    Calls Tryz.prog 89 #[.slice A fs.length c] w (ActPost F w g (d.acts as_)) := by
  have HD := Lib.hid h
  have HF := Lib.hid hf
  have HR := Lib.hid hR
  have HA := Lib.hid hA
  have HG := Lib.hid hG
  have HOK := Lib.hid hok
  have HLEN := Lib.hid hA.1
  have hlen : fs.length ≤ 1000000 := by rw [hA.1]; omega
  clear h hf hR hA hG hok
  go_enter Tryz.func89, Tryz.ntmps89
  go_wp2_with fail
  go_loopw [4, 5, 8] (fun _ _ i wr => ∃ (k : Nat) (F' : Foot), k ≤ fs.length ∧ i = .int .i64 k ∧ IsDk F' wr g (d.acts (as_.take k)) ∧ Turns F F' w wr) (fun _ _ i _ => fs.length - (intOf i).toNat)
  case atStart => exact ⟨0, F, by omega, rfl, by simpa [Sp.Dk.acts] using HD.out, Turns.refl _ _⟩
  case round =>
    obtain ⟨k, F1, hk, rfl, hD, ht⟩ := hrel
    by_cases hlt : k < fs.length
    · have hka : k < as_.length := by rw [← HLEN.out]; exact hlt
      have hsn : Hid (d.acts (as_.take (k + 1)) = (d.acts (as_.take k)).act as_[k]) := Lib.hid (by
        rw [List.take_succ_eq_append_getElem hka, Sp.acts_snoc])
      have hG1 := ht.apart HG.out
      obtain ⟨b, o, u, rfl, _, _, hu, hc⟩ := (HR.out.turns ht HG.out).at_ hlt
      have hAk := (HA.out.2 k u as_[k] hu (List.getElem?_eq_getElem hka)).keep (ht.keep HG.out)
      have hokk := HOK.out _ (List.getElem_mem hka)
      have hfu : (d.acts (as_.take k)).fuse ≠ 0 := by rw [Sp.acts_fuse d HF.out]; decide
      have hsu := Sp.acts_sure d (as_.take k)
      have hlo : (d.acts (as_.take k)).loose.length ≤ 1000000 := by
        have h1 := Sp.acts_loose d (as_.take k)
        rw [List.length_take] at h1
        have := Nat.min_le_right k as_.length
        omega
      have hmeas : k + 1 ≤ fs.length := hlt
      generalize hak : as_[k] = a at *
      cases a with
      | sync =>
        have e : u = _ := hAk
        subst e
        have HC := Lib.hid (disk_sync hD hfu hlo)
        have HT := Lib.hid ht
        clear hak hD ht hAk hu hsu hG1 hokk
        go_wp2_with fail
        refine HC.out.mono ?_
        rintro e w1 ⟨F2, rfl, hD1, _, ht1⟩
        have HD1 := Lib.hid hD1
        have HT1 := Lib.hid (HT.out.trans ht1)
        clear hD1 ht1
        go_wp2_with fail
        go_roundw
        case rel => exact ⟨k + 1, F2, hmeas, by go_num, by rw [hsn.out]; exact HD1.out, HT1.out⟩
        case measure => simp [intOf]; omega
      | wr q s =>
        obtain ⟨ok1, ok2⟩ := hokk
        rcases hAk with ⟨b0, b1, b2, b3, p, t, j, rfl, ⟨g0, g1, g2, g3⟩, h0, h1, h2, h3, hj, ht5, rfl⟩ | ⟨b0, b1, b2, rfl, ⟨g0, g1, g2⟩, h0, h1, h2⟩
        · have HC := Lib.hid (homes1_any hD q p j t (by rw [hsu]; exact ok1) ht5 hj hfu hlo h0 h1 h2 h3 ⟨(hG1 _ g0).2, (hG1 _ g1).2, (hG1 _ g2).2, (hG1 _ g3).2⟩)
          have HT := Lib.hid ht
          clear hak hD ht hu hsu hG1 h0 h1 h2 h3 ht5 ok2
          go_wp2_with fail
          refine HC.out.mono ?_
          rintro e w1 ⟨F2, rfl, hD1, ht1⟩
          have HD1 := Lib.hid hD1
          have HT1 := Lib.hid (HT.out.trans ht1)
          clear hD1 ht1
          go_wp2_with fail
          go_roundw
          case rel => exact ⟨k + 1, F2, hmeas, by go_num, by rw [hsn.out]; exact HD1.out, HT1.out⟩
          case measure => simp [intOf]; omega
        · have HC := Lib.hid (marks1_any hD q s (by rw [hsu]; exact ok1) ok2 hfu hlo h0 h1 h2)
          have HT := Lib.hid ht
          clear hak hD ht hu hsu hG1 h0 h1 h2 ok2
          go_wp2_with fail
          refine HC.out.mono ?_
          rintro e w1 ⟨F2, rfl, hD1, ht1⟩
          have HD1 := Lib.hid hD1
          have HT1 := Lib.hid (HT.out.trans ht1)
          clear hD1 ht1
          go_wp2_with fail
          go_roundw
          case rel => exact ⟨k + 1, F2, hmeas, by go_num, by rw [hsn.out]; exact HD1.out, HT1.out⟩
          case measure => simp [intOf]; omega
    · obtain rfl : k = fs.length := by omega
      rw [HLEN.out, List.take_length] at hD
      have HD1 := Lib.hid hD
      have HT1 := Lib.hid ht
      clear hD ht
      go_wp2_with fail
      go_ret
      exact ⟨F1, rfl, HD1.out, HT1.out⟩
end Go.Proofs.YtndglfiepeefdaaGreat

/- The walks of package twin: marks, homes. -/
namespace Go.Proofs.YtndglfiepeefdaaGreat
open Go.RowKit

theorem fn_info : (Tryz.prog.info? 119).map (fun i => (i.zero, i.size, i.bytes)) = some (some .nilFunc, 1, 8) := by kernel_rfl

set_option maxRecDepth 100000 in
set_option maxHeartbeats 2000000 in
theorem twin_marks {w : World} (g k : Nat) (s : Sp.Bs) :
    Calls Tryz.prog 87 #[ptr g, .int .i64 k, str s] w fun e w' => ∃ b c fs, e = .returned (.slice (some ⟨b, 0, none⟩) 2 c) ∧ w.heap.size ≤ b ∧ Blk w' b 119 fs.toArray ∧ fs.length = 2 ∧ (∀ u ∈ fs, u.oneCell' = true) ∧
      IsActs (fun b => w.heap.size ≤ b) w' g fs [.wr k s, .sync] ∧ Below w.heap.size w w' := by
  go_enter Tryz.func87, Tryz.ntmps87
  go_wp2_with fail
  go_ret
  have hb := (((((Below.refl _ w).alloc (Nat.le_refl _) (.cells #[ptr g] 39)).alloc (by simp) (.cells #[.int .i64 (k : Nat)] 3)).alloc (by simp; omega) (.cells #[str s] 9)).alloc (by simp; omega) (.cells #[.func (.func 145) #[] #[ptr w.heap.size, ptr (w.heap.size + 1), ptr (w.heap.size + 1 + 1)], .func (.func 60) #[ptr g] #[]] 119))
  have b0 := (((Blk.new w 39 #[ptr g]).alloc (.cells #[.int .i64 (k : Nat)] 3)).alloc (.cells #[str s] 9)).alloc (.cells #[.func (.func 145) #[] #[ptr w.heap.size, ptr (w.heap.size + 1), ptr (w.heap.size + 1 + 1)], .func (.func 60) #[ptr g] #[]] 119)
  have b1 := ((Blk.new (w.alloc (.cells #[ptr g] 39)) 3 #[.int .i64 (k : Nat)]).alloc (.cells #[str s] 9)).alloc (.cells #[.func (.func 145) #[] #[ptr w.heap.size, ptr (w.heap.size + 1), ptr (w.heap.size + 1 + 1)], .func (.func 60) #[ptr g] #[]] 119)
  have b2 := (Blk.new ((w.alloc (.cells #[ptr g] 39)).alloc (.cells #[.int .i64 (k : Nat)] 3)) 9 #[str s]).alloc (.cells #[.func (.func 145) #[] #[ptr w.heap.size, ptr (w.heap.size + 1), ptr (w.heap.size + 1 + 1)], .func (.func 60) #[ptr g] #[]] 119)
  have b3 := Blk.new (((w.alloc (.cells #[ptr g] 39)).alloc (.cells #[.int .i64 (k : Nat)] 3)).alloc (.cells #[str s] 9)) 119 #[.func (.func 145) #[] #[ptr w.heap.size, ptr (w.heap.size + 1), ptr (w.heap.size + 1 + 1)], .func (.func 60) #[ptr g] #[]]
  simp only [World.size_alloc] at b1 b2 b3
  refine ⟨_, 2, [.func (.func 145) #[] #[ptr w.heap.size, ptr (w.heap.size + 1), ptr (w.heap.size + 1 + 1)], .func (.func 60) #[ptr g] #[]], rfl, by omega, b3, rfl, ?_, ?_, hb⟩
  · intro u hu
    rcases List.mem_cons.1 hu with rfl | hu
    · rfl
    · rw [List.mem_singleton.1 hu]; rfl
  · exact (IsActs.one (a := .wr k s) (.inr ⟨_, _, _, rfl, ⟨Nat.le_refl _, by omega, by omega⟩, b0, b1, b2⟩)).app (IsActs.one (a := .sync) rfl)

/-- Homes as cells. -/
def hcs (l : List (Nat × Sp.Bs)) : List Value := (l.map fun x => [.int .u32 (x.1 : Nat), str x.2]).flatten
theorem hcs_length (l : List (Nat × Sp.Bs)) : (hcs l).length = l.length * 2 := flatten_length_all _ 2 l (fun _ _ => rfl)
theorem hcs_app (a b : List (Nat × Sp.Bs)) : hcs (a ++ b) = hcs a ++ hcs b := by simp [hcs]
theorem hcs_at {l : List (Nat × Sp.Bs)} {i : Nat} (hi : i < l.length) : (hcs l)[i * 2]? = some (.int .u32 (l[i].1 : Nat)) ∧ (hcs l)[i * 2 + 1]? = some (str l[i].2) := by
  have e : l = l.take i ++ l[i] :: l.drop (i + 1) := by rw [← List.drop_eq_getElem_cons hi, List.take_append_drop]
  have h1 : (hcs (l.take i)).length = i * 2 := by rw [hcs_length, List.length_take, Nat.min_eq_left (by omega)]
  have e2 : hcs l = hcs (l.take i) ++ ([.int .u32 (l[i].1 : Nat), str l[i].2] ++ hcs (l.drop (i + 1))) := by
    conv => lhs; rw [e]
    rw [hcs_app]; rfl
  rw [e2]
  constructor
  · rw [List.getElem?_append_right (by omega), h1, Nat.sub_self]; rfl
  · rw [List.getElem?_append_right (by omega), h1, show i * 2 + 1 - i * 2 = 1 by omega]; rfl

theorem Reads.home {G : Foot} {w : World} {A : Option Addr} {l : List (Nat × Sp.Bs)} (h : Reads G w 2 A l.length (hcs l)) {k : Nat} (hk : k < l.length) :
    ∃ b o, A = some ⟨b, o, none⟩ ∧ G b ∧ b < w.heap.size ∧ w.cell? ⟨b, o + k * 2, none⟩ = some (.int .u32 (l[k].1 : Nat)) ∧ w.cell? ⟨b, o + k * 2 + 1, none⟩ = some (str l[k].2) := by
  obtain ⟨b, o, e, hG, hb, hc⟩ := h.2 (by omega)
  have h2 := hcs_at hk
  exact ⟨b, o, e, hG, hb, hc _ _ h2.1, hc _ _ h2.2⟩

def Sp.homeActs (base : Nat) (x : Nat × Sp.Bs) : List Sp.TAct := (List.range 4).map fun j => .wr (base + x.1 * 4 + j) ((x.2.drop (j * 128)).take 128)
def Sp.homesActs (base : Nat) (l : List (Nat × Sp.Bs)) : List Sp.TAct := (l.map (Sp.homeActs base)).flatten

theorem Sp.homeActs_length (base : Nat) (x : Nat × Sp.Bs) : (Sp.homeActs base x).length = 4 := by simp [Sp.homeActs]
theorem Sp.homesActs_length (base : Nat) (l : List (Nat × Sp.Bs)) : (Sp.homesActs base l).length = l.length * 4 := flatten_length_all _ 4 l (fun _ _ => Sp.homeActs_length _ _)
theorem Sp.homesActs_app (base : Nat) (a b : List (Nat × Sp.Bs)) : Sp.homesActs base (a ++ b) = Sp.homesActs base a ++ Sp.homesActs base b := by simp [Sp.homesActs]
theorem Sp.homesActs_succ (base : Nat) (l : List (Nat × Sp.Bs)) (i : Nat) (hi : i < l.length) : Sp.homesActs base (l.take (i + 1)) = Sp.homesActs base (l.take i) ++ Sp.homeActs base l[i] := by
  rw [List.take_succ_eq_append_getElem hi, Sp.homesActs_app]; simp [Sp.homesActs]
theorem Sp.homeActs_succ (base : Nat) (x : Nat × Sp.Bs) (j : Nat) (hj : j < 4) : (Sp.homeActs base x).take (j + 1) = (Sp.homeActs base x).take j ++ [.wr (base + x.1 * 4 + j) ((x.2.drop (j * 128)).take 128)] := by
  rw [List.take_succ_eq_append_getElem (by rw [Sp.homeActs_length]; exact hj)]
  simp [Sp.homeActs]

theorem IsAct.grown {G : Foot} {w w' : World} {g : Nat} {v : Value} {a : Sp.TAct} {row : Option Nat} (h : IsAct G w g v a) (hg : w.grownBy w' row) (hr : ∀ r, row = some r → ∃ cs, Blk w r 119 cs) : IsAct G w' g v a := by
  have key : ∀ {b t cs}, Blk w b t cs → t ≠ 119 → Blk w' b t cs := fun {b t cs} hb hne => hb.grown hg (fun e => by
    obtain ⟨cs', hc⟩ := hr _ e.symm
    exact Blk.ne_ hb hc hne rfl)
  cases a with
  | sync => exact h
  | wr k s =>
    rcases h with ⟨b0, b1, b2, b3, p, t, j, e, hG, h0, h1, h2, h3, rest⟩ | ⟨b0, b1, b2, e, hG, h0, h1, h2⟩
    · exact .inl ⟨b0, b1, b2, b3, p, t, j, e, hG, key h0 (by decide), key h1 (by decide), key h2 (by decide), key h3 (by decide), rest⟩
    · exact .inr ⟨b0, b1, b2, e, hG, key h0 (by decide), key h1 (by decide), key h2 (by decide)⟩
theorem IsActs.grown {G : Foot} {w w' : World} {g : Nat} {fs : List Value} {as_ : List Sp.TAct} {row : Option Nat} (h : IsActs G w g fs as_) (hg : w.grownBy w' row) (hr : ∀ r, row = some r → ∃ cs, Blk w r 119 cs) : IsActs G w' g fs as_ :=
  ⟨h.1, fun i v a hv ha => (h.2 i v a hv ha).grown hg hr⟩
theorem IsActs.below {G : Foot} {w w' : World} {g : Nat} {fs : List Value} {as_ : List Sp.TAct} (h : IsActs G w g fs as_) (hb : Below w.heap.size w w') : IsActs G w' g fs as_ :=
  h.grown (row := none) ⟨hb.os, hb.tape, hb.output, hb.size, fun b hb' _ => hb.block b hb'⟩ (fun r e => by cases e)

theorem own_blk {w : World} {base e size n : Nat} {v : Value} {xs : List Value} (h : w.ownsRow base e size v n xs) : ∀ r, v.ownBlock = some r → ∃ cs, Blk w r e cs := by
  intro r hr
  rcases h.2 with ⟨rfl, _⟩ | ⟨b, cap, cur, rfl, _, hh, _⟩
  · cases hr
  · have : b = r := by simpa [Value.ownBlock] using hr
    subst this
    exact ⟨cur, hh⟩

set_option maxRecDepth 100000 in
set_option maxHeartbeats 4000000 in
theorem twin_homes {G : Foot} {w : World} (g base : Nat) {A : Option Addr} {c : Nat} {l : List (Nat × Sp.Bs)} (hR : Reads G w 2 A l.length (hcs l)) (hl : l.length ≤ 1000) (hp : ∀ x ∈ l, x.1 < 4294967296 ∧ x.2.length = 512) (hb : base ≤ 1000000) :
    Calls Tryz.prog 86 #[ptr g, .int .i64 base, .slice A l.length c] w fun e w' => ∃ v fs, e = .returned v ∧ w'.ownsRow w.heap.size 119 1 v (l.length * 4 + 1) fs ∧
      IsActs (fun b => w.heap.size ≤ b) w' g fs (Sp.homesActs base l ++ [.sync]) ∧ Below w.heap.size w w' := by
  obtain ⟨i0, hi, hz0, hz1, hz2⟩ := info_parts fn_info
  have HR := Lib.hid hR
  have HP := Lib.hid hp
  clear hR hp
  go_enter Tryz.func86, Tryz.ntmps86
  go_wp2_with fail
  have hbx0 : Hid (Blk (w.alloc (.cells #[ptr g] 39)) w.heap.size 39 #[ptr g]) := Blk.new w _ _
  have hbw0 := (Below.refl _ w).alloc (Nat.le_refl _) (.cells #[ptr g] 39)
  have hs0 : w.heap.size < (w.alloc (.cells #[ptr g] 39)).heap.size := by simp
  generalize w.alloc (.cells #[ptr g] 39) = w1 at *
  go_loopw [6, 8, 9, 10, 13, 17] (fun v _ _ _ i _ wr => ∃ (k : Nat) (fs : List Value), k ≤ l.length ∧ i = .int .i64 k ∧ wr.ownsRow w.heap.size 119 1 v (k * 4) fs ∧
      IsActs (fun b => w.heap.size ≤ b) wr g fs (Sp.homesActs base (l.take k)) ∧ Below w.heap.size w wr ∧ Blk wr w.heap.size 39 #[ptr g]) (fun _ _ _ _ i _ _ => l.length - (intOf i).toNat)
  case atStart => exact ⟨0, [], by omega, rfl, by simpa using World.ownsRow_nil _ _ _ _, by simpa [Sp.homesActs] using IsActs.nil _ _ _, hbw0, hbx0.out⟩
  case round =>
    obtain ⟨wo, rfl⟩ : ∃ wo : World, wo = wr := ⟨_, rfl⟩
    obtain ⟨k, fs, hk, rfl, hO, hA, hbr, hB⟩ := hrel
    by_cases hlt : k < l.length
    · obtain ⟨b, o, rfl, _, _, r0, r1⟩ := (Reads.below HR.out hbr).home hlt
      have hpk := HP.out _ (List.getElem_mem hlt)
      have hp1 : l[k].1 < 4294967296 := hpk.1
      have htx := Lib.hid hpk.2
      have hsn := Lib.hid (Sp.homesActs_succ base l k hlt)
      have hmeas : k + 1 ≤ l.length := hlt
      clear hpk
      generalize hx : l[k] = x at *
      obtain ⟨p, t⟩ := x
      dsimp only at *
      have hB8 := Lib.hid (Blk.new wo 86 #[.int .u32 (p : Nat), str t])
      have hA8 := Lib.hid (hA.below ((Below.refl _ wo).alloc (Nat.le_refl _) (.cells #[.int .u32 (p : Nat), str t] 86)))
      have hO8 := Lib.hid (hO.alloc (.cells #[.int .u32 (p : Nat), str t] 86))
      have hBx := Lib.hid (hB.alloc (.cells #[.int .u32 (p : Nat), str t] 86))
      have hbr8 := hbr.alloc hbr.size (.cells #[.int .u32 (p : Nat), str t] 86)
      have hs8 : wo.heap.size < (wo.alloc (.cells #[.int .u32 (p : Nat), str t] 86)).heap.size := by simp
      have hs9 := hbr.size
      clear hx hO hA hB
      go_wp2_with fail
      obtain ⟨w8, hw8⟩ : ∃ w8, wo.alloc (.cells #[.int .u32 (p : Nat), str t] 86) = w8 := ⟨_, rfl⟩
      rw [hw8] at hB8 hA8 hO8 hBx hbr8 hs8 ⊢
      clear r0 r1 hw8
      go_loopw [6, 9, 10, 17] (fun v _ _ j W => ∃ (q : Nat) (fs : List Value), q ≤ 4 ∧ j = .int .i64 q ∧ W.ownsRow w.heap.size 119 1 v (k * 4 + q) fs ∧
        IsActs (fun b => w.heap.size ≤ b) W g fs (Sp.homesActs base (l.take k) ++ (Sp.homeActs base (p, t)).take q) ∧ Below w.heap.size w W ∧ Blk W w.heap.size 39 #[ptr g] ∧ Blk W wo.heap.size 86 #[.int .u32 (p : Nat), str t]) (fun _ _ _ j _ => 4 - (intOf j).toNat)
      case atStart => exact ⟨0, fs, by omega, rfl, hO8.out, by simpa using hA8.out, hbr8, hBx.out, hB8.out⟩
      case round =>
        obtain ⟨q, fs2, hq, rfl, hO, hA, hbr9, hB, hB2⟩ := hrel
        by_cases hlt2 : q < 4
        · have c2 := hB2.cell 0
          simp only [List.getElem?_toArray, List.getElem?_cons_zero] at c2
          have hlt8 := hB2.lt
          have hlt0 := hB.lt
          have hsn2 := Lib.hid (Sp.homeActs_succ base (p, t) q hlt2)
          have HO := Lib.hid (((hO.alloc (.cells #[.int .i64 (q : Nat)] 3)).alloc (.cells #[.int .i64 ((base : Int) + p * 4 + q)] 3)).alloc (.cells #[.func (.func 144) #[] #[ptr w.heap.size, ptr (wr.heap.size + 1), ptr wo.heap.size, ptr wr.heap.size]] 119))
          have HB := Lib.hid (((hB.alloc (.cells #[.int .i64 (q : Nat)] 3)).alloc (.cells #[.int .i64 ((base : Int) + p * 4 + q)] 3)).alloc (.cells #[.func (.func 144) #[] #[ptr w.heap.size, ptr (wr.heap.size + 1), ptr wo.heap.size, ptr wr.heap.size]] 119))
          have HB2 := Lib.hid (((hB2.alloc (.cells #[.int .i64 (q : Nat)] 3)).alloc (.cells #[.int .i64 ((base : Int) + p * 4 + q)] 3)).alloc (.cells #[.func (.func 144) #[] #[ptr w.heap.size, ptr (wr.heap.size + 1), ptr wo.heap.size, ptr wr.heap.size]] 119))
          have hbW : Below wr.heap.size wr (((wr.alloc (.cells #[.int .i64 (q : Nat)] 3)).alloc (.cells #[.int .i64 ((base : Int) + p * 4 + q)] 3)).alloc (.cells #[.func (.func 144) #[] #[ptr w.heap.size, ptr (wr.heap.size + 1), ptr wo.heap.size, ptr wr.heap.size]] 119)) := (((Below.refl _ wr).alloc (Nat.le_refl _) _).alloc (by simp) _).alloc (by simp; omega) _
          have HA := Lib.hid (hA.below hbW)
          have hbr10 := hbr9.trans (hbW.mono hbr9.size)
          have B9 := Lib.hid (((Blk.new wr 3 #[.int .i64 (q : Nat)]).alloc (.cells #[.int .i64 ((base : Int) + p * 4 + q)] 3)).alloc (.cells #[.func (.func 144) #[] #[ptr w.heap.size, ptr (wr.heap.size + 1), ptr wo.heap.size, ptr wr.heap.size]] 119))
          have B10 : Hid (Blk (((wr.alloc (.cells #[.int .i64 (q : Nat)] 3)).alloc (.cells #[.int .i64 ((base : Int) + p * 4 + q)] 3)).alloc (.cells #[.func (.func 144) #[] #[ptr w.heap.size, ptr (wr.heap.size + 1), ptr wo.heap.size, ptr wr.heap.size]] 119)) (wr.heap.size + 1) 3 #[.int .i64 ((base : Int) + p * 4 + q)]) := by
            have := (Blk.new (wr.alloc (.cells #[.int .i64 (q : Nat)] 3)) 3 #[.int .i64 ((base : Int) + p * 4 + q)]).alloc (.cells #[.func (.func 144) #[] #[ptr w.heap.size, ptr (wr.heap.size + 1), ptr wo.heap.size, ptr wr.heap.size]] 119)
            rw [World.size_alloc] at this
            exact this
          have hs10 := hbr9.size
          clear hO hA hB hB2 hbW
          go_wp2_with (at_builtin; refine wpList_append_own _ rfl _ _ 156 rfl w.heap.size 119 i0 .nilFunc 1 8 Tryz.underlying156 hi hz0 hz1 hz2 rfl (by decide) _ _ _ rfl HO.out ⟨wr.heap.size + 1 + 1, 0, none⟩ 1 1 [.func (.func 144) #[] #[ptr w.heap.size, ptr (wr.heap.size + 1), ptr wo.heap.size, ptr wr.heap.size]] rfl rfl (by have := cell_one_new ((wr.alloc (.cells #[.int .i64 (q : Nat)] 3)).alloc (.cells #[.int .i64 ((base : Int) + p * 4 + q)] 3)) (.func (.func 144) #[] #[ptr w.heap.size, ptr (wr.heap.size + 1), ptr wo.heap.size, ptr wr.heap.size]) 119; simpa only [World.size_alloc] using this) (fun x hx => by simp at hx; subst hx; rfl) (by unfold maxLen; omega) (by omega) (by simp; omega) ?_)
          intro v' w6 hown hgrow hnil
          have hrowb := own_blk HO.out
          have hA6 := HA.out.grown hgrow hrowb
          have hne9 : ∀ {b t cs}, Blk (((wr.alloc (.cells #[.int .i64 (q : Nat)] 3)).alloc (.cells #[.int .i64 ((base : Int) + p * 4 + q)] 3)).alloc (.cells #[.func (.func 144) #[] #[ptr w.heap.size, ptr (wr.heap.size + 1), ptr wo.heap.size, ptr wr.heap.size]] 119)) b t cs → t ≠ 119 → Blk w6 b t cs := fun {b t cs} hb hne => hb.grown hgrow (fun e => by
            obtain ⟨cs', hc⟩ := hrowb _ e.symm
            exact Blk.ne_ hb hc hne rfl)
          have h0 := hne9 HB.out (by decide)
          have h1 := hne9 B10.out (by decide)
          have h2 := hne9 HB2.out (by decide)
          have h3 := hne9 B9.out (by decide)
          have hb6 : Below w.heap.size w w6 := hbr10.grown hgrow hbr10.size (fun r e => (HO.out.lt r e).1)
          rw [show ((base : Int) + p * 4 + q) = ((base + p * 4 + q : Nat) : Int) by omega] at h1
          have hact : IsAct (fun b => w.heap.size ≤ b) w6 g (.func (.func 144) #[] #[ptr w.heap.size, ptr (wr.heap.size + 1), ptr wo.heap.size, ptr wr.heap.size]) (.wr (base + p * 4 + q) ((t.drop (q * 128)).take 128)) :=
            .inl ⟨_, _, _, _, p, t, q, rfl, ⟨Nat.le_refl _, by omega, by omega, by omega⟩, h0, h1, h2, h3, hlt2, htx.out, rfl⟩
          have HA7 := Lib.hid (hA6.app (IsActs.one hact))
          rw [List.append_assoc, ← hsn2.out] at HA7
          have HO7 := Lib.hid hown
          have H0 := Lib.hid h0
          have H2 := Lib.hid h2
          obtain ⟨g7, c7, rfl⟩ := own_form hown
          clear hnil hown hgrow hrowb hne9 hA6 h0 h1 h2 h3 hact c2
          go_wp2_with fail
          go_roundw
          case rel => exact ⟨q + 1, _, by omega, by go_num, HO7.out, HA7.out, hb6, H0.out, H2.out⟩
          case measure => simp [intOf]; omega
        · obtain rfl : q = 4 := by omega
          have h4 : (Sp.homeActs base (p, t)).take 4 = Sp.homeActs base (p, t) := List.take_of_length_le (by rw [Sp.homeActs_length]; exact Nat.le_refl _)
          rw [h4, ← hsn.out] at hA
          clear h4
          have HO7 := Lib.hid hO
          have HA7 := Lib.hid hA
          have H0 := Lib.hid hB
          clear hO hA hB hB2
          go_wp2_with fail
          go_roundw
          case rel => exact ⟨k + 1, _, hmeas, by go_num, by rw [show (k + 1) * 4 = k * 4 + 4 by omega]; exact HO7.out, HA7.out, hbr9, H0.out⟩
          case measure => simp [intOf]; omega
    · obtain rfl : k = l.length := by omega
      rw [List.take_length] at hA
      have c0 := hB.cell 0
      simp only [List.getElem?_toArray, List.getElem?_cons_zero] at c0
      have HA := Lib.hid (hA.below ((Below.refl _ wo).alloc (Nat.le_refl _) (.cells #[.func (.func 60) #[ptr g] #[]] 119)))
      have HO := Lib.hid (hO.alloc (.cells #[.func (.func 60) #[ptr g] #[]] 119))
      have hbr2 := hbr.alloc hbr.size (.cells #[.func (.func 60) #[ptr g] #[]] 119)
      have hs9 := hbr.size
      clear hA hO
      go_wp2_with (at_builtin; refine wpList_append_own _ rfl _ _ 156 rfl w.heap.size 119 i0 .nilFunc 1 8 Tryz.underlying156 hi hz0 hz1 hz2 rfl (by decide) _ _ _ rfl HO.out ⟨wo.heap.size, 0, none⟩ 1 1 [.func (.func 60) #[ptr g] #[]] rfl rfl (cell_one_new _ _ _) (fun x hx => by simp at hx; subst hx; rfl) (by unfold maxLen; omega) (by omega) (by simp; omega) ?_)
      intro v' w6 hown hgrow hnil
      have hA6 := (HA.out.grown hgrow (own_blk HO.out)).app (IsActs.one (a := .sync) (v := .func (.func 60) #[ptr g] #[]) rfl)
      have hb6 : Below w.heap.size w w6 := hbr2.grown hgrow hbr2.size (fun r e => (HO.out.lt r e).1)
      have HA7 := Lib.hid hA6
      have HO7 := Lib.hid hown
      obtain ⟨g7, c7, rfl⟩ := own_form hown
      clear hnil hown hgrow hA6 c0
      go_wp2_with fail
      go_ret
      exact ⟨_, _, rfl, HO7.out, HA7.out, hb6⟩
end Go.Proofs.YtndglfiepeefdaaGreat

/- The walks of package twin: mark. -/
namespace Go.Proofs.YtndglfiepeefdaaGreat
open Go.RowKit

namespace Sp
def markHead (l : List (Nat × Bs)) : Bs := [1, UInt8.ofNat l.length] ++ (l.map fun x => be 4 x.1).flatten
def markBs (l : List (Nat × Bs)) : Bs := sealed (markHead l ++ zeros (124 - (markHead l).length))
theorem markHead_length (l : List (Nat × Bs)) : (markHead l).length = 2 + 4 * l.length := by
  unfold markHead
  rw [List.length_append, flatten_length_all _ 4 l (fun _ _ => be_length 4 _)]
  simp; omega
theorem markBs_length {l : List (Nat × Bs)} (h : l.length ≤ 8) : (markBs l).length = 128 := by
  unfold markBs
  rw [sealed_length, List.length_append, markHead_length]
  simp only [zeros, List.length_replicate]
  omega
end Sp

set_option maxRecDepth 100000 in
set_option maxHeartbeats 4000000 in
theorem twin_mark {G : Foot} {w : World} {A : Option Addr} {c : Nat} {l : List (Nat × Sp.Bs)} (hR : Reads G w 2 A l.length (hcs l)) (hl : l.length ≤ 8) (hp : ∀ x ∈ l, x.1 < 4294967296) :
    Calls Tryz.prog 88 #[.slice A l.length c] w fun e w' => e = .returned (str (Sp.markBs l)) ∧ Below w.heap.size w w' := by
  have HR := Lib.hid hR
  have HP := Lib.hid hp
  have hbk : ∀ W : World, (convert 114 9 (.slice (some ⟨W.heap.size, 0, none⟩) 2 2)).run Tryz.prog (W.alloc (.cells #[.int .u8 1, .int .u8 (l.length : Nat)] 5)) = .ok (str [1, UInt8.ofNat l.length]) (W.alloc (.cells #[.int .u8 1, .int .u8 (l.length : Nat)] 5)) := fun W => by
    refine run_bytes_back _ _ _ 5 W.heap.size 0 2 2 [1, UInt8.ofNat l.length] Tryz.underlying114 Tryz.underlying5 Tryz.underlying9 rfl (fun j hj => ?_)
    refine ((Blk.new W 5 #[.int .u8 1, .int .u8 (l.length : Nat)]).cell (0 + j)).trans ?_
    match j, hj with
    | 0, _ => rfl
    | 1, _ =>
      simp only [List.getElem?_toArray, Nat.zero_add, List.getElem?_cons_succ, List.getElem?_cons_zero, List.getElem_cons_succ, List.getElem_cons_zero, UInt8.toNat_ofNat']
      rw [Nat.mod_eq_of_lt (by omega)]
  have HW : Hid (∀ (p : Nat) (W : World), p < 4294967296 → Calls Tryz.prog 110 #[.int .u64 (p : Nat), .int .i64 4] W fun e w' => e = .returned (.tuple #[str (Sp.be 4 p), .bool true]) ∧ Below W.heap.size W w') := fun p W hp => word_put p 4 W (by omega) (by omega) (by omega) (by omega)
  have hmk := run_zmake (124 - (Sp.markHead l).length) (by omega)
  have hzb := run_zback (124 - (Sp.markHead l).length)
  have hml := Sp.markHead_length l
  rw [show ((124 - (Sp.markHead l).length : Nat) : Int) = (124 : Int) - (Sp.markHead l).length by omega] at hmk
  have HS := Lib.hid fun (W : World) => sum_seal (Sp.markHead l ++ Sp.zeros (124 - (Sp.markHead l).length)) W (by simp [Sp.zeros]; omega)
  have HM : Hid (Sp.markHead l = [1, UInt8.ofNat l.length] ++ (l.map fun x => Sp.be 4 x.1).flatten) := rfl
  have HE : Hid (Sp.markBs l = Sp.sealed (Sp.markHead l ++ Sp.zeros (124 - (Sp.markHead l).length))) := rfl
  have HML := Lib.hid hml
  clear hR hp hml
  go_enter Tryz.func88, Tryz.ntmps88
  go_wp2_with fail
  have hb1 := (Below.refl _ w).alloc (Nat.le_refl _) (.cells #[.int .u8 1, .int .u8 (l.length : Nat)] 5)
  generalize w.alloc (.cells #[.int .u8 1, .int .u8 (l.length : Nat)] 5) = w1 at *
  go_loopw [3, 5, 6, 7, 15] (fun s _ _ _ i wr => ∃ k : Nat, k ≤ l.length ∧ i = .int .i64 k ∧ s = str ([1, UInt8.ofNat l.length] ++ ((l.take k).map fun x => Sp.be 4 x.1).flatten) ∧ Below w.heap.size w wr) (fun _ _ _ _ i _ => l.length - (intOf i).toNat)
  case atStart => exact ⟨0, by omega, rfl, by simp, hb1⟩
  case round =>
    obtain ⟨k, hk, rfl, rfl, hbr⟩ := hrel
    by_cases hlt : k < l.length
    · obtain ⟨b, o, rfl, _, _, r0, r1⟩ := (Reads.below HR.out hbr).home hlt
      have hpk := HP.out _ (List.getElem_mem hlt)
      have hsn : ((l.take (k + 1)).map fun x => Sp.be 4 x.1).flatten = ((l.take k).map fun x => Sp.be 4 x.1).flatten ++ Sp.be 4 l[k].1 := by
        rw [List.take_succ_eq_append_getElem hlt, List.map_append, List.flatten_append]
        simp only [List.map_cons, List.map_nil, List.flatten_cons, List.flatten_nil, List.append_nil]
      have hlen : ([1, UInt8.ofNat l.length] ++ ((l.take k).map fun x => Sp.be 4 x.1).flatten).length ≤ 1000 := by
        rw [List.length_append, flatten_length_all _ 4 _ (fun _ _ => Sp.be_length 4 _), List.length_take]
        have := Nat.min_le_right k l.length
        simp; omega
      have hlen4 : (Sp.be 4 l[k].1).length ≤ 4 := by rw [Sp.be_length]; exact Nat.le_refl _
      have HSN := Lib.hid hsn
      have hmeas : k + 1 ≤ l.length := hlt
      have HWK := Lib.hid fun W => HW.out l[k].1 W hpk
      have hb2 := hbr.alloc hbr.size (.cells #[.int .u32 (l[k].1 : Nat), str l[k].2] 86)
      have hs9 := hbr.size
      clear hsn
      generalize l[k] = x at *
      obtain ⟨p, t⟩ := x
      dsimp only at *
      generalize hs0 : [1, UInt8.ofNat l.length] ++ ((l.take k).map fun x => Sp.be 4 x.1).flatten = s0 at *
      have HS0 := Lib.hid hs0
      clear hs0
      generalize Sp.be 4 p = s1 at *
      go_wp2_with fail
      refine (HWK.out _).mono ?_
      rintro e w2 ⟨rfl, hb3⟩
      have hb4 := hb2.trans (hb3.mono hb2.size)
      clear hb2 hb3 r0 r1
      go_wp2_with fail
      go_roundw
      case rel => exact ⟨k + 1, hmeas, by go_num, by rw [HSN.out, ← List.append_assoc, HS0.out, str_append], hb4⟩
      case measure => simp [intOf]; omega
    · obtain rfl : k = l.length := by omega
      rw [List.take_length, ← HM.out]
      have hmll : (Sp.markHead l).length ≤ 34 := by rw [HML.out]; omega
      have hzl : (Sp.zeros (124 - (Sp.markHead l).length)).length ≤ 124 := by simp [Sp.zeros]
      have hbr2 := hbr.alloc hbr.size (.cells (zrow (124 - (Sp.markHead l).length)) 5)
      go_wp2_with fail
      rw [str_append]
      refine (HS.out _).mono ?_
      rintro e w2 ⟨rfl, hb3⟩
      rw [← HE.out]
      have hb4 := hbr2.trans (hb3.mono hbr2.size)
      go_wp2_with fail
      go_ret
      exact ⟨rfl, hb4⟩
end Go.Proofs.YtndglfiepeefdaaGreat

/- Maps keyed by uint32, as plain functions of numbers. No program is named here. -/
namespace Go.Proofs.YtndglfiepeefdaaGreat
open Go.RowKit Go.Maps

abbrev uKey (p : Nat) : Lit := .int .u32 (p : Int)
theorem uKey_wf {p : Nat} (h : p < 4294967296) : (uKey p).wf = true := by
  have h1 : IntKind.u32.min = 0 := rfl
  have h2 : IntKind.u32.max = 4294967295 := rfl
  simp [Lit.wf, h1, h2]; omega
theorem uKey_lit (p : Nat) : WideAt.IsKeyLit (uKey p) := trivial
theorem uKey_inj {p q : Nat} (h : uKey p = uKey q) : p = q := by
  injection h with _ h; omega

theorem bool_inv {H : Type} {P : Program} {e : TypeId} (he : P.underlying e = some .bool) {v : Value} {x : Bool} {ps : List MemPlace} (h : plainElem (H := H) P e v = some (.lit (.bool x), ps)) : v = .bool x := by
  unfold plainElem at h
  rw [he] at h
  cases v <;> simp at h
  rw [h.1]

/-- Block b is a set of these numbers, of map type [uint32]bool. -/
def USet (P : Program) (k e : TypeId) (w : World) (b n : Nat) (l : List Nat) : Prop := w.ownsMap P k (plainElem (H := Unit) P e) b n (setOf (.lit (.bool true)) (l.map uKey))

section
variable {P : Program} {k e t : TypeId} {w w' : World} {b n : Nat} {l : List Nat}
theorem USet.lt (h : USet P k e w b n l) : b < w.heap.size := World.ownsMap.lt h
theorem USet.kept {row : Option Nat} (h : USet P k e w b n l) (hg : w.grownBy w' row) (hne : some b ≠ row) : USet P k e w' b n l := World.ownsMap.kept h hg hne
theorem USet.alloc (h : USet P k e w b n l) (o : Obj) : USet P k e (w.alloc o) b n l := World.ownsMap.alloc h o
theorem USet.below {B : Nat} (h : USet P k e w b n l) (hb : Below B w w') (hlt : b < B) : USet P k e w' b n l := by
  obtain ⟨es, clock, h1, rest⟩ := h
  exact ⟨es, clock, (hb.block b hlt).trans h1, rest⟩
theorem USet.made (w : World) : USet P k e (w.alloc (.map #[] 0)) w.heap.size 0 [] := World.ownsMap_made w P k _

theorem USet.has_ (p : Nat) (l : List Nat) : has (setOf (H := Unit) (.lit (.bool true)) (l.map uKey)) (uKey p) = decide (p ∈ l) := by
  rw [has_setOf _ _ _ (fun x hx => by obtain ⟨q, _, rfl⟩ := List.mem_map.1 hx; exact uKey_lit q)]
  by_cases h : p ∈ l
  · simp only [h, decide_true]
    rw [List.any_eq_true]
    exact ⟨uKey p, List.mem_map.2 ⟨p, h, rfl⟩, WideAt.sameKey_self (uKey_lit p)⟩
  · simp only [h, decide_false]
    rw [List.any_eq_false]
    intro x hx
    obtain ⟨q, hq, rfl⟩ := List.mem_map.1 hx
    intro hs
    exact h (uKey_inj ((WideAt.sameKey_iff (uKey_lit p)).1 hs) ▸ hq)

/-- It is asked for a number that it has not. -/
theorem USet.look_not (h : USet P k e w b n l) (hk : P.underlying k = some (.int .u32)) (he : P.underlying e = some .bool) (ht : P.underlying t = some (.map k e)) (hz : (zeroValue e).run P w = .ok (.bool false) w) {p : Nat} (hp : p < 4294967296) (hn : p ∉ l) :
    (Instr.lookup t (.map (some b)) (.int .u32 (p : Int)) false).run P w = .ok (.bool false) w := by
  obtain ⟨v, ps, hrun, hv⟩ := World.ownsMap.lookup h (int_keyed hk) ht hz (plainElem_bool he false) (keyOf_int_mk hk (uKey_wf hp))
  have hno : has (setOf (H := Unit) (.lit (.bool true)) (l.map uKey)) (uKey p) = false := by rw [USet.has_]; simpa using hn
  rw [atKey_of_not_has hno] at hv
  rw [hrun, bool_inv he hv]

theorem USet.put (h : USet P k e w b n l) (hk : P.underlying k = some (.int .u32)) (he : P.underlying e = some .bool) (ht : P.underlying t = some (.map k e)) (hn : n < maxLen) {p : Nat} (hp : p < 4294967296) :
    ∃ w', (Instr.mapUpdate t (.map (some b)) (.int .u32 (p : Int)) (.bool true)).run P w = .ok () w' ∧ USet P k e w' b (n + 1) (l ++ [p]) ∧ w.grownBy w' (some b) := by
  obtain ⟨w', h1, h2, h3⟩ := World.ownsMap.update h (int_keyed hk) ht hn (keyOf_int_mk hk (uKey_wf hp)) (plainElem_bool he true)
  refine ⟨w', h1, ?_, h3⟩
  unfold USet
  rw [List.map_append, List.map_singleton, setOf_snoc]
  exact h2
end
end Go.Proofs.YtndglfiepeefdaaGreat

/- The walks of package twin: may. -/
namespace Go.Proofs.YtndglfiepeefdaaGreat
open Go.RowKit

theorem Tryz.zb (w : World) : (zeroValue 4).run Tryz.prog w = .ok (.bool false) w := by kernel_rfl

set_option maxRecDepth 100000 in
set_option maxHeartbeats 4000000 in
theorem twin_may {F G : Foot} {w : World} {g : Nat} {d : Sp.Dk} (h : IsDk F w g d) (at_ base : Nat) {A : Option Addr} {c : Nat} {l : List (Nat × Sp.Bs)} (hR : Reads G w 2 A l.length (hcs l)) (h1 : 1 ≤ l.length) (h8 : l.length ≤ 8)
    (hp : ∀ x ∈ l, x.1 < 4294967296 ∧ x.2.length = 512 ∧ Sp.inside d.sure.length at_ base x.1) (hn : (l.map (·.1)).Nodup) :
    Calls Tryz.prog 85 #[ptr g, .int .i64 at_, .int .i64 base, .slice A l.length c] w fun e w' => e = .returned (.bool true) ∧ Below w.heap.size w w' := by
  have HR := Lib.hid hR
  have HP := Lib.hid hp
  have HN := Lib.hid hn
  have HD := Lib.hid h
  have hmm := @run_makeMap Tryz.prog
  clear h hR hp hn
  go_enter Tryz.func85, Tryz.ntmps85
  go_wp2_with fail
  have hU0 : USet Tryz.prog 28 4 (w.alloc (.map #[] 0)) w.heap.size 0 [] := USet.made w
  have hb0 := (Below.refl _ w).alloc (Nat.le_refl _) (.map #[] 0)
  have HU0 := Lib.hid hU0
  clear hU0 hmm
  generalize w.alloc (.map #[] 0) = w1 at *
  go_loopw [11, 15] (fun _ i wr => ∃ k : Nat, k ≤ l.length ∧ i = .int .i64 k ∧ USet Tryz.prog 28 4 wr w.heap.size k ((l.take k).map (·.1)) ∧ Below w.heap.size w wr) (fun _ i _ => l.length - (intOf i).toNat)
  case atStart => exact ⟨0, by omega, rfl, HU0.out, hb0⟩
  case round =>
    obtain ⟨k, hk, rfl, hU, hbr⟩ := hrel
    by_cases hlt : k < l.length
    · obtain ⟨b, o, rfl, _, _, r0, r1⟩ := (Reads.below HR.out hbr).home hlt
      obtain ⟨hp1, hp2, hp3⟩ := HP.out _ (List.getElem_mem hlt)
      have hmeas : k + 1 ≤ l.length := hlt
      have hnot : l[k].1 ∉ (l.take k).map (·.1) := by
        have hs : l.map (·.1) = (l.take k).map (·.1) ++ l[k].1 :: (l.drop (k + 1)).map (·.1) := by
          conv => lhs; rw [← List.take_append_drop k l, List.drop_eq_getElem_cons hlt]
          rw [List.map_append, List.map_cons]
        have hnd := HN.out
        rw [hs, List.nodup_append] at hnd
        intro hm
        exact hnd.2.2 _ hm _ (List.mem_cons_self) rfl
      have hsn : (l.take (k + 1)).map (·.1) = (l.take k).map (·.1) ++ [l[k].1] := by
        rw [List.take_succ_eq_append_getElem hlt, List.map_append]; rfl
      have HSN := Lib.hid hsn
      have d1 : ((l[k].2.length : Int) != 512) = false := by rw [hp2]; rfl
      have hUa := hU.alloc (.cells #[.int .u32 (l[k].1 : Nat), str l[k].2] 86)
      have hrun := hUa.look_not Tryz.underlying28 Tryz.underlying4 Tryz.underlying123 (Tryz.zb _) hp1 hnot
      have hb2 := hbr.alloc hbr.size (.cells #[.int .u32 (l[k].1 : Nat), str l[k].2] 86)
      have HUA := Lib.hid hUa
      have hD2 := ((HD.out.below hbr).below ((Below.refl _ wr).alloc (Nat.le_refl _) (.cells #[.int .u32 (l[k].1 : Nat), str l[k].2] 86)))
      have HI := Lib.hid (twin_inside hD2 at_ base l[k].1 hp1 hp3)
      have hs9 := hbr.size
      clear hnot hsn hU hUa hp2 hp3 hD2
      generalize l[k] = x at *
      obtain ⟨p, t⟩ := x
      dsimp only at *
      go_wp2_with fail
      refine HI.out.mono ?_
      rintro e w2 ⟨rfl, hw⟩
      subst w2
      obtain ⟨w3, hrun3, hU3, hg3⟩ := HUA.out.put Tryz.underlying28 Tryz.underlying4 Tryz.underlying123 (by unfold maxLen; omega) hp1
      have HU3 := Lib.hid hU3
      have hb3 := hb2.grown hg3 hb2.size (fun r e => by cases e; exact Nat.le_refl _)
      clear hU3 hg3 hb2
      go_wp2_with fail
      go_roundw
      case rel => exact ⟨k + 1, hmeas, by go_num, by rw [HSN.out]; exact HU3.out, hb3⟩
      case measure => simp [intOf]; omega
    · obtain rfl : k = l.length := by omega
      have d2 : decide (1 ≤ (l.length : Int)) = true := by rw [decide_eq_true_eq]; omega
      have d3 : decide ((l.length : Int) ≤ 8) = true := by rw [decide_eq_true_eq]; omega
      clear hU
      go_wp2_with fail
      go_ret
      exact ⟨rfl, hbr⟩
end Go.Proofs.YtndglfiepeefdaaGreat

/- The walks of package twin: Write. -/
namespace Go.Proofs.YtndglfiepeefdaaGreat
open Go.RowKit

namespace Sp
def areaOf (l : List (Nat × Bs)) : List (Nat × Bs) := l.zipIdx.map fun x => (x.2, x.1.2)
theorem areaOf_length (l : List (Nat × Bs)) : (areaOf l).length = l.length := by simp [areaOf]
theorem areaOf_get (l : List (Nat × Bs)) (k : Nat) (hk : k < l.length) : (areaOf l)[k]? = some (k, l[k].2) := by simp [areaOf, hk]
theorem areaOf_succ (l : List (Nat × Bs)) (k : Nat) (hk : k < l.length) : (areaOf l).take (k + 1) = (areaOf l).take k ++ [(k, l[k].2)] := by
  rw [List.take_add_one, areaOf_get l k hk]; rfl
def twinActs (at_ base : Nat) (l : List (Nat × Bs)) : List TAct :=
  ((homesActs (at_ + 1) (areaOf l) ++ [.sync]) ++ [.wr at_ (markBs l), .sync]) ++ (homesActs base l ++ [.sync]) ++ [.wr at_ (zeros 128), .sync]
end Sp

theorem home_info : (Tryz.prog.info? 86).map (fun i => (i.zero, i.size, i.bytes)) = some (some (.agg #[.int .u32 0, .string ⟨#[]⟩]), 2, 24) := by kernel_rfl

theorem IsAct.lt {G : Foot} {w : World} {g : Nat} {v : Value} {a : Sp.TAct} (h : IsAct G w g v a) : IsAct (fun b => G b ∧ b < w.heap.size) w g v a := by
  cases a with
  | sync => exact h
  | wr k s =>
    rcases h with ⟨b0, b1, b2, b3, p, t, j, e, ⟨g0, g1, g2, g3⟩, h0, h1, h2, h3, rest⟩ | ⟨b0, b1, b2, e, ⟨g0, g1, g2⟩, h0, h1, h2⟩
    · exact .inl ⟨b0, b1, b2, b3, p, t, j, e, ⟨⟨g0, h0.lt⟩, ⟨g1, h1.lt⟩, ⟨g2, h2.lt⟩, ⟨g3, h3.lt⟩⟩, h0, h1, h2, h3, rest⟩
    · exact .inr ⟨b0, b1, b2, e, ⟨⟨g0, h0.lt⟩, ⟨g1, h1.lt⟩, ⟨g2, h2.lt⟩⟩, h0, h1, h2⟩
theorem IsAct.one_ {G : Foot} {w : World} {g : Nat} {v : Value} {a : Sp.TAct} (h : IsAct G w g v a) : v.oneCell' = true := by
  cases a with
  | sync =>
    have e : v = _ := h
    rw [e]; rfl
  | wr k s => rcases h with ⟨b0, b1, b2, b3, p, t, j, rfl, _⟩ | ⟨b0, b1, b2, rfl, _⟩ <;> rfl
theorem IsActs.one_ {G : Foot} {w : World} {g : Nat} {fs : List Value} {as_ : List Sp.TAct} (h : IsActs G w g fs as_) : ∀ u ∈ fs, u.oneCell' = true := by
  intro u hu
  obtain ⟨i, hi, rfl⟩ := List.mem_iff_getElem.1 hu
  have hia : i < as_.length := by rw [← h.1]; exact hi
  exact (h.2 i _ _ (List.getElem?_eq_getElem hi) (List.getElem?_eq_getElem hia)).one_
theorem IsActs.lt {G : Foot} {w : World} {g : Nat} {fs : List Value} {as_ : List Sp.TAct} (h : IsActs G w g fs as_) : IsActs (fun b => G b ∧ b < w.heap.size) w g fs as_ := ⟨h.1, fun i v a hv ha => (h.2 i v a hv ha).lt⟩

theorem hcs_cells (l : List (Nat × Sp.Bs)) : ∀ u ∈ hcs l, u.oneCell' = true := by
  intro u hu
  unfold hcs at hu
  rw [List.mem_flatten] at hu
  obtain ⟨x, hx, hu⟩ := hu
  obtain ⟨y, _, rfl⟩ := List.mem_map.1 hx
  rcases List.mem_cons.1 hu with rfl | hu
  · rfl
  · rw [List.mem_singleton.1 hu]; rfl

theorem own_form' {w : World} {base e size n : Nat} {v : Value} {xs : List Value} (h : w.ownsRow base e size v n xs) (hn : 1 ≤ n) : ∃ g c, v = .slice (some ⟨g, 0, none⟩) n c := by
  rcases h.2 with ⟨_, h0⟩ | ⟨g, c, _, h0, _⟩
  · omega
  · exact ⟨g, c, h0⟩
theorem own_reads {w : World} {base e size n g c : Nat} {xs : List Value} (h : w.ownsRow base e size (.slice (some ⟨g, 0, none⟩) n c) n xs) : Reads (fun b => base ≤ b) w size (some ⟨g, 0, none⟩) n xs := by
  refine ⟨h.1, fun _ => ⟨g, 0, rfl, (h.lt g rfl).1, (h.lt g rfl).2, fun j u hu => ?_⟩⟩
  have := h.cells (g := g) rfl j u hu
  rw [show (⟨g, 0, none⟩ : Addr).add j = ⟨g, 0 + j, none⟩ by unfold Addr.add; split <;> simp_all] at this
  exact this
theorem own_below {w w' : World} {base e size n : Nat} {v : Value} {xs : List Value} (h : w.ownsRow base e size v n xs) (hb : Below w.heap.size w w') : w'.ownsRow base e size v n xs :=
  h.kept (row := none) ⟨hb.os, hb.tape, hb.output, hb.size, fun k hk _ => hb.block k hk⟩ (by cases v.ownBlock <;> simp)
theorem add_lit (b j : Nat) : (⟨b, 0, none⟩ : Addr).add j = ⟨b, j, none⟩ := by unfold Addr.add; split <;> simp_all

theorem Reads.lt {G : Foot} {w : World} {size n : Nat} {A : Option Addr} {xs : List Value} (h : Reads G w size A n xs) : Reads (fun b => G b ∧ b < w.heap.size) w size A n xs :=
  ⟨h.1, fun hn => by
    obtain ⟨b, o, e, hG, hb, hc⟩ := h.2 hn
    exact ⟨b, o, e, ⟨hG, hb⟩, hb, hc⟩⟩

theorem Sp.homesActs_ok {n base : Nat} {l : List (Nat × Sp.Bs)} (h : ∀ x ∈ l, base + x.1 * 4 + 4 ≤ n ∧ x.2.length = 512) : ∀ a ∈ Sp.homesActs base l, a.ok n := by
  intro a ha
  unfold Sp.homesActs at ha
  rw [List.mem_flatten] at ha
  obtain ⟨y, hy, ha⟩ := ha
  obtain ⟨x, hx, rfl⟩ := List.mem_map.1 hy
  obtain ⟨j, hj, rfl⟩ := List.mem_map.1 ha
  have hj' := List.mem_range.1 hj
  obtain ⟨h1, h2⟩ := h x hx
  refine ⟨by omega, ?_⟩
  rw [List.length_take, List.length_drop]; omega

theorem Sp.areaOf_mem {l : List (Nat × Sp.Bs)} {x : Nat × Sp.Bs} (h : x ∈ Sp.areaOf l) : x.1 < l.length ∧ ∃ y ∈ l, x.2 = y.2 := by
  obtain ⟨k, hk, rfl⟩ := List.mem_iff_getElem.1 h
  have hk' : k < l.length := by rw [Sp.areaOf_length] at hk; exact hk
  have e := Sp.areaOf_get l k hk'
  rw [List.getElem?_eq_getElem hk, Option.some.injEq] at e
  rw [e]
  exact ⟨hk', l[k], List.getElem_mem hk', rfl⟩

theorem Sp.twinActs_ok {n at_ base : Nat} {l : List (Nat × Sp.Bs)} (h8 : l.length ≤ 8) (hp : ∀ x ∈ l, x.2.length = 512 ∧ Sp.inside n at_ base x.1) (ha : at_ + 33 ≤ n) : ∀ a ∈ Sp.twinActs at_ base l, a.ok n := by
  intro a h
  unfold Sp.twinActs at h
  have hs : Sp.TAct.ok n .sync := trivial
  have hm : Sp.TAct.ok n (.wr at_ (Sp.markBs l)) := ⟨by omega, Sp.markBs_length h8⟩
  have hz : Sp.TAct.ok n (.wr at_ (Sp.zeros 128)) := ⟨by omega, by simp [Sp.zeros]⟩
  have h1 := Sp.homesActs_ok (n := n) (base := at_ + 1) (l := Sp.areaOf l) (fun x hx => by
    obtain ⟨e1, y, hy, e2⟩ := Sp.areaOf_mem hx
    exact ⟨by omega, by rw [e2]; exact (hp y hy).1⟩)
  have h2 := Sp.homesActs_ok (n := n) (base := base) (l := l) (fun x hx => ⟨(hp x hx).2.1, (hp x hx).1⟩)
  simp only [List.mem_append, List.mem_cons, List.not_mem_nil, or_false] at h
  rcases h with (((h | rfl) | (rfl | rfl)) | (h | rfl)) | (rfl | rfl)
  · exact h1 a h
  · exact hs
  · exact hm
  · exact hs
  · exact h2 a h
  · exact hs
  · exact hz
  · exact hs
theorem Sp.twinActs_length (at_ base : Nat) (l : List (Nat × Sp.Bs)) : (Sp.twinActs at_ base l).length = l.length * 8 + 6 := by
  simp only [Sp.twinActs, List.length_append, Sp.homesActs_length, Sp.areaOf_length, List.length_cons, List.length_nil]
  omega

set_option maxRecDepth 100000 in
set_option maxHeartbeats 8000000 in
theorem twin_write {F G : Foot} {w : World} {g : Nat} {d : Sp.Dk} (h : IsDk F w g d) (hf : d.fuse = -1) (hlo : d.loose.length ≤ 1000) (at_ base : Nat) {A : Option Addr} {c : Nat} {l : List (Nat × Sp.Bs)} (hR : Reads G w 2 A l.length (hcs l)) (h1 : 1 ≤ l.length) (h8 : l.length ≤ 8)
    (hp : ∀ x ∈ l, x.1 < 4294967296 ∧ x.2.length = 512 ∧ Sp.inside d.sure.length at_ base x.1) (hn : (l.map (·.1)).Nodup) (ha : at_ + 33 ≤ d.sure.length) (hb : base ≤ d.sure.length) :
    Calls Tryz.prog 30 #[ptr g, .int .i64 at_, .int .i64 base, .slice A l.length c] w (ActPost F w g (d.acts (Sp.twinActs at_ base l))) := by
  obtain ⟨i0, hi, hz0, hz1, hz2⟩ := info_parts fn_info
  obtain ⟨j0, hj, hy0, hy1, hy2⟩ := info_parts home_info
  have hfew := h.wf.few
  have HPL := Lib.hid (twin_placed h at_ base ha hb)
  have HMY := Lib.hid (twin_may h at_ base hR h1 h8 (c := c) hp hn)
  have HR := Lib.hid hR
  have HP := Lib.hid hp
  have HD := Lib.hid h
  have HF := Lib.hid hf
  have HIN := Lib.hid h.in_
  clear h hf hR hp hn
  go_enter Tryz.func30, Tryz.ntmps30
  go_wp2_with fail
  refine HPL.out.mono ?_
  rintro e w1 ⟨rfl, hw⟩
  subst w1
  go_wp2_with fail
  refine HMY.out.mono ?_
  rintro e w1 ⟨rfl, hb1⟩
  have hs1 := hb1.size
  go_wp2_with fail
  go_loopw [10, 11, 12, 29] (fun v _ _ i wr => ∃ k : Nat, k ≤ l.length ∧ i = .int .i64 k ∧ wr.ownsRow w1.heap.size 86 2 v k (hcs ((Sp.areaOf l).take k)) ∧ Below w.heap.size w wr ∧ w1.heap.size ≤ wr.heap.size) (fun _ _ _ i _ => l.length - (intOf i).toNat)
  case atStart => exact ⟨0, by omega, rfl, by simpa [hcs] using World.ownsRow_nil _ _ _ _, hb1, Nat.le_refl _⟩
  case round =>
    obtain ⟨k, hk, rfl, hO, hbr, hsr⟩ := hrel
    by_cases hlt : k < l.length
    · obtain ⟨b, o, rfl, _, _, r0, r1⟩ := (Reads.below HR.out hbr).home hlt
      have hsn : hcs ((Sp.areaOf l).take (k + 1)) = hcs ((Sp.areaOf l).take k) ++ [.int .u32 (k : Nat), str l[k].2] := by
        rw [Sp.areaOf_succ l k hlt, hcs_app]; rfl
      have HSN := Lib.hid hsn
      have hmeas : k + 1 ≤ l.length := hlt
      clear hsn
      generalize l[k] = x at *
      obtain ⟨p, t⟩ := x
      dsimp only at *
      have HO := Lib.hid ((hO.alloc (.cells #[.int .u32 (p : Nat), str t] 86)).alloc (.cells #[.int .u32 (k : Nat), str t] 86))
      have hbr2 := (hbr.alloc hbr.size (.cells #[.int .u32 (p : Nat), str t] 86)).alloc (by have := hbr.size; simp; omega) (.cells #[.int .u32 (k : Nat), str t] 86)
      have hs9 := hbr.size
      have hnews : Hid (∀ j u, [Value.int .u32 (k : Nat), str t][j]? = some u → ((wr.alloc (.cells #[.int .u32 (p : Nat), str t] 86)).alloc (.cells #[.int .u32 (k : Nat), str t] 86)).cell? ((⟨wr.heap.size + 1, 0, none⟩ : Addr).add j) = some u) := fun j u hu => by
        rw [show (⟨wr.heap.size + 1, 0, none⟩ : Addr).add j = ⟨wr.heap.size + 1, j, none⟩ by unfold Addr.add; split <;> simp_all]
        have := (Blk.new (wr.alloc (.cells #[.int .u32 (p : Nat), str t] 86)) 86 #[.int .u32 (k : Nat), str t]).cell j
        rw [World.size_alloc] at this
        rw [this]
        simpa using hu
      clear hO
      go_wp2_with (at_builtin; refine wpList_append_own _ rfl _ _ 153 rfl w1.heap.size 86 j0 (.agg #[.int .u32 0, .string ⟨#[]⟩]) 2 24 Tryz.underlying153 hj hy0 hy1 hy2 rfl (by decide) _ _ _ rfl HO.out ⟨wr.heap.size + 1, 0, none⟩ 1 1 [.int .u32 (k : Nat), str t] rfl rfl hnews.out (fun x hx => by simp at hx; rcases hx with rfl | rfl <;> rfl) (by unfold maxLen; omega) (by omega) (by simp; omega) ?_)
      intro v' w6 hown hgrow hnil
      have hb6 := hbr2.grown hgrow hbr2.size (fun r e => Nat.le_trans hs1 (HO.out.lt r e).1)
      have hs6 : w1.heap.size ≤ w6.heap.size := by have := hgrow.size; simp at this; omega
      have HW := Lib.hid hown
      obtain ⟨g7, c7, rfl⟩ := own_form hown
      clear hnil hown hgrow
      go_wp2_with fail
      go_roundw
      case rel => exact ⟨k + 1, hmeas, by go_num, by rw [HSN.out]; exact HW.out, hb6, hs6⟩
      case measure => simp [intOf]; omega
    · obtain rfl : k = l.length := by omega
      rw [List.take_of_length_le (by rw [Sp.areaOf_length]; exact Nat.le_refl _)] at hO
      obtain ⟨ga, ca, rfl⟩ := own_form' hO h1
      have hra := own_reads hO
      rw [← Sp.areaOf_length l] at hra
      have hlz := Sp.areaOf_length l
      have hpa : ∀ x ∈ Sp.areaOf l, x.1 < 4294967296 ∧ x.2.length = 512 := by
        intro x hx
        obtain ⟨k, hk, rfl⟩ := List.mem_iff_getElem.1 hx
        have hk' : k < l.length := by omega
        have e := Sp.areaOf_get l k hk'
        rw [List.getElem?_eq_getElem hk, Option.some.injEq] at e
        rw [e]
        exact ⟨by show k < _; omega, (HP.out _ (List.getElem_mem hk')).2.1⟩
      have hh1 := twin_homes g (at_ + 1) hra (by omega) hpa (by omega) (c := ca)
      rw [show ((at_ + 1 : Nat) : Int) = (at_ : Int) + 1 by omega, hlz] at hh1
      have HH1 := Lib.hid hh1
      clear hh1 hra hpa hlz hO
      go_wp2_with fail
      refine HH1.out.mono ?_
      rintro e wa ⟨v1, fs1, rfl, hO1, hA1, hba⟩
      obtain ⟨g1, c1, rfl⟩ := own_form' hO1 (by omega)
      have hbwa : Below w.heap.size w wa := hbr.trans (hba.mono hbr.size)
      have hsa := hba.size
      have hsw := hbr.size
      have HO1 := Lib.hid hO1
      have HA1 := Lib.hid hA1
      clear hO1 hA1
      go_wp2_with fail
      refine (twin_mark (Reads.below HR.out hbwa) h8 (fun x hx => (HP.out x hx).1)).mono ?_
      rintro e wb ⟨rfl, hbb⟩
      have hbwb : Below w.heap.size w wb := hbwa.trans (hbb.mono hbwa.size)
      have hsb := hbb.size
      have HO2 := Lib.hid (own_below HO1.out hbb)
      have HA2 := Lib.hid (HA1.out.below hbb)
      clear HO1 HA1
      go_wp2_with fail
      refine (twin_marks g at_ (Sp.markBs l)).mono ?_
      rintro e wc ⟨b2, c2, fs2, rfl, hb2, hB2, hl2, hone2, hA2, hbc⟩
      have hbwc : Below w.heap.size w wc := hbwb.trans (hbc.mono hbwb.size)
      have hsc := hbc.size
      have HO3 := Lib.hid (own_below HO2.out hbc)
      have HA3 := Lib.hid ((HA2.out.below hbc).mono (G' := fun b => w.heap.size ≤ b) (fun b (hb : wr.heap.size ≤ b) => Nat.le_trans hsw hb))
      have HA4 := Lib.hid (hA2.mono (G' := fun b => w.heap.size ≤ b) (fun b (hb : wb.heap.size ≤ b) => by show w.heap.size ≤ b; omega))
      have hn2 : Hid (∀ j u, fs2[j]? = some u → wc.cell? ((⟨b2, 0, none⟩ : Addr).add j) = some u) := fun j u hu => by
        rw [add_lit, hB2.cell j]; simpa using hu
      have ho2 := Lib.hid hone2
      have hl2' := Lib.hid hl2
      clear HO2 HA2 hA2 hone2 hB2 hl2
      go_wp2_with (at_builtin; refine wpList_append_own _ rfl _ _ 156 rfl wr.heap.size 119 i0 .nilFunc 1 8 Tryz.underlying156 hi hz0 hz1 hz2 rfl (by decide) _ _ _ rfl HO3.out ⟨b2, 0, none⟩ 2 c2 fs2 rfl hl2'.out hn2.out ho2.out (by unfold maxLen; omega) (by omega) (by omega) ?_)
      intro v4 wd hown4 hgrow4 _
      have HA5 := Lib.hid ((HA3.out.grown hgrow4 (own_blk HO3.out)).app (HA4.out.grown hgrow4 (own_blk HO3.out)))
      have hbwd : Below w.heap.size w wd := hbwc.grown hgrow4 hbwc.size (fun r e => Nat.le_trans hsw (HO3.out.lt r e).1)
      have hsd := hgrow4.size
      have HO4 := Lib.hid hown4
      obtain ⟨g4, c4, rfl⟩ := own_form' hown4 (by omega)
      clear hown4 hgrow4 HA3 HA4 HO3 hn2 ho2 hl2'
      have HH2 := Lib.hid (twin_homes g base (Reads.below HR.out hbwd) (by omega) (fun x hx => ⟨(HP.out x hx).1, (HP.out x hx).2.1⟩) (by omega) (c := c))
      go_wp2_with fail
      refine HH2.out.mono ?_
      rintro e we ⟨v5, fs5, rfl, hO5, hA5, hbe⟩
      obtain ⟨g5, c5, rfl⟩ := own_form' hO5 (by omega)
      have hbwe : Below w.heap.size w we := hbwd.trans (hbe.mono hbwd.size)
      have hse := hbe.size
      have HO6 := Lib.hid (own_below HO4.out hbe)
      have HA6 := Lib.hid (HA5.out.below hbe)
      have HA7 := Lib.hid (hA5.mono (G' := fun b => w.heap.size ≤ b) (fun b (hb : wd.heap.size ≤ b) => by show w.heap.size ≤ b; omega))
      have hl5 := Lib.hid hO5.1
      have hn5 : Hid (∀ j u, fs5[j]? = some u → we.cell? ((⟨g5, 0, none⟩ : Addr).add j) = some u) := hO5.cells (g := g5) rfl
      have ho5 := Lib.hid hA5.one_
      clear HO4 HA5 hO5 hA5 HH2
      go_wp2_with (at_builtin; refine wpList_append_own _ rfl _ _ 156 rfl wr.heap.size 119 i0 .nilFunc 1 8 Tryz.underlying156 hi hz0 hz1 hz2 rfl (by decide) _ _ _ rfl HO6.out ⟨g5, 0, none⟩ (l.length * 4 + 1) c5 fs5 rfl hl5.out hn5.out ho5.out (by unfold maxLen; omega) (by omega) (by omega) ?_)
      intro v6 wf hown6 hgrow6 _
      have HA8 := Lib.hid ((HA6.out.grown hgrow6 (own_blk HO6.out)).app (HA7.out.grown hgrow6 (own_blk HO6.out)))
      have hbwf : Below w.heap.size w wf := hbwe.grown hgrow6 hbwe.size (fun r e => Nat.le_trans hsw (HO6.out.lt r e).1)
      have hsf := hgrow6.size
      have HO8 := Lib.hid hown6
      obtain ⟨g6, c6, rfl⟩ := own_form' hown6 (by omega)
      clear hown6 hgrow6 HA6 HA7 HO6 hn5 ho5 hl5
      go_wp2_with fail
      refine (twin_clear _).mono ?_
      rintro e wg ⟨rfl, hbg⟩
      have hbwg : Below w.heap.size w wg := hbwf.trans (hbg.mono hbwf.size)
      have hsg := hbg.size
      have HO9 := Lib.hid (own_below HO8.out hbg)
      have HA9 := Lib.hid (HA8.out.below hbg)
      clear HO8 HA8
      go_wp2_with fail
      refine (twin_marks g at_ (Sp.zeros 128)).mono ?_
      rintro e wh ⟨b7, c7, fs7, rfl, hb7, hB7, hl7, hone7, hA7, hbh⟩
      have hbwh : Below w.heap.size w wh := hbwg.trans (hbh.mono hbwg.size)
      have hsh := hbh.size
      have HO10 := Lib.hid (own_below HO9.out hbh)
      have HA10 := Lib.hid (HA9.out.below hbh)
      have HA11 := Lib.hid (hA7.mono (G' := fun b => w.heap.size ≤ b) (fun b (hb : wg.heap.size ≤ b) => by show w.heap.size ≤ b; omega))
      have hn7 : Hid (∀ j u, fs7[j]? = some u → wh.cell? ((⟨b7, 0, none⟩ : Addr).add j) = some u) := fun j u hu => by
        rw [add_lit, hB7.cell j]; simpa using hu
      have ho7 := Lib.hid hone7
      have hl7' := Lib.hid hl7
      clear HO9 HA9 hA7 hone7 hB7 hl7
      go_wp2_with (at_builtin; refine wpList_append_own _ rfl _ _ 156 rfl wr.heap.size 119 i0 .nilFunc 1 8 Tryz.underlying156 hi hz0 hz1 hz2 rfl (by decide) _ _ _ rfl HO10.out ⟨b7, 0, none⟩ 2 c7 fs7 rfl hl7'.out hn7.out ho7.out (by unfold maxLen; omega) (by omega) (by omega) ?_)
      intro v8 wi hown8 hgrow8 _
      have hA12 := ((HA10.out.grown hgrow8 (own_blk HO10.out)).app (HA11.out.grown hgrow8 (own_blk HO10.out))).lt
      have hbwi : Below w.heap.size w wi := hbwh.grown hgrow8 hbwh.size (fun r e => Nat.le_trans hsw (HO10.out.lt r e).1)
      have hEQ : ((Sp.homesActs (at_ + 1) (Sp.areaOf l) ++ [.sync]) ++ [.wr at_ (Sp.markBs l), .sync]) ++ (Sp.homesActs base l ++ [.sync]) ++ [.wr at_ (Sp.zeros 128), .sync] = Sp.twinActs at_ base l := rfl
      rw [hEQ] at hA12
      simp only [List.append_assoc] at hA12 hown8
      clear hEQ
      have hlen8 := hown8.1
      obtain ⟨g8, c8, rfl⟩ := own_form' hown8 (by omega)
      have hr8 := (own_reads hown8).lt.mono (G' := fun b => w.heap.size ≤ b ∧ b < wi.heap.size) (fun b (hb : wr.heap.size ≤ b ∧ b < wi.heap.size) => ⟨Nat.le_trans hsw hb.1, hb.2⟩)
      have hD8 : IsDk F wi g d := HD.out.keep (fun b hb => hbwi.block b (HIN.out b hb))
      rw [Nat.mul_one] at hlen8
      rw [← hlen8] at hr8
      have hst := twin_steps hD8 HF.out (c := c8) hr8 hA12 (fun b hb => ⟨hb.2, fun hF => by have := HIN.out b hF; have := hb.1; omega⟩) (Sp.twinActs_ok h8 (fun x hx => (HP.out x hx).2) ha) (by
        have := Sp.twinActs_length at_ base l
        omega)
      rw [hlen8] at hst
      have hT8 : Turns F F w wi := ⟨hbwi.os, hbwi.tape, hbwi.output, hbwi.size, fun b hb _ => hbwi.block b hb, fun _ hb => .inl hb⟩
      have HST := Lib.hid hst
      have HT8 := Lib.hid hT8
      clear hst hr8 hD8 hA12 hown8 hgrow8 hT8 hlen8
      go_wp2_with fail
      refine HST.out.mono ?_
      rintro e wj ⟨F', rfl, hDj, htj⟩
      have HDJ := Lib.hid hDj
      have HTJ := Lib.hid (HT8.out.trans htj)
      clear hDj htj
      go_wp2_with fail
      go_ret
      exact ⟨F', rfl, HDJ.out, HTJ.out⟩
end Go.Proofs.YtndglfiepeefdaaGreat

/- The walks of package log: may, New. -/
namespace Go.Proofs.YtndglfiepeefdaaGreat
open Go.RowKit

set_option maxRecDepth 100000 in
set_option maxHeartbeats 2000000 in
theorem log_may {F : Foot} {w : World} {g : Nat} {d : Sp.Dk} (h : IsDk F w g d) (at_ n life : Nat) (h1 : 4 ≤ n) (h2 : n ≤ 4096) (h3 : at_ + n ≤ d.sure.length) (h4 : 1 ≤ life) :
    Calls Tryz.prog 91 #[ptr g, .int .i64 at_, .int .i64 n, .int .u64 life] w fun e w' => e = .returned (.int .i64 0) ∧ w' = w := by
  have hfew := h.wf.few
  have HL := Lib.hid (disk_len h)
  have d1 : decide ((at_ : Int) < 0) = false := by simp
  have d2 : decide ((n : Int) < 4) = false := by rw [decide_eq_false_iff_not]; omega
  have d3 : decide ((4096 : Int) < n) = false := by rw [decide_eq_false_iff_not]; omega
  have d4 : decide ((d.sure.length : Int) - n < at_) = false := by rw [decide_eq_false_iff_not]; omega
  have d5 : ((life : Int) == 0) = false := by simp; omega
  clear h
  go_enter Tryz.func91, Tryz.ntmps91
  go_wp2_with fail
  refine HL.out.mono ?_
  rintro e w1 ⟨rfl, hw⟩
  subst w1
  go_wp2_with fail
  go_ret
  exact ⟨rfl, rfl⟩

/-- The struct of a log. -/
abbrev lgCells (g at_ n life : Nat) (bv sv : Value) (first next forced reserved : Nat) : Array Value :=
  #[ptr g, .int .i64 at_, .int .i64 n, .int .u64 life, bv, sv, .int .u64 first, .int .u64 next, .int .u64 forced, .int .i64 reserved]

set_option maxRecDepth 100000 in
set_option maxHeartbeats 2000000 in
theorem log_new {F : Foot} {w : World} {g : Nat} {d : Sp.Dk} (h : IsDk F w g d) (at_ n life : Nat) (h1 : 4 ≤ n) (h2 : n ≤ 4096) (h3 : at_ + n ≤ d.sure.length) (h4 : 1 ≤ life) :
    Calls Tryz.prog 31 #[ptr g, .int .i64 at_, .int .i64 n, .int .u64 life] w fun e w' => e = .returned (.tuple #[ptr w.heap.size, .int .i64 0]) ∧
      w' = w.alloc (.cells (lgCells g at_ n life (.slice none 0 0) (.slice none 0 0) 110 110 110 0) 117) := by
  have HL := Lib.hid (log_may h at_ n life h1 h2 h3 h4)
  clear h
  go_enter Tryz.func31, Tryz.ntmps31
  go_wp2_with fail
  refine HL.out.mono ?_
  rintro e w1 ⟨rfl, hw⟩
  subst w1
  go_wp2_with fail
  go_ret2
  exact ⟨rfl, rfl⟩
end Go.Proofs.YtndglfiepeefdaaGreat

/- Plain laws on what twin.Write leaves on a disk. -/
namespace Go.Proofs.YtndglfiepeefdaaGreat
open Go.RowKit
namespace Sp

def wrs : List TAct → List (Nat × Bs)
  | [] => []
  | .wr k s :: l => (k, s) :: wrs l
  | .sync :: l => wrs l
theorem wrs_app : ∀ (a b : List TAct), wrs (a ++ b) = wrs a ++ wrs b
  | [], _ => rfl
  | .wr k s :: a, b => by simp [wrs, wrs_app a b]
  | .sync :: a, b => by simp [wrs, wrs_app a b]

theorem view_put (d : Dk) (k : Nat) (s : Bs) : (d.put k s).view = lay [(k, s)] d.view := by simp [Dk.put, Dk.view, lay_append]
theorem view_synced (d : Dk) : d.synced.view = d.view := by simp [Dk.synced, Dk.view, lay]
theorem view_acts (d : Dk) : ∀ l, (d.acts l).view = lay (wrs l) d.view := fun l => by
  induction l generalizing d with
  | nil => rfl
  | cons a l ih =>
    show (Dk.acts (d.act a) l).view = _
    rw [ih]
    cases a with
    | wr k s => simp only [Dk.act, view_put, wrs]; rfl
    | sync => simp only [Dk.act, view_synced, wrs]
/-- behind a list that ends with a Sync. -/
theorem acts_synced (d : Dk) (l : List TAct) : (d.acts (l ++ [.sync])).loose = [] ∧ (d.acts (l ++ [.sync])).sure = lay (wrs l) d.view := by
  rw [acts_snoc]
  exact ⟨rfl, view_acts d l⟩

theorem lay_other : ∀ (l : List (Nat × Bs)) (s : List Bs) (k : Nat), (∀ x ∈ l, x.1 ≠ k) → (lay l s)[k]? = s[k]?
  | [], _, _, _ => rfl
  | x :: l, s, k, h => by
    show (lay l (s.set x.1 x.2))[k]? = _
    rw [lay_other l _ k (fun y hy => h y (List.mem_cons_of_mem _ hy)), List.getElem?_set_ne (h x (List.mem_cons_self))]
/-- read where the last that is written there says t. -/
theorem lay_at (a b : List (Nat × Bs)) (s : List Bs) (k : Nat) (t : Bs) (hk : k < s.length) (hb : ∀ x ∈ b, x.1 ≠ k) : (lay (a ++ (k, t) :: b) s)[k]? = some t := by
  rw [lay_append]
  show (lay b ((lay a s).set k t))[k]? = _
  rw [lay_other b _ k hb, List.getElem?_set_self (by simpa using hk)]

theorem wrs_home (base : Nat) (x : Nat × Bs) : wrs (homeActs base x) = (List.range 4).map fun j => (base + x.1 * 4 + j, (x.2.drop (j * 128)).take 128) := rfl
theorem wrs_homes (base : Nat) : ∀ l, wrs (homesActs base l) = (l.map fun x => (List.range 4).map fun j => (base + x.1 * 4 + j, (x.2.drop (j * 128)).take 128)).flatten
  | [] => rfl
  | x :: l => by
    show wrs (homeActs base x ++ homesActs base l) = _
    rw [wrs_app, wrs_home, wrs_homes base l]; rfl
theorem mem_wrs_homes {base : Nat} {l : List (Nat × Bs)} {y : Nat × Bs} (h : y ∈ wrs (homesActs base l)) : ∃ x ∈ l, ∃ j, j < 4 ∧ y.1 = base + x.1 * 4 + j := by
  rw [wrs_homes] at h
  obtain ⟨z, hz, hy⟩ := List.mem_flatten.1 h
  obtain ⟨x, hx, rfl⟩ := List.mem_map.1 hz
  obtain ⟨j, hj, rfl⟩ := List.mem_map.1 hy
  exact ⟨x, hx, j, List.mem_range.1 hj, rfl⟩

theorem range4 {α : Type} (f : Nat → α) : (List.range 4).map f = [f 0, f 1, f 2, f 3] := rfl

/-- One page written: the disk behind it. -/
theorem twin_one (d : Dk) (hlo : d.loose = []) (hf : d.fuse = -1) (at_ base p : Nat) (t : Bs) (ht : t.length = 512) (hin : inside d.sure.length at_ base p) :
    (d.acts (twinActs at_ base [(p, t)])).loose = [] ∧ (d.acts (twinActs at_ base [(p, t)])).fuse = -1 ∧ (d.acts (twinActs at_ base [(p, t)])).sure.length = d.sure.length ∧
    pageAt (d.acts (twinActs at_ base [(p, t)])).sure (base + p * 4) = t ∧
    ∀ q, q ≠ p → at_ + 33 ≤ base + q * 4 → base + q * 4 + 4 ≤ d.sure.length → pageAt (d.acts (twinActs at_ base [(p, t)])).sure (base + q * 4) = pageAt d.sure (base + q * 4) := by
  obtain ⟨hi1, hi2⟩ := hin
  have hview : d.view = d.sure := by simp [Dk.view, hlo, lay]
  have hw : ∃ a c, twinActs at_ base [(p, t)] = (a ++ homesActs base [(p, t)] ++ c) ++ [.sync] ∧ (∀ x ∈ wrs a, x.1 < at_ + 33) ∧ (∀ x ∈ wrs c, x.1 < at_ + 33) := by
    refine ⟨(homesActs (at_ + 1) (areaOf [(p, t)]) ++ [.sync]) ++ [.wr at_ (markBs [(p, t)]), .sync], [.sync, .wr at_ (zeros 128)], by simp [twinActs], fun x hx => ?_, fun x hx => ?_⟩
    · rw [wrs_app, wrs_app] at hx
      simp only [wrs, List.append_nil, List.mem_append, List.mem_singleton] at hx
      rcases hx with hx | rfl
      · obtain ⟨y, hy, j, hj, e⟩ := mem_wrs_homes hx
        have : y.1 = 0 := by
          simp [areaOf] at hy
          rw [hy]
        omega
      · show at_ < at_ + 33; omega
    · simp [wrs] at hx
      rw [hx]; show at_ < at_ + 33; omega
  obtain ⟨a, c, hw, ha, hc⟩ := hw
  have hs := acts_synced d (a ++ homesActs base [(p, t)] ++ c)
  rw [← hw, hview, wrs_app, wrs_app] at hs
  have hlen := acts_sure d (twinActs at_ base [(p, t)])
  have hh : wrs (homesActs base [(p, t)]) = [(base + p * 4 + 0, (t.drop 0).take 128), (base + p * 4 + 1, (t.drop 128).take 128), (base + p * 4 + 2, (t.drop 256).take 128), (base + p * 4 + 3, (t.drop 384).take 128)] := by
    rw [wrs_homes]; rfl
  refine ⟨hs.1, acts_fuse d hf _, hlen, ?_, fun q hq h1 h2 => ?_⟩
  · rw [hs.2, hh]
    generalize hL : lay (wrs a ++ [(base + p * 4 + 0, (t.drop 0).take 128), (base + p * 4 + 1, (t.drop 128).take 128), (base + p * 4 + 2, (t.drop 256).take 128), (base + p * 4 + 3, (t.drop 384).take 128)] ++ wrs c) d.sure = L
    have g0 : L[base + p * 4 + 0]? = some ((t.drop 0).take 128) := by
      rw [← hL]
      have := lay_at (wrs a) ([(base + p * 4 + 1, (t.drop 128).take 128), (base + p * 4 + 2, (t.drop 256).take 128), (base + p * 4 + 3, (t.drop 384).take 128)] ++ wrs c) d.sure (base + p * 4 + 0) ((t.drop 0).take 128) (by omega) (fun x hx => by
        rcases List.mem_append.1 hx with hx | hx
        · simp at hx; rcases hx with rfl | rfl | rfl <;> simp
        · have := hc x hx; omega)
      simpa using this
    have g1 : L[base + p * 4 + 1]? = some ((t.drop 128).take 128) := by
      rw [← hL]
      have := lay_at (wrs a ++ [(base + p * 4 + 0, (t.drop 0).take 128)]) ([(base + p * 4 + 2, (t.drop 256).take 128), (base + p * 4 + 3, (t.drop 384).take 128)] ++ wrs c) d.sure (base + p * 4 + 1) ((t.drop 128).take 128) (by omega) (fun x hx => by
        rcases List.mem_append.1 hx with hx | hx
        · simp at hx; rcases hx with rfl | rfl <;> simp
        · have := hc x hx; omega)
      simpa using this
    have g2 : L[base + p * 4 + 2]? = some ((t.drop 256).take 128) := by
      rw [← hL]
      have := lay_at (wrs a ++ [(base + p * 4 + 0, (t.drop 0).take 128), (base + p * 4 + 1, (t.drop 128).take 128)]) ([(base + p * 4 + 3, (t.drop 384).take 128)] ++ wrs c) d.sure (base + p * 4 + 2) ((t.drop 256).take 128) (by omega) (fun x hx => by
        rcases List.mem_append.1 hx with hx | hx
        · simp at hx; rw [hx]; simp
        · have := hc x hx; omega)
      simpa using this
    have g3 : L[base + p * 4 + 3]? = some ((t.drop 384).take 128) := by
      rw [← hL]
      have := lay_at (wrs a ++ [(base + p * 4 + 0, (t.drop 0).take 128), (base + p * 4 + 1, (t.drop 128).take 128), (base + p * 4 + 2, (t.drop 256).take 128)]) (wrs c) d.sure (base + p * 4 + 3) ((t.drop 384).take 128) (by omega) (fun x hx => by have := hc x hx; omega)
      simpa using this
    have hd : (L.drop (base + p * 4)).take 4 = [(t.drop 0).take 128, (t.drop 128).take 128, (t.drop 256).take 128, (t.drop 384).take 128] := by
      apply List.ext_getElem?
      intro k
      rw [List.getElem?_take]
      match k with
      | 0 => simpa using g0
      | 1 => simpa using g1
      | 2 => simpa using g2
      | 3 => simpa using g3
      | k + 4 =>
        rw [if_neg (by omega)]
        simp
    unfold pageAt
    rw [hd]
    simp only [List.flatten_cons, List.flatten_nil, List.append_nil, List.drop_zero]
    have e3 : (t.drop 384).take 128 = t.drop 384 := List.take_of_length_le (by simp; omega)
    have e2 : (t.drop 256).take 128 ++ t.drop 384 = t.drop 256 := by
      have := List.take_append_drop 128 (t.drop 256); rwa [List.drop_drop] at this
    have e1 : (t.drop 128).take 128 ++ t.drop 256 = t.drop 128 := by
      have := List.take_append_drop 128 (t.drop 128); rwa [List.drop_drop] at this
    rw [e3, e2, e1, List.take_append_drop]
  · rw [hs.2]
    unfold pageAt
    congr 1
    apply List.ext_getElem?
    intro k
    rw [List.getElem?_take, List.getElem?_take]
    split
    · rename_i hk
      rw [List.getElem?_drop, List.getElem?_drop]
      refine lay_other _ _ _ (fun x hx => ?_)
      rw [hh] at hx
      rcases List.mem_append.1 hx with hx | hx
      · rcases List.mem_append.1 hx with hx | hx
        · have := ha x hx; omega
        · simp at hx
          rcases hx with rfl | rfl | rfl | rfl <;> simp <;> omega
      · have := hc x hx; omega
    · rfl
end Sp
end Go.Proofs.YtndglfiepeefdaaGreat

/- Plain words on a log: what is appended, forced, kept; which sectors a forced log writes. No program is named here. -/
namespace Go.Proofs.YtndglfiepeefdaaGreat.Sp

/-- A record's frame. -/
def frame (lsn : Nat) (s : Bs) : Bs := be 2 s.length ++ be 8 lsn ++ sumBytes (be 2 s.length ++ be 8 lsn ++ s) ++ s
theorem frame_length (lsn : Nat) (s : Bs) : (frame lsn s).length = 14 + s.length := by simp [frame]; omega
/-- Where a stretch begins. -/
def bg (k : Nat) : Nat := k - k % 110
theorem bg_le (k : Nat) : bg k ≤ k := Nat.sub_le _ _
theorem bg_mono {a b : Nat} (h : a ≤ b) : bg a ≤ bg b := by unfold bg; omega
theorem bg_mod (k : Nat) : bg k % 110 = 0 := by unfold bg; omega
/-- A log: where it is, how many sectors; its bytes from the first stretch on, where frames begin. -/
structure Lg where
  at_ : Nat
  n : Nat
  life : Nat
  bytes : Bs
  starts : List Nat
  first : Nat
  next : Nat
  forced : Nat
  reserved : Nat
structure Lg.wf (l : Lg) : Prop where
  n4 : 4 ≤ l.n
  n4k : l.n ≤ 4096
  life1 : 1 ≤ l.life
  life64 : l.life < 18446744073709551616
  lo : 110 ≤ l.first
  ff : l.first ≤ l.forced
  fn : l.forced ≤ l.next
  len : l.bytes.length + bg l.first = l.next
  room : l.bytes.length ≤ l.n * 110
  rise : l.starts.Pairwise (· < ·)
  starts : ∀ x ∈ l.starts, l.first ≤ x ∧ x < l.next
theorem Lg.wf.few {l : Lg} (h : l.wf) : l.starts.length ≤ l.bytes.length := by
  have key : ∀ (s : List Nat) (a b : Nat), s.Pairwise (· < ·) → (∀ x ∈ s, a ≤ x ∧ x < b) → s.length ≤ b - a := fun s => by
    induction s with
    | nil => intro a b _ _; simp
    | cons x s ih =>
      intro a b hp hx
      have h1 := hx x List.mem_cons_self
      have h2 := (List.pairwise_cons.1 hp)
      have := ih (x + 1) b h2.2 (fun y hy => ⟨h2.1 y hy, (hx y (List.mem_cons_of_mem _ hy)).2⟩)
      simp only [List.length_cons]; omega
  have h1 := key l.starts l.first l.next h.rise h.starts
  have h2 := h.len
  have := bg_le l.first
  omega
def Lg.left (l : Lg) : Nat := l.n * 110 - l.bytes.length - l.reserved
def Lg.append (l : Lg) (s : Bs) : Lg := { l with bytes := l.bytes ++ frame l.next s, starts := l.starts ++ [l.next], next := l.next + (14 + s.length) }
theorem Lg.append_wf {l : Lg} (h : l.wf) {s : Bs} (hs : 14 + s.length ≤ l.left) : (l.append s).wf := by
  have h1 := h.len
  have h2 := h.room
  have h3 := h.ff
  have h4 := h.fn
  unfold Lg.left at hs
  refine ⟨h.n4, h.n4k, h.life1, h.life64, h.lo, h.ff, ?_, ?_, ?_, ?_, fun x hx => ?_⟩
  · show l.forced ≤ l.next + (14 + s.length); omega
  · show (l.bytes ++ frame l.next s).length + bg l.first = l.next + (14 + s.length)
    rw [List.length_append, frame_length]; omega
  · show (l.bytes ++ frame l.next s).length ≤ l.n * 110
    rw [List.length_append, frame_length]; omega
  · show (l.starts ++ [l.next]).Pairwise (· < ·)
    refine List.pairwise_append.2 ⟨h.rise, by simp, fun a ha b hb => ?_⟩
    rw [List.mem_singleton.1 hb]
    exact (h.starts a ha).2
  · show l.first ≤ x ∧ x < l.next + (14 + s.length)
    rcases List.mem_append.1 hx with hx | hx
    · have := h.starts x hx; omega
    · rw [List.mem_singleton.1 hx]; omega
/-- The sector of a stretch; its bytes. -/
def Lg.sector (l : Lg) (k : Nat) : Nat := l.at_ + k / 110 % l.n
def Lg.part (l : Lg) (k : Nat) : Bs := (l.bytes.drop (k - bg l.first)).take 110
def Lg.sec (l : Lg) (k : Nat) : Bs := be 8 k ++ be 8 l.life ++ be 2 (l.part k).length ++ l.part k ++ zeros (110 - (l.part k).length)
theorem Lg.part_le (l : Lg) (k : Nat) : (l.part k).length ≤ 110 := by simp [Lg.part]; omega
theorem Lg.sec_length (l : Lg) (k : Nat) : (l.sec k).length = 128 := by
  have := l.part_le k
  simp [Lg.sec, zeros]; omega
theorem Lg.sector_lt {l : Lg} (h : l.wf) (k : Nat) : l.at_ ≤ l.sector k ∧ l.sector k < l.at_ + l.n := by
  have := Nat.mod_lt (k / 110) (show 0 < l.n by have := h.n4; omega)
  unfold Lg.sector; omega
/-- How many stretches a force writes; what it does. -/
def Lg.strs (l : Lg) : Nat := (l.next - bg l.forced + 109) / 110
def Lg.forceWrs (l : Lg) (m : Nat) : List TAct := (List.range m).map fun j => .wr (l.sector (bg l.forced + j * 110)) (l.sec (bg l.forced + j * 110))
def Lg.forceActs (l : Lg) : List TAct := l.forceWrs l.strs ++ [.sync]
def Lg.forces (l : Lg) : Lg := { l with forced := l.next }
theorem Lg.forces_wf {l : Lg} (h : l.wf) : l.forces.wf := ⟨h.n4, h.n4k, h.life1, h.life64, h.lo, Nat.le_trans h.ff h.fn, Nat.le_refl _, h.len, h.room, h.rise, h.starts⟩
theorem Lg.forceWrs_succ (l : Lg) (m : Nat) : l.forceWrs (m + 1) = l.forceWrs m ++ [.wr (l.sector (bg l.forced + m * 110)) (l.sec (bg l.forced + m * 110))] := by
  unfold Lg.forceWrs; rw [List.range_succ, List.map_append]; rfl
theorem Lg.strs_lt {l : Lg} {j : Nat} (hf : l.forced ≤ l.next) : j < l.strs ↔ bg l.forced + j * 110 < l.next := by
  have := bg_le l.forced
  unfold Lg.strs
  omega
theorem Lg.strs_le {l : Lg} (h : l.wf) : l.strs ≤ l.n + 1 := by
  have h1 := h.len
  have h2 := h.room
  have h3 := bg_mono h.ff
  unfold Lg.strs
  have : l.next - bg l.forced ≤ l.n * 110 := by omega
  omega
/-- What Keep leaves. -/
def Lg.keep (l : Lg) (k : Nat) : Lg := { l with bytes := l.bytes.drop (bg k - bg l.first), starts := l.starts.filter (fun x => decide (k ≤ x)), first := k }
theorem Lg.keep_wf {l : Lg} (h : l.wf) {k : Nat} (h1 : l.first ≤ k) (h2 : k ≤ l.forced) : (l.keep k).wf := by
  have e1 := bg_mono h1
  have e2 := bg_le k
  have e3 := h.len
  have e4 := h.fn
  have e5 := h.lo
  have e6 := h.room
  refine ⟨h.n4, h.n4k, h.life1, h.life64, ?_, h2, h.fn, ?_, ?_, ?_, fun x hx => ?_⟩
  · show 110 ≤ k; omega
  · show (l.bytes.drop (bg k - bg l.first)).length + bg k = l.next
    rw [List.length_drop]; omega
  · show (l.bytes.drop (bg k - bg l.first)).length ≤ l.n * 110
    rw [List.length_drop]; omega
  · exact h.rise.filter _
  · have hx' := List.mem_filter.1 hx
    exact ⟨by show k ≤ x; simpa using hx'.2, (h.starts x hx'.1).2⟩

theorem wrs_force (l : Lg) (m : Nat) : wrs (l.forceWrs m) = (List.range m).map fun j => (l.sector (bg l.forced + j * 110), l.sec (bg l.forced + j * 110)) := by
  induction m with
  | zero => rfl
  | succ m ih => rw [Lg.forceWrs_succ, wrs_app, ih, List.range_succ, List.map_append]; rfl
/-- A force turns the log's sectors alone. -/
theorem force_disk (d : Dk) (hlo : d.loose = []) (hf : d.fuse = -1) {l : Lg} (h : l.wf) : (d.acts l.forceActs).loose = [] ∧ (d.acts l.forceActs).fuse = -1 ∧ (d.acts l.forceActs).sure.length = d.sure.length ∧
    ∀ a, (a + 4 ≤ l.at_ ∨ l.at_ + l.n ≤ a) → pageAt (d.acts l.forceActs).sure a = pageAt d.sure a := by
  have hview : d.view = d.sure := by simp [Dk.view, hlo, lay]
  have hs := acts_synced d (l.forceWrs l.strs)
  rw [hview] at hs
  refine ⟨hs.1, acts_fuse d hf _, acts_sure d _, fun a ha => ?_⟩
  show pageAt (d.acts (l.forceWrs l.strs ++ [.sync])).sure a = _
  rw [hs.2, wrs_force]
  unfold pageAt
  congr 1
  apply List.ext_getElem?
  intro k
  rw [List.getElem?_take, List.getElem?_take]
  split
  · rename_i hk
    rw [List.getElem?_drop, List.getElem?_drop]
    refine lay_other _ _ _ (fun x hx => ?_)
    obtain ⟨j, _, rfl⟩ := List.mem_map.1 hx
    have := Lg.sector_lt h (bg l.forced + j * 110)
    show l.sector _ ≠ _
    omega
  · rfl
end Go.Proofs.YtndglfiepeefdaaGreat.Sp

/- A log in memory; the methods that answer without a loop: Next, First, Forced, made, Room; frame.Size, frame.Encode. -/
namespace Go.Proofs.YtndglfiepeefdaaGreat
open Go.RowKit

/-- LSNs as cells. -/
def lsns (l : List Nat) : List Value := l.map fun (n : Nat) => Value.int .u64 (n : Int)
@[simp] theorem lsns_length (l : List Nat) : (lsns l).length = l.length := by simp [lsns]
theorem lsns_append (a b : List Nat) : lsns (a ++ b) = lsns a ++ lsns b := by simp [lsns]

/-- A log in memory: its struct in block gl; F is all its blocks. -/
structure IsLg (F : Foot) (w : World) (gl gd : Nat) (l : Sp.Lg) : Prop where
  wf : l.wf
  mem : ∃ bv sv, Blk w gl 117 (lgCells gd l.at_ l.n l.life bv sv l.first l.next l.forced l.reserved) ∧ w.ownsRow 0 5 1 bv l.bytes.length (bcs l.bytes) ∧
    w.ownsRow 0 29 1 sv l.starts.length (lsns l.starts) ∧ ∀ b, F b ↔ b = gl ∨ bv.ownBlock = some b ∨ sv.ownBlock = some b

theorem own_keep {w w' : World} {base e size n : Nat} {v : Value} {xs : List Value} (h : w.ownsRow base e size v n xs) (hk : ∀ b, v.ownBlock = some b → w'.heap[b]? = w.heap[b]?) : w'.ownsRow base e size v n xs := by
  refine ⟨h.1, ?_⟩
  rcases h.2 with h' | ⟨b, cap, cur, rfl, hb, hh, rest⟩
  · exact .inl h'
  · exact .inr ⟨b, cap, cur, rfl, hb, (hk b rfl).trans hh, rest⟩
theorem IsLg.keep {F : Foot} {w w' : World} {gl gd : Nat} {l : Sp.Lg} (h : IsLg F w gl gd l) (hk : ∀ b, F b → w'.heap[b]? = w.heap[b]?) : IsLg F w' gl gd l := by
  obtain ⟨h1, bv, sv, h3, h4, h5, h6⟩ := h
  exact ⟨h1, bv, sv, h3.keep (hk _ ((h6 _).2 (.inl rfl))), own_keep h4 (fun b hb => hk b ((h6 b).2 (.inr (.inl hb)))), own_keep h5 (fun b hb => hk b ((h6 b).2 (.inr (.inr hb)))), h6⟩
theorem IsLg.in_ {F : Foot} {w : World} {gl gd : Nat} {l : Sp.Lg} (h : IsLg F w gl gd l) : ∀ b, F b → b < w.heap.size := by
  obtain ⟨h1, bv, sv, h3, h4, h5, h6⟩ := h
  intro b hb
  rcases (h6 b).1 hb with rfl | hb | hb
  · exact h3.lt
  · exact (h4.lt b hb).2
  · exact (h5.lt b hb).2
theorem IsLg.below {F : Foot} {w w' : World} {gl gd : Nat} {l : Sp.Lg} (h : IsLg F w gl gd l) (hb : Below w.heap.size w w') : IsLg F w' gl gd l := h.keep (fun b hF => hb.block b (h.in_ b hF))
theorem IsLg.turns {F G G' : Foot} {w w' : World} {gl gd : Nat} {l : Sp.Lg} (h : IsLg F w gl gd l) (ht : Turns G G' w w') (hG : ∀ b, F b → ¬ G b) : IsLg F w' gl gd l := h.keep (fun b hF => ht.block b (h.in_ b hF) (hG b hF))

/-- A log just made. -/
def Sp.newLg (at_ n life : Nat) : Sp.Lg := ⟨at_, n, life, [], [], 110, 110, 110, 0⟩
theorem Sp.newLg_wf {at_ n life : Nat} (h1 : 4 ≤ n) (h2 : n ≤ 4096) (h3 : 1 ≤ life) (h4 : life < 18446744073709551616) : (Sp.newLg at_ n life).wf :=
  ⟨h1, h2, h3, h4, Nat.le_refl _, Nat.le_refl _, Nat.le_refl _, by simp [Sp.newLg, Sp.bg], by simp [Sp.newLg], List.Pairwise.nil, fun _ h => (by cases h)⟩
theorem newLg_mem {w : World} {gd at_ n life : Nat} (h1 : 4 ≤ n) (h2 : n ≤ 4096) (h3 : 1 ≤ life) (h4 : life < 18446744073709551616) {gl : Nat}
    (hB : Blk w gl 117 (lgCells gd at_ n life (.slice none 0 0) (.slice none 0 0) 110 110 110 0)) : IsLg (only gl) w gl gd (Sp.newLg at_ n life) :=
  ⟨Sp.newLg_wf h1 h2 h3 h4, .slice none 0 0, .slice none 0 0, hB, World.ownsRow_nil _ _ _ _, World.ownsRow_nil _ _ _ _, fun b => by simp [Value.ownBlock]⟩

/-- The cells of the struct. -/
theorem Blk.lg {w : World} {gl gd at_ n life first next forced reserved : Nat} {bv sv : Value} (h : Blk w gl 117 (lgCells gd at_ n life bv sv first next forced reserved)) :
    w.cell? ⟨gl, 0, none⟩ = some (ptr gd) ∧ w.cell? ⟨gl, 1, none⟩ = some (.int .i64 at_) ∧ w.cell? ⟨gl, 2, none⟩ = some (.int .i64 n) ∧ w.cell? ⟨gl, 3, none⟩ = some (.int .u64 life) ∧ w.cell? ⟨gl, 4, none⟩ = some bv ∧
    w.cell? ⟨gl, 5, none⟩ = some sv ∧ w.cell? ⟨gl, 6, none⟩ = some (.int .u64 first) ∧ w.cell? ⟨gl, 7, none⟩ = some (.int .u64 next) ∧ w.cell? ⟨gl, 8, none⟩ = some (.int .u64 forced) ∧ w.cell? ⟨gl, 9, none⟩ = some (.int .i64 reserved) :=
  ⟨h.cell 0, h.cell 1, h.cell 2, h.cell 3, h.cell 4, h.cell 5, h.cell 6, h.cell 7, h.cell 8, h.cell 9⟩

section
variable {F : Foot} {w : World} {gl gd : Nat} {l : Sp.Lg}
set_option maxRecDepth 100000 in
set_option maxHeartbeats 2000000 in
theorem log_next (h : IsLg F w gl gd l) : Calls Tryz.prog 13 #[ptr gl] w fun e w' => e = .returned (.int .u64 l.next) ∧ w' = w := by
  obtain ⟨h1, bv, sv, h3, h4, h5, h6⟩ := h
  obtain ⟨c0, c1, c2, c3, c4, c5, c6, c7, c8, c9⟩ := h3.lg
  clear c0 c1 c2 c3 c4 c5 c6 c8 c9 h3 h4 h5 h6 h1
  go_enter Tryz.func13, Tryz.ntmps13
  go_wp2_with fail
  go_ret
  exact ⟨rfl, rfl⟩
set_option maxRecDepth 100000 in
set_option maxHeartbeats 2000000 in
theorem log_forced (h : IsLg F w gl gd l) : Calls Tryz.prog 47 #[ptr gl] w fun e w' => e = .returned (.int .u64 l.forced) ∧ w' = w := by
  obtain ⟨h1, bv, sv, h3, h4, h5, h6⟩ := h
  obtain ⟨c0, c1, c2, c3, c4, c5, c6, c7, c8, c9⟩ := h3.lg
  clear c0 c1 c2 c3 c4 c5 c6 c7 c9 h3 h4 h5 h6 h1
  go_enter Tryz.func47, Tryz.ntmps47
  go_wp2_with fail
  go_ret
  exact ⟨rfl, rfl⟩
set_option maxRecDepth 100000 in
set_option maxHeartbeats 2000000 in
theorem log_made {g : Nat} (c0 : w.cell? ⟨gl, 0, none⟩ = some (ptr g)) : Calls Tryz.prog 55 #[ptr gl] w fun e w' => e = .returned (.bool true) ∧ w' = w := by
  go_enter Tryz.func55, Tryz.ntmps55
  go_wp2_with fail
  go_ret
  exact ⟨rfl, rfl⟩
end

theorem bg_cast (n : Nat) : (n : Int) - (n : Int) % 110 = (Sp.bg n : Nat) := by unfold Sp.bg; omega
theorem log_begin (n : Nat) (hn : n < 18446744073709551616) (w : World) : Calls Tryz.prog 58 #[.int .u64 n] w fun e w' => e = .returned (.int .u64 (Sp.bg n)) ∧ w' = w := by
  have hb := Sp.bg_le n
  have hw : IntKind.u64.wrap ((n : Int) - (n : Int) % 110) = (Sp.bg n : Nat) := by rw [bg_cast, IntKind.wrap_u64]; omega
  go_enter Tryz.func58, Tryz.ntmps58
  go_wp2_with fail
  go_ret
  exact ⟨rfl, rfl⟩

set_option maxRecDepth 100000 in
set_option maxHeartbeats 2000000 in
theorem frame_size (n : Nat) (w : World) (hn : n < 1000000000) : Calls Tryz.prog 109 #[.int .i64 n] w fun e w' => e = .returned (.int .i64 (if 1 ≤ n ∧ n ≤ 4096 then 14 + n else 0 : Nat)) ∧ w' = w := by
  by_cases h1 : 1 ≤ n
  · have d1 : decide ((n : Int) < 1) = false := by rw [decide_eq_false_iff_not]; omega
    by_cases h2 : n ≤ 4096
    · have d2 : decide ((4096 : Int) < n) = false := by rw [decide_eq_false_iff_not]; omega
      rw [if_pos ⟨h1, h2⟩]
      go_enter Tryz.func109, Tryz.ntmps109
      go_wp2_with fail
      go_ret
      exact ⟨by go_num, rfl⟩
    · have d2 : decide ((4096 : Int) < n) = true := by rw [decide_eq_true_iff]; omega
      rw [if_neg (fun h => h2 h.2)]
      go_enter Tryz.func109, Tryz.ntmps109
      go_wp2_with fail
      go_ret
      exact ⟨rfl, rfl⟩
  · have d1 : decide ((n : Int) < 1) = true := by rw [decide_eq_true_iff]; omega
    rw [if_neg (fun h => h1 h.1)]
    go_enter Tryz.func109, Tryz.ntmps109
    go_wp2_with fail
    go_ret
    exact ⟨rfl, rfl⟩

set_option maxRecDepth 100000 in
set_option maxHeartbeats 2000000 in
theorem frame_sealed (h s : Sp.Bs) (w : World) (hl : h.length + s.length ≤ 1000000) : Calls Tryz.prog 111 #[str h, str s] w fun e w' => e = .returned (str (Sp.sumBytes (h ++ s))) ∧ Below w.heap.size w w' := by
  have HS := Lib.hid (sum_seal (h ++ s) w (by simp; omega))
  have hsl : (Sp.sealed (h ++ s)).length = h.length + s.length + 4 := by simp
  have hd : ((Sp.sealed (h ++ s)).drop (h.length + s.length)).take 4 = Sp.sumBytes (h ++ s) := by
    have e : h.length + s.length = (h ++ s).length := by simp
    rw [Sp.sealed, e, List.drop_left]
    exact List.take_of_length_le (by simp)
  go_enter Tryz.func111, Tryz.ntmps111
  go_wp2_with fail
  refine HS.out.mono ?_
  rintro e w1 ⟨rfl, hb⟩
  go_wp2_with fail
  go_ret
  refine ⟨?_, hb⟩
  show Ending.returned (Value.string (ByteArray.extract ⟨(Sp.sealed (h ++ s)).toArray⟩ _ _)) = _
  rw [str_extract, Nat.add_sub_cancel_left, hd]
end Go.Proofs.YtndglfiepeefdaaGreat

/- append of a string's bytes to an owned row of bytes, with where the row lies afterwards. No program is named here. -/
namespace Go.Proofs.YtndglfiepeefdaaGreat
open Go.RowKit

section
variable {P : Program} (w : World)
theorem run_append_str2 (base : Nat) (t u ty e : TypeId) (i : TypeInfo) (ht : P.underlying t = some (.slice e)) (hu : P.underlying u = some .string) (hi : P.info? e = some i) (hz : i.zero = some (.int .u8 0))
    (hsize : i.size = 1) (hby : i.bytes = 1) (v : Value) (n : Nat) (xs : List Value) (hown : w.ownsRow base e 1 v n xs) (s : ByteArray)
    (h63 : n + s.size ≤ maxLen) (hbytes : n + s.size ≤ 140737488355328) (hbase : base ≤ w.heap.size) :
    ∃ v' w', (Builtin.append_ #[t, u] ty #[v, .string s]).run P w = .ok v' w' ∧ w'.ownsRow base e 1 v' (n + s.size) (xs ++ Lib.strCells s) ∧ w.grownBy w' v.ownBlock ∧ (∀ k, v'.ownBlock = some k → v.ownBlock = some k ∨ w.heap.size ≤ k) := by
  obtain ⟨v', w', hr, h2, h3, _⟩ := Lib.run_append_own_string (P := P) w base t u ty e i ht hu hi hz hsize hby v n xs hown s h63 hbytes hbase
  refine ⟨v', w', hr, h2, h3, fun k hk => ?_⟩
  rcases hown.2 with ⟨rfl, rfl⟩ | ⟨g, cap, cur, rfl, hbg, hg, hnc, hcm, hcs, htake⟩
  · have hx : xs = [] := List.eq_nil_of_length_eq_zero (by simpa using hown.1)
    subst hx
    obtain ⟨v2, w2, hr2, h22, _, _⟩ := Lib.run_append_own_string (P := P) w w.heap.size t u ty e i ht hu hi hz hsize hby _ 0 [] (World.ownsRow_nil w w.heap.size e 1) s h63 hbytes (Nat.le_refl _)
    rw [hr] at hr2
    injection hr2 with hv hw
    subst hv hw
    exact .inr (h22.lt k hk).1
  · by_cases hroom : n + s.size ≤ cap
    · have hr2 := Lib.run_append_room_string (P := P) w t u ty e i ht hu hi hsize g n cap cur hg s hroom (by rw [hcs]; omega)
      rw [hr] at hr2
      injection hr2 with hv _
      subst hv
      exact .inl hk
    · have holds : ∀ j u, xs[j]? = some u → w.cell? ((⟨g, 0, none⟩ : Addr).add j) = some u := hown.cells (g := g) rfl
      have hr2 := Lib.run_append_grow_string (P := P) w t u ty e i _ ht hu hi hz ⟨g, 0, none⟩ n cap xs (by rw [hsize]; exact hown.1) holds s (by omega) (by simp only [maxLen] at h63; omega) (growslice_fits (by omega) (by rw [hby]; omega))
      rw [hr] at hr2
      injection hr2 with hv _
      subst hv
      refine .inr ?_
      simp only [Value.ownBlock, Option.some.injEq] at hk
      omega
theorem wpList_append_str2 {ops : Array Oper} {rest : List Oper} {o : Oper} {a : Act} {Q : Exit → Act → World → Prop} (hgd : o.guard = none) (sl x : Operand) (t u : TypeId)
    (ho : o.op = .call { callee := .builtin .append, args := #[sl, x], argTypes := #[t, u] })
    (base : Nat) (e : TypeId) (i : TypeInfo) (ht : P.underlying t = some (.slice e)) (hu : P.underlying u = some .string) (hi : P.info? e = some i) (hz : i.zero = some (.int .u8 0))
    (hsize : i.size = 1) (hby : i.bytes = 1) (v : Value) (n : Nat) (xs : List Value) (hs : a.eval sl = v) (hown : w.ownsRow base e 1 v n xs) (s : ByteArray) (hx : a.eval x = .string s)
    (h63 : n + s.size ≤ maxLen) (hbytes : n + s.size ≤ 140737488355328) (hbase : base ≤ w.heap.size)
    (h : ∀ v' w', w'.ownsRow base e 1 v' (n + s.size) (xs ++ Lib.strCells s) → w.grownBy w' v.ownBlock → (∀ k, v'.ownBlock = some k → v.ownBlock = some k ∨ w.heap.size ≤ k) → wpList P ops Q rest (a.put o.dst v') w') : wpList P ops Q (o :: rest) a w := by
  refine wpList_plain hgd fun K hK => ?_
  obtain ⟨v', w', hr, h2, h3, h4⟩ := run_append_str2 (P := P) w base t u o.type e i ht hu hi hz hsize hby v n xs hown s h63 hbytes hbase
  unfold Oper.wp execOp
  simp only [ho, resolve, invoke, builtin, Sem.run_bind, Sem.run_pure, Result.andThen_ok, List.map_toArray, List.map_cons, List.map_nil, hs, hx, hr]
  exact hK _ _ (h v' w' h2 h3 h4)
end
end Go.Proofs.YtndglfiepeefdaaGreat

/- Taking an operation first, in one word: the sides are proved by themselves. No program is named here. -/
namespace Go.Proofs.YtndglfiepeefdaaGreat
open Go.RowKit

section
variable {P : Program} {ops : Array Oper} {Q : Exit → Act → World → Prop} {md : Region.Mode} {S : World → Prop} {X : Nat → Bool}
theorem R_tk (i : Nat) (t : Tmp) {v : Value} {oi : Oper} {fuel : Nat} {listed : Array Bool} {a : Act} {w : World} (hS : S w)
    (h : wpAnyL P md ops Q S X fuel (listed.setIfInBounds i true) { tmps := a.tmps.setIfInBounds t v, defers := a.defers } w)
    (hi : ops[i]? = some oi := by rfl) (hd : oi.dst = some t := by rfl)
    (hw : Region.wanted oi (yielded ops a.tmps) = true := by rfl)
    (hb : (Region.noSelect ops && Region.free md ops listed i && (Region.ready md ops listed).contains i && allWait md ops X i) = true := by kernel_rfl)
    (hQ : ∀ c a w, Q (.panic c) (a.put (some t) v) w → Q (.panic c) a w := by exact fun _ _ _ h => h)
    (hy : ∀ w, S w → (execOp a.eval oi).run P w = .ok (.value v) w := by intro w hSw; (try dsimp only at hSw); (try simp only [zSA, zSB, zSC]); go_simp; (try with_reducible rfl)) :
    wpAnyL P md ops Q S X (fuel + 1) listed a w := R_take i t hi hd hw hb hQ hS hy h
end
/-- The operations not yet listed that wait for i, directly or through others. -/
def waitT (md : Region.Mode) (ops : Array Oper) (listed : Array Bool) (i : Nat) : List Nat :=
  (List.range ops.size).foldl (fun T j => if (!(listed.getD j true) && (match ops[j]? with | some o => o.after.any fun e => Region.binds md e && (e.on == i || T.contains e.on) | none => false)) = true then j :: T else T) []
def allWaitT (md : Region.Mode) (ops : Array Oper) (listed : Array Bool) (X : Nat → Bool) (i : Nat) : Bool :=
  !X i && ((List.range ops.size).all fun j => !X j || listed.getD j false || (waitT md ops listed i).contains j) &&
    (waitT md ops listed i).all fun j => !(listed.getD j true) && (match ops[j]? with | some o => o.after.any fun e => Region.binds md e && (e.on == i || (waitT md ops listed i).contains e.on) | none => false)
theorem allWaitT_spec {ops : Array Oper} {md : Region.Mode} {X : Nat → Bool} {listed : Array Bool} {i : Nat} (h : allWaitT md ops listed X i = true) :
    X i = false ∧ (∀ j oj, ops[j]? = some oj → X j = true → listed.getD j false = true ∨ j ∈ waitT md ops listed i) ∧
      ∀ j ∈ waitT md ops listed i, listed.getD j true = false ∧ ∃ oj, ops[j]? = some oj ∧ ∃ e ∈ oj.after, Region.binds md e = true ∧ (e.on = i ∨ e.on ∈ waitT md ops listed i) := by
  unfold allWaitT at h
  rw [Bool.and_eq_true, Bool.and_eq_true, List.all_eq_true, List.all_eq_true] at h
  obtain ⟨⟨h1, h2⟩, h3⟩ := h
  refine ⟨by simpa using h1, fun j oj hj hx => ?_, fun j hj => ?_⟩
  · have hlt : j < ops.size := (Array.getElem?_eq_some_iff.1 hj).1
    have := h2 j (List.mem_range.2 hlt)
    rw [hx, Bool.not_true, Bool.false_or, Bool.or_eq_true] at this
    exact this.imp id (fun h => by simpa using h)
  · have h4 := h3 j hj
    rw [Bool.and_eq_true] at h4
    refine ⟨by simpa using h4.1, ?_⟩
    cases ho : ops[j]? with
    | none => rw [ho] at h4; exact absurd h4.2 (by simp)
    | some o =>
      rw [ho] at h4
      refine ⟨o, rfl, ?_⟩
      obtain ⟨e, he, hb⟩ := Array.any_eq_true'.1 h4.2
      rw [Bool.and_eq_true, Bool.or_eq_true] at hb
      refine ⟨e, he, hb.1, ?_⟩
      rcases hb.2 with h5 | h5
      · exact .inl (by simpa using h5)
      · exact .inr (by simpa using h5)

section
variable {P : Program} {ops : Array Oper} {Q : Exit → Act → World → Prop} {md : Region.Mode} {S : World → Prop} {X : Nat → Bool}
theorem wpAnyL_firstT {T : List Nat} {i : Nat} {oi : Oper} {v : Value} (hi : ops[i]? = some oi) (hsel : ∀ (j : Nat) (o : Oper) cs b, ops[j]? = some o → o.op ≠ .select cs b)
    (hQ : ∀ c a w, Q (.panic c) (a.put oi.dst v) w → Q (.panic c) a w) (hXi : X i = false)
    :
    ∀ (fuel : Nat) (listed : Array Bool) (a : Act) (w : World),
      (∀ j oj, ops[j]? = some oj → X j = true → listed.getD j false = true ∨ j ∈ T) →
      (∀ j ∈ T, listed.getD j true = false ∧ ∃ oj, ops[j]? = some oj ∧ ∃ e ∈ oj.after, Region.binds md e = true ∧ (e.on = i ∨ e.on ∈ T)) →
      (∀ j oj, ops[j]? = some oj → j ≠ i → listed.getD j true = false → (∀ e ∈ oj.after, Region.binds md e = true → e.on ≠ i) → oi.apart ops oj = true) →
      i ∈ Region.ready md ops listed → YieldsIf P ops S oi v a → S w →
      wpAnyL P md ops Q S X fuel (listed.setIfInBounds i true) (a.put oi.dst v) w → wpAnyL P md ops Q S X (fuel + 1) listed a w := by
  intro fuel
  induction fuel with
  | zero =>
    intro listed a w _ _ _ hr hy hS H
    refine ⟨fun h => (by rw [h] at hr; cases hr), fun j hj => ?_⟩
    by_cases hji : j = i
    · subst hji; exact hy.wpOp hi hS ⟨fun _ => hS, H⟩
    · have := ready_mono hj hji
      rw [H.1] at this
      cases this
  | succ fuel ih =>
    intro listed a w hX hT hfree hr hy hS H
    have hun : ∀ k, listed.getD k true = false → listed.getD k false = true → False := fun k h0 h1 => by
      rcases Nat.lt_or_ge k listed.size with h' | h'
      · simp [h'] at h0 h1; rw [h0] at h1; cases h1
      · simp [Array.getElem?_eq_none h'] at h1
    refine ⟨fun h => (by rw [h] at hr; cases hr), fun j hj => ?_⟩
    by_cases hji : j = i
    · subst hji; exact hy.wpOp hi hS ⟨fun _ => hS, H⟩
    · have h1 := H.2 j (ready_mono hj hji)
      obtain ⟨hjun, oj, hoj, hall⟩ := mem_ready.1 hj
      have hnot : ∀ e ∈ oj.after, Region.binds md e = true → e.on ≠ i := fun e he hb heq => by
        have h1 := hall e he hb
        rw [heq] at h1
        exact hun i (mem_ready.1 hr).1 h1
      have hnT : j ∉ T := fun hjT => by
        obtain ⟨_, oj', hoj', e, he, hb, hon⟩ := hT j hjT
        rw [hoj] at hoj'
        injection hoj' with hoj'
        subst hoj'
        have h1 := hall e he hb
        rcases hon with hon | hon
        · exact hnot e he hb hon
        · exact hun _ (hT _ hon).1 h1
      have hXj : X j = false := by
        cases hx : X j with
        | false => rfl
        | true =>
          rcases hX j oj hoj hx with h | h
          · exact (hun j hjun h).elim
          · exact absurd h hnT
      have h2 := wpOp_putIf hoj (hfree j oj hoj hji hjun hnot) (fun cs b => hsel i oi cs b hi) (fun cs b => hsel j oj cs b hoj) hQ hy h1
      have hfree' : ∀ k ok, ops[k]? = some ok → k ≠ i → (listed.setIfInBounds j true).getD k true = false →
          (∀ e ∈ ok.after, Region.binds md e = true → e.on ≠ i) → oi.apart ops ok = true := fun k ok hk hki hun hno => by
        refine hfree k ok hk hki ?_ hno
        by_cases hjk : j = k
        · subst hjk; exact hjun
        · rw [getD_set_ne true hjk] at hun; exact hun
      have hT' : ∀ k ∈ T, (listed.setIfInBounds j true).getD k true = false ∧ ∃ oj, ops[k]? = some oj ∧ ∃ e ∈ oj.after, Region.binds md e = true ∧ (e.on = i ∨ e.on ∈ T) := fun k hk => by
        refine ⟨?_, (hT k hk).2⟩
        rw [getD_set_ne true (fun e => hnT (by rw [e]; exact hk))]
        exact (hT k hk).1
      have hX' : ∀ k ok, ops[k]? = some ok → X k = true → (listed.setIfInBounds j true).getD k false = true ∨ k ∈ T := fun k ok hk hx => by
        by_cases hjk : j = k
        · subst hjk; rw [hXj] at hx; cases hx
        · rw [getD_set_ne false hjk]; exact hX k ok hk hx
      refine wpOp_mono (fun a' w' h3 => ⟨h3.2.1, ih (listed.setIfInBounds j true) a' w' hX' hT' hfree' (ready_mono hr (Ne.symm hji)) h3.1 (h3.2.1 hXj) ?_⟩) h2
      rw [Array.setIfInBounds_comm _ _ hji]
      exact h3.2.2

/-- As R_tk, where the operations of X wait for it through others. -/
theorem R_tt (i : Nat) (t : Tmp) {v : Value} {oi : Oper} {fuel : Nat} {listed : Array Bool} {a : Act} {w : World} (hS : S w)
    (h : wpAnyL P md ops Q S X fuel (listed.setIfInBounds i true) { tmps := a.tmps.setIfInBounds t v, defers := a.defers } w)
    (hi : ops[i]? = some oi := by rfl) (hd : oi.dst = some t := by rfl)
    (hw : Region.wanted oi (yielded ops a.tmps) = true := by rfl)
    (hb : (Region.noSelect ops && Region.free md ops listed i && (Region.ready md ops listed).contains i && allWaitT md ops listed X i) = true := by kernel_rfl)
    (hQ : ∀ c a w, Q (.panic c) (a.put (some t) v) w → Q (.panic c) a w := by exact fun _ _ _ h => h)
    (hy : ∀ w, S w → (execOp a.eval oi).run P w = .ok (.value v) w := by intro w hSw; (try dsimp only at hSw); (try simp only [zSA, zSB, zSC]); go_simp; (try with_reducible rfl)) :
    wpAnyL P md ops Q S X (fuel + 1) listed a w := by
  simp only [Bool.and_eq_true] at hb
  obtain ⟨⟨⟨hs, hf⟩, hr⟩, hx⟩ := hb
  obtain ⟨h1, h2, h3⟩ := allWaitT_spec hx
  exact wpAnyL_firstT hi (Region.noSelect_spec hs) (by rw [hd]; exact hQ) h1 fuel listed a w h2 h3 (Region.free_spec hi hf) (by simpa using hr) (.inl ⟨hw, hy⟩) hS (by rw [hd]; exact h)

/-- An operation that hangs on no world is taken first, whatever else is under way; it is of X. -/
theorem wpAnyL_pure {i : Nat} {oi : Oper} {v : Value} (hi : ops[i]? = some oi) (hsel : ∀ (j : Nat) (o : Oper) cs b, ops[j]? = some o → o.op ≠ .select cs b)
    (hQ : ∀ c a w, Q (.panic c) (a.put oi.dst v) w → Q (.panic c) a w) (hXi : X i = true) :
    ∀ (fuel : Nat) (listed : Array Bool) (a : Act) (w : World),
      (∀ j oj, ops[j]? = some oj → j ≠ i → listed.getD j true = false → (∀ e ∈ oj.after, Region.binds md e = true → e.on ≠ i) → oi.apart ops oj = true) →
      i ∈ Region.ready md ops listed → YieldsIf P ops (fun _ => True) oi v a →
      wpAnyL P md ops Q S X fuel (listed.setIfInBounds i true) (a.put oi.dst v) w → wpAnyL P md ops Q S X (fuel + 1) listed a w := by
  intro fuel
  induction fuel with
  | zero =>
    intro listed a w _ hr hy H
    refine ⟨fun h => (by rw [h] at hr; cases hr), fun j hj => ?_⟩
    by_cases hji : j = i
    · subst hji; exact hy.wpOp hi trivial ⟨fun h => absurd h (by rw [hXi]; decide), H⟩
    · have := ready_mono hj hji
      rw [H.1] at this
      cases this
  | succ fuel ih =>
    intro listed a w hfree hr hy H
    have hun : ∀ k, listed.getD k true = false → listed.getD k false = true → False := fun k h0 h1 => by
      rcases Nat.lt_or_ge k listed.size with h' | h'
      · simp [h'] at h0 h1; rw [h0] at h1; cases h1
      · simp [Array.getElem?_eq_none h'] at h1
    refine ⟨fun h => (by rw [h] at hr; cases hr), fun j hj => ?_⟩
    by_cases hji : j = i
    · subst hji; exact hy.wpOp hi trivial ⟨fun h => absurd h (by rw [hXi]; decide), H⟩
    · have h1 := H.2 j (ready_mono hj hji)
      obtain ⟨hjun, oj, hoj, hall⟩ := mem_ready.1 hj
      have hnot : ∀ e ∈ oj.after, Region.binds md e = true → e.on ≠ i := fun e he hb heq => by
        have h1 := hall e he hb
        rw [heq] at h1
        exact hun i (mem_ready.1 hr).1 h1
      have h2 := wpOp_putIf hoj (hfree j oj hoj hji hjun hnot) (fun cs b => hsel i oi cs b hi) (fun cs b => hsel j oj cs b hoj) hQ hy h1
      have hfree' : ∀ k ok, ops[k]? = some ok → k ≠ i → (listed.setIfInBounds j true).getD k true = false →
          (∀ e ∈ ok.after, Region.binds md e = true → e.on ≠ i) → oi.apart ops ok = true := fun k ok hk hki hun hno => by
        refine hfree k ok hk hki ?_ hno
        by_cases hjk : j = k
        · subst hjk; exact hjun
        · rw [getD_set_ne true hjk] at hun; exact hun
      refine wpOp_mono (fun a' w' h3 => ⟨h3.2.1, ih (listed.setIfInBounds j true) a' w' hfree' (ready_mono hr (Ne.symm hji)) h3.1 ?_⟩) h2
      rw [Array.setIfInBounds_comm _ _ hji]
      exact h3.2.2
theorem R_pp (i : Nat) (t : Tmp) {v : Value} {oi : Oper} {fuel : Nat} {listed : Array Bool} {a : Act} {w : World}
    (h : wpAnyL P md ops Q S X fuel (listed.setIfInBounds i true) { tmps := a.tmps.setIfInBounds t v, defers := a.defers } w)
    (hi : ops[i]? = some oi := by rfl) (hd : oi.dst = some t := by rfl)
    (hw : Region.wanted oi (yielded ops a.tmps) = true := by rfl)
    (hb : (Region.noSelect ops && Region.free md ops listed i && (Region.ready md ops listed).contains i && X i) = true := by kernel_rfl)
    (hQ : ∀ c a w, Q (.panic c) (a.put (some t) v) w → Q (.panic c) a w := by exact fun _ _ _ h => h)
    (hy : ∀ w, True → (execOp a.eval oi).run P w = .ok (.value v) w := by intro w _; (try simp only [zSA, zSB, zSC]); go_simp; (try with_reducible rfl)) :
    wpAnyL P md ops Q S X (fuel + 1) listed a w := by
  simp only [Bool.and_eq_true] at hb
  obtain ⟨⟨⟨hs, hf⟩, hr⟩, hx⟩ := hb
  exact wpAnyL_pure hi (Region.noSelect_spec hs) (by rw [hd]; exact hQ) hx fuel listed a w (Region.free_spec hi hf) (by simpa using hr) (.inl ⟨hw, hy⟩) (by rw [hd]; exact h)
end
end Go.Proofs.YtndglfiepeefdaaGreat

/- The walks of package log: Room, Append; frame.Encode. -/
namespace Go.Proofs.YtndglfiepeefdaaGreat
open Go.RowKit

set_option maxRecDepth 100000 in
set_option maxHeartbeats 2000000 in
theorem frame_encode (lsn : Nat) (s : Sp.Bs) (w : World) (h1 : 1 ≤ s.length) (h2 : s.length ≤ 4096) (hl1 : 1 ≤ lsn) (hl : lsn < 18446744073709551616) :
    Calls Tryz.prog 56 #[.int .u64 lsn, str s] w fun e w' => e = .returned (.tuple #[str (Sp.frame lsn s), .int .i64 0]) ∧ Below w.heap.size w w' := by
  have HZ := Lib.hid fun (W : World) => frame_size s.length W (by omega)
  rw [if_pos ⟨h1, h2⟩] at HZ
  have d0 : (((14 + s.length : Nat) : Int) == 0) = false := by simp; omega
  have d1 : ((lsn : Int) == 0) = false := by simp; omega
  have hcv : IntKind.u64.wrap (s.length : Int) = (s.length : Nat) := by rw [IntKind.wrap_u64]; omega
  have HN := Lib.hid fun (W : World) => word_put s.length 2 W (by omega) (by omega) (by omega) (by omega)
  have HA := Lib.hid fun (W : World) => word_put lsn 8 W (by omega) (by omega) (by omega) hl
  have HS := Lib.hid fun (W : World) => frame_sealed (Sp.be 2 s.length ++ Sp.be 8 lsn) s W (by simp; omega)
  have hfr : Hid (Sp.be 2 s.length ++ Sp.be 8 lsn ++ Sp.sumBytes (Sp.be 2 s.length ++ Sp.be 8 lsn ++ s) ++ s = Sp.frame lsn s) := rfl
  have hsm : (Sp.sumBytes (Sp.be 2 s.length ++ Sp.be 8 lsn ++ s)).length = 4 := rfl
  have hbn : (Sp.be 2 s.length).length = 2 := Sp.be_length _ _
  have hba : (Sp.be 8 lsn).length = 8 := Sp.be_length _ _
  generalize Sp.sumBytes (Sp.be 2 s.length ++ Sp.be 8 lsn ++ s) = sm at *
  generalize Sp.be 2 s.length = bn at *
  generalize Sp.be 8 lsn = ba at *
  go_enter Tryz.func56, Tryz.ntmps56
  go_wp2_with fail
  refine (HZ.out _).mono ?_
  rintro e w1 ⟨rfl, hw⟩
  subst w1
  go_wp2_with fail
  refine (HN.out _).mono ?_
  rintro e w1 ⟨rfl, hb1⟩
  go_wp2_with fail
  refine (HA.out _).mono ?_
  rintro e w2 ⟨rfl, hb2⟩
  go_wp2_with fail
  refine (HS.out _).mono ?_
  rintro e w3 ⟨rfl, hb3⟩
  go_wp2_with fail
  go_ret2
  have hb := (hb1.trans (hb2.mono hb1.size)).trans (hb3.mono (Nat.le_trans hb1.size hb2.size))
  exact ⟨by rw [← hfr.out]; simp [str_append], hb⟩

set_option maxRecDepth 100000 in
set_option maxHeartbeats 2000000 in
theorem frame_encode_bad (lsn : Nat) (s : Sp.Bs) (w : World) (h : s.length = 0 ∨ 4096 < s.length) (hl9 : s.length < 1000000000) :
    Calls Tryz.prog 56 #[.int .u64 lsn, str s] w fun e w' => e = .returned (.tuple #[str [], .int .i64 2]) ∧ w' = w := by
  have HZ := Lib.hid fun (W : World) => frame_size s.length W hl9
  rw [if_neg (by omega)] at HZ
  go_enter Tryz.func56, Tryz.ntmps56
  go_wp2_with fail
  refine (HZ.out _).mono ?_
  rintro e w1 ⟨rfl, hw⟩
  subst w1
  go_wp2_with fail
  go_ret2
  exact ⟨rfl, rfl⟩

section
variable {F : Foot} {w : World} {gl gd : Nat} {l : Sp.Lg}
set_option maxRecDepth 100000 in
set_option maxHeartbeats 2000000 in
theorem log_room (h : IsLg F w gl gd l) (hn : l.next < 4611686018427387904) (hr : l.reserved < 1000000000) :
    Calls Tryz.prog 57 #[ptr gl] w fun e w' => e = .returned (.int .i64 l.left) ∧ Below w.heap.size w w' := by
  obtain ⟨h1, bv, sv, h3, h4, h5, h6⟩ := h
  obtain ⟨c0, c1, c2, c3, c4, c5, c6, c7, c8, c9⟩ := h3.lg
  have HM := Lib.hid (log_made (w := w) c0)
  have hff := h1.ff
  have hfn := h1.fn
  have hlen := h1.len
  have hbl := Sp.bg_le l.first
  have hn4 := h1.n4k
  have hroom := h1.room
  have HB := Lib.hid fun (W : World) => log_begin l.first (by omega) W
  have e1 : (l.next : Int) - (Sp.bg l.first : Nat) = (l.bytes.length : Nat) := by omega
  have hw1 : IntKind.u64.wrap ((l.next : Int) - (Sp.bg l.first : Nat)) = (l.bytes.length : Nat) := by rw [e1, IntKind.wrap_u64]; omega
  have hw1' : IntKind.u64.wrap ((l.bytes.length : Nat) : Int) = (l.bytes.length : Nat) := by rw [IntKind.wrap_u64]; omega
  have hw2 : IntKind.i64.wrap (l.bytes.length : Nat) = (l.bytes.length : Nat) := IntWalk.i64_in _ (by omega)
  have hw3 : IntKind.i64.wrap ((l.n : Int) * 110) = (l.n : Int) * 110 := IntWalk.i64_in _ (by omega)
  have hw4 : IntKind.i64.wrap ((l.n : Int) * 110 - (l.bytes.length : Nat)) = (l.n : Int) * 110 - (l.bytes.length : Nat) := IntWalk.i64_in _ (by omega)
  have hw5 : IntKind.i64.wrap ((l.n : Int) * 110 - (l.bytes.length : Nat) - (l.reserved : Nat)) = (l.n : Int) * 110 - (l.bytes.length : Nat) - (l.reserved : Nat) := IntWalk.i64_in _ (by omega)
  clear c0 c1 c3 c4 c5 c8
  go_enter Tryz.func57, Tryz.ntmps57
  go_wp2_with fail
  refine HM.out.mono ?_
  rintro e w1 ⟨rfl, hw⟩
  subst w1
  go_wp2_with fail
  have hS := Lib.hid (show w.drew.cell? ⟨gl, 2, none⟩ = some (.int .i64 l.n) ∧ w.drew.cell? ⟨gl, 6, none⟩ = some (.int .u64 l.first) ∧ w.drew.cell? ⟨gl, 7, none⟩ = some (.int .u64 l.next) ∧ w.drew.cell? ⟨gl, 9, none⟩ = some (.int .i64 l.reserved) from ⟨c2, c6, c7, c9⟩)
  refine R_begin (fun W => W.cell? ⟨gl, 2, none⟩ = some (.int .i64 l.n) ∧ W.cell? ⟨gl, 6, none⟩ = some (.int .u64 l.first) ∧ W.cell? ⟨gl, 7, none⟩ = some (.int .u64 l.next) ∧ W.cell? ⟨gl, 9, none⟩ = some (.int .i64 l.reserved)) (fun _ => false) rfl ?_
  refine R_tk 0 6 hS.out ?_
  refine R_tk 1 7 hS.out ?_
  refine R_tk 2 8 hS.out ?_
  refine R_tk 3 9 hS.out ?_
  refine R_tk 4 10 hS.out ?_
  simp only [zSA, zSB, zSC]
  refine R_tk 5 11 hS.out ?_
  refine R_tk 6 12 hS.out ?_
  refine R_tk 7 13 hS.out ?_
  refine R_tk 8 14 hS.out ?_
  simp only [zSA, zSB, zSC]
  refine R_tk 9 15 hS.out ?_
  refine R_tk 10 16 hS.out ?_
  refine R_tk 11 17 hS.out ?_
  refine R_tk 12 18 hS.out ?_
  simp only [zSA, zSB, zSC]
  refine R_tk 17 23 hS.out ?_
  refine R_tk 18 24 hS.out ?_
  refine R_tk 19 25 hS.out ?_
  refine R_tk 20 26 hS.out ?_
  simp only [zSA, zSB, zSC]
  refine R_call 13 19 (w' := w.drew) rfl rfl (by rfl) (by kernel_rfl) ?_ (HB.out _) ?_
  · go_simp
  rintro e w2 ⟨rfl, hw⟩
  subst w2
  refine ⟨_, rfl, fun _ => hS.out, ?_⟩
  simp only [zSA, zSB, zSC]
  refine R_tk 14 20 hS.out ?_
  simp only [zSA, zSB, zSC]
  refine R_tk 15 21 hS.out ?_
  simp only [zSA, zSB, zSC]
  refine R_tk 16 22 hS.out ?_
  simp only [zSA, zSB, zSC]
  refine R_tk 21 27 hS.out ?_
  simp only [zSA, zSB, zSC]
  refine R_tk 22 28 hS.out ?_
  simp only [zSA, zSB, zSC]
  refine R_tk 23 2 hS.out ?_
  simp only [zSA, zSB, zSC]
  refine R_done (by kernel_rfl) ?_ _
  have hmx : max 0 ((l.n : Int) * 110 - (l.bytes.length : Nat) - (l.reserved : Nat)) = (l.left : Nat) := by unfold Sp.Lg.left; omega
  rw [hmx]
  rename_i K9 hK9
  refine hK9 _ _ ?_
  clear hK9 hS
  go_wp2_with fail
  go_ret
  exact ⟨rfl, (Below.refl w.heap.size w).drew⟩

theorem byte_info : (Tryz.prog.info? 5).map (fun i => (i.zero, i.size, i.bytes)) = some (some (.int .u8 0), 1, 1) := by kernel_rfl
theorem u64_info : (Tryz.prog.info? 29).map (fun i => (i.zero, i.size, i.bytes)) = some (some (.int .u64 0), 1, 8) := by kernel_rfl
theorem run_op_append {P : Program} {o : Oper} {a : Act} {w w' : World} {v u v' : Value} (sl x : Operand) (ts : Array TypeId) (ho : o.op = .call { callee := .builtin .append, args := #[sl, x], argTypes := ts }) (hs : a.eval sl = v) (hx : a.eval x = u)
    (hr : (Builtin.append_ ts o.type #[v, u]).run P w = .ok v' w') : (execOp a.eval o).run P w = .ok (.value v') w' := by
  unfold execOp
  simp only [ho, resolve, invoke, builtin, Sem.run_bind, Sem.run_pure, Result.andThen_ok, List.map_toArray, List.map_cons, List.map_nil, hs, hx, hr]

theorem own_heap {w : World} {e : TypeId} {k n : Nat} {v : Value} {xs : List Value} {b : Nat} (h : w.ownsRow b e k v n xs) {g : Nat} (hg : v.ownBlock = some g) : ∃ cur, Blk w g e cur := by
  rcases h.2 with ⟨rfl, _⟩ | ⟨g', cap, cur, rfl, _, hh, _⟩
  · simp [Value.ownBlock] at hg
  · simp only [Value.ownBlock, Option.some.injEq] at hg
    subst hg
    exact ⟨cur, hh⟩

theorem lsns_one (l : List Nat) (n : Nat) : lsns (l ++ [n]) = lsns l ++ [.int .u64 (n : Int)] := by simp [lsns]

/-- What holds behind the append of a frame's bytes and the making of the row that has its LSN. -/
structure AppMid (w1 W : World) (bv v7 : Value) (g8 n lsn : Nat) (bs : Sp.Bs) (f : Sp.Bs) : Prop where
  row : W.ownsRow 0 5 1 v7 n (bcs (bs ++ f))
  sub : ∀ k, v7.ownBlock = some k → bv.ownBlock = some k ∨ w1.heap.size ≤ k
  one : Blk W g8 29 #[.int .u64 lsn]
  fresh : w1.heap.size ≤ g8
  turns : Turns (fun b => bv.ownBlock = some b) (fun b => bv.ownBlock = some b) w1 W

def AppPost (G : Foot) (w : World) (gl gd : Nat) (l : Sp.Lg) (s : Sp.Bs) (e : Ending) (w' : World) : Prop :=
  ∃ G', e = .returned (.tuple #[.int .u64 l.next, .int .i64 0]) ∧ IsLg G' w' gl gd (l.append s) ∧ Turns G G' w w'

set_option maxRecDepth 100000 in
set_option maxHeartbeats 4000000 in
theorem log_append (h : IsLg F w gl gd l) (hn : l.next < 4611686018427387904) (hr : l.reserved < 1000000000) (s : Sp.Bs) (hs1 : 1 ≤ s.length) (hs2 : s.length ≤ 4096) (hfit : 14 + s.length ≤ l.left) :
    Calls Tryz.prog 12 #[ptr gl, str s] w (AppPost F w gl gd l s) := by
  have HR := Lib.hid fun (W : World) (h : IsLg F W gl gd l) => log_room h hn hr
  have hin := h.in_
  have HI := Lib.hid h
  obtain ⟨h1, bv, sv, h3, h4, h5, h6⟩ := h
  obtain ⟨c0, c1, c2, c3, c4, c5, c6, c7, c8, c9⟩ := h3.lg
  have HM := Lib.hid (log_made (w := w) c0)
  have hlen := h1.len
  have hlo := h1.lo
  have hff := h1.ff
  have hfn := h1.fn
  have hbl := Sp.bg_le l.first
  have hn4 := h1.n4k
  have hroom := h1.room
  have hwf2 := Lib.hid (Sp.Lg.append_wf h1 hfit)
  have hfew := h1.few
  have HE := Lib.hid fun (W : World) => frame_encode l.next s W hs1 hs2 (by omega) (by omega)
  have hfl := Sp.frame_length l.next s
  have hap : Hid (l.append s = { l with bytes := l.bytes ++ Sp.frame l.next s, starts := l.starts ++ [l.next], next := l.next + (14 + s.length) }) := rfl
  generalize Sp.frame l.next s = f at *
  have df : decide (l.left < f.length) = false := by rw [decide_eq_false_iff_not]; omega
  have hw1 : IntKind.u64.wrap ((l.next : Int) + (f.length : Nat)) = ((l.next + (14 + s.length) : Nat) : Int) := by rw [IntKind.wrap_u64]; omega
  have hw2 : IntKind.u64.wrap ((f.length : Nat) : Int) = (f.length : Nat) := by rw [IntKind.wrap_u64]; omega
  have hflm : f.length ≤ 4110 := by omega
  have hfl1 : 14 ≤ f.length := by omega
  have HFL := Lib.hid hfl
  clear hfl
  clear c1 c2 c3 c4 c5 c6 c8 c9 c0
  go_enter Tryz.func12, Tryz.ntmps12
  go_wp2_with fail
  refine HM.out.mono ?_
  rintro e w1 ⟨rfl, hw⟩
  subst w1
  go_wp2_with fail
  refine (HE.out _).mono ?_
  rintro e w1 ⟨rfl, hb1⟩
  go_wp2_with fail
  refine (HR.out _ (HI.out.below hb1)).mono ?_
  rintro e w2 ⟨rfl, hb2'⟩
  have hb2 : Below w.heap.size w w2 := hb1.trans (hb2'.mono hb1.size)
  have h32 := h3.below hb2 h3.lt
  have c7' := h32.lg.2.2.2.2.2.2.2.1
  clear c7 hb1 hb2' HE HR HM
  go_wp2_with fail
  have hin2 : ∀ b, F b → w2.heap[b]? = w.heap[b]? := fun b hb => hb2.block b (hin b hb)
  have h42 := own_keep h4 (w' := w2) (fun b hb => hin2 b ((h6 b).2 (.inr (.inl hb))))
  have h52 := own_keep h5 (w' := w2) (fun b hb => hin2 b ((h6 b).2 (.inr (.inr hb))))
  have hne4 : bv.ownBlock ≠ some gl := own_ne h42 h32 (by decide)
  have hne5 : sv.ownBlock ≠ some gl := own_ne h52 h32 (by decide)
  have hne45 : ∀ k, bv.ownBlock = some k → sv.ownBlock ≠ some k := fun k e1 e2 => by
    obtain ⟨cur, hc⟩ := own_heap h42 e1
    exact own_ne h52 hc (by decide) e2
  have hbl2 : ∀ b, bv.ownBlock = some b → b < w2.heap.size := fun b hb => (h42.lt b hb).2
  have hgl2 := h32.lt
  obtain ⟨ib, hib, hzb0, hzb1, hzb2⟩ := info_parts byte_info
  obtain ⟨iu, hiu, hzu0, hzu1, hzu2⟩ := info_parts u64_info
  go_upto_region 9 with fail
  go_cut [] (fun wx => ∃ v7 v9, Blk wx gl 117 (lgCells gd l.at_ l.n l.life v7 v9 l.first l.next l.forced l.reserved) ∧ wx.ownsRow 0 5 1 v7 (l.bytes.length + f.length) (bcs (l.bytes ++ f)) ∧
    wx.ownsRow 0 29 1 v9 (l.starts.length + 1) (lsns (l.starts ++ [l.next])) ∧ (∀ k, v7.ownBlock = some k → F k ∨ w.heap.size ≤ k) ∧ (∀ k, v9.ownBlock = some k → F k ∨ w.heap.size ≤ k) ∧ Turns F F w wx)
  case first =>
    have c4 := h32.lg.2.2.2.2.1
    have c5 := h32.lg.2.2.2.2.2.1
    go_wp2_with fail
    have hS : w2.drew.cell? ⟨gl, 4, none⟩ = some bv ∧ w2.drew.cell? ⟨gl, 5, none⟩ = some sv := ⟨c4, c5⟩
    refine R_begin (fun W => W.cell? ⟨gl, 4, none⟩ = some bv ∧ W.cell? ⟨gl, 5, none⟩ = some sv) (fun j => j == 1 || decide (17 ≤ j)) rfl ?_
    refine R_pp 1 36 ?_
    refine R_tt 0 35 hS ?_
    refine R_tt 2 37 hS ?_
    refine R_tt 3 38 hS ?_
    refine R_tt 4 39 hS ?_
    refine R_tt 5 40 hS ?_
    refine R_tt 6 41 hS ?_
    refine R_tt 8 43 hS ?_
    refine R_tt 9 44 hS ?_
    refine R_tt 10 45 hS ?_
    refine R_tt 11 46 hS ?_
    refine R_tt 12 47 hS ?_
    simp only [zSA, zSB, zSC]
    refine R_all (rs := [7, 13]) (by kernel_rfl) (by simp) (fun i hi => ?_)
    simp only [List.mem_cons, List.not_mem_nil, or_false] at hi
    have T0 : Turns (fun b => bv.ownBlock = some b) (fun b => bv.ownBlock = some b) w2 w2.drew := (Turns.refl _ _).drew
    rcases hi with rfl | rfl
    obtain ⟨v7, W, hr7, hO7, hg7, hk7⟩ := run_append_str2 (P := Tryz.prog) w2.drew 0 114 9 114 5 ib Tryz.underlying114 Tryz.underlying9 hib hzb0 hzb1 hzb2 bv _ _ h42 ⟨f.toArray⟩ (by show _ + f.toArray.size ≤ _; unfold maxLen; simp; omega) (by show _ + f.toArray.size ≤ _; simp; omega) (Nat.zero_le _)
    have T1 := T0.grown hg7 (fun k hk => .inl hk)
    refine op_run 42 rfl rfl (by rfl) (run_op_append _ _ _ rfl rfl rfl hr7) ⟨fun _ => ⟨((h32.turns T1 hne4).cell 4).trans rfl, ((h32.turns T1 hne4).cell 5).trans rfl⟩, ?_⟩
    simp only [zSA, zSB, zSC]
    refine R_run 13 48 (v := .slice (some ⟨W.heap.size, 0, none⟩) 1 1) (w' := W.alloc (.cells #[.int .u64 l.next] 29)) rfl rfl (by rfl) (by kernel_rfl) (by go_simp) ?_ ?_
    · have T2 := T1.alloc (.cells #[.int .u64 l.next] 29)
      exact fun _ => ⟨((h32.turns T2 hne4).cell 4).trans rfl, ((h32.turns T2 hne4).cell 5).trans rfl⟩
    simp only [zSA, zSB, zSC]
    have hm : AppMid w2 (W.alloc (.cells #[.int .u64 l.next] 29)) bv v7 W.heap.size (l.bytes.length + f.length) l.next l.bytes f :=
      ⟨by rw [bcs_append]; exact own_keep hO7 (fun b hb => Below.heap_alloc W _ b (hO7.lt b hb).2), hk7, Blk.new _ _ _, T1.size, T1.alloc _⟩
    obtain ⟨g8, hg8⟩ : ∃ g, g = W.heap.size := ⟨_, rfl⟩
    obtain ⟨W1, hW1⟩ : ∃ W1, W1 = W.alloc (.cells #[.int .u64 l.next] 29) := ⟨_, rfl⟩
    rw [← hW1, ← hg8] at hm ⊢
    clear hW1 hg8 hO7 hg7 hk7 T1 hr7
    rotate_left
    refine op_run 48 (v := .slice (some ⟨w2.drew.heap.size, 0, none⟩) 1 1) (w' := w2.drew.alloc (.cells #[.int .u64 l.next] 29)) rfl rfl (by rfl) (by go_simp) ⟨?_, ?_⟩
    · have T2 := T0.alloc (.cells #[.int .u64 l.next] 29)
      exact fun _ => ⟨((h32.turns T2 hne4).cell 4).trans rfl, ((h32.turns T2 hne4).cell 5).trans rfl⟩
    simp only [zSA, zSB, zSC]
    have T2 := T0.alloc (.cells #[.int .u64 l.next] 29)
    have h42' := own_keep h42 (w' := w2.drew.alloc (.cells #[.int .u64 l.next] 29)) (fun b hb => Below.heap_alloc w2.drew _ b (hbl2 b hb))
    have hg8b := Blk.new w2.drew 29 #[.int .u64 l.next]
    have hg8l : w2.heap.size ≤ w2.drew.heap.size := Nat.le_refl _
    obtain ⟨g8, hg8⟩ : ∃ g, g = w2.drew.heap.size := ⟨_, rfl⟩
    obtain ⟨W, hW⟩ : ∃ W, W = w2.drew.alloc (.cells #[.int .u64 l.next] 29) := ⟨_, rfl⟩
    rw [← hW, ← hg8] at hg8b ⊢
    rw [← hW] at T2 h42'
    rw [← hg8] at hg8l
    clear hW hg8
    obtain ⟨v7, W1, hr7, hO7, hg7, hk7⟩ := run_append_str2 (P := Tryz.prog) W 0 114 9 114 5 ib Tryz.underlying114 Tryz.underlying9 hib hzb0 hzb1 hzb2 bv _ _ h42' ⟨f.toArray⟩ (by show _ + f.toArray.size ≤ _; unfold maxLen; simp; omega) (by show _ + f.toArray.size ≤ _; simp; omega) (Nat.zero_le _)
    have T1 := T2.grown hg7 (fun k hk => .inl hk)
    refine R_run 7 42 rfl rfl (by rfl) (by kernel_rfl) (run_op_append _ _ _ rfl rfl rfl hr7) (fun _ => ⟨((h32.turns T1 hne4).cell 4).trans rfl, ((h32.turns T1 hne4).cell 5).trans rfl⟩) ?_
    simp only [zSA, zSB, zSC]
    have hm : AppMid w2 W1 bv v7 g8 (l.bytes.length + f.length) l.next l.bytes f :=
      ⟨by rw [bcs_append]; exact hO7, fun k hk => (hk7 k hk).imp id (fun h => Nat.le_trans T2.size h), hg8b.grown hg7 (fun e => by have := hbl2 g8 e.symm; omega), hg8l, T1⟩
    clear hO7 hg7 hk7 T1 T2 hr7 h42' hg8b hg8l
    all_goals
      have hsv := own_keep h52 (w' := W1) (fun b hb => hm.turns.block b (h52.lt b hb).2 (fun e => hne45 b e hb))
      have hmt := hm.turns
      refine R_step 14 rfl (by rfl) (by kernel_rfl) ?_
      refine wp_append_own2 _ _ _ _ rfl 0 29 iu _ 1 8 Tryz.underlying115 hiu hzu0 hzu1 hzu2 rfl (by decide) sv l.starts.length (lsns l.starts) rfl hsv ⟨g8, 0, none⟩ 1 1 [.int .u64 l.next] rfl rfl (fun j u hu => ?_) (fun x hx => by simp at hx; subst hx; rfl) (by unfold maxLen; omega) (by omega) (Nat.zero_le _) ?_
      · cases j with
        | zero => exact (hm.one.cell 0).trans hu
        | succ j => simp at hu
      intro v9 W2 q1 q2 q3
      have T2 : Turns (fun b => bv.ownBlock = some b ∨ sv.ownBlock = some b) (fun b => bv.ownBlock = some b ∨ sv.ownBlock = some b) w2 W2 := (hmt.wider (fun b hb => .inl hb) (fun b hb => .inl hb)).grown q2 (fun k hk => .inl (.inr hk))
      have hB2 := h32.turns T2 (fun e => e.elim hne4 hne5)
      have hO7 := own_keep hm.row (w' := W2) (fun b hb => q2.block b (hm.row.lt b hb).2 (fun e => by
        rcases hm.sub b hb with h | h
        · exact hne45 b h e.symm
        · have := (h52.lt b e.symm).2; omega))
      obtain ⟨x0, x2, rfl⟩ := own_form' q1 (by omega)
      obtain ⟨y0, y2, rfl⟩ := own_form' hO7 (by omega)
      have hx0 : x0 ≠ gl := fun e => own_ne q1 hB2 (by decide) (by rw [e]; rfl)
      have hy0 : y0 ≠ gl := fun e => own_ne hO7 hB2 (by decide) (by rw [e]; rfl)
      have hsub := hm.sub
      refine ⟨fun _ => ⟨(hB2.cell 4).trans rfl, (hB2.cell 5).trans rfl⟩, R_put 49 rfl ?_⟩
      simp only [zSA, zSB, zSC]
      refine R_run 15 50 (v := ptr gl) (w' := W2) rfl rfl (by rfl) (by kernel_rfl) (by go_simp) (fun _ => ⟨(hB2.cell 4).trans rfl, (hB2.cell 5).trans rfl⟩) ?_
      simp only [zSA, zSB, zSC]
      refine R_run 16 51 (v := .pointer (some ⟨gl, 4, none⟩)) (w' := W2) rfl rfl (by rfl) (by kernel_rfl) (by go_simp) (fun _ => ⟨(hB2.cell 4).trans rfl, (hB2.cell 5).trans rfl⟩) ?_
      simp only [zSA, zSB, zSC]
      have f4 := hB2.frozen 4
      have b4 := (hB2.cell 4).trans rfl
      refine R_store 17 (n := .skip) (w' := W2.setCell ⟨gl, 4, none⟩ (.slice (some ⟨y0, 0, none⟩) (l.bytes.length + f.length) y2)) rfl rfl (by rfl) (by kernel_rfl) (by go_simp) (.inl rfl) (fun h => nomatch h) ?_
      have hB3 := hB2.set_ 4 (.slice (some ⟨y0, 0, none⟩) (l.bytes.length + f.length) y2)
      have b53 := (hB3.cell 5).trans rfl
      have f5 := hB3.frozen 5
      refine R_run 18 52 (v := ptr gl) rfl rfl (by rfl) (by kernel_rfl) (by go_simp; rfl) (fun h => nomatch h) ?_
      simp only [zSA, zSB, zSC]
      refine R_run 19 53 (v := .pointer (some ⟨gl, 5, none⟩)) rfl rfl (by rfl) (by kernel_rfl) (by go_simp; rfl) (fun h => nomatch h) ?_
      simp only [zSA, zSB, zSC]
      refine R_store 20 (n := .skip) (w' := (W2.setCell ⟨gl, 4, none⟩ (.slice (some ⟨y0, 0, none⟩) (l.bytes.length + f.length) y2)).setCell ⟨gl, 5, none⟩ (.slice (some ⟨x0, 0, none⟩) (l.starts.length + 1) x2)) rfl rfl (by rfl) (by kernel_rfl) (by go_simp) (.inl rfl) (fun h => nomatch h) ?_
      have hB4 := hB3.set_ 5 (.slice (some ⟨x0, 0, none⟩) (l.starts.length + 1) x2)
      have T3 := ((T2.wider (F := F) (F' := F) (fun b hb => (h6 b).2 (.inr hb)) (fun b hb => .inl hb)).setCell (p := ⟨gl, 4, none⟩) (.inl ((h6 gl).2 (.inl rfl))) (.slice (some ⟨y0, 0, none⟩) (l.bytes.length + f.length) y2)).setCell (p := ⟨gl, 5, none⟩) (.inl ((h6 gl).2 (.inl rfl))) (.slice (some ⟨x0, 0, none⟩) (l.starts.length + 1) x2)
      have k2 : ∀ b, b ≠ gl → ((W2.setCell ⟨gl, 4, none⟩ (.slice (some ⟨y0, 0, none⟩) (l.bytes.length + f.length) y2)).setCell ⟨gl, 5, none⟩ (.slice (some ⟨x0, 0, none⟩) (l.starts.length + 1) x2)).heap[b]? = W2.heap[b]? := fun b hb => (Below.heap_setCell _ _ _ b hb).trans (Below.heap_setCell _ _ _ b hb)
      have o7 := own_keep hO7 (fun b hb => k2 b (fun e => hy0 (by simpa [Value.ownBlock, e] using hb)))
      have o9 := own_keep q1 (fun b hb => k2 b (fun e => hx0 (by simpa [Value.ownBlock, e] using hb)))
      rw [← lsns_one] at o9
      refine R_done (by kernel_rfl) ?_ _
      rename_i J9 K9 hJ9 hK9
      refine hK9 _ _ ?_
      clear hK9
      go_meet
      have hz2 := hb2.size
      refine ⟨_, _, hB4, o7, by simpa using o9, fun k hk => ?_, fun k hk => ?_, ?_⟩
      · rcases hsub k hk with h | h
        · exact .inl ((h6 k).2 (.inr (.inl h)))
        · exact .inr (by omega)
      · rcases q3 k hk with h | h
        · exact .inl ((h6 k).2 (.inr (.inr h)))
        · exact .inr (by have := hmt.size; omega)
      · exact (Turns.of_below hb2 F).trans T3
  case rest =>
    obtain ⟨v7, v9, hB, hO7, hO9, s7, s9, ht⟩ := hcut
    clear hb2 hin2 h42 h52 c7' h32
    have c7 := hB.lg.2.2.2.2.2.2.2.1
    have f7 := hB.frozen 7
    have hg7 : v7.ownBlock ≠ some gl := own_ne hO7 hB (by decide)
    have hg9 : v9.ownBlock ≠ some gl := own_ne hO9 hB (by decide)
    have hB7 := Lib.hid (hB.set_ 7 (.int .u64 ((l.next + (14 + s.length) : Nat) : Int)))
    have ht7 := Lib.hid (ht.setCell (p := ⟨gl, 7, none⟩) (.inl ((h6 gl).2 (.inl rfl))) (.int .u64 ((l.next + (14 + s.length) : Nat) : Int)))
    have o7 := Lib.hid (own_keep hO7 (w' := wc.setCell ⟨gl, 7, none⟩ (.int .u64 ((l.next + (14 + s.length) : Nat) : Int))) (fun b hb => Below.heap_setCell _ _ _ b (fun e => hg7 (by rw [hb]; exact congrArg some e))))
    have o9 := Lib.hid (own_keep hO9 (w' := wc.setCell ⟨gl, 7, none⟩ (.int .u64 ((l.next + (14 + s.length) : Nat) : Int))) (fun b hb => Below.heap_setCell _ _ _ b (fun e => hg9 (by rw [hb]; exact congrArg some e))))
    clear hB ht hO7 hO9
    go_wp2_with fail
    go_ret2
    refine ⟨fun b => b = gl ∨ v7.ownBlock = some b ∨ v9.ownBlock = some b, rfl, ?_, ?_⟩
    · have hwf3 := hwf2.out
      rw [hap.out] at hwf3 ⊢
      refine ⟨hwf3, v7, v9, hB7.out, ?_, ?_, fun b => Iff.rfl⟩
      · have := o7.out
        rwa [show (l.bytes ++ f).length = l.bytes.length + f.length by simp]
      · have := o9.out
        rwa [show (l.starts ++ [l.next]).length = l.starts.length + 1 by simp]
    · have h := ht7.out
      refine ⟨h.os, h.tape, h.output, h.size, h.block, fun b hb => ?_⟩
      rcases hb with rfl | hb | hb
      · exact .inl ((h6 b).2 (.inl rfl))
      · exact s7 b hb
      · exact s9 b hb
end
end Go.Proofs.YtndglfiepeefdaaGreat

/- The walks of package log: sector, writes, Force. -/
namespace Go.Proofs.YtndglfiepeefdaaGreat
open Go.RowKit

theorem arr_info : (Tryz.prog.info? 178).map (fun i => (i.zero, i.size, i.bytes)) = some (some (.agg (Array.replicate 128 (.int .u8 0))), 128, 128) := by kernel_rfl

/-- 'copy(b[k:], s)' onto a block of bytes of whatever type. -/
theorem run_copy_patchT (w : World) (h k n c t : Nat) (l p : Sp.Bs) (ty : TypeId) (hB : Blk w h t (bcs l).toArray) (hk : k + p.length ≤ l.length) (hn : p.length ≤ n) :
    (Builtin.copy_ #[114, 9] ty #[.slice (some ⟨h, k, none⟩) n c, str p]).run Tryz.prog w = .ok (goInt p.length) (w.setRow h (bcs (Sp.patch l k p)).toArray) := by
  have := Lib.run_copy_row_string (P := Tryz.prog) w 114 9 ty 5 h k n c ⟨p.toArray⟩ (bcs l).toArray t Tryz.underlying114 u8_info hB (by simpa using hn) (by simpa using hk)
  rw [this]
  simp [byteCells_bcs, Sp.patch, bcs, List.map_take, List.map_drop]
/-- 'copy(b[k:], s)' of a slice that reads as bytes. -/
theorem run_copy_bytesT (w : World) (h k n c t : Nat) (l p : Sp.Bs) (ty : TypeId) (a : Addr) (sc : Nat) (hB : Blk w h t (bcs l).toArray) (hsrc : ∀ j v, (bcs p)[j]? = some v → w.cell? (a.add j) = some v) (hk : k + p.length ≤ l.length) (hn : p.length ≤ n) :
    (Builtin.copy_ #[114, 114] ty #[.slice (some ⟨h, k, none⟩) n c, .slice (some a) p.length sc]).run Tryz.prog w = .ok (goInt p.length) (w.setRow h (bcs (Sp.patch l k p)).toArray) := by
  have := run_copy_row (P := Tryz.prog) w 114 114 ty 5 h k n c a p.length sc (bcs l).toArray t (bcs p) Tryz.underlying114 u8_info hB (by rw [bcs_length]; exact (Nat.min_eq_left hn).symm) hsrc (by simpa using hk) (fun v hv => by
    simp only [bcs, List.mem_map] at hv
    obtain ⟨b, _, rfl⟩ := hv
    rfl)
  rw [this]
  simp [Sp.patch, bcs, List.map_take, List.map_drop]

theorem patch_two {H P : Sp.Bs} (hH : H.length = 18) : Sp.patch (Sp.patch (Sp.zeros 128) 0 H) 18 P = H ++ P ++ Sp.zeros (110 - P.length) := by
  unfold Sp.patch
  have e1 : (Sp.zeros 128).drop (0 + H.length) = Sp.zeros 110 := by simp [Sp.zeros, hH]
  rw [List.take_zero, List.nil_append, e1, ← hH, List.take_left, ← List.drop_drop, List.drop_left]
  congr 1
  exact List.drop_replicate

section
variable {F D : Foot} {w : World} {gl gd : Nat} {l : Sp.Lg} {d : Sp.Dk}
set_option maxRecDepth 100000 in
set_option maxHeartbeats 2000000 in
theorem log_sector (h : IsLg F w gl gd l) (k : Nat) (hk : k < 4611686018427387904) (hat : l.at_ < 1000000) :
    Calls Tryz.prog 113 #[ptr gl, .int .u64 k] w fun e w' => e = .returned (.int .i64 (l.sector k)) ∧ Below w.heap.size w w' := by
  obtain ⟨h1, bv, sv, h3, h4, h5, h6⟩ := h
  obtain ⟨c0, c1, c2, c3, c4, c5, c6, c7, c8, c9⟩ := h3.lg
  have hn4 := h1.n4k
  have hn1 := h1.n4
  have hm := Nat.mod_lt (k / 110) (show 0 < l.n by omega)
  have e1 : IntKind.u64.wrap ((l.n : Nat) : Int) = (l.n : Nat) := by rw [IntKind.wrap_u64]; omega
  obtain ⟨m, hmm⟩ : ∃ m, m = k / 110 % l.n := ⟨_, rfl⟩
  have e2 : ((k : Int) / 110) % (l.n : Nat) = (m : Int) := by rw [hmm]; simp
  have e3 : IntKind.i64.wrap (m : Int) = (m : Int) := IntWalk.i64_in _ (by omega)
  have e5 : IntKind.i64.wrap ((l.at_ : Int) + m) = (l.at_ : Int) + m := IntWalk.i64_in _ (by omega)
  have e4 : Hid ((l.at_ : Int) + (m : Int) = (l.sector k : Nat)) := by show _ = _; unfold Sp.Lg.sector; omega
  clear hmm hm
  have hn0 : ¬ (l.n : Int) = 0 := by omega
  clear c0 c3 c4 c5 c6 c7 c8 c9 h3 h4 h5 h6
  go_enter Tryz.func113, Tryz.ntmps113
  go_wp2_with fail
  go_quiet (fail)
  go_wp2_with fail
  go_ret
  rw [e4.out]
  exact ⟨rfl, ((Turns.refl noFoot w).drewN _).below_none⟩

set_option maxRecDepth 100000 in
set_option maxHeartbeats 2000000 in
theorem log_writes (h : IsLg F w gl gd l) (hd : IsDk D w gd d) (hfu : d.fuse ≠ 0) (hlo : d.loose.length ≤ 1000000) (hfit : l.at_ + l.n ≤ d.sure.length) (hn : l.next < 4611686018427387904)
    {k : Nat} (hk : Sp.bg l.first ≤ k) (hk2 : k < l.next) :
    Calls Tryz.prog 59 #[ptr gl, .int .u64 k] w fun e w' => ∃ D', e = .returned (.int .i64 0) ∧ IsDk D' w' gd (d.put (l.sector k) (l.sec k)) ∧ Turns D D' w w' := by
  obtain ⟨i0, hi, hz0, hz1, hz2⟩ := info_parts arr_info
  have HI := Lib.hid h
  obtain ⟨h1, bv, sv, h3, h4, h5, h6⟩ := h
  have hlen := h1.len
  have hfew := hd.wf.few
  have hn4 := h1.n4k
  have hroom := h1.room
  have hff := h1.ff
  have hfn := h1.fn
  have hbl := Sp.bg_le l.first
  obtain ⟨a, ha⟩ : ∃ a, a = k - Sp.bg l.first := ⟨_, rfl⟩
  have hal : a < l.bytes.length := by omega
  obtain ⟨q, hq⟩ : ∃ q, q = Nat.min (a + 110) l.bytes.length := ⟨_, rfl⟩
  have hqa : a < q ∧ q ≤ a + 110 ∧ q ≤ l.bytes.length := by
    have := Nat.min_def (n := a + 110) (m := l.bytes.length)
    have e : q = if a + 110 ≤ l.bytes.length then a + 110 else l.bytes.length := by rw [hq]; exact this
    split at e <;> omega
  have hmin : min ((a : Int) + 110) (l.bytes.length : Nat) = (q : Nat) := by
    have e : q = min (a + 110) l.bytes.length := hq
    omega
  have hpart : l.part k = (l.bytes.drop a).take (q - a) := by
    unfold Sp.Lg.part
    rw [← ha]
    rcases Nat.le_total (a + 110) l.bytes.length with h | h
    · have e : q = a + 110 := by have e : q = min (a + 110) l.bytes.length := hq; omega
      rw [e, Nat.add_sub_cancel_left]
    · have e : q = l.bytes.length := by have e : q = min (a + 110) l.bytes.length := hq; omega
      rw [List.take_of_length_le (by simp; omega), List.take_of_length_le (by simp; omega)]
  have hpl : (l.part k).length = q - a := by rw [hpart]; simp; omega
  have hrd : ∀ j, j < l.bytes.length → bv.ownBlock ≠ none := fun j hj e => by
    rcases h4.2 with ⟨_, h0⟩ | ⟨g, c, cur, h0, _⟩
    · omega
    · rw [h0] at e; cases e
  obtain ⟨gb, cb, rfl⟩ := own_form' h4 (by omega)
  have hcap : l.bytes.length ≤ cb ∧ cb ≤ maxLen := by
    rcases h4.2 with ⟨_, h0⟩ | ⟨g, c, cur, h0, _, _, e1, e2, _⟩
    · omega
    · injection h0 with a1 a2 a3
      subst a3
      exact ⟨e1, e2⟩
  have hcells := h4.cells (g := gb) rfl
  have hFgb : F gb := (h6 gb).2 (.inr (.inl rfl))
  have hFgl : F gl := (h6 gl).2 (.inl rfl)
  have hgbl : gb < w.heap.size := HI.out.in_ gb hFgb
  have hgll : gl < w.heap.size := h3.lt
  have HB := Lib.hid fun (W : World) => log_begin l.first (by omega) W
  have HK := Lib.hid fun (W : World) => word_put k 8 W (by omega) (by omega) (by omega) (by omega)
  have HL := Lib.hid fun (W : World) => word_put l.life 8 W (by omega) (by omega) h1.life64 h1.life64
  have HP := Lib.hid fun (W : World) => word_put (q - a) 2 W (by omega) (by omega) (by omega) (by omega)
  have hd0 : IntKind.u64.wrap ((k : Int) - (Sp.bg l.first : Nat)) = (a : Nat) := by rw [IntKind.wrap_u64]; omega
  have hd1 : IntKind.i64.wrap ((a : Nat) : Int) = (a : Nat) := IntWalk.i64_in _ (by omega)
  have hd2 : IntKind.i64.wrap ((a : Int) + 110) = (a : Int) + 110 := IntWalk.i64_in _ (by omega)
  have hd3 : IntKind.u64.wrap ((q - a : Nat) : Int) = ((q - a : Nat) : Int) := by rw [IntKind.wrap_u64]; omega
  have HPART := Lib.hid hpart
  have HPL := Lib.hid hpl
  have HLEN := Lib.hid hlen
  have hkl : k < 4611686018427387904 := by omega
  clear ha hq hpart hpl hlen
  obtain ⟨c0, c1, c2, c3, c4, c5, c6, c7, c8, c9⟩ := h3.lg
  have H3 := Lib.hid h3
  have hb0 := Blk.new w 178 (bcs (Sp.zeros 128)).toArray
  have hbz : (bcs (Sp.zeros 128)).toArray = Array.replicate 128 (.int .u8 0) := by kernel_rfl
  clear c0 c1 c2 c5 c7 c8 c9 h3
  go_enter Tryz.func59, Tryz.ntmps59
  go_wp2_with fail
  have hZ : Tryz.zeroCells178 = (bcs (Sp.zeros 128)).toArray := by rw [hbz]; kernel_rfl
  rw [hZ]
  have hbw := (Below.refl w.heap.size w).alloc (Nat.le_refl _) (.cells (bcs (Sp.zeros 128)).toArray 178)
  have hg5l : w.heap.size ≤ w.heap.size := Nat.le_refl _
  obtain ⟨w1, hw1⟩ : ∃ w1, w1 = w.alloc (.cells (bcs (Sp.zeros 128)).toArray 178) := ⟨_, rfl⟩
  rw [← hw1] at hb0 hbw ⊢
  obtain ⟨g5, hg5⟩ : ∃ g, g = w.heap.size := ⟨_, rfl⟩
  rw [← hg5] at hb0 ⊢
  have hg5l : w.heap.size ≤ g5 := by omega
  clear hw1 hg5 hZ hbz
  refine (HB.out _).mono ?_
  rintro e w2 ⟨rfl, hw⟩
  subst w2
  have c4 := (H3.out.below hbw hgll).lg.2.2.2.2.1
  go_wp2_with fail
  have hS := Lib.hid (show w1.drew.cell? ⟨gl, 4, none⟩ = some (.slice (some ⟨gb, 0, none⟩) l.bytes.length cb) from c4)
  clear c3 c4 c6
  have i1 : (a : Int) ≤ (q : Nat) := by omega
  have hcne : ¬ cb = a := by omega
  have i2 : (q : Int) ≤ (cb : Nat) := by omega
  have i3 : (0 : Int) ≤ (a : Nat) := by omega
  refine R_begin (fun W => W.cell? ⟨gl, 4, none⟩ = some (.slice (some ⟨gb, 0, none⟩) l.bytes.length cb)) (fun _ => false) rfl ?_
  refine R_tk 0 22 hS.out ?_
  refine R_tk 1 23 hS.out ?_
  refine R_tk 2 24 hS.out ?_
  refine R_tk 3 25 hS.out ?_
  simp only [zSA, zSB, zSC]
  refine R_tk 4 26 hS.out ?_
  refine R_tk 5 27 hS.out ?_
  refine R_tk 6 28 hS.out ?_
  refine R_tk 7 29 hS.out ?_
  refine R_tk 8 30 hS.out ?_
  refine R_tk 9 31 hS.out ?_
  refine R_tk 10 32 hS.out ?_
  simp only [zSA, zSB, zSC]
  refine R_tk 11 33 hS.out ?_
  refine R_tk 12 34 hS.out ?_
  simp only [zSA, zSB, zSC]
  refine R_tk 13 35 hS.out ?_
  simp only [zSA, zSB, zSC]
  refine R_tk 14 7 hS.out ?_
  refine R_done (by kernel_rfl) ?_ _
  rename_i K9 hK9
  refine hK9 _ _ ?_
  clear hK9 hS
  clear i1 i2 i3 hcne hmin
  go_wp2_with fail
  refine (HK.out _).mono ?_
  rintro e w2 ⟨rfl, hb2⟩
  replace hb2 : Below w1.heap.size w1 w2 := ⟨hb2.os, hb2.tape, hb2.output, hb2.size, hb2.block⟩
  have hbw2 := hbw.trans (hb2.mono hbw.size)
  have c3 := (H3.out.below hbw2 hgll).lg.2.2.2.1
  go_wp2_with fail
  refine (HL.out _).mono ?_
  rintro e w3 ⟨rfl, hb3⟩
  have hbw3 := hbw2.trans (hb3.mono hbw2.size)
  clear c3
  go_wp2_with fail
  refine (HP.out _).mono ?_
  rintro e w4 ⟨rfl, hb4⟩
  have hbw4 := hbw3.trans (hb4.mono hbw3.size)
  have hb04 : Below w1.heap.size w1 w4 := hb2.trans ((hb3.mono hb2.size).trans (hb4.mono (Nat.le_trans hb2.size hb3.size)))
  have hX4 := hb0.below hb04 hb0.lt
  have hk8 : (Sp.be 8 k).length = 8 := Sp.be_length _ _
  have hl8 : (Sp.be 8 l.life).length = 8 := Sp.be_length _ _
  have hp2 : (Sp.be 2 (q - a)).length = 2 := Sp.be_length _ _
  have HSEC : Hid (Sp.be 8 k ++ Sp.be 8 l.life ++ Sp.be 2 (q - a) ++ l.part k ++ Sp.zeros (110 - (q - a)) = l.sec k) := by
    show _ = _
    rw [Sp.Lg.sec, HPL.out]
  generalize Sp.be 8 k = sk at *
  generalize Sp.be 8 l.life = sl at *
  generalize Sp.be 2 (q - a) = sp at *
  have hz128 : (Sp.zeros 128).length = 128 := by simp [Sp.zeros]
  have hcp1 : Hid (∀ ty, (Builtin.copy_ #[114, 9] ty #[.slice (some ⟨g5, 0, none⟩) 128 128, str (sk ++ sl ++ sp)]).run Tryz.prog w4 = .ok (goInt 18) (w4.setRow g5 (bcs (Sp.patch (Sp.zeros 128) 0 (sk ++ (sl ++ sp)))).toArray)) := by
    intro ty
    rw [List.append_assoc]
    have := run_copy_patchT w4 g5 0 128 128 178 (Sp.zeros 128) (sk ++ (sl ++ sp)) ty hX4 (by simp; omega) (by simp; omega)
    rwa [show (sk ++ (sl ++ sp)).length = 18 by simp; omega] at this
  have hX5 := hX4.setRow (bcs (Sp.patch (Sp.zeros 128) 0 (sk ++ (sl ++ sp)))).toArray
  have hp1 : (Sp.patch (Sp.zeros 128) 0 (sk ++ (sl ++ sp))).length = 128 := by rw [Sp.patch_length (by simp; omega)]; exact hz128
  have hg5gb : gb ≠ g5 := by omega
  have hcp2 := Lib.hid fun ty => run_copy_bytesT (w4.setRow g5 (bcs (Sp.patch (Sp.zeros 128) 0 (sk ++ (sl ++ sp)))).toArray) g5 18 110 110 178 (Sp.patch (Sp.zeros 128) 0 (sk ++ (sl ++ sp))) (l.part k) ty ⟨gb, a, none⟩ (cb - a) hX5 (fun j v hv => by
    have hj : j < (l.part k).length := by have := (List.getElem?_eq_some_iff.1 hv).1; simpa using this
    have e1 : (⟨gb, a, none⟩ : Addr).add j = ⟨gb, a + j, none⟩ := by unfold Addr.add; split <;> simp_all
    have e2 : (⟨gb, 0, none⟩ : Addr).add (a + j) = ⟨gb, a + j, none⟩ := by unfold Addr.add; split <;> simp_all
    rw [e1]
    refine (World.cell?_of_block (w := w) (a := ⟨gb, a + j, none⟩) ?_).trans ?_
    · exact (setRow_other _ _ _ _ hg5gb).trans (hbw4.block gb hgbl)
    · rw [← e2]
      refine hcells (a + j) v ?_
      rw [bcs_get] at hv ⊢
      rw [HPART.out, List.getElem?_take, if_pos (by rw [HPL.out] at hj; exact hj), List.getElem?_drop] at hv
      exact hv) (by rw [HPL.out, hp1]; omega) (by rw [HPL.out]; omega)
  rw [HPL.out] at hcp2
  have hX6 := hX5.setRow (bcs (Sp.patch (Sp.patch (Sp.zeros 128) 0 (sk ++ (sl ++ sp))) 18 (l.part k))).toArray
  have hfin : Sp.patch (Sp.patch (Sp.zeros 128) 0 (sk ++ (sl ++ sp))) 18 (l.part k) = l.sec k := by
    rw [← HSEC.out, patch_two (by simp; omega), HPL.out, ← List.append_assoc sk sl sp]
  have HX6 := Lib.hid hX6
  clear hX4 hX5 hX6
  go_wp2_with (first
    | (with_reducible refine Lib.wpList_copy_run _ rfl (.tmp 56) (.tmp 61) 114 9 rfl _ _ rfl rfl (hcp1.out _) ?_)
    | (with_reducible refine Lib.wpList_copy_run _ rfl (.tmp 63) (.tmp 64) 114 114 rfl _ _ rfl rfl (hcp2.out _) ?_))
  simp only [Act.put]
  rw [hfin] at HX6 ⊢
  obtain ⟨w6, hw6⟩ : ∃ w6, w6 = (w4.setRow g5 (bcs (Sp.patch (Sp.zeros 128) 0 (sk ++ (sl ++ sp)))).toArray).setRow g5 (bcs (l.sec k)).toArray := ⟨_, rfl⟩
  have hk6 : ∀ b, b < w.heap.size → w6.heap[b]? = w.heap[b]? := fun b hb => by
    rw [hw6, setRow_other _ _ _ _ (by omega), setRow_other _ _ _ _ (by omega)]
    exact hbw4.block b hb
  have hbw6 : Below w.heap.size w w6 := by rw [hw6]; exact below_setRow (below_setRow hbw4 hg5l _) hg5l _
  rw [← hw6] at HX6 ⊢
  clear hw6 hfin hcp1 hcp2 hp1 hz128 HSEC hbw4 hb04 hbw3 hbw2 hb2 hb3 hb4 hb0
  have HI6 := Lib.hid (HI.out.below hbw6)
  have HD6 := Lib.hid (hd.below hbw6)
  have hSL := Sp.Lg.sec_length l k
  have c0 := (H3.out.below hbw6 hgll).lg.1
  have hconv := run_bytes_back (P := Tryz.prog) w6.drew 114 9 5 g5 0 128 128 (l.sec k) Tryz.underlying114 Tryz.underlying5 Tryz.underlying9 hSL.symm (fun j hj => by
    rw [Nat.zero_add]
    exact (HX6.out.cell j).trans (by simpa using bcs_at (l.sec k) j hj))
  have hS := Lib.hid (show w6.drew.cell? ⟨gl, 0, none⟩ = some (ptr gd) ∧ (convert 114 9 (.slice (some ⟨g5, 0, none⟩) 128 128)).run Tryz.prog w6.drew = .ok (str (l.sec k)) w6.drew from ⟨c0, hconv⟩)
  have hS7 := Lib.hid fun (W : World) (hb : Below w6.heap.size w6.drew W) => (show W.cell? ⟨gl, 0, none⟩ = some (ptr gd) ∧ (convert 114 9 (.slice (some ⟨g5, 0, none⟩) 128 128)).run Tryz.prog W = .ok (str (l.sec k)) W from
    ⟨(hb.cell (p := ⟨gl, 0, none⟩) (Nat.lt_of_lt_of_le hgll hbw6.size)).trans c0, run_bytes_back (P := Tryz.prog) W 114 9 5 g5 0 128 128 (l.sec k) Tryz.underlying114 Tryz.underlying5 Tryz.underlying9 hSL.symm (fun j hj => by
      rw [Nat.zero_add]
      exact (hb.cell (p := ⟨g5, j, none⟩) HX6.out.lt).trans ((HX6.out.cell j).trans (by simpa using bcs_at (l.sec k) j hj)))⟩)
  have HSE := Lib.hid (log_sector (w := w6.drew) (HI6.out.below (Below.refl w6.heap.size w6).drew) k hkl (by omega))
  have hsl := Sp.Lg.sector_lt h1 k
  clear hconv c0
  refine R_begin (fun W => W.cell? ⟨gl, 0, none⟩ = some (ptr gd) ∧ (convert 114 9 (.slice (some ⟨g5, 0, none⟩) 128 128)).run Tryz.prog W = .ok (str (l.sec k)) W) (fun j => decide (9 ≤ j)) rfl ?_
  refine R_tt 0 66 hS.out ?_
  refine R_tt 1 67 hS.out ?_
  refine R_tt 2 68 hS.out ?_
  refine R_tt 3 69 hS.out ?_
  refine R_tt 4 70 hS.out ?_
  refine R_tt 5 71 hS.out ?_
  refine R_tt 7 73 hS.out ?_
  simp only [zSA, zSB, zSC]
  refine R_tt 8 74 hS.out ?_
  simp only [zSA, zSB, zSC]
  refine R_call 6 72 (w' := w6.drew) rfl rfl (by rfl) (by kernel_rfl) ?_ HSE.out ?_
  · go_simp
  rintro e w7 ⟨rfl, hb7⟩
  replace hb7 : Below w6.heap.size w6 w7 := ⟨hb7.os, hb7.tape, hb7.output, hb7.size, hb7.block⟩
  refine ⟨_, rfl, fun _ => hS7.out w7 ⟨hb7.os, hb7.tape, hb7.output, hb7.size, hb7.block⟩, ?_⟩
  simp only [zSA, zSB, zSC]
  have hbw7 := hbw6.trans (hb7.mono hbw6.size)
  have HWR := Lib.hid (disk_write (w := w7) (HD6.out.below hb7) (l.sector k) (l.sec k) (by omega) hSL hfu hlo)
  clear hS hS7 HSE HI6 HD6 hb7
  refine R_call 9 75 (w' := w7) rfl rfl (by rfl) (by kernel_rfl) ?_ HWR.out ?_
  · go_simp
  rintro e w8 ⟨D', rfl, hD8, ht8⟩
  refine ⟨_, rfl, (fun h => nomatch h), ?_⟩
  simp only [zSA, zSB, zSC]
  refine R_run 10 4 (v := .int .i64 0) (w' := w8) rfl rfl (by rfl) (by kernel_rfl) (by go_simp) (fun h => nomatch h) ?_
  simp only [zSA, zSB, zSC]
  refine R_done (by kernel_rfl) ?_ _
  rename_i K9 hK9
  refine hK9 _ _ ?_
  clear hK9
  have ht9 := (Turns.of_below hbw7 D).trans ht8
  have HD8 := Lib.hid hD8
  clear hD8 ht8 HWR
  go_wp2_with fail
  go_ret
  exact ⟨D', rfl, HD8.out, ht9⟩
end
end Go.Proofs.YtndglfiepeefdaaGreat

/- Plain laws on what twin.Write of many pages leaves on a disk. -/
namespace Go.Proofs.YtndglfiepeefdaaGreat.Sp

/-- The four sectors of a page that is written among others. -/
theorem lay_four {A B : List (Nat × Bs)} {s : List Bs} {b : Nat} {t : Bs} (ht : t.length = 512) (hb : b + 4 ≤ s.length) (hB : ∀ x ∈ B, x.1 < b ∨ b + 4 ≤ x.1) :
    pageAt (lay (A ++ [(b + 0, (t.drop 0).take 128), (b + 1, (t.drop 128).take 128), (b + 2, (t.drop 256).take 128), (b + 3, (t.drop 384).take 128)] ++ B) s) b = t := by
  generalize hL : lay (A ++ [(b + 0, (t.drop 0).take 128), (b + 1, (t.drop 128).take 128), (b + 2, (t.drop 256).take 128), (b + 3, (t.drop 384).take 128)] ++ B) s = L
  have g0 : L[b + 0]? = some ((t.drop 0).take 128) := by
    rw [← hL]
    have := lay_at A ([(b + 1, (t.drop 128).take 128), (b + 2, (t.drop 256).take 128), (b + 3, (t.drop 384).take 128)] ++ B) s (b + 0) ((t.drop 0).take 128) (by omega) (fun x hx => by
      rcases List.mem_append.1 hx with hx | hx
      · simp at hx; rcases hx with rfl | rfl | rfl <;> simp
      · have := hB x hx; omega)
    simpa using this
  have g1 : L[b + 1]? = some ((t.drop 128).take 128) := by
    rw [← hL]
    have := lay_at (A ++ [(b + 0, (t.drop 0).take 128)]) ([(b + 2, (t.drop 256).take 128), (b + 3, (t.drop 384).take 128)] ++ B) s (b + 1) ((t.drop 128).take 128) (by omega) (fun x hx => by
      rcases List.mem_append.1 hx with hx | hx
      · simp at hx; rcases hx with rfl | rfl <;> simp
      · have := hB x hx; omega)
    simpa using this
  have g2 : L[b + 2]? = some ((t.drop 256).take 128) := by
    rw [← hL]
    have := lay_at (A ++ [(b + 0, (t.drop 0).take 128), (b + 1, (t.drop 128).take 128)]) ([(b + 3, (t.drop 384).take 128)] ++ B) s (b + 2) ((t.drop 256).take 128) (by omega) (fun x hx => by
      rcases List.mem_append.1 hx with hx | hx
      · simp at hx; rw [hx]; simp
      · have := hB x hx; omega)
    simpa using this
  have g3 : L[b + 3]? = some ((t.drop 384).take 128) := by
    rw [← hL]
    have := lay_at (A ++ [(b + 0, (t.drop 0).take 128), (b + 1, (t.drop 128).take 128), (b + 2, (t.drop 256).take 128)]) B s (b + 3) ((t.drop 384).take 128) (by omega) (fun x hx => by have := hB x hx; omega)
    simpa using this
  have hd : (L.drop b).take 4 = [(t.drop 0).take 128, (t.drop 128).take 128, (t.drop 256).take 128, (t.drop 384).take 128] := by
    apply List.ext_getElem?
    intro k
    rw [List.getElem?_take]
    match k with
    | 0 => simpa using g0
    | 1 => simpa using g1
    | 2 => simpa using g2
    | 3 => simpa using g3
    | k + 4 =>
      rw [if_neg (by omega)]
      simp
  unfold pageAt
  rw [hd]
  simp only [List.flatten_cons, List.flatten_nil, List.append_nil, List.drop_zero]
  have e3 : (t.drop 384).take 128 = t.drop 384 := List.take_of_length_le (by simp; omega)
  have e2 : (t.drop 256).take 128 ++ t.drop 384 = t.drop 256 := by
    have := List.take_append_drop 128 (t.drop 256); rwa [List.drop_drop] at this
  have e1 : (t.drop 128).take 128 ++ t.drop 256 = t.drop 128 := by
    have := List.take_append_drop 128 (t.drop 128); rwa [List.drop_drop] at this
  rw [e3, e2, e1, List.take_append_drop]

/-- Pages written: the disk behind it. -/
theorem twin_many (d : Dk) (hlo : d.loose = []) (hf : d.fuse = -1) (at_ base : Nat) (l : List (Nat × Bs)) (hn : (l.map (·.1)).Nodup) (h8 : l.length ≤ 8) (hp : ∀ x ∈ l, x.2.length = 512 ∧ inside d.sure.length at_ base x.1) :
    (d.acts (twinActs at_ base l)).loose = [] ∧ (d.acts (twinActs at_ base l)).fuse = -1 ∧ (d.acts (twinActs at_ base l)).sure.length = d.sure.length ∧
    (∀ x ∈ l, pageAt (d.acts (twinActs at_ base l)).sure (base + x.1 * 4) = x.2) ∧
    ∀ q, (∀ x ∈ l, x.1 ≠ q) → at_ + 33 ≤ base + q * 4 → base + q * 4 + 4 ≤ d.sure.length → pageAt (d.acts (twinActs at_ base l)).sure (base + q * 4) = pageAt d.sure (base + q * 4) := by
  have hview : d.view = d.sure := by simp [Dk.view, hlo, lay]
  have hw : ∃ a c, twinActs at_ base l = (a ++ homesActs base l ++ c) ++ [.sync] ∧ (∀ x ∈ wrs a, x.1 < at_ + 33) ∧ (∀ x ∈ wrs c, x.1 < at_ + 33) := by
    refine ⟨(homesActs (at_ + 1) (areaOf l) ++ [.sync]) ++ [.wr at_ (markBs l), .sync], [.sync, .wr at_ (zeros 128)], by simp [twinActs], fun x hx => ?_, fun x hx => ?_⟩
    · rw [wrs_app, wrs_app] at hx
      simp only [wrs, List.append_nil, List.mem_append, List.mem_singleton] at hx
      rcases hx with hx | rfl
      · obtain ⟨y, hy, j, hj, e⟩ := mem_wrs_homes hx
        have : y.1 < 8 := by
          obtain ⟨i, hi, e⟩ := List.getElem_of_mem hy
          have hi' : i < l.length := by simpa [areaOf] using hi
          have h2 := areaOf_get l i hi'
          rw [List.getElem?_eq_getElem hi, e] at h2
          injection h2 with h2
          rw [h2]; show i < 8; omega
        omega
      · show at_ < at_ + 33; omega
    · simp [wrs] at hx
      rw [hx]; show at_ < at_ + 33; omega
  obtain ⟨a, c, hw, ha, hc⟩ := hw
  have hs := acts_synced d (a ++ homesActs base l ++ c)
  rw [← hw, hview, wrs_app, wrs_app] at hs
  have hlen := acts_sure d (twinActs at_ base l)
  refine ⟨hs.1, acts_fuse d hf _, hlen, fun x hx => ?_, fun q hq h1 h2 => ?_⟩
  · obtain ⟨l1, l2, rfl⟩ := List.append_of_mem hx
    obtain ⟨ht, hi1, hi2⟩ := hp x hx
    rw [hs.2, homesActs_app, wrs_app]
    show pageAt (lay (wrs a ++ (wrs (homesActs base l1) ++ wrs (homeActs base x ++ homesActs base l2)) ++ wrs c) d.sure) _ = _
    rw [wrs_app, wrs_home, range4]
    have hnd : ∀ y ∈ l2, y.1 ≠ x.1 := fun y hy e => by
      rw [List.map_append, List.map_cons] at hn
      have := (List.nodup_cons.1 (List.nodup_append.1 hn).2.1).1
      exact this (List.mem_map.2 ⟨y, hy, e⟩)
    have := lay_four (A := wrs a ++ wrs (homesActs base l1)) (B := wrs (homesActs base l2) ++ wrs c) (s := d.sure) (b := base + x.1 * 4) (t := x.2) ht hi1 (fun y hy => by
      rcases List.mem_append.1 hy with hy | hy
      · obtain ⟨z, hz, j, hj, e⟩ := mem_wrs_homes hy
        have := hnd z hz
        omega
      · have := hc y hy; omega)
    simpa [List.append_assoc] using this
  · rw [hs.2]
    unfold pageAt
    congr 1
    apply List.ext_getElem?
    intro k
    rw [List.getElem?_take, List.getElem?_take]
    split
    · rename_i hk
      rw [List.getElem?_drop, List.getElem?_drop]
      refine lay_other _ _ _ (fun x hx => ?_)
      rcases List.mem_append.1 hx with hx | hx
      · rcases List.mem_append.1 hx with hx | hx
        · have := ha x hx; omega
        · obtain ⟨z, hz, j, hj, e⟩ := mem_wrs_homes hx
          have := hq z hz
          omega
      · have := hc x hx; omega
    · rfl
end Go.Proofs.YtndglfiepeefdaaGreat.Sp

/- The walks of package log: Force. -/
namespace Go.Proofs.YtndglfiepeefdaaGreat
open Go.RowKit

section
variable {F D : Foot} {w : World} {gl gd : Nat} {l : Sp.Lg} {d : Sp.Dk}
def ForcePost (F D : Foot) (w : World) (gl gd : Nat) (l' : Sp.Lg) (d' : Sp.Dk) (e : Ending) (w' : World) : Prop :=
  ∃ D', e = .returned (.int .i64 0) ∧ IsDk D' w' gd d' ∧ IsLg F w' gl gd l' ∧ (∀ b, D' b → D b ∨ w.heap.size ≤ b) ∧ Turns (fun b => F b ∨ D b) (fun b => F b ∨ D' b) w w'

set_option maxRecDepth 100000 in
set_option maxHeartbeats 4000000 in
/-- A force that writes. -/
theorem log_force_do (h : IsLg F w gl gd l) (hd : IsDk D w gd d) (hFD : ∀ b, F b → ¬ D b) (hlo : d.loose = []) (hfu : d.fuse = -1) (hfit : l.at_ + l.n ≤ d.sure.length) (hn : l.next < 4611686018427387904) {lsn : Nat} (hl : lsn ≤ l.next) (h1 : l.forced ≤ lsn) (h2 : l.forced ≠ l.next) :
    Calls Tryz.prog 14 #[ptr gl, .int .u64 lsn] w (ForcePost F D w gl gd l.forces (d.acts l.forceActs)) := by
  have HIN := Lib.hid hd.in_
  have HLI := Lib.hid h.in_
  have HLW := Lib.hid fun (W : World) (d' : Sp.Dk) (D' : Foot) (k : Nat) (h : IsLg F W gl gd l) (hd : IsDk D' W gd d') (hfu : d'.fuse ≠ 0) (hlo : d'.loose.length ≤ 1000000) (hs : d'.sure.length = d.sure.length) (hk : Sp.bg l.first ≤ k) (hk2 : k < l.next) =>
    log_writes h hd hfu hlo (by omega) hn hk hk2
  have HI := Lib.hid h
  have HD := Lib.hid hd
  obtain ⟨hw, bv, sv, h3, h4, h5, h6⟩ := h
  obtain ⟨c0, c1, c2, c3, c4, c5, c6, c7, c8, c9⟩ := h3.lg
  have HM := Lib.hid (log_made (w := w) c0)
  have HB := Lib.hid fun (W : World) => log_begin l.forced (by omega) W
  have hff := hw.ff
  have hfn := hw.fn
  have hbm := Sp.bg_mono hff
  have hbf := Sp.bg_le l.forced
  have hstr := Sp.Lg.strs_le hw
  have hn4 := hw.n4k
  have d1 : decide (l.next < lsn) = false := by rw [decide_eq_false_iff_not]; omega
  have d2 : decide (lsn < l.forced) = false := by rw [decide_eq_false_iff_not]; omega
  have d3 : ((l.forced : Int) == (l.next : Int)) = false := by simp; omega
  have HH := Lib.hid (⟨h4, h5, h6⟩ : w.ownsRow 0 5 1 bv l.bytes.length (bcs l.bytes) ∧ w.ownsRow 0 29 1 sv l.starts.length (lsns l.starts) ∧ ∀ b, F b ↔ b = gl ∨ bv.ownBlock = some b ∨ sv.ownBlock = some b)
  have H3 := Lib.hid h3
  clear hd c0 c1 c2 c3 c4 c5 c6 c9 h4 h5 h6 h3
  go_enter Tryz.func14, Tryz.ntmps14
  go_wp2_with fail
  refine HM.out.mono ?_
  rintro e w1 ⟨rfl, hw1⟩
  subst w1
  go_wp2_with fail
  go_quiet (fail)
  go_wp2_with fail
  refine (HB.out _).mono ?_
  rintro e w1 ⟨rfl, hw1⟩
  subst w1
  have hb1 : Below w.heap.size w (w.drewN nq) := (Turns.refl noFoot w).drewN _ |>.below_none
  have HI1 := Lib.hid (HI.out.below hb1)
  have HD1 := Lib.hid (HD.out.below hb1)
  have hI1b := Lib.hid hb1
  generalize w.drewN nq = w1 at *
  have d8 : ∀ k : Nat, k < l.next → decide (k < l.next) = true := fun k hk => by rw [decide_eq_true_iff]; exact hk
  clear c7 c8 d1 d2 d3 HM HB
  go_wp2_with fail
  go_loopw [5, 6] (fun v5 _ wr => ∃ (j : Nat) (D' : Foot), j ≤ l.strs ∧ v5 = .int .u64 (Sp.bg l.forced + j * 110 : Nat) ∧ IsDk D' wr gd (d.acts (l.forceWrs j)) ∧ Turns D D' w1 wr) (fun v5 _ _ => l.strs * 110 + Sp.bg l.forced - (intOf v5).toNat)
  case atStart => exact ⟨0, D, by omega, by simp, HD1.out, Turns.refl _ _⟩
  case round =>
    obtain ⟨j, D', hj, rfl, hDj, htj⟩ := hrel
    have hLj := HI1.out.turns htj hFD
    have HLj := Lib.hid hLj
    have c7 : wr.cell? ⟨gl, 7, none⟩ = some (.int .u64 l.next) := by
      obtain ⟨_, bv', sv', hB', _⟩ := hLj
      exact hB'.lg.2.2.2.2.2.2.2.1
    have hlo' : (d.acts (l.forceWrs j)).loose.length ≤ 1000000 := by
      have h1 := Sp.acts_loose d (l.forceWrs j)
      have h2 : (l.forceWrs j).length = j := by simp [Sp.Lg.forceWrs]
      rw [hlo, h2] at h1
      have h3 : ([] : List (Nat × Sp.Bs)).length = 0 := rfl
      omega
    have hfu' : (d.acts (l.forceWrs j)).fuse ≠ 0 := by rw [Sp.acts_fuse d hfu]; decide
    have hstl := Sp.Lg.strs_lt (l := l) (j := j) hfn
    have HDj := Lib.hid hDj
    clear hLj hDj
    obtain ⟨k, hk⟩ : ∃ k, k = Sp.bg l.forced + j * 110 := ⟨_, rfl⟩
    rw [← hk] at hstl ⊢
    by_cases hlt : k < l.next
    · have hjs := hstl.2 hlt
      have dl : decide (k < l.next) = true := by simpa using hlt
      have hw9 : IntKind.u64.wrap ((k : Int) + 110) = ((k + 110 : Nat) : Int) := by rw [IntKind.wrap_u64]; omega
      have HW := Lib.hid (HLW.out wr (d.acts (l.forceWrs j)) D' k HLj.out HDj.out hfu' hlo' (Sp.acts_sure d _) (by omega) hlt)
      have HK := Lib.hid hk
      clear hk
      go_wp2_with fail
      refine HW.out.mono ?_
      rintro e w2 ⟨D2, rfl, hD2, ht2⟩
      go_wp2_with fail
      go_roundw
      case rel =>
        refine ⟨j + 1, D2, by omega, ?_, ?_, htj.trans ht2⟩
        · have := HK.out
          refine congrArg (Value.int IntKind.u64) ?_
          omega
        · rw [Sp.Lg.forceWrs_succ, Sp.acts_snoc, ← HK.out]
          exact hD2
      case measure => 
        have := HK.out
        simp [intOf]; omega
    · have hjs : j = l.strs := by have := mt hstl.1 hlt; omega
      subst hjs
      have dl : decide (k < l.next) = false := by simpa using hlt
      have c0 : wr.cell? ⟨gl, 0, none⟩ = some (ptr gd) := by
        obtain ⟨_, bv', sv', hB', _⟩ := HLj.out
        exact hB'.lg.1
      have HSY := Lib.hid (disk_sync HDj.out hfu' hlo')
      clear hk HLW
      go_wp2_with fail
      refine HSY.out.mono ?_
      rintro e w3 ⟨D3, rfl, hD3, _, ht3⟩
      have hFD' : ∀ b, F b → ¬ D' b := fun b hF hD' => by
        rcases htj.foot b hD' with h | h
        · exact hFD b hF h
        · have := HLI.out b hF; have := hI1b.out.size; omega
      have hL3 := HLj.out.turns ht3 hFD'
      have hFD3 : ∀ b, F b → ¬ D3 b := fun b hF hD' => by
        rcases ht3.foot b hD' with h | h
        · exact hFD' b hF h
        · have := HLI.out b hF; have := hI1b.out.size; have := htj.size; omega
      have ht13 := (Turns.of_below hI1b.out D).trans (htj.trans ht3)
      obtain ⟨_, bv3, sv3, hB3, ho3, hs3, h63⟩ := hL3
      have c7' := hB3.lg.2.2.2.2.2.2.2.1
      have f8 := hB3.frozen 8
      have c8' := hB3.lg.2.2.2.2.2.2.2.2.1
      have hB4 := Lib.hid (hB3.set_ 8 (.int .u64 (l.next : Int)))
      have hgb : bv3.ownBlock ≠ some gl := own_ne ho3 hB3 (by decide)
      have hgs : sv3.ownBlock ≠ some gl := own_ne hs3 hB3 (by decide)
      have ho4 := Lib.hid (own_keep ho3 (w' := w3.setCell ⟨gl, 8, none⟩ (.int .u64 (l.next : Int))) (fun b hb => Below.heap_setCell _ _ _ b (fun e => hgb (by rw [hb]; exact congrArg some e))))
      have hs4 := Lib.hid (own_keep hs3 (w' := w3.setCell ⟨gl, 8, none⟩ (.int .u64 (l.next : Int))) (fun b hb => Below.heap_setCell _ _ _ b (fun e => hgs (by rw [hb]; exact congrArg some e))))
      have hFg : F gl := (h63 gl).2 (.inl rfl)
      have hD4 := Lib.hid (hD3.keep (w' := w3.setCell ⟨gl, 8, none⟩ (.int .u64 (l.next : Int))) (fun b hb => Below.heap_setCell _ _ _ b (fun e => hFD3 b (by rw [e]; exact hFg) hb)))
      have ht4 := Lib.hid ((ht13.wider (F := fun b => F b ∨ D b) (F' := fun b => F b ∨ D3 b) (fun b hb => .inr hb) (fun b hb => hb.elim (fun h => .inl (.inl h)) .inr)).setCell (p := ⟨gl, 8, none⟩) (.inl (.inl hFg)) (.int .u64 (l.next : Int)))
      have H63 := Lib.hid h63
      have hDn := ht13.foot
      clear hB3 ho3 hs3 hD3 ht13 c0 h63 HLj HDj HSY
      go_wp2_with fail
      go_ret
      refine ⟨D3, rfl, ?_, ⟨Sp.Lg.forces_wf hw, bv3, sv3, hB4.out, ho4.out, hs4.out, H63.out⟩, hDn, ht4.out⟩
      have : d.acts l.forceActs = (d.acts (l.forceWrs l.strs)).synced := by unfold Sp.Lg.forceActs; rw [Sp.acts_snoc]; rfl
      rw [this]
      exact hD4.out

set_option maxRecDepth 100000 in
set_option maxHeartbeats 2000000 in
/-- A force of what is on the disk. -/
theorem log_force_idle (h : IsLg F w gl gd l) {lsn : Nat} (hl : lsn ≤ l.next) (h1 : lsn < l.forced ∨ l.forced = l.next) :
    Calls Tryz.prog 14 #[ptr gl, .int .u64 lsn] w fun e w' => e = .returned (.int .i64 0) ∧ Below w.heap.size w w' := by
  obtain ⟨hw, bv, sv, h3, h4, h5, h6⟩ := h
  obtain ⟨c0, c1, c2, c3, c4, c5, c6, c7, c8, c9⟩ := h3.lg
  have HM := Lib.hid (log_made (w := w) c0)
  have d1 : decide (l.next < lsn) = false := by rw [decide_eq_false_iff_not]; omega
  clear c0 c1 c2 c3 c4 c5 c6 c9 h4 h5 h6 h3
  by_cases hlt : lsn < l.forced
  · have d2 : decide (lsn < l.forced) = true := by rw [decide_eq_true_iff]; exact hlt
    go_enter Tryz.func14, Tryz.ntmps14
    go_wp2_with fail
    refine HM.out.mono ?_
    rintro e w1 ⟨rfl, hw1⟩
    subst w1
    go_wp2_with fail
    go_ret
    exact ⟨rfl, Below.refl _ _⟩
  · have d2 : decide (lsn < l.forced) = false := by rw [decide_eq_false_iff_not]; exact hlt
    have hnf : l.forced = l.next := h1.resolve_left hlt
    rw [hnf] at c8 d2
    clear hnf h1 hlt
    go_enter Tryz.func14, Tryz.ntmps14
    go_wp2_with fail
    refine HM.out.mono ?_
    rintro e w1 ⟨rfl, hw1⟩
    subst w1
    go_wp2_with fail
    go_quiet (fail)
    go_wp2_with fail
    go_ret
    exact ⟨rfl, ((Turns.refl noFoot w).drewN _).below_none⟩

set_option maxRecDepth 100000 in
set_option maxHeartbeats 2000000 in
/-- A force beyond the end. -/
theorem log_force_bad (h : IsLg F w gl gd l) {lsn : Nat} (hl : l.next < lsn) :
    Calls Tryz.prog 14 #[ptr gl, .int .u64 lsn] w fun e w' => e = .returned (.int .i64 2) ∧ Below w.heap.size w w' := by
  obtain ⟨hw, bv, sv, h3, h4, h5, h6⟩ := h
  obtain ⟨c0, c1, c2, c3, c4, c5, c6, c7, c8, c9⟩ := h3.lg
  have HM := Lib.hid (log_made (w := w) c0)
  have d1 : decide (l.next < lsn) = true := by rw [decide_eq_true_iff]; exact hl
  clear c0 c1 c2 c3 c4 c5 c6 c9 h4 h5 h6 h3
  go_enter Tryz.func14, Tryz.ntmps14
  go_wp2_with fail
  refine HM.out.mono ?_
  rintro e w1 ⟨rfl, hw1⟩
  subst w1
  go_wp2_with fail
  go_ret
  exact ⟨rfl, Below.refl _ _⟩
end
end Go.Proofs.YtndglfiepeefdaaGreat

/- Maps from uint32 to int, as functions. No program is named here. -/
namespace Go.Proofs.YtndglfiepeefdaaGreat
open Go.RowKit Go.Maps

/-- Block b is a map of m entries that is this function. -/
def UMap (P : Program) (k e : TypeId) (w : World) (b m : Nat) (lk : Nat → Option Nat) : Prop :=
  ∃ D : DataW Unit, w.ownsMap P k (plainElem P e) b m D ∧ size D = m ∧
    ∀ p, (∀ i, lk p = some i → has D (uKey p) = true ∧ ∀ z, D.atKey (uKey p) z = .lit (.int .i64 (i : Int))) ∧ (lk p = none → has D (uKey p) = false)

section
variable {P : Program} {k e t : TypeId} {w w' : World} {b m : Nat} {lk : Nat → Option Nat}

theorem owns_norm {R : Value → Option (DataW Unit × List MemPlace)} {n : Nat} {D : DataW Unit} (h : w.ownsMap P k R b n D) : w.ownsMap P k R b (size D) D := by
  obtain ⟨es, clock, hb, F, _, rfl⟩ := h
  refine ⟨es, clock, hb, F, ?_, rfl⟩
  simp [Maps.size, length_sorted]

theorem UMap.lt (h : UMap P k e w b m lk) : b < w.heap.size := by obtain ⟨D, h1, _⟩ := h; exact World.ownsMap.lt h1
theorem UMap.keep (h : UMap P k e w b m lk) (hk : w'.heap[b]? = w.heap[b]?) : UMap P k e w' b m lk := by
  obtain ⟨D, ⟨es, clock, h1, rest⟩, h2⟩ := h
  exact ⟨D, ⟨es, clock, hk.trans h1, rest⟩, h2⟩
theorem UMap.kept {row : Option Nat} (h : UMap P k e w b m lk) (hg : w.grownBy w' row) (hne : some b ≠ row) : UMap P k e w' b m lk := h.keep (hg.block b h.lt hne)
theorem UMap.alloc (h : UMap P k e w b m lk) (o : Obj) : UMap P k e (w.alloc o) b m lk := h.keep (Below.heap_alloc w o b h.lt)
theorem UMap.drew (h : UMap P k e w b m lk) : UMap P k e w.drew b m lk := h.keep rfl
theorem UMap.far (h : UMap P k e w b m lk) {p : Addr} (hp : b ≠ p.block) (u : Value) : UMap P k e (w.setCell p u) b m lk := h.keep (Below.heap_setCell w p u b hp)
theorem UMap.below {B : Nat} (h : UMap P k e w b m lk) (hb : Below B w w') (hlt : b < B) : UMap P k e w' b m lk := h.keep (hb.block b hlt)
theorem UMap.turns {F F' : Foot} (h : UMap P k e w b m lk) (ht : Turns F F' w w') (hn : ¬ F b) : UMap P k e w' b m lk := h.keep (ht.block b h.lt hn)
theorem UMap.congr {lk' : Nat → Option Nat} (h : UMap P k e w b m lk) (he : ∀ p, lk' p = lk p) : UMap P k e w b m lk' := by
  have : lk' = lk := funext he
  rw [this]; exact h
theorem UMap.made (w : World) : UMap P k e (w.alloc (.map #[] 0)) w.heap.size 0 (fun _ => none) :=
  ⟨.map [], World.ownsMap_made w P k _, rfl, fun p => ⟨fun i h => by simp at h, fun _ => rfl⟩⟩

theorem int_of_lit (he : P.underlying e = some (.int .i64)) {v : Value} {i : Int} {ps : List MemPlace} (h : plainElem (H := Unit) P e v = some (.lit (.int .i64 i), ps)) : v = .int .i64 i := by
  obtain ⟨a, rfl, hz, _⟩ := plainElem_int_inv he h
  simp only [Prod.mk.injEq, DataW.lit.injEq, Lit.int.injEq, true_and] at hz
  rw [hz.1]

theorem UMap.look (h : UMap P k e w b m lk) (hk : P.underlying k = some (.int .u32)) (he : P.underlying e = some (.int .i64)) (ht : P.underlying t = some (.map k e)) (hz : (zeroValue e).run P w = .ok (.int .i64 0) w) {p i : Nat} (hp : p < 4294967296) (hi : lk p = some i) :
    (Instr.lookup t (.map (some b)) (.int .u32 (p : Int)) false).run P w = .ok (.int .i64 (i : Int)) w := by
  obtain ⟨D, h1, _, h3⟩ := h
  obtain ⟨v, ps, hrun, hv⟩ := World.ownsMap.lookup h1 (int_keyed hk) ht hz (plainElem_int he (by decide)) (keyOf_int_mk hk (uKey_wf hp))
  rw [((h3 p).1 i hi).2] at hv
  rw [hrun, int_of_lit he hv]

theorem UMap.look_ok (h : UMap P k e w b m lk) (hk : P.underlying k = some (.int .u32)) (he : P.underlying e = some (.int .i64)) (ht : P.underlying t = some (.map k e)) (hz : (zeroValue e).run P w = .ok (.int .i64 0) w) {p : Nat} (hp : p < 4294967296) :
    (Instr.lookup t (.map (some b)) (.int .u32 (p : Int)) true).run P w = .ok (.tuple #[.int .i64 (((lk p).getD 0 : Nat) : Int), .bool (lk p).isSome]) w := by
  obtain ⟨D, h1, _, h3⟩ := h
  obtain ⟨v, ps, hrun, hv⟩ := World.ownsMap.look_ok h1 (int_keyed hk) ht hz (plainElem_int he (by decide)) (keyOf_int_mk hk (uKey_wf hp))
  cases hl : lk p with
  | none =>
    rw [(h3 p).2 hl] at hrun
    rw [atKey_of_not_has ((h3 p).2 hl)] at hv
    rw [hrun, int_of_lit he hv]; rfl
  | some i =>
    rw [((h3 p).1 i hl).1] at hrun
    rw [((h3 p).1 i hl).2] at hv
    rw [hrun, int_of_lit he hv]; rfl

def lkPut (lk : Nat → Option Nat) (p i : Nat) : Nat → Option Nat := fun q => if q = p then some i else lk q
def lkDel (lk : Nat → Option Nat) (p : Nat) : Nat → Option Nat := fun q => if q = p then none else lk q

theorem UMap.put (h : UMap P k e w b m lk) (hk : P.underlying k = some (.int .u32)) (he : P.underlying e = some (.int .i64)) (ht : P.underlying t = some (.map k e)) (hm : m < 1000000000) {p i : Nat} (hp : p < 4294967296) (hi : i < 9223372036854775808) (hn : lk p = none) :
    ∃ w', (Instr.mapUpdate t (.map (some b)) (.int .u32 (p : Int)) (.int .i64 (i : Int))).run P w = .ok () w' ∧ UMap P k e w' b (m + 1) (lkPut lk p i) ∧ w.grownBy w' (some b) := by
  obtain ⟨D, h1, h2, h3⟩ := h
  have hwf : (Lit.int .i64 (i : Int)).wf = true := by
    have e1 : IntKind.i64.min = -9223372036854775808 := rfl
    have e2 : IntKind.i64.max = 9223372036854775807 := rfl
    simp [Lit.wf, e1, e2]; omega
  obtain ⟨w', r1, r2, r3⟩ := World.ownsMap.update h1 (int_keyed hk) ht (by unfold maxLen; omega) (keyOf_int_mk hk (uKey_wf hp)) (plainElem_int he hwf)
  have hT := World.ownsMap.tidy h1 (int_keyed hk)
  refine ⟨w', r1, ⟨_, r2, ?_, fun q => ?_⟩, r3⟩
  · rw [size_put hT, (h3 p).2 hn, h2]; rfl
  · by_cases hq : q = p
    · subst hq
      simp only [lkPut, if_pos]
      refine ⟨fun j hj => ?_, fun hc => by cases hc⟩
      injection hj with hj
      subst hj
      exact ⟨has_put_same hT.isMap (uKey_lit q) _, fun z => atKey_put_same hT.isMap (uKey_lit q) _ z⟩
    · have hne : uKey q ≠ uKey p := fun e => hq (uKey_inj e)
      simp only [lkPut, if_neg hq]
      refine ⟨fun j hj => ?_, fun hc => ?_⟩
      · rw [has_put_other hne]
        exact ⟨((h3 q).1 j hj).1, fun z => by rw [atKey_put_other hne]; exact ((h3 q).1 j hj).2 z⟩
      · rw [has_put_other hne]; exact (h3 q).2 hc

theorem UMap.del (h : UMap P k e w b m lk) (hk : P.underlying k = some (.int .u32)) (ht : P.underlying t = some (.map k e)) {p i : Nat} (hp : p < 4294967296) (hi : lk p = some i) (ty : TypeId) :
    ∃ w', (Builtin.delete_ #[t, k] ty #[.map (some b), .int .u32 (p : Int)]).run P w = .ok (.tuple #[]) w' ∧ UMap P k e w' b (m - 1) (lkDel lk p) ∧ w.grownBy w' (some b) := by
  obtain ⟨D, h1, h2, h3⟩ := h
  obtain ⟨w', r1, r2, r3⟩ := World.ownsMap.drop h1 (int_keyed hk) ht (keyOf_int_mk hk (uKey_wf hp)) ty
  have hT := World.ownsMap.tidy h1 (int_keyed hk)
  have hs := size_del (D := D) (k := uKey p) hT
  rw [((h3 p).1 i hi).1, if_pos rfl, h2] at hs
  have r4 := owns_norm r2
  have hs' : size (D.del (uKey p)) = m - 1 := by omega
  rw [hs'] at r4
  refine ⟨w', r1, ⟨_, r4, hs', fun q => ?_⟩, r3.grown⟩
  by_cases hq : q = p
  · subst hq
    simp only [lkDel, if_pos]
    exact ⟨fun j hj => (by cases hj), fun _ => has_del_same⟩
  · have hne : uKey q ≠ uKey p := fun e => hq (uKey_inj e)
    simp only [lkDel, if_neg hq]
    refine ⟨fun j hj => ?_, fun hc => ?_⟩
    · rw [has_del_other hne]
      exact ⟨((h3 q).1 j hj).1, fun z => by rw [atKey_del_other hne]; exact ((h3 q).1 j hj).2 z⟩
    · rw [has_del_other hne]; exact (h3 q).2 hc
end
end Go.Proofs.YtndglfiepeefdaaGreat
