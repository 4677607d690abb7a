/- The walks of package row: Decode of a row's own bytes. -/
import Derived.Test.YtphkggcdfkcidaaGreatMAI
import Derived.Test.YtphkggcdfkcidaaGreatMAF
import Derived.Deep.DeepCutAuto
import Derived.Defers

namespace Go.Proofs.YtphkggcdfkcidaaGreat
open Go.RowKit

theorem Sp.Rw.at_mark1 (r : Sp.Rw) : Sp.num ((r.bytes.drop 0).take 1) = r.markN := by have := r.at_mark []; rwa [List.append_nil] at this
theorem Sp.Rw.at_tx1 (r : Sp.Rw) (h : r.wf) : Sp.num ((r.bytes.drop 1).take 8) = r.tx := by have := r.at_tx h []; rwa [List.append_nil] at this
theorem Sp.Rw.at_page1 (r : Sp.Rw) (h : r.may) : Sp.num ((r.bytes.drop 9).take 4) = r.page := by have := r.at_page h []; rwa [List.append_nil] at this
theorem Sp.Rw.at_slot1 (r : Sp.Rw) (h : r.wf) : Sp.num ((r.bytes.drop 13).take 2) = r.slot := by have := r.at_slot h []; rwa [List.append_nil] at this
theorem Sp.Rw.at_klen1 (r : Sp.Rw) (h : r.may) : Sp.num ((r.bytes.drop 15).take 1) = r.key.length := by have := r.at_klen h []; rwa [List.append_nil] at this
theorem Sp.Rw.at_key1 (r : Sp.Rw) : (r.bytes.drop 16).take r.key.length = r.key := by have := r.at_key []; rwa [List.append_nil] at this
theorem Sp.Rw.at_vlen1 (r : Sp.Rw) (h : r.may) : Sp.num ((r.bytes.drop (16 + r.key.length)).take 1) = r.value.length := by have := r.at_vlen h []; rwa [List.append_nil] at this
theorem Sp.Rw.at_value1 (r : Sp.Rw) : (r.bytes.drop (16 + r.key.length + 1)).take r.value.length = r.value := by
  have := r.at_value []
  rw [List.append_nil] at this
  rwa [show 16 + r.key.length + 1 = 17 + r.key.length by omega]

theorem row_size : (Tryz.prog.info? 37).map (·.size) = some 7 := by kernel_rfl
theorem row_store {W : World} {g : Nat} {c0 c1 c2 c3 c4 c5 c6 d0 d1 d2 d3 d4 d5 d6 : Value} (h : Blk W g 37 #[c0, c1, c2, c3, c4, c5, c6]) (h1 : #[d0, d1, d2, d3, d4, d5, d6].all (·.oneCell') = true) :
    (storeVar 37 ⟨g, 0, none⟩ (.agg #[d0, d1, d2, d3, d4, d5, d6])).run Tryz.prog W = .ok () (W.setRow g #[d0, d1, d2, d3, d4, d5, d6]) :=
  run_storeVar_part W g 0 _ _ _ _ h row_size (by show 0 + 7 ≤ 7; omega) h1
theorem row_one (k v : Sp.Bs) (m : Bool) (a b c d : Int) : #[str k, .bool m, .int .u64 a, .int .u32 b, .int .u16 c, str v, .int .i64 d].all (·.oneCell') = true := by
  simp [Value.oneCell']
/-- What the statement leaves that reads the row's first parts. -/
def RdMid (w : World) (r : Sp.Rw) (g gb gR : Nat) (v : Value) (wx : World) : Prop :=
  ∃ g6, v = ptr g6 ∧ Blk wx g 208 #[str r.bytes, .int .i64 (15 : Nat), .bool true] ∧ Blk wx gb 204 #[ptr g] ∧ Blk wx gR 37 #[str [], .bool false, .int .u64 0, .int .u32 0, .int .u16 0, str [], .int .i64 0] ∧
    Blk wx g6 37 #[str [], .bool r.mark, .int .u64 r.tx, .int .u32 r.page, .int .u16 r.slot, str [], .int .i64 0] ∧ g6 ≠ g ∧ g6 ≠ gb ∧ g6 ≠ gR ∧ w.heap.size ≤ g6 ∧ Below w.heap.size w wx

set_option maxRecDepth 100000 in
set_option maxHeartbeats 8000000 in
theorem row_decode (r : Sp.Rw) (hmay : r.may) (hwf : r.wf) (hpad : r.pad = 0) (w : World) :
    Calls Tryz.prog 100 #[str r.bytes] w fun e w' => e = .returned (.tuple #[rwV r, .int .i64 0]) ∧ Below w.heap.size w w' := by
  have hlen := r.bytes_length
  have hm1 := hmay.2.1
  have hm3 := hmay.2.2.1
  have hpg := hmay.2.2.2.1
  have hsl := hwf.2
  have hL17 : 17 ≤ r.bytes.length := by omega
  have hLb : r.bytes.length ≤ 1000 := by omega
  have hmk : decide (0 < r.markN) = r.mark := by unfold Sp.Rw.markN; cases r.mark <;> rfl
  have wr32 : IntKind.u32.wrap (r.page : Int) = r.page := by rw [IntKind.wrap_u32]; omega
  have wr16 : IntKind.u16.wrap (r.slot : Int) = r.slot := by rw [IntKind.wrap_u16]; omega
  have HLEN := Lib.hid hlen
  have HPD := Lib.hid hpad
  clear hlen hpad
  go_enter Tryz.func100, Tryz.ntmps100
  go_wp2_with fail
  have hb1 := (((Below.refl w.heap.size w).alloc (Nat.le_refl _) (.cells #[str [], .bool false, .int .u64 0, .int .u32 0, .int .u16 0, str [], .int .i64 0] 37)).alloc (by simp) (.cells #[str r.bytes, .int .i64 (0 : Nat), .bool true] 208)).alloc (by simp; omega) (.cells #[ptr (w.heap.size + 1)] 204)
  have hR0 := ((Blk.new w 37 #[str [], .bool false, .int .u64 0, .int .u32 0, .int .u16 0, str [], .int .i64 0]).alloc (.cells #[str r.bytes, .int .i64 (0 : Nat), .bool true] 208)).alloc (.cells #[ptr (w.heap.size + 1)] 204)
  have hG0 := (Blk.new (w.alloc (.cells #[str [], .bool false, .int .u64 0, .int .u32 0, .int .u16 0, str [], .int .i64 0] 37)) 208 #[str r.bytes, .int .i64 (0 : Nat), .bool true]).alloc (.cells #[ptr (w.heap.size + 1)] 204)
  have hX0 := Blk.new ((w.alloc (.cells #[str [], .bool false, .int .u64 0, .int .u32 0, .int .u16 0, str [], .int .i64 0] 37)).alloc (.cells #[str r.bytes, .int .i64 (0 : Nat), .bool true] 208)) 204 #[ptr (w.heap.size + 1)]
  rw [World.size_alloc] at hG0
  rw [World.size_alloc, World.size_alloc] at hX0
  obtain ⟨w1, hw1⟩ : ∃ w1, w1 = (((w.alloc (.cells #[str [], .bool false, .int .u64 0, .int .u32 0, .int .u16 0, str [], .int .i64 0] 37)).alloc (.cells #[str r.bytes, .int .i64 (0 : Nat), .bool true] 208)).alloc (.cells #[ptr (w.heap.size + 1)] 204)) := ⟨_, rfl⟩
  rw [← hw1] at hb1 hR0 hG0 hX0
  change Code.wp _ _ _ _ (((w.alloc (.cells #[str [], .bool false, .int .u64 0, .int .u32 0, .int .u16 0, str [], .int .i64 0] 37)).alloc (.cells #[str r.bytes, .int .i64 (0 : Nat), .bool true] 208)).alloc (.cells #[ptr (w.heap.size + 1)] 204))
  rw [← hw1]
  obtain ⟨gR, hgR⟩ : ∃ g, g = w.heap.size := ⟨_, rfl⟩
  obtain ⟨g, hg⟩ : ∃ g, g = w.heap.size + 1 := ⟨_, rfl⟩
  obtain ⟨gb, hgb⟩ : ∃ g, g = w.heap.size + 1 + 1 := ⟨_, rfl⟩
  rw [← hgb, ← hg] at hX0
  rw [← hg] at hG0
  rw [← hgR] at hR0
  rw [← hgb, ← hgR]
  have hne : gb ≠ g := by omega
  have hRg : gR ≠ g := by omega
  have hgB : w.heap.size ≤ g := by omega
  have hRB : w.heap.size ≤ gR := by omega
  have HG0 := Lib.hid hG0
  have HBX0 := Lib.hid hX0
  have HR0 := Lib.hid hR0
  clear hw1 hgR hg hgb hG0 hX0 hR0
  go_upto_region 3 with fail
  go_cut [6] (fun v wx => RdMid w r g gb gR v wx)
  case first =>
    have HG := Lib.hid HG0.out.drew
    have HBX := Lib.hid HBX0.out.drew
    have HR := Lib.hid HR0.out.drew
    have hS := Lib.hid (HBX.out.cell 0)
    have hB : Below w.heap.size w w1.drew := ⟨hb1.os, hb1.tape, hb1.output, hb1.size, hb1.block⟩
    have hsz : w.heap.size ≤ w1.drew.heap.size := hb1.size
    go_wp2_with fail
    refine R_begin (fun W => W.cell? ⟨gb, 0, none⟩ = some (ptr g)) (fun _ => false) rfl ?_
    refine R_take 0 14 (v := ?_) rfl rfl (by rfl) (by kernel_rfl) (fun _ _ _ h => h) hS.out ?_ ?_
    rotate_left
    · intro w hSw; (try dsimp only at hSw); go_simp; (try with_reducible rfl)
    simp only [List.setIfInBounds_toArray, List.set_cons_zero, List.set_cons_succ]
    refine R_take 3 17 (v := ?_) rfl rfl (by rfl) (by kernel_rfl) (fun _ _ _ h => h) hS.out ?_ ?_
    rotate_left
    · intro w hSw; (try dsimp only at hSw); go_simp; (try with_reducible rfl)
    simp only [List.setIfInBounds_toArray, List.set_cons_zero, List.set_cons_succ]
    refine R_take 5 19 (v := ?_) rfl rfl (by rfl) (by kernel_rfl) (fun _ _ _ h => h) hS.out ?_ ?_
    rotate_left
    · intro w hSw; (try dsimp only at hSw); go_simp; (try with_reducible rfl)
    simp only [List.setIfInBounds_toArray, List.set_cons_zero, List.set_cons_succ]
    refine R_take 8 22 (v := ?_) rfl rfl (by rfl) (by kernel_rfl) (fun _ _ _ h => h) hS.out ?_ ?_
    rotate_left
    · intro w hSw; (try dsimp only at hSw); go_simp; (try with_reducible rfl)
    simp only [List.setIfInBounds_toArray, List.set_cons_zero, List.set_cons_succ]
    refine R_all (rs := [1, 13]) (by kernel_rfl) (by simp) (fun i hi => ?_)
    simp only [List.mem_cons, List.not_mem_nil, or_false] at hi
    rcases hi with rfl | rfl
    · skip
      have hc := rd_num r.bytes g 0 1 w1.drew (by omega) (by omega) (by omega) (by omega) HG.out
      rw [Sp.Rw.at_mark1 r] at hc
      refine op_call 15 (w' := w1.drew) rfl rfl (by rfl) ?_ hc ?_
      · go_simp
      rintro e v1 ⟨rfl, hg, ht⟩
      replace HG := Lib.hid hg
      replace HBX := Lib.hid (HBX.out.turns ht (fun e => hne e))
      replace HR := Lib.hid (HR.out.turns ht (fun e => hRg e))
      replace hsz := Nat.le_trans hsz ht.size
      replace hB := hB.trans (ht.below hB.size (fun b hb => by rw [hb]; exact hgB))
      replace hS := Lib.hid (HBX.out.cell 0)
      refine ⟨_, rfl, fun _ => hS.out, ?_⟩
      simp only [List.setIfInBounds_toArray, List.set_cons_zero, List.set_cons_succ]
      clear hg ht hc
      refine R_take 2 16 (v := ?_) rfl rfl (by rfl) (by kernel_rfl) (fun _ _ _ h => h) hS.out ?_ ?_
      rotate_left
      · intro w hSw; (try dsimp only at hSw); go_simp; (try with_reducible rfl)
      simp only [List.setIfInBounds_toArray, List.set_cons_zero, List.set_cons_succ]
      refine R_all (rs := [4, 13]) (by kernel_rfl) (by simp) (fun i hi => ?_)
      simp only [List.mem_cons, List.not_mem_nil, or_false] at hi
      rcases hi with rfl | rfl
      · skip
        have hc := rd_num r.bytes g 1 8 v1 (by omega) (by omega) (by omega) (by omega) HG.out
        rw [Sp.Rw.at_tx1 r hwf] at hc
        refine op_call 18 (w' := v1) rfl rfl (by rfl) ?_ hc ?_
        · go_simp
        rintro e v2 ⟨rfl, hg, ht⟩
        replace HG := Lib.hid hg
        replace HBX := Lib.hid (HBX.out.turns ht (fun e => hne e))
        replace HR := Lib.hid (HR.out.turns ht (fun e => hRg e))
        replace hsz := Nat.le_trans hsz ht.size
        replace hB := hB.trans (ht.below hB.size (fun b hb => by rw [hb]; exact hgB))
        replace hS := Lib.hid (HBX.out.cell 0)
        refine ⟨_, rfl, fun _ => hS.out, ?_⟩
        simp only [List.setIfInBounds_toArray, List.set_cons_zero, List.set_cons_succ]
        clear hg ht hc
        refine R_all (rs := [6, 13]) (by kernel_rfl) (by simp) (fun i hi => ?_)
        simp only [List.mem_cons, List.not_mem_nil, or_false] at hi
        rcases hi with rfl | rfl
        · skip
          have hc := rd_num r.bytes g 9 4 v2 (by omega) (by omega) (by omega) (by omega) HG.out
          rw [Sp.Rw.at_page1 r hmay] at hc
          refine op_call 20 (w' := v2) rfl rfl (by rfl) ?_ hc ?_
          · go_simp
          rintro e v3 ⟨rfl, hg, ht⟩
          replace HG := Lib.hid hg
          replace HBX := Lib.hid (HBX.out.turns ht (fun e => hne e))
          replace HR := Lib.hid (HR.out.turns ht (fun e => hRg e))
          replace hsz := Nat.le_trans hsz ht.size
          replace hB := hB.trans (ht.below hB.size (fun b hb => by rw [hb]; exact hgB))
          replace hS := Lib.hid (HBX.out.cell 0)
          refine ⟨_, rfl, fun _ => hS.out, ?_⟩
          simp only [List.setIfInBounds_toArray, List.set_cons_zero, List.set_cons_succ]
          clear hg ht hc
          refine R_take 7 21 (v := ?_) rfl rfl (by rfl) (by kernel_rfl) (fun _ _ _ h => h) hS.out ?_ ?_
          rotate_left
          · intro w hSw; (try dsimp only at hSw); go_simp; (try with_reducible rfl)
          simp only [List.setIfInBounds_toArray, List.set_cons_zero, List.set_cons_succ]
          refine R_all (rs := [9, 13]) (by kernel_rfl) (by simp) (fun i hi => ?_)
          simp only [List.mem_cons, List.not_mem_nil, or_false] at hi
          rcases hi with rfl | rfl
          · skip
            have hc := rd_num r.bytes g 13 2 v3 (by omega) (by omega) (by omega) (by omega) HG.out
            rw [Sp.Rw.at_slot1 r hwf] at hc
            refine op_call 23 (w' := v3) rfl rfl (by rfl) ?_ hc ?_
            · go_simp
            rintro e v4 ⟨rfl, hg, ht⟩
            replace HG := Lib.hid hg
            replace HBX := Lib.hid (HBX.out.turns ht (fun e => hne e))
            replace HR := Lib.hid (HR.out.turns ht (fun e => hRg e))
            replace hsz := Nat.le_trans hsz ht.size
            replace hB := hB.trans (ht.below hB.size (fun b hb => by rw [hb]; exact hgB))
            replace hS := Lib.hid (HBX.out.cell 0)
            refine ⟨_, rfl, fun _ => hS.out, ?_⟩
            simp only [List.setIfInBounds_toArray, List.set_cons_zero, List.set_cons_succ]
            clear hg ht hc
            refine R_take 10 24 (v := ?_) rfl rfl (by rfl) (by kernel_rfl) (fun _ _ _ h => h) hS.out ?_ ?_
            rotate_left
            · intro w hSw; (try dsimp only at hSw); go_simp; (try with_reducible rfl)
            simp only [List.setIfInBounds_toArray, List.set_cons_zero, List.set_cons_succ]
            refine R_take 11 25 (v := ?_) rfl rfl (by rfl) (by kernel_rfl) (fun _ _ _ h => h) hS.out ?_ ?_
            rotate_left
            · intro w hSw; (try dsimp only at hSw); go_simp; (try with_reducible rfl)
            simp only [List.setIfInBounds_toArray, List.set_cons_zero, List.set_cons_succ]
            refine R_take 12 26 (v := ?_) rfl rfl (by rfl) (by kernel_rfl) (fun _ _ _ h => h) hS.out ?_ ?_
            rotate_left
            · intro w hSw; (try dsimp only at hSw); go_simp; (try with_reducible rfl)
            simp only [List.setIfInBounds_toArray, List.set_cons_zero, List.set_cons_succ]
            refine R_run 13 6 (v := ptr v4.heap.size) (w' := v4.alloc (.cells #[str [], .bool false, .int .u64 0, .int .u32 0, .int .u16 0, str [], .int .i64 0] 37)) rfl rfl (by rfl) (by kernel_rfl) ?_ (fun _ => (HBX.out.alloc _).cell 0) ?_
            · first | (go_simp; done) | (go_simp; rfl)
            simp only [List.setIfInBounds_toArray, List.set_cons_zero, List.set_cons_succ]
            have hgl := HG.out.lt
            have hbl := HBX.out.lt
            have hrl := HR.out.lt
            have hal : v4.heap.size < (v4.alloc (.cells #[str [], .bool false, .int .u64 0, .int .u32 0, .int .u16 0, str [], .int .i64 0] 37)).heap.size := by simp
            have hal2 : v4.heap.size ≤ (v4.alloc (.cells #[str [], .bool false, .int .u64 0, .int .u32 0, .int .u16 0, str [], .int .i64 0] 37)).heap.size := by simp
            have HN := Blk.new v4 37 #[str [], .bool false, .int .u64 0, .int .u32 0, .int .u16 0, str [], .int .i64 0]
            replace HG := HG.out.alloc (.cells #[str [], .bool false, .int .u64 0, .int .u32 0, .int .u16 0, str [], .int .i64 0] 37)
            replace HBX := HBX.out.alloc (.cells #[str [], .bool false, .int .u64 0, .int .u32 0, .int .u16 0, str [], .int .i64 0] 37)
            replace HR := HR.out.alloc (.cells #[str [], .bool false, .int .u64 0, .int .u32 0, .int .u16 0, str [], .int .i64 0] 37)
            replace hB := hB.alloc hB.size (.cells #[str [], .bool false, .int .u64 0, .int .u32 0, .int .u16 0, str [], .int .i64 0] 37)
            obtain ⟨g6, hg6⟩ : ∃ x, x = v4.heap.size := ⟨_, rfl⟩
            obtain ⟨v5, hw5⟩ : ∃ x, x = v4.alloc (.cells #[str [], .bool false, .int .u64 0, .int .u32 0, .int .u16 0, str [], .int .i64 0] 37) := ⟨_, rfl⟩
            rw [← hw5, ← hg6] at HN ⊢
            rw [← hw5] at HG HBX HR hB hal hal2
            rw [← hg6] at hgl hbl hrl hal hal2
            have hNg : g6 ≠ g := by omega
            have hNb : g6 ≠ gb := by omega
            have hNR : g6 ≠ gR := by omega
            have hNl : w.heap.size ≤ g6 := by omega
            replace hsz : w.heap.size ≤ v5.heap.size := by omega
            replace HN := Lib.hid HN
            replace HG := Lib.hid HG
            replace HBX := Lib.hid HBX
            replace HR := Lib.hid HR
            replace hS := Lib.hid (HBX.out.cell 0)
            clear hw5 hg6 hgl hbl hrl hal hal2
            have HNs := HN.out
            refine R_store 14 (n := .skip) (w' := v5.setRow g6 #[str [], .bool r.mark, .int .u64 r.tx, .int .u32 r.page, .int .u16 r.slot, str [], .int .i64 0]) rfl rfl (by rfl) (by kernel_rfl) ?_ (.inl rfl) (fun _ => (HBX.out.keep (heap_setRow_other _ _ _ _ (Ne.symm hNb))).cell 0) ?_
            · exact run_op_store _ _ _ _ _ rfl rfl rfl (row_store HNs (row_one _ _ _ _ _ _ _))
            replace HG := Lib.hid (HG.out.keep (heap_setRow_other v5 g6 g #[str [], .bool r.mark, .int .u64 r.tx, .int .u32 r.page, .int .u16 r.slot, str [], .int .i64 0] (Ne.symm hNg)))
            replace HBX := Lib.hid (HBX.out.keep (heap_setRow_other v5 g6 gb #[str [], .bool r.mark, .int .u64 r.tx, .int .u32 r.page, .int .u16 r.slot, str [], .int .i64 0] (Ne.symm hNb)))
            replace HR := Lib.hid (HR.out.keep (heap_setRow_other v5 g6 gR #[str [], .bool r.mark, .int .u64 r.tx, .int .u32 r.page, .int .u16 r.slot, str [], .int .i64 0] (Ne.symm hNR)))
            replace HN := Lib.hid (HN.out.setRow #[str [], .bool r.mark, .int .u64 r.tx, .int .u32 r.page, .int .u16 r.slot, str [], .int .i64 0])
            replace hB := below_setRow hB hNl #[str [], .bool r.mark, .int .u64 r.tx, .int .u32 r.page, .int .u16 r.slot, str [], .int .i64 0]
            replace hS := Lib.hid (HBX.out.cell 0)
            refine R_done (by kernel_rfl) ?_ _
            rename_i K9 hK9
            refine hK9 _ _ ?_
            clear hK9
            go_meet
            exact ⟨_, rfl, HG.out, HBX.out, HR.out, HN.out, hNg, hNb, hNR, hNl, hB⟩
          · skip
            refine op_run 6 (v := ptr v3.heap.size) (w' := v3.alloc (.cells #[str [], .bool false, .int .u64 0, .int .u32 0, .int .u16 0, str [], .int .i64 0] 37)) rfl rfl (by rfl) ?_ ⟨fun _ => (HBX.out.alloc _).cell 0, ?_⟩
            · first | (go_simp; done) | (go_simp; rfl)
            simp only [List.setIfInBounds_toArray, List.set_cons_zero, List.set_cons_succ]
            have hgl := HG.out.lt
            have hbl := HBX.out.lt
            have hrl := HR.out.lt
            have hal : v3.heap.size < (v3.alloc (.cells #[str [], .bool false, .int .u64 0, .int .u32 0, .int .u16 0, str [], .int .i64 0] 37)).heap.size := by simp
            have hal2 : v3.heap.size ≤ (v3.alloc (.cells #[str [], .bool false, .int .u64 0, .int .u32 0, .int .u16 0, str [], .int .i64 0] 37)).heap.size := by simp
            have HN := Blk.new v3 37 #[str [], .bool false, .int .u64 0, .int .u32 0, .int .u16 0, str [], .int .i64 0]
            replace HG := HG.out.alloc (.cells #[str [], .bool false, .int .u64 0, .int .u32 0, .int .u16 0, str [], .int .i64 0] 37)
            replace HBX := HBX.out.alloc (.cells #[str [], .bool false, .int .u64 0, .int .u32 0, .int .u16 0, str [], .int .i64 0] 37)
            replace HR := HR.out.alloc (.cells #[str [], .bool false, .int .u64 0, .int .u32 0, .int .u16 0, str [], .int .i64 0] 37)
            replace hB := hB.alloc hB.size (.cells #[str [], .bool false, .int .u64 0, .int .u32 0, .int .u16 0, str [], .int .i64 0] 37)
            obtain ⟨g6, hg6⟩ : ∃ x, x = v3.heap.size := ⟨_, rfl⟩
            obtain ⟨v5, hw5⟩ : ∃ x, x = v3.alloc (.cells #[str [], .bool false, .int .u64 0, .int .u32 0, .int .u16 0, str [], .int .i64 0] 37) := ⟨_, rfl⟩
            rw [← hw5, ← hg6] at HN ⊢
            rw [← hw5] at HG HBX HR hB hal hal2
            rw [← hg6] at hgl hbl hrl hal hal2
            have hNg : g6 ≠ g := by omega
            have hNb : g6 ≠ gb := by omega
            have hNR : g6 ≠ gR := by omega
            have hNl : w.heap.size ≤ g6 := by omega
            replace hsz : w.heap.size ≤ v5.heap.size := by omega
            replace HN := Lib.hid HN
            replace HG := Lib.hid HG
            replace HBX := Lib.hid HBX
            replace HR := Lib.hid HR
            replace hS := Lib.hid (HBX.out.cell 0)
            clear hw5 hg6 hgl hbl hrl hal hal2
            have hc := rd_num r.bytes g 13 2 v5 (by omega) (by omega) (by omega) (by omega) HG.out
            rw [Sp.Rw.at_slot1 r hwf] at hc
            refine R_call 9 23 (w' := v5) rfl rfl (by rfl) (by kernel_rfl) ?_ hc ?_
            · go_simp
            rintro e v4 ⟨rfl, hg, ht⟩
            replace HN := Lib.hid (HN.out.turns ht (fun e => hNg e))
            replace HG := Lib.hid hg
            replace HBX := Lib.hid (HBX.out.turns ht (fun e => hne e))
            replace HR := Lib.hid (HR.out.turns ht (fun e => hRg e))
            replace hsz := Nat.le_trans hsz ht.size
            replace hB := hB.trans (ht.below hB.size (fun b hb => by rw [hb]; exact hgB))
            replace hS := Lib.hid (HBX.out.cell 0)
            refine ⟨_, rfl, fun _ => hS.out, ?_⟩
            simp only [List.setIfInBounds_toArray, List.set_cons_zero, List.set_cons_succ]
            clear hg ht hc
            refine R_take 10 24 (v := ?_) rfl rfl (by rfl) (by kernel_rfl) (fun _ _ _ h => h) hS.out ?_ ?_
            rotate_left
            · intro w hSw; (try dsimp only at hSw); go_simp; (try with_reducible rfl)
            simp only [List.setIfInBounds_toArray, List.set_cons_zero, List.set_cons_succ]
            refine R_take 11 25 (v := ?_) rfl rfl (by rfl) (by kernel_rfl) (fun _ _ _ h => h) hS.out ?_ ?_
            rotate_left
            · intro w hSw; (try dsimp only at hSw); go_simp; (try with_reducible rfl)
            simp only [List.setIfInBounds_toArray, List.set_cons_zero, List.set_cons_succ]
            refine R_take 12 26 (v := ?_) rfl rfl (by rfl) (by kernel_rfl) (fun _ _ _ h => h) hS.out ?_ ?_
            rotate_left
            · intro w hSw; (try dsimp only at hSw); go_simp; (try with_reducible rfl)
            simp only [List.setIfInBounds_toArray, List.set_cons_zero, List.set_cons_succ]
            have HNs := HN.out
            refine R_store 14 (n := .skip) (w' := v4.setRow g6 #[str [], .bool r.mark, .int .u64 r.tx, .int .u32 r.page, .int .u16 r.slot, str [], .int .i64 0]) rfl rfl (by rfl) (by kernel_rfl) ?_ (.inl rfl) (fun _ => (HBX.out.keep (heap_setRow_other _ _ _ _ (Ne.symm hNb))).cell 0) ?_
            · exact run_op_store _ _ _ _ _ rfl rfl rfl (row_store HNs (row_one _ _ _ _ _ _ _))
            replace HG := Lib.hid (HG.out.keep (heap_setRow_other v4 g6 g #[str [], .bool r.mark, .int .u64 r.tx, .int .u32 r.page, .int .u16 r.slot, str [], .int .i64 0] (Ne.symm hNg)))
            replace HBX := Lib.hid (HBX.out.keep (heap_setRow_other v4 g6 gb #[str [], .bool r.mark, .int .u64 r.tx, .int .u32 r.page, .int .u16 r.slot, str [], .int .i64 0] (Ne.symm hNb)))
            replace HR := Lib.hid (HR.out.keep (heap_setRow_other v4 g6 gR #[str [], .bool r.mark, .int .u64 r.tx, .int .u32 r.page, .int .u16 r.slot, str [], .int .i64 0] (Ne.symm hNR)))
            replace HN := Lib.hid (HN.out.setRow #[str [], .bool r.mark, .int .u64 r.tx, .int .u32 r.page, .int .u16 r.slot, str [], .int .i64 0])
            replace hB := below_setRow hB hNl #[str [], .bool r.mark, .int .u64 r.tx, .int .u32 r.page, .int .u16 r.slot, str [], .int .i64 0]
            replace hS := Lib.hid (HBX.out.cell 0)
            refine R_done (by kernel_rfl) ?_ _
            rename_i K9 hK9
            refine hK9 _ _ ?_
            clear hK9
            go_meet
            exact ⟨_, rfl, HG.out, HBX.out, HR.out, HN.out, hNg, hNb, hNR, hNl, hB⟩
        · skip
          refine op_run 6 (v := ptr v2.heap.size) (w' := v2.alloc (.cells #[str [], .bool false, .int .u64 0, .int .u32 0, .int .u16 0, str [], .int .i64 0] 37)) rfl rfl (by rfl) ?_ ⟨fun _ => (HBX.out.alloc _).cell 0, ?_⟩
          · first | (go_simp; done) | (go_simp; rfl)
          simp only [List.setIfInBounds_toArray, List.set_cons_zero, List.set_cons_succ]
          have hgl := HG.out.lt
          have hbl := HBX.out.lt
          have hrl := HR.out.lt
          have hal : v2.heap.size < (v2.alloc (.cells #[str [], .bool false, .int .u64 0, .int .u32 0, .int .u16 0, str [], .int .i64 0] 37)).heap.size := by simp
          have hal2 : v2.heap.size ≤ (v2.alloc (.cells #[str [], .bool false, .int .u64 0, .int .u32 0, .int .u16 0, str [], .int .i64 0] 37)).heap.size := by simp
          have HN := Blk.new v2 37 #[str [], .bool false, .int .u64 0, .int .u32 0, .int .u16 0, str [], .int .i64 0]
          replace HG := HG.out.alloc (.cells #[str [], .bool false, .int .u64 0, .int .u32 0, .int .u16 0, str [], .int .i64 0] 37)
          replace HBX := HBX.out.alloc (.cells #[str [], .bool false, .int .u64 0, .int .u32 0, .int .u16 0, str [], .int .i64 0] 37)
          replace HR := HR.out.alloc (.cells #[str [], .bool false, .int .u64 0, .int .u32 0, .int .u16 0, str [], .int .i64 0] 37)
          replace hB := hB.alloc hB.size (.cells #[str [], .bool false, .int .u64 0, .int .u32 0, .int .u16 0, str [], .int .i64 0] 37)
          obtain ⟨g6, hg6⟩ : ∃ x, x = v2.heap.size := ⟨_, rfl⟩
          obtain ⟨v5, hw5⟩ : ∃ x, x = v2.alloc (.cells #[str [], .bool false, .int .u64 0, .int .u32 0, .int .u16 0, str [], .int .i64 0] 37) := ⟨_, rfl⟩
          rw [← hw5, ← hg6] at HN ⊢
          rw [← hw5] at HG HBX HR hB hal hal2
          rw [← hg6] at hgl hbl hrl hal hal2
          have hNg : g6 ≠ g := by omega
          have hNb : g6 ≠ gb := by omega
          have hNR : g6 ≠ gR := by omega
          have hNl : w.heap.size ≤ g6 := by omega
          replace hsz : w.heap.size ≤ v5.heap.size := by omega
          replace HN := Lib.hid HN
          replace HG := Lib.hid HG
          replace HBX := Lib.hid HBX
          replace HR := Lib.hid HR
          replace hS := Lib.hid (HBX.out.cell 0)
          clear hw5 hg6 hgl hbl hrl hal hal2
          have hc := rd_num r.bytes g 9 4 v5 (by omega) (by omega) (by omega) (by omega) HG.out
          rw [Sp.Rw.at_page1 r hmay] at hc
          refine R_call 6 20 (w' := v5) rfl rfl (by rfl) (by kernel_rfl) ?_ hc ?_
          · go_simp
          rintro e v3 ⟨rfl, hg, ht⟩
          replace HN := Lib.hid (HN.out.turns ht (fun e => hNg e))
          replace HG := Lib.hid hg
          replace HBX := Lib.hid (HBX.out.turns ht (fun e => hne e))
          replace HR := Lib.hid (HR.out.turns ht (fun e => hRg e))
          replace hsz := Nat.le_trans hsz ht.size
          replace hB := hB.trans (ht.below hB.size (fun b hb => by rw [hb]; exact hgB))
          replace hS := Lib.hid (HBX.out.cell 0)
          refine ⟨_, rfl, fun _ => hS.out, ?_⟩
          simp only [List.setIfInBounds_toArray, List.set_cons_zero, List.set_cons_succ]
          clear hg ht hc
          refine R_take 7 21 (v := ?_) rfl rfl (by rfl) (by kernel_rfl) (fun _ _ _ h => h) hS.out ?_ ?_
          rotate_left
          · intro w hSw; (try dsimp only at hSw); go_simp; (try with_reducible rfl)
          simp only [List.setIfInBounds_toArray, List.set_cons_zero, List.set_cons_succ]
          have hc := rd_num r.bytes g 13 2 v3 (by omega) (by omega) (by omega) (by omega) HG.out
          rw [Sp.Rw.at_slot1 r hwf] at hc
          refine R_call 9 23 (w' := v3) rfl rfl (by rfl) (by kernel_rfl) ?_ hc ?_
          · go_simp
          rintro e v4 ⟨rfl, hg, ht⟩
          replace HN := Lib.hid (HN.out.turns ht (fun e => hNg e))
          replace HG := Lib.hid hg
          replace HBX := Lib.hid (HBX.out.turns ht (fun e => hne e))
          replace HR := Lib.hid (HR.out.turns ht (fun e => hRg e))
          replace hsz := Nat.le_trans hsz ht.size
          replace hB := hB.trans (ht.below hB.size (fun b hb => by rw [hb]; exact hgB))
          replace hS := Lib.hid (HBX.out.cell 0)
          refine ⟨_, rfl, fun _ => hS.out, ?_⟩
          simp only [List.setIfInBounds_toArray, List.set_cons_zero, List.set_cons_succ]
          clear hg ht hc
          refine R_take 10 24 (v := ?_) rfl rfl (by rfl) (by kernel_rfl) (fun _ _ _ h => h) hS.out ?_ ?_
          rotate_left
          · intro w hSw; (try dsimp only at hSw); go_simp; (try with_reducible rfl)
          simp only [List.setIfInBounds_toArray, List.set_cons_zero, List.set_cons_succ]
          refine R_take 11 25 (v := ?_) rfl rfl (by rfl) (by kernel_rfl) (fun _ _ _ h => h) hS.out ?_ ?_
          rotate_left
          · intro w hSw; (try dsimp only at hSw); go_simp; (try with_reducible rfl)
          simp only [List.setIfInBounds_toArray, List.set_cons_zero, List.set_cons_succ]
          refine R_take 12 26 (v := ?_) rfl rfl (by rfl) (by kernel_rfl) (fun _ _ _ h => h) hS.out ?_ ?_
          rotate_left
          · intro w hSw; (try dsimp only at hSw); go_simp; (try with_reducible rfl)
          simp only [List.setIfInBounds_toArray, List.set_cons_zero, List.set_cons_succ]
          have HNs := HN.out
          refine R_store 14 (n := .skip) (w' := v4.setRow g6 #[str [], .bool r.mark, .int .u64 r.tx, .int .u32 r.page, .int .u16 r.slot, str [], .int .i64 0]) rfl rfl (by rfl) (by kernel_rfl) ?_ (.inl rfl) (fun _ => (HBX.out.keep (heap_setRow_other _ _ _ _ (Ne.symm hNb))).cell 0) ?_
          · exact run_op_store _ _ _ _ _ rfl rfl rfl (row_store HNs (row_one _ _ _ _ _ _ _))
          replace HG := Lib.hid (HG.out.keep (heap_setRow_other v4 g6 g #[str [], .bool r.mark, .int .u64 r.tx, .int .u32 r.page, .int .u16 r.slot, str [], .int .i64 0] (Ne.symm hNg)))
          replace HBX := Lib.hid (HBX.out.keep (heap_setRow_other v4 g6 gb #[str [], .bool r.mark, .int .u64 r.tx, .int .u32 r.page, .int .u16 r.slot, str [], .int .i64 0] (Ne.symm hNb)))
          replace HR := Lib.hid (HR.out.keep (heap_setRow_other v4 g6 gR #[str [], .bool r.mark, .int .u64 r.tx, .int .u32 r.page, .int .u16 r.slot, str [], .int .i64 0] (Ne.symm hNR)))
          replace HN := Lib.hid (HN.out.setRow #[str [], .bool r.mark, .int .u64 r.tx, .int .u32 r.page, .int .u16 r.slot, str [], .int .i64 0])
          replace hB := below_setRow hB hNl #[str [], .bool r.mark, .int .u64 r.tx, .int .u32 r.page, .int .u16 r.slot, str [], .int .i64 0]
          replace hS := Lib.hid (HBX.out.cell 0)
          refine R_done (by kernel_rfl) ?_ _
          rename_i K9 hK9
          refine hK9 _ _ ?_
          clear hK9
          go_meet
          exact ⟨_, rfl, HG.out, HBX.out, HR.out, HN.out, hNg, hNb, hNR, hNl, hB⟩
      · skip
        refine op_run 6 (v := ptr v1.heap.size) (w' := v1.alloc (.cells #[str [], .bool false, .int .u64 0, .int .u32 0, .int .u16 0, str [], .int .i64 0] 37)) rfl rfl (by rfl) ?_ ⟨fun _ => (HBX.out.alloc _).cell 0, ?_⟩
        · first | (go_simp; done) | (go_simp; rfl)
        simp only [List.setIfInBounds_toArray, List.set_cons_zero, List.set_cons_succ]
        have hgl := HG.out.lt
        have hbl := HBX.out.lt
        have hrl := HR.out.lt
        have hal : v1.heap.size < (v1.alloc (.cells #[str [], .bool false, .int .u64 0, .int .u32 0, .int .u16 0, str [], .int .i64 0] 37)).heap.size := by simp
        have hal2 : v1.heap.size ≤ (v1.alloc (.cells #[str [], .bool false, .int .u64 0, .int .u32 0, .int .u16 0, str [], .int .i64 0] 37)).heap.size := by simp
        have HN := Blk.new v1 37 #[str [], .bool false, .int .u64 0, .int .u32 0, .int .u16 0, str [], .int .i64 0]
        replace HG := HG.out.alloc (.cells #[str [], .bool false, .int .u64 0, .int .u32 0, .int .u16 0, str [], .int .i64 0] 37)
        replace HBX := HBX.out.alloc (.cells #[str [], .bool false, .int .u64 0, .int .u32 0, .int .u16 0, str [], .int .i64 0] 37)
        replace HR := HR.out.alloc (.cells #[str [], .bool false, .int .u64 0, .int .u32 0, .int .u16 0, str [], .int .i64 0] 37)
        replace hB := hB.alloc hB.size (.cells #[str [], .bool false, .int .u64 0, .int .u32 0, .int .u16 0, str [], .int .i64 0] 37)
        obtain ⟨g6, hg6⟩ : ∃ x, x = v1.heap.size := ⟨_, rfl⟩
        obtain ⟨v5, hw5⟩ : ∃ x, x = v1.alloc (.cells #[str [], .bool false, .int .u64 0, .int .u32 0, .int .u16 0, str [], .int .i64 0] 37) := ⟨_, rfl⟩
        rw [← hw5, ← hg6] at HN ⊢
        rw [← hw5] at HG HBX HR hB hal hal2
        rw [← hg6] at hgl hbl hrl hal hal2
        have hNg : g6 ≠ g := by omega
        have hNb : g6 ≠ gb := by omega
        have hNR : g6 ≠ gR := by omega
        have hNl : w.heap.size ≤ g6 := by omega
        replace hsz : w.heap.size ≤ v5.heap.size := by omega
        replace HN := Lib.hid HN
        replace HG := Lib.hid HG
        replace HBX := Lib.hid HBX
        replace HR := Lib.hid HR
        replace hS := Lib.hid (HBX.out.cell 0)
        clear hw5 hg6 hgl hbl hrl hal hal2
        have hc := rd_num r.bytes g 1 8 v5 (by omega) (by omega) (by omega) (by omega) HG.out
        rw [Sp.Rw.at_tx1 r hwf] at hc
        refine R_call 4 18 (w' := v5) rfl rfl (by rfl) (by kernel_rfl) ?_ hc ?_
        · go_simp
        rintro e v2 ⟨rfl, hg, ht⟩
        replace HN := Lib.hid (HN.out.turns ht (fun e => hNg e))
        replace HG := Lib.hid hg
        replace HBX := Lib.hid (HBX.out.turns ht (fun e => hne e))
        replace HR := Lib.hid (HR.out.turns ht (fun e => hRg e))
        replace hsz := Nat.le_trans hsz ht.size
        replace hB := hB.trans (ht.below hB.size (fun b hb => by rw [hb]; exact hgB))
        replace hS := Lib.hid (HBX.out.cell 0)
        refine ⟨_, rfl, fun _ => hS.out, ?_⟩
        simp only [List.setIfInBounds_toArray, List.set_cons_zero, List.set_cons_succ]
        clear hg ht hc
        have hc := rd_num r.bytes g 9 4 v2 (by omega) (by omega) (by omega) (by omega) HG.out
        rw [Sp.Rw.at_page1 r hmay] at hc
        refine R_call 6 20 (w' := v2) rfl rfl (by rfl) (by kernel_rfl) ?_ hc ?_
        · go_simp
        rintro e v3 ⟨rfl, hg, ht⟩
        replace HN := Lib.hid (HN.out.turns ht (fun e => hNg e))
        replace HG := Lib.hid hg
        replace HBX := Lib.hid (HBX.out.turns ht (fun e => hne e))
        replace HR := Lib.hid (HR.out.turns ht (fun e => hRg e))
        replace hsz := Nat.le_trans hsz ht.size
        replace hB := hB.trans (ht.below hB.size (fun b hb => by rw [hb]; exact hgB))
        replace hS := Lib.hid (HBX.out.cell 0)
        refine ⟨_, rfl, fun _ => hS.out, ?_⟩
        simp only [List.setIfInBounds_toArray, List.set_cons_zero, List.set_cons_succ]
        clear hg ht hc
        refine R_take 7 21 (v := ?_) rfl rfl (by rfl) (by kernel_rfl) (fun _ _ _ h => h) hS.out ?_ ?_
        rotate_left
        · intro w hSw; (try dsimp only at hSw); go_simp; (try with_reducible rfl)
        simp only [List.setIfInBounds_toArray, List.set_cons_zero, List.set_cons_succ]
        have hc := rd_num r.bytes g 13 2 v3 (by omega) (by omega) (by omega) (by omega) HG.out
        rw [Sp.Rw.at_slot1 r hwf] at hc
        refine R_call 9 23 (w' := v3) rfl rfl (by rfl) (by kernel_rfl) ?_ hc ?_
        · go_simp
        rintro e v4 ⟨rfl, hg, ht⟩
        replace HN := Lib.hid (HN.out.turns ht (fun e => hNg e))
        replace HG := Lib.hid hg
        replace HBX := Lib.hid (HBX.out.turns ht (fun e => hne e))
        replace HR := Lib.hid (HR.out.turns ht (fun e => hRg e))
        replace hsz := Nat.le_trans hsz ht.size
        replace hB := hB.trans (ht.below hB.size (fun b hb => by rw [hb]; exact hgB))
        replace hS := Lib.hid (HBX.out.cell 0)
        refine ⟨_, rfl, fun _ => hS.out, ?_⟩
        simp only [List.setIfInBounds_toArray, List.set_cons_zero, List.set_cons_succ]
        clear hg ht hc
        refine R_take 10 24 (v := ?_) rfl rfl (by rfl) (by kernel_rfl) (fun _ _ _ h => h) hS.out ?_ ?_
        rotate_left
        · intro w hSw; (try dsimp only at hSw); go_simp; (try with_reducible rfl)
        simp only [List.setIfInBounds_toArray, List.set_cons_zero, List.set_cons_succ]
        refine R_take 11 25 (v := ?_) rfl rfl (by rfl) (by kernel_rfl) (fun _ _ _ h => h) hS.out ?_ ?_
        rotate_left
        · intro w hSw; (try dsimp only at hSw); go_simp; (try with_reducible rfl)
        simp only [List.setIfInBounds_toArray, List.set_cons_zero, List.set_cons_succ]
        refine R_take 12 26 (v := ?_) rfl rfl (by rfl) (by kernel_rfl) (fun _ _ _ h => h) hS.out ?_ ?_
        rotate_left
        · intro w hSw; (try dsimp only at hSw); go_simp; (try with_reducible rfl)
        simp only [List.setIfInBounds_toArray, List.set_cons_zero, List.set_cons_succ]
        have HNs := HN.out
        refine R_store 14 (n := .skip) (w' := v4.setRow g6 #[str [], .bool r.mark, .int .u64 r.tx, .int .u32 r.page, .int .u16 r.slot, str [], .int .i64 0]) rfl rfl (by rfl) (by kernel_rfl) ?_ (.inl rfl) (fun _ => (HBX.out.keep (heap_setRow_other _ _ _ _ (Ne.symm hNb))).cell 0) ?_
        · exact run_op_store _ _ _ _ _ rfl rfl rfl (row_store HNs (row_one _ _ _ _ _ _ _))
        replace HG := Lib.hid (HG.out.keep (heap_setRow_other v4 g6 g #[str [], .bool r.mark, .int .u64 r.tx, .int .u32 r.page, .int .u16 r.slot, str [], .int .i64 0] (Ne.symm hNg)))
        replace HBX := Lib.hid (HBX.out.keep (heap_setRow_other v4 g6 gb #[str [], .bool r.mark, .int .u64 r.tx, .int .u32 r.page, .int .u16 r.slot, str [], .int .i64 0] (Ne.symm hNb)))
        replace HR := Lib.hid (HR.out.keep (heap_setRow_other v4 g6 gR #[str [], .bool r.mark, .int .u64 r.tx, .int .u32 r.page, .int .u16 r.slot, str [], .int .i64 0] (Ne.symm hNR)))
        replace HN := Lib.hid (HN.out.setRow #[str [], .bool r.mark, .int .u64 r.tx, .int .u32 r.page, .int .u16 r.slot, str [], .int .i64 0])
        replace hB := below_setRow hB hNl #[str [], .bool r.mark, .int .u64 r.tx, .int .u32 r.page, .int .u16 r.slot, str [], .int .i64 0]
        replace hS := Lib.hid (HBX.out.cell 0)
        refine R_done (by kernel_rfl) ?_ _
        rename_i K9 hK9
        refine hK9 _ _ ?_
        clear hK9
        go_meet
        exact ⟨_, rfl, HG.out, HBX.out, HR.out, HN.out, hNg, hNb, hNR, hNl, hB⟩
    · skip
      refine op_run 6 (v := ptr w1.drew.heap.size) (w' := w1.drew.alloc (.cells #[str [], .bool false, .int .u64 0, .int .u32 0, .int .u16 0, str [], .int .i64 0] 37)) rfl rfl (by rfl) ?_ ⟨fun _ => (HBX.out.alloc _).cell 0, ?_⟩
      · first | (go_simp; done) | (go_simp; rfl)
      simp only [List.setIfInBounds_toArray, List.set_cons_zero, List.set_cons_succ]
      have hgl := HG.out.lt
      have hbl := HBX.out.lt
      have hrl := HR.out.lt
      have hal : w1.drew.heap.size < (w1.drew.alloc (.cells #[str [], .bool false, .int .u64 0, .int .u32 0, .int .u16 0, str [], .int .i64 0] 37)).heap.size := by simp
      have hal2 : w1.drew.heap.size ≤ (w1.drew.alloc (.cells #[str [], .bool false, .int .u64 0, .int .u32 0, .int .u16 0, str [], .int .i64 0] 37)).heap.size := by simp
      have HN := Blk.new w1.drew 37 #[str [], .bool false, .int .u64 0, .int .u32 0, .int .u16 0, str [], .int .i64 0]
      replace HG := HG.out.alloc (.cells #[str [], .bool false, .int .u64 0, .int .u32 0, .int .u16 0, str [], .int .i64 0] 37)
      replace HBX := HBX.out.alloc (.cells #[str [], .bool false, .int .u64 0, .int .u32 0, .int .u16 0, str [], .int .i64 0] 37)
      replace HR := HR.out.alloc (.cells #[str [], .bool false, .int .u64 0, .int .u32 0, .int .u16 0, str [], .int .i64 0] 37)
      replace hB := hB.alloc hB.size (.cells #[str [], .bool false, .int .u64 0, .int .u32 0, .int .u16 0, str [], .int .i64 0] 37)
      obtain ⟨g6, hg6⟩ : ∃ x, x = w1.drew.heap.size := ⟨_, rfl⟩
      obtain ⟨v5, hw5⟩ : ∃ x, x = w1.drew.alloc (.cells #[str [], .bool false, .int .u64 0, .int .u32 0, .int .u16 0, str [], .int .i64 0] 37) := ⟨_, rfl⟩
      rw [← hw5, ← hg6] at HN ⊢
      rw [← hw5] at HG HBX HR hB hal hal2
      rw [← hg6] at hgl hbl hrl hal hal2
      have hNg : g6 ≠ g := by omega
      have hNb : g6 ≠ gb := by omega
      have hNR : g6 ≠ gR := by omega
      have hNl : w.heap.size ≤ g6 := by omega
      replace hsz : w.heap.size ≤ v5.heap.size := by omega
      replace HN := Lib.hid HN
      replace HG := Lib.hid HG
      replace HBX := Lib.hid HBX
      replace HR := Lib.hid HR
      replace hS := Lib.hid (HBX.out.cell 0)
      clear hw5 hg6 hgl hbl hrl hal hal2
      have hc := rd_num r.bytes g 0 1 v5 (by omega) (by omega) (by omega) (by omega) HG.out
      rw [Sp.Rw.at_mark1 r] at hc
      refine R_call 1 15 (w' := v5) rfl rfl (by rfl) (by kernel_rfl) ?_ hc ?_
      · go_simp
      rintro e v1 ⟨rfl, hg, ht⟩
      replace HN := Lib.hid (HN.out.turns ht (fun e => hNg e))
      replace HG := Lib.hid hg
      replace HBX := Lib.hid (HBX.out.turns ht (fun e => hne e))
      replace HR := Lib.hid (HR.out.turns ht (fun e => hRg e))
      replace hsz := Nat.le_trans hsz ht.size
      replace hB := hB.trans (ht.below hB.size (fun b hb => by rw [hb]; exact hgB))
      replace hS := Lib.hid (HBX.out.cell 0)
      refine ⟨_, rfl, fun _ => hS.out, ?_⟩
      simp only [List.setIfInBounds_toArray, List.set_cons_zero, List.set_cons_succ]
      clear hg ht hc
      refine R_take 2 16 (v := ?_) rfl rfl (by rfl) (by kernel_rfl) (fun _ _ _ h => h) hS.out ?_ ?_
      rotate_left
      · intro w hSw; (try dsimp only at hSw); go_simp; (try with_reducible rfl)
      simp only [List.setIfInBounds_toArray, List.set_cons_zero, List.set_cons_succ]
      have hc := rd_num r.bytes g 1 8 v1 (by omega) (by omega) (by omega) (by omega) HG.out
      rw [Sp.Rw.at_tx1 r hwf] at hc
      refine R_call 4 18 (w' := v1) rfl rfl (by rfl) (by kernel_rfl) ?_ hc ?_
      · go_simp
      rintro e v2 ⟨rfl, hg, ht⟩
      replace HN := Lib.hid (HN.out.turns ht (fun e => hNg e))
      replace HG := Lib.hid hg
      replace HBX := Lib.hid (HBX.out.turns ht (fun e => hne e))
      replace HR := Lib.hid (HR.out.turns ht (fun e => hRg e))
      replace hsz := Nat.le_trans hsz ht.size
      replace hB := hB.trans (ht.below hB.size (fun b hb => by rw [hb]; exact hgB))
      replace hS := Lib.hid (HBX.out.cell 0)
      refine ⟨_, rfl, fun _ => hS.out, ?_⟩
      simp only [List.setIfInBounds_toArray, List.set_cons_zero, List.set_cons_succ]
      clear hg ht hc
      have hc := rd_num r.bytes g 9 4 v2 (by omega) (by omega) (by omega) (by omega) HG.out
      rw [Sp.Rw.at_page1 r hmay] at hc
      refine R_call 6 20 (w' := v2) rfl rfl (by rfl) (by kernel_rfl) ?_ hc ?_
      · go_simp
      rintro e v3 ⟨rfl, hg, ht⟩
      replace HN := Lib.hid (HN.out.turns ht (fun e => hNg e))
      replace HG := Lib.hid hg
      replace HBX := Lib.hid (HBX.out.turns ht (fun e => hne e))
      replace HR := Lib.hid (HR.out.turns ht (fun e => hRg e))
      replace hsz := Nat.le_trans hsz ht.size
      replace hB := hB.trans (ht.below hB.size (fun b hb => by rw [hb]; exact hgB))
      replace hS := Lib.hid (HBX.out.cell 0)
      refine ⟨_, rfl, fun _ => hS.out, ?_⟩
      simp only [List.setIfInBounds_toArray, List.set_cons_zero, List.set_cons_succ]
      clear hg ht hc
      refine R_take 7 21 (v := ?_) rfl rfl (by rfl) (by kernel_rfl) (fun _ _ _ h => h) hS.out ?_ ?_
      rotate_left
      · intro w hSw; (try dsimp only at hSw); go_simp; (try with_reducible rfl)
      simp only [List.setIfInBounds_toArray, List.set_cons_zero, List.set_cons_succ]
      have hc := rd_num r.bytes g 13 2 v3 (by omega) (by omega) (by omega) (by omega) HG.out
      rw [Sp.Rw.at_slot1 r hwf] at hc
      refine R_call 9 23 (w' := v3) rfl rfl (by rfl) (by kernel_rfl) ?_ hc ?_
      · go_simp
      rintro e v4 ⟨rfl, hg, ht⟩
      replace HN := Lib.hid (HN.out.turns ht (fun e => hNg e))
      replace HG := Lib.hid hg
      replace HBX := Lib.hid (HBX.out.turns ht (fun e => hne e))
      replace HR := Lib.hid (HR.out.turns ht (fun e => hRg e))
      replace hsz := Nat.le_trans hsz ht.size
      replace hB := hB.trans (ht.below hB.size (fun b hb => by rw [hb]; exact hgB))
      replace hS := Lib.hid (HBX.out.cell 0)
      refine ⟨_, rfl, fun _ => hS.out, ?_⟩
      simp only [List.setIfInBounds_toArray, List.set_cons_zero, List.set_cons_succ]
      clear hg ht hc
      refine R_take 10 24 (v := ?_) rfl rfl (by rfl) (by kernel_rfl) (fun _ _ _ h => h) hS.out ?_ ?_
      rotate_left
      · intro w hSw; (try dsimp only at hSw); go_simp; (try with_reducible rfl)
      simp only [List.setIfInBounds_toArray, List.set_cons_zero, List.set_cons_succ]
      refine R_take 11 25 (v := ?_) rfl rfl (by rfl) (by kernel_rfl) (fun _ _ _ h => h) hS.out ?_ ?_
      rotate_left
      · intro w hSw; (try dsimp only at hSw); go_simp; (try with_reducible rfl)
      simp only [List.setIfInBounds_toArray, List.set_cons_zero, List.set_cons_succ]
      refine R_take 12 26 (v := ?_) rfl rfl (by rfl) (by kernel_rfl) (fun _ _ _ h => h) hS.out ?_ ?_
      rotate_left
      · intro w hSw; (try dsimp only at hSw); go_simp; (try with_reducible rfl)
      simp only [List.setIfInBounds_toArray, List.set_cons_zero, List.set_cons_succ]
      have HNs := HN.out
      refine R_store 14 (n := .skip) (w' := v4.setRow g6 #[str [], .bool r.mark, .int .u64 r.tx, .int .u32 r.page, .int .u16 r.slot, str [], .int .i64 0]) rfl rfl (by rfl) (by kernel_rfl) ?_ (.inl rfl) (fun _ => (HBX.out.keep (heap_setRow_other _ _ _ _ (Ne.symm hNb))).cell 0) ?_
      · exact run_op_store _ _ _ _ _ rfl rfl rfl (row_store HNs (row_one _ _ _ _ _ _ _))
      replace HG := Lib.hid (HG.out.keep (heap_setRow_other v4 g6 g #[str [], .bool r.mark, .int .u64 r.tx, .int .u32 r.page, .int .u16 r.slot, str [], .int .i64 0] (Ne.symm hNg)))
      replace HBX := Lib.hid (HBX.out.keep (heap_setRow_other v4 g6 gb #[str [], .bool r.mark, .int .u64 r.tx, .int .u32 r.page, .int .u16 r.slot, str [], .int .i64 0] (Ne.symm hNb)))
      replace HR := Lib.hid (HR.out.keep (heap_setRow_other v4 g6 gR #[str [], .bool r.mark, .int .u64 r.tx, .int .u32 r.page, .int .u16 r.slot, str [], .int .i64 0] (Ne.symm hNR)))
      replace HN := Lib.hid (HN.out.setRow #[str [], .bool r.mark, .int .u64 r.tx, .int .u32 r.page, .int .u16 r.slot, str [], .int .i64 0])
      replace hB := below_setRow hB hNl #[str [], .bool r.mark, .int .u64 r.tx, .int .u32 r.page, .int .u16 r.slot, str [], .int .i64 0]
      replace hS := Lib.hid (HBX.out.cell 0)
      refine R_done (by kernel_rfl) ?_ _
      rename_i K9 hK9
      refine hK9 _ _ ?_
      clear hK9
      go_meet
      exact ⟨_, rfl, HG.out, HBX.out, HR.out, HN.out, hNg, hNb, hNR, hNl, hB⟩
  case rest =>
    obtain ⟨g6, rfl, hG, hX, hR, hN, hNg, hNb, hNR, hNl, hB⟩ := hcut
    have HG := Lib.hid hG
    have HX := Lib.hid hX
    have HR := Lib.hid hR
    have HN := Lib.hid hN
    clear hG hX hR hN HG0 HBX0 HR0 hb1
    have hl1 : 15 + 1 + r.key.length ≤ r.bytes.length := by rw [HLEN.out]; omega
    have hl2 : 16 + r.key.length + 1 + r.value.length ≤ r.bytes.length := by rw [HLEN.out]; omega
    have hc1 := rd_piece r.bytes gb g 15 r.key.length wc (Sp.Rw.at_klen1 r hmay) hl1 (by omega) hne HX.out HG.out
    rw [show 15 + 1 = 16 from rfl, Sp.Rw.at_key1] at hc1
    have HP1 := Lib.hid hc1
    have hrv : rwV r = .agg #[str r.key, .bool r.mark, .int .u64 r.tx, .int .u32 r.page, .int .u16 r.slot, str r.value, .int .i64 0] := by show Value.agg #[str r.key, .bool r.mark, .int .u64 r.tx, .int .u32 r.page, .int .u16 r.slot, str r.value, .int .i64 (r.pad : Int)] = _; rw [HPD.out]; rfl
    have hen := fun (W : World) => row_encode r hmay hwf HPD.out W
    rw [hrv] at hen
    have HEN := Lib.hid hen
    have HRV := Lib.hid hrv
    clear hen hrv
    clear hc1
    go_wp2_with fail
    refine HP1.out.mono ?_
    rintro e w5 ⟨rfl, hg5, ht5⟩
    have HG5 := Lib.hid hg5
    have HX5 := Lib.hid (HX.out.turns ht5 (fun e => hne e))
    have HR5 := Lib.hid (HR.out.turns ht5 (fun e => hRg e))
    have HN5 := Lib.hid (HN.out.turns ht5 (fun e => hNg e))
    have hB5 := hB.trans (ht5.below hB.size (fun b hb => by rw [hb]; exact hgB))
    have c0 := HN5.out.cell 0
    have f0 := HN5.out.frozen 0
    simp only [List.getElem?_toArray, List.getElem?_cons_zero] at c0
    have HG6 := Lib.hid (HG5.out.far (p := ⟨g6, 0, none⟩) (Ne.symm hNg) (str r.key))
    have HX6 := Lib.hid (HX5.out.far (p := ⟨g6, 0, none⟩) (Ne.symm hNb) (str r.key))
    have HR6 := Lib.hid (HR5.out.far (p := ⟨g6, 0, none⟩) (Ne.symm hNR) (str r.key))
    have HN6 := Lib.hid (HN5.out.set_ 0 (str r.key))
    have hB6 := hB5.setCell (p := ⟨g6, 0, none⟩) hNl (str r.key)
    clear hg5 ht5 HP1 HG HX HR HN hB HG5 HX5 HR5 HN5 hB5
    have hc2 := rd_piece r.bytes gb g (16 + r.key.length) r.value.length _ (Sp.Rw.at_vlen1 r hmay) hl2 (by omega) hne HX6.out HG6.out
    rw [Sp.Rw.at_value1] at hc2
    have HP2 := Lib.hid hc2
    clear hc2
    go_wp2_with fail
    refine HP2.out.mono ?_
    rintro e w7 ⟨rfl, hg7, ht7⟩
    have HG7 := Lib.hid hg7
    have HX7 := Lib.hid (HX6.out.turns ht7 (fun e => hne e))
    have HR7 := Lib.hid (HR6.out.turns ht7 (fun e => hRg e))
    have HN7 := Lib.hid (HN6.out.turns ht7 (fun e => hNg e))
    have hB7 := hB6.trans (ht7.below hB6.size (fun b hb => by rw [hb]; exact hgB))
    clear hg7 ht7 HP2 HG6 HX6 HR6 HN6 hB6 c0 f0
    have n0 := HN7.out.cell 0
    have n1 := HN7.out.cell 1
    have n2 := HN7.out.cell 2
    have n3 := HN7.out.cell 3
    have n4 := HN7.out.cell 4
    have n5 := HN7.out.cell 5
    have n6 := HN7.out.cell 6
    have f5 := HN7.out.frozen 5
    have f6 := HN7.out.frozen 6
    have x0 := HX7.out.cell 0
    have p1 := HG7.out.cell 1
    have p2 := HG7.out.cell 2
    simp only [List.setIfInBounds_toArray, List.set_cons_zero, List.getElem?_toArray, List.getElem?_cons_succ, List.getElem?_cons_zero] at n0 n1 n2 n3 n4 n5 n6 x0 p1 p2
    have hpv : ((r.bytes.length : Nat) : Int) - (16 + (r.key.length : Int) + 1 + (r.value.length : Int)) = 0 := by have h1 := HLEN.out; have h2 := HPD.out; omega
    have hgn : g ≠ g6 := Ne.symm hNg
    have hbn : gb ≠ g6 := Ne.symm hNb
    have HG9 := Lib.hid ((HG7.out.far (p := ⟨g6, 5, none⟩) (Ne.symm hNg) (str r.value)).far (p := ⟨g6, 6, none⟩) (Ne.symm hNg) (.int .i64 0))
    have HX9 := Lib.hid ((HX7.out.far (p := ⟨g6, 5, none⟩) (Ne.symm hNb) (str r.value)).far (p := ⟨g6, 6, none⟩) (Ne.symm hNb) (.int .i64 0))
    have HR9 := Lib.hid ((HR7.out.far (p := ⟨g6, 5, none⟩) (Ne.symm hNR) (str r.value)).far (p := ⟨g6, 6, none⟩) (Ne.symm hNR) (.int .i64 0))
    have HN9 := Lib.hid ((HN7.out.set_ 5 (str r.value)).set_ 6 (.int .i64 0))
    have hB9 := (hB7.setCell (p := ⟨g6, 5, none⟩) hNl (str r.value)).setCell (p := ⟨g6, 6, none⟩) hNl (.int .i64 0)
    go_wp2_with fail
    refine (HEN.out _).mono ?_
    rintro e w10 ⟨rfl, hb10⟩
    have HG10 := HG9.out.below hb10 HG9.out.lt
    have HX10 := HX9.out.below hb10 HX9.out.lt
    have HR10 := HR9.out.below hb10 HR9.out.lt
    have HN10 := HN9.out.below hb10 HN9.out.lt
    have hB10 := hB9.trans (hb10.mono hB9.size)
    clear HG9 HX9 HR9 HN9 hB9 HG7 HX7 HR7 HN7 hB7 hb10 n0 n1 n2 n3 n4 n5 n6 f5 f6 x0 p1 p2 hpv HEN
    simp only [List.setIfInBounds_toArray, List.set_cons_zero, List.set_cons_succ] at HN10
    have n0 := HN10.cell 0
    have n1 := HN10.cell 1
    have n2 := HN10.cell 2
    have n3 := HN10.cell 3
    have n4 := HN10.cell 4
    have n5 := HN10.cell 5
    have n6 := HN10.cell 6
    have x0 := HX10.cell 0
    have p2 := HG10.cell 2
    simp only [List.getElem?_toArray, List.getElem?_cons_succ, List.getElem?_cons_zero] at n0 n1 n2 n3 n4 n5 n6 x0 p2
    have HR11 := Lib.hid HR10
    clear HG10 HX10 HN10 HR10
    go_wp2_with (refine wpList_store_part rfl _ _ _ rfl gR 0 #[str r.key, .bool r.mark, .int .u64 r.tx, .int .u32 r.page, .int .u16 r.slot, str r.value, .int .i64 0] rfl rfl _ _ HR11.out row_size (by show 0 + 7 ≤ 7; omega) (row_one _ _ _ _ _ _ _) ?_)
    have hRf : Blk (w10.setRow gR (partRow #[str [], .bool false, .int .u64 0, .int .u32 0, .int .u16 0, str [], .int .i64 0] 0 [str r.key, .bool r.mark, .int .u64 r.tx, .int .u32 r.page, .int .u16 r.slot, str r.value, .int .i64 0])) gR 37 #[str r.key, .bool r.mark, .int .u64 r.tx, .int .u32 r.page, .int .u16 r.slot, str r.value, .int .i64 0] := HR11.out.setRow _
    have hBf := below_setRow hB10 hRB (partRow #[str [], .bool false, .int .u64 0, .int .u32 0, .int .u16 0, str [], .int .i64 0] 0 [str r.key, .bool r.mark, .int .u64 r.tx, .int .u32 r.page, .int .u16 r.slot, str r.value, .int .i64 0])
    obtain ⟨wf, hwf2⟩ : ∃ x, x = w10.setRow gR (partRow #[str [], .bool false, .int .u64 0, .int .u32 0, .int .u16 0, str [], .int .i64 0] 0 [str r.key, .bool r.mark, .int .u64 r.tx, .int .u32 r.page, .int .u16 r.slot, str r.value, .int .i64 0]) := ⟨_, rfl⟩
    rw [← hwf2] at hRf hBf ⊢
    clear hwf2
    have k0 := hRf.cell 0
    have k1 := hRf.cell 1
    have k2 := hRf.cell 2
    have k3 := hRf.cell 3
    have k4 := hRf.cell 4
    have k5 := hRf.cell 5
    have k6 := hRf.cell 6
    simp only [List.getElem?_toArray, List.getElem?_cons_succ, List.getElem?_cons_zero] at k0 k1 k2 k3 k4 k5 k6
    have hrv := HRV.out
    refine bodyPost_ret (v := .tuple #[rwV r, .int .i64 0]) (by rw [hrv, results_cell_tmp rfl]; go_simp) rfl ⟨rfl, hBf⟩
end Go.Proofs.YtphkggcdfkcidaaGreat

/- The walk of package undo: Decode of a record's own bytes. -/
namespace Go.Proofs.YtphkggcdfkcidaaGreat
open Go.RowKit

/-- An undo record of zeros. -/
abbrev udZ : Array Value := #[.int .u8 0, .int .u64 0, .int .u32 0, .int .u16 0, str [], str [], .bool false, .int .u64 0, .int .u32 0, .int .u16 0, str [], .int .i64 0]
theorem ud_size : (Tryz.prog.info? 48).map (·.size) = some 12 := by kernel_rfl
theorem ud_one (a b c d e f g h : Int) (k k2 v : Sp.Bs) (mk : Bool) : #[Value.int .u8 a, .int .u64 b, .int .u32 c, .int .u16 d, str k, str k2, .bool mk, .int .u64 e, .int .u32 f, .int .u16 g, str v, .int .i64 h].all (·.oneCell') = true := by
  simp [Value.oneCell']
theorem Blk.of_heap {w : World} {g : Nat} {t : TypeId} {cs : Array Value} (h : w.heap[g]? = some (.cells cs t (0, 0))) : Blk w g t cs := h
theorem urow_cells {r : Sp.Rw} {g : Nat} {W : World} (h : Blk W g 37 #[str r.key, .bool r.mark, .int .u64 r.tx, .int .u32 r.page, .int .u16 r.slot, str r.value, .int .i64 r.pad]) :
    W.cell? ⟨g, 0, none⟩ = some (str r.key) ∧ W.cell? ⟨g, 1, none⟩ = some (.bool r.mark) ∧ W.cell? ⟨g, 2, none⟩ = some (.int .u64 r.tx) ∧ W.cell? ⟨g, 3, none⟩ = some (.int .u32 r.page) ∧ W.cell? ⟨g, 4, none⟩ = some (.int .u16 r.slot) ∧ W.cell? ⟨g, 5, none⟩ = some (str r.value) ∧ W.cell? ⟨g, 6, none⟩ = some (.int .i64 r.pad) :=
  ⟨h.cell 0, h.cell 1, h.cell 2, h.cell 3, h.cell 4, h.cell 5, h.cell 6⟩
/-- Four blocks that were made one behind the other. -/
theorem alloc4 (w : World) (t1 t2 t3 t4 : TypeId) (c1 c2 c3 c4 : Array Value) :
    Blk ((((w.alloc (.cells c1 t1)).alloc (.cells c2 t2)).alloc (.cells c3 t3)).alloc (.cells c4 t4)) w.heap.size t1 c1 ∧ Blk ((((w.alloc (.cells c1 t1)).alloc (.cells c2 t2)).alloc (.cells c3 t3)).alloc (.cells c4 t4)) (w.heap.size + 1) t2 c2 ∧
    Blk ((((w.alloc (.cells c1 t1)).alloc (.cells c2 t2)).alloc (.cells c3 t3)).alloc (.cells c4 t4)) (w.heap.size + 1 + 1) t3 c3 ∧ Blk ((((w.alloc (.cells c1 t1)).alloc (.cells c2 t2)).alloc (.cells c3 t3)).alloc (.cells c4 t4)) (w.heap.size + 1 + 1 + 1) t4 c4 ∧
    Below w.heap.size w ((((w.alloc (.cells c1 t1)).alloc (.cells c2 t2)).alloc (.cells c3 t3)).alloc (.cells c4 t4)) := by
  have h2 := Blk.new (w.alloc (.cells c1 t1)) t2 c2
  have h3 := Blk.new ((w.alloc (.cells c1 t1)).alloc (.cells c2 t2)) t3 c3
  have h4 := Blk.new (((w.alloc (.cells c1 t1)).alloc (.cells c2 t2)).alloc (.cells c3 t3)) t4 c4
  rw [World.size_alloc] at h2
  rw [World.size_alloc, World.size_alloc] at h3
  rw [World.size_alloc, World.size_alloc, World.size_alloc] at h4
  refine ⟨(((Blk.new w t1 c1).alloc _).alloc _).alloc _, (h2.alloc _).alloc _, h3.alloc _, h4, ?_⟩
  exact ((((Below.refl w.heap.size w).alloc (Nat.le_refl _) _).alloc (by simp) _).alloc (by simp; omega) _).alloc (by simp; omega) _

set_option maxRecDepth 100000 in
set_option maxHeartbeats 4000000 in
theorem undo_decode (u : Sp.Ud) (hmay : u.may) (hwf : u.wf) (hpad : u.was.pad = 0) (w : World) :
    Calls Tryz.prog 57 #[str u.bytes] w fun e w' => e = .returned (.tuple #[udV u, .int .i64 0]) ∧ Below w.heap.size w w' := by
  have hlen := u.bytes_length
  have hL15 : 15 ≤ u.bytes.length := by omega
  have hLb : u.bytes.length ≤ 1000 := by have := Sp.Ud.tail_le hmay; omega
  have hk2 : u.kind ≤ 2 := by rcases hmay.2.2.2.2.2 with h | h <;> omega
  have hpp := hmay.2.1
  have hps := hwf.2.1
  have wr8 : IntKind.u8.wrap (u.kind : Int) = u.kind := by rw [IntKind.wrap_u8]; omega
  have wr32 : IntKind.u32.wrap (u.ppage : Int) = u.ppage := by rw [IntKind.wrap_u32]; omega
  have wr16 : IntKind.u16.wrap (u.pslot : Int) = u.pslot := by rw [IntKind.wrap_u16]; omega
  have HMAY := Lib.hid hmay
  have HWF := Lib.hid hwf
  have HPAD := Lib.hid hpad
  have HTL := Lib.hid u.at_tail
  clear hlen hmay hwf hpad
  go_enter Tryz.func57, Tryz.ntmps57
  go_wp2_with fail
  obtain ⟨hS, hR, hA, hL, hb1⟩ := alloc4 w 9 48 3 4 #[str u.bytes] udZ #[.int .i64 0] #[.bool true]
  generalize hw1 : World.alloc (World.alloc (World.alloc (World.alloc w _) _) _) _ = w1 at hS hR hA hL hb1 ⊢
  clear hw1
  have hn1 := hb1.size
  obtain ⟨gs, hgs⟩ : ∃ x, x = w.heap.size := ⟨_, rfl⟩
  obtain ⟨gR, hgR⟩ : ∃ x, x = w.heap.size + 1 := ⟨_, rfl⟩
  obtain ⟨ga, hga⟩ : ∃ x, x = w.heap.size + 1 + 1 := ⟨_, rfl⟩
  obtain ⟨gl, hgl⟩ : ∃ x, x = w.heap.size + 1 + 1 + 1 := ⟨_, rfl⟩
  rw [← hgl] at hL ⊢
  rw [← hga] at hA ⊢
  rw [← hgR] at hR ⊢
  rw [← hgs] at hS ⊢
  have nsa : gs ≠ ga := by omega
  have nsl : gs ≠ gl := by omega
  have nRa : gR ≠ ga := by omega
  have nRl : gR ≠ gl := by omega
  have nal : ga ≠ gl := by omega
  have hBR : w.heap.size ≤ gR := by omega
  have hBa : w.heap.size ≤ ga := by omega
  have hBl : w.heap.size ≤ gl := by omega
  have HS := Lib.hid hS
  have HR := Lib.hid hR
  have HA := Lib.hid hA
  have HL := Lib.hid hL
  clear hgs hgR hga hgl hS hR hA hL hn1
  have hc := ud_next u.bytes gs ga gl 0 1 w1 (by omega) (by omega) (by omega) (by omega) nal HS.out HA.out HL.out
  rw [u.at_kind HMAY.out] at hc
  refine hc.mono ?_
  rintro e w2 ⟨rfl, hA, hL, ht⟩
  replace HS := Lib.hid (HS.out.turns ht (fun e => e.elim nsa nsl))
  replace HR := Lib.hid (HR.out.turns ht (fun e => e.elim nRa nRl))
  replace HA := Lib.hid hA
  replace HL := Lib.hid hL
  replace hb1 := hb1.trans (ht.below hb1.size (fun b hb => by rcases hb with rfl | rfl <;> assumption))
  clear hc hA hL ht
  go_wp2_with fail
  have hc := ud_next u.bytes gs ga gl 1 8 w2 (by omega) (by omega) (by omega) (by omega) nal HS.out HA.out HL.out
  rw [u.at_tx HWF.out] at hc
  refine hc.mono ?_
  rintro e w3 ⟨rfl, hA, hL, ht⟩
  replace HS := Lib.hid (HS.out.turns ht (fun e => e.elim nsa nsl))
  replace HR := Lib.hid (HR.out.turns ht (fun e => e.elim nRa nRl))
  replace HA := Lib.hid hA
  replace HL := Lib.hid hL
  replace hb1 := hb1.trans (ht.below hb1.size (fun b hb => by rcases hb with rfl | rfl <;> assumption))
  clear hc hA hL ht
  go_wp2_with fail
  have HU := Lib.hid (Blk.new w3 48 #[.int .u8 u.kind, .int .u64 u.tx, .int .u32 0, .int .u16 0, str [], str [], .bool false, .int .u64 0, .int .u32 0, .int .u16 0, str [], .int .i64 0])
  have hlS := HS.out.lt
  have hlR := HR.out.lt
  have hlA := HA.out.lt
  have hlL := HL.out.lt
  replace HS := Lib.hid (HS.out.alloc (.cells #[.int .u8 u.kind, .int .u64 u.tx, .int .u32 0, .int .u16 0, str [], str [], .bool false, .int .u64 0, .int .u32 0, .int .u16 0, str [], .int .i64 0] 48))
  replace HR := Lib.hid (HR.out.alloc (.cells #[.int .u8 u.kind, .int .u64 u.tx, .int .u32 0, .int .u16 0, str [], str [], .bool false, .int .u64 0, .int .u32 0, .int .u16 0, str [], .int .i64 0] 48))
  replace HA := Lib.hid (HA.out.alloc (.cells #[.int .u8 u.kind, .int .u64 u.tx, .int .u32 0, .int .u16 0, str [], str [], .bool false, .int .u64 0, .int .u32 0, .int .u16 0, str [], .int .i64 0] 48))
  replace HL := Lib.hid (HL.out.alloc (.cells #[.int .u8 u.kind, .int .u64 u.tx, .int .u32 0, .int .u16 0, str [], str [], .bool false, .int .u64 0, .int .u32 0, .int .u16 0, str [], .int .i64 0] 48))
  have hbs := hb1.size
  replace hb1 := hb1.alloc hb1.size (.cells #[.int .u8 u.kind, .int .u64 u.tx, .int .u32 0, .int .u16 0, str [], str [], .bool false, .int .u64 0, .int .u32 0, .int .u16 0, str [], .int .i64 0] 48)
  obtain ⟨gU, hgU⟩ : ∃ x, x = w3.heap.size := ⟨_, rfl⟩
  rw [← hgU] at HU hlS hlR hlA hlL hbs ⊢
  generalize hw4 : World.alloc w3 _ = w4 at HU HS HR HA HL hb1 ⊢
  clear hw4 hgU
  have nUs : gU ≠ gs := by omega
  have nUR : gU ≠ gR := by omega
  have nRU : gR ≠ gU := by omega
  have nUa : gU ≠ ga := by omega
  have nUl : gU ≠ gl := by omega
  clear hlS hlR hlA hlL
  have hc := ud_next u.bytes gs ga gl 9 4 w4 (by omega) (by omega) (by omega) (by omega) nal HS.out HA.out HL.out
  rw [u.at_ppage HMAY.out] at hc
  refine hc.mono ?_
  rintro e w5 ⟨rfl, hA, hL, ht⟩
  replace HS := Lib.hid (HS.out.turns ht (fun e => e.elim nsa nsl))
  replace HR := Lib.hid (HR.out.turns ht (fun e => e.elim nRa nRl))
  replace HA := Lib.hid hA
  replace HL := Lib.hid hL
  replace HU := Lib.hid (HU.out.turns ht (fun e => e.elim nUa nUl))
  replace hb1 := hb1.trans (ht.below hb1.size (fun b hb => by rcases hb with rfl | rfl <;> assumption))
  clear hc hA hL ht
  have f2 := HU.out.frozen 2
  replace HS := Lib.hid (HS.out.far (p := ⟨gU, 2, none⟩) (Ne.symm nUs) (.int .u32 u.ppage))
  replace HR := Lib.hid (HR.out.far (p := ⟨gU, 2, none⟩) (Ne.symm nUR) (.int .u32 u.ppage))
  replace HA := Lib.hid (HA.out.far (p := ⟨gU, 2, none⟩) (Ne.symm nUa) (.int .u32 u.ppage))
  replace HL := Lib.hid (HL.out.far (p := ⟨gU, 2, none⟩) (Ne.symm nUl) (.int .u32 u.ppage))
  have c2 := HU.out.cell 2
  simp only [List.getElem?_toArray, List.getElem?_cons_succ, List.getElem?_cons_zero] at c2
  replace HU := Lib.hid (HU.out.set_ 2 (.int .u32 u.ppage))
  replace hb1 := hb1.setCell (p := ⟨gU, 2, none⟩) hbs (.int .u32 u.ppage)
  go_wp2_with fail
  clear f2 c2
  have hc := ud_next u.bytes gs ga gl 13 2 _ (by omega) (by omega) (by omega) (by omega) nal HS.out HA.out HL.out
  rw [u.at_pslot HWF.out] at hc
  refine hc.mono ?_
  rintro e w6 ⟨rfl, hA, hL, ht⟩
  replace HS := Lib.hid (HS.out.turns ht (fun e => e.elim nsa nsl))
  replace HR := Lib.hid (HR.out.turns ht (fun e => e.elim nRa nRl))
  replace HA := Lib.hid hA
  replace HL := Lib.hid hL
  replace HU := Lib.hid (HU.out.turns ht (fun e => e.elim nUa nUl))
  replace hb1 := hb1.trans (ht.below hb1.size (fun b hb => by rcases hb with rfl | rfl <;> assumption))
  clear hc hA hL ht
  have l0 := HL.out.cell 0
  have s0 := HS.out.cell 0
  have a0 := HA.out.cell 0
  simp only [List.getElem?_toArray, List.getElem?_cons_zero] at l0 s0 a0
  rw [show ((13 + 2 : Nat) : Int) = 15 from rfl] at a0
  have HU6 := HU

  have c0 := HU.out.cell 0
  have c1 := HU.out.cell 1
  have c2 := HU.out.cell 2
  have c4 := HU.out.cell 4
  have c5 := HU.out.cell 5
  have c6 := HU.out.cell 6
  have c7 := HU.out.cell 7
  have c8 := HU.out.cell 8
  have c9 := HU.out.cell 9
  have c10 := HU.out.cell 10
  have c11 := HU.out.cell 11
  simp only [List.setIfInBounds_toArray, List.set_cons_zero, List.set_cons_succ, List.getElem?_toArray, List.getElem?_cons_succ, List.getElem?_cons_zero] at c0 c1 c2 c4 c5 c6 c7 c8 c9 c10 c11
  have f3 := HU.out.frozen 3
  replace HS := Lib.hid (HS.out.far (p := ⟨gU, 3, none⟩) (Ne.symm nUs) (.int .u16 u.pslot))
  replace HR := Lib.hid (HR.out.far (p := ⟨gU, 3, none⟩) (Ne.symm nUR) (.int .u16 u.pslot))
  replace HA := Lib.hid (HA.out.far (p := ⟨gU, 3, none⟩) (Ne.symm nUa) (.int .u16 u.pslot))
  replace HL := Lib.hid (HL.out.far (p := ⟨gU, 3, none⟩) (Ne.symm nUl) (.int .u16 u.pslot))
  have c3 := HU.out.cell 3
  simp only [List.setIfInBounds_toArray, List.set_cons_zero, List.set_cons_succ, List.getElem?_toArray, List.getElem?_cons_succ, List.getElem?_cons_zero] at c3
  replace HU := Lib.hid (HU.out.set_ 3 (.int .u16 u.pslot))
  replace hb1 := hb1.setCell (p := ⟨gU, 3, none⟩) hbs (.int .u16 u.pslot)
  replace HS := Lib.hid (HS.out.far (p := ⟨gU, 4, none⟩) (Ne.symm nUs) (str u.tail))
  replace HR := Lib.hid (HR.out.far (p := ⟨gU, 4, none⟩) (Ne.symm nUR) (str u.tail))
  replace HA := Lib.hid (HA.out.far (p := ⟨gU, 4, none⟩) (Ne.symm nUa) (str u.tail))
  replace HL := Lib.hid (HL.out.far (p := ⟨gU, 4, none⟩) (Ne.symm nUl) (str u.tail))
  replace HU := Lib.hid (HU.out.set_ 4 (str u.tail))
  replace hb1 := hb1.setCell (p := ⟨gU, 4, none⟩) hbs (str u.tail)
  have f4 := HU6.out.frozen 4
  have hex : (⟨u.bytes.toArray⟩ : ByteArray).extract 15 u.bytes.length = ⟨u.tail.toArray⟩ := by rw [str_extract, HTL.out, List.take_of_length_le]; rw [← HTL.out]; simp
  have HEX := Lib.hid hex
  clear hex
  rcases HMAY.out.2.2.2.2.2 with ⟨hk, hz⟩ | ⟨hk, hkey, hwas⟩
  · have d1 : ((u.kind : Int) == 2) = false := by simp; omega
    have d2 : decide ((u.kind : Int) = 2) = false := by rw [decide_eq_false_iff_not]; omega
    have d3 : ¬ (u.kind : Int) = 2 := by omega
    have htk : u.tail = u.key := by unfold Sp.Ud.tail; rw [if_pos hk]
    have HUV : Hid (udV u = .agg #[Value.int .u8 u.kind, .int .u64 u.tx, .int .u32 u.ppage, .int .u16 u.pslot, str u.key, str [], .bool false, .int .u64 0, .int .u32 0, .int .u16 0, str [], .int .i64 0]) := Lib.hid (by show Value.agg #[.int .u8 u.kind, .int .u64 u.tx, .int .u32 u.ppage, .int .u16 u.pslot, str u.key, str u.was.key, .bool u.was.mark, .int .u64 u.was.tx, .int .u32 u.was.page, .int .u16 u.was.slot, str u.was.value, .int .i64 u.was.pad] = _; rw [hz]; rfl)
    rw [htk] at HEX HU HS HR HA HL hb1
    have HMC := Lib.hid fun (W : World) => (show Calls Tryz.prog 101 #[.agg #[Value.int .u8 u.kind, .int .u64 u.tx, .int .u32 u.ppage, .int .u16 u.pslot, str u.key, str [], .bool false, .int .u64 0, .int .u32 0, .int .u16 0, str [], .int .i64 0]] W fun e w' => e = .returned (.bool true) ∧ Below W.heap.size W w' by rw [← HUV.out]; exact undo_may u HMAY.out W)
    clear hk hz htk
    go_wp2_with fail
    rw [HEX.out]
    refine (HMC.out _).mono ?_
    rintro e w7 ⟨rfl, hb7⟩
    replace HR := Lib.hid (HR.out.below hb7 HR.out.lt)
    replace HU := Lib.hid (HU.out.below hb7 HU.out.lt)
    replace hb1 := hb1.trans (hb7.mono hb1.size)
    clear c0 c1 c2 c3 c4 c5 c6 c7 c8 c9 c10 c11 f3 f4
    clear hb7 HS HA HL HU6 HMC HEX l0 s0 a0
    have c0 := HU.out.cell 0
    have c1 := HU.out.cell 1
    have c2 := HU.out.cell 2
    have c3 := HU.out.cell 3
    have c4 := HU.out.cell 4
    have c5 := HU.out.cell 5
    have c6 := HU.out.cell 6
    have c7 := HU.out.cell 7
    have c8 := HU.out.cell 8
    have c9 := HU.out.cell 9
    have c10 := HU.out.cell 10
    have c11 := HU.out.cell 11
    simp only [List.setIfInBounds_toArray, List.set_cons_zero, List.set_cons_succ, List.getElem?_toArray, List.getElem?_cons_succ, List.getElem?_cons_zero] at c0 c1 c2 c3 c4 c5 c6 c7 c8 c9 c10 c11
    go_wp2_with (refine wpList_store_part rfl _ _ _ rfl gR 0 (#[Value.int .u8 u.kind, .int .u64 u.tx, .int .u32 u.ppage, .int .u16 u.pslot, str u.key, str [], .bool false, .int .u64 0, .int .u32 0, .int .u16 0, str [], .int .i64 0]) rfl rfl _ _ HR.out ud_size (by show 0 + 12 ≤ 12; omega) (ud_one _ _ _ _ _ _ _ _ _ _ _ _) ?_)
    have hRf : Blk (w7.setRow gR (partRow udZ 0 (#[Value.int .u8 u.kind, .int .u64 u.tx, .int .u32 u.ppage, .int .u16 u.pslot, str u.key, str [], .bool false, .int .u64 0, .int .u32 0, .int .u16 0, str [], .int .i64 0]).toList)) gR 48 (#[Value.int .u8 u.kind, .int .u64 u.tx, .int .u32 u.ppage, .int .u16 u.pslot, str u.key, str [], .bool false, .int .u64 0, .int .u32 0, .int .u16 0, str [], .int .i64 0]) := HR.out.setRow _
    have hBf := below_setRow hb1 hBR (partRow udZ 0 (#[Value.int .u8 u.kind, .int .u64 u.tx, .int .u32 u.ppage, .int .u16 u.pslot, str u.key, str [], .bool false, .int .u64 0, .int .u32 0, .int .u16 0, str [], .int .i64 0]).toList)
    generalize World.setRow w7 gR _ = wf at hRf hBf ⊢
    have k0 := hRf.cell 0
    have k1 := hRf.cell 1
    have k2 := hRf.cell 2
    have k3 := hRf.cell 3
    have k4 := hRf.cell 4
    have k5 := hRf.cell 5
    have k6 := hRf.cell 6
    have k7 := hRf.cell 7
    have k8 := hRf.cell 8
    have k9 := hRf.cell 9
    have k10 := hRf.cell 10
    have k11 := hRf.cell 11
    simp only [List.getElem?_toArray, List.getElem?_cons_succ, List.getElem?_cons_zero] at k0 k1 k2 k3 k4 k5 k6 k7 k8 k9 k10 k11
    have huv := HUV.out
    refine bodyPost_ret (v := .tuple #[udV u, .int .i64 0]) (by rw [huv, results_cell_tmp rfl]; go_simp) rfl ⟨rfl, hBf⟩
  · have HKEY := Lib.hid hkey
    clear hkey
    have d1 : ((u.kind : Int) == 2) = true := by simp; omega
    have d2 : decide ((u.kind : Int) = 2) = true := by rw [decide_eq_true_eq]; omega
    have htk : u.tail = u.was.bytes := by unfold Sp.Ud.tail; rw [if_neg (by omega)]
    rw [htk] at HEX HU HS HR HA HL hb1
    have HRD := Lib.hid fun (W : World) => row_decode u.was hwas HWF.out.2.2 HPAD.out W
    clear hk htk
    go_wp2_with fail
    rw [HEX.out]
    refine (HRD.out _).mono ?_
    rintro e w7 ⟨rfl, hb7⟩
    replace HR := Lib.hid (HR.out.below hb7 HR.out.lt)
    replace HU := Lib.hid (HU.out.below hb7 HU.out.lt)
    replace hb1 := hb1.trans (hb7.mono hb1.size)
    clear c0 c1 c2 c3 c4 c5 c6 c7 c8 c9 c10 c11 f3 f4
    clear hb7 HS HA HL HU6 HRD HEX l0 s0 a0

    go_wp2_with fail
    have HW := Blk.new w7 37 #[str u.was.key, .bool u.was.mark, .int .u64 u.was.tx, .int .u32 u.was.page, .int .u16 u.was.slot, str u.was.value, .int .i64 u.was.pad]
    have hlU := HU.out.lt
    have hlR := HR.out.lt
    have hbs7 := hb1.size
    replace HR := Lib.hid (HR.out.alloc (.cells #[str u.was.key, .bool u.was.mark, .int .u64 u.was.tx, .int .u32 u.was.page, .int .u16 u.was.slot, str u.was.value, .int .i64 u.was.pad] 37))
    replace HU := HU.out.alloc (.cells #[str u.was.key, .bool u.was.mark, .int .u64 u.was.tx, .int .u32 u.was.page, .int .u16 u.was.slot, str u.was.value, .int .i64 u.was.pad] 37)
    simp only [List.setIfInBounds_toArray, List.set_cons_zero, List.set_cons_succ] at HU
    replace HU := Lib.hid HU
    replace hb1 := hb1.alloc hbs7 (.cells #[str u.was.key, .bool u.was.mark, .int .u64 u.was.tx, .int .u32 u.was.page, .int .u16 u.was.slot, str u.was.value, .int .i64 u.was.pad] 37)
    obtain ⟨gW, hgW⟩ : ∃ x, x = w7.heap.size := ⟨_, rfl⟩
    rw [← hgW] at HW hlU hlR hbs7 ⊢
    generalize hw8 : World.alloc w7 _ = w8 at HW HR HU hb1 ⊢
    clear hw8 hgW
    have nUW : gU ≠ gW := by omega
    have nRW : gR ≠ gW := by omega
    have hS0 := Lib.hid (urow_cells HW.drew)
    have HUd := Lib.hid HU.out.drew
    refine R_begin (fun W => W.cell? ⟨gW, 0, none⟩ = some (str u.was.key) ∧ W.cell? ⟨gW, 1, none⟩ = some (.bool u.was.mark) ∧ W.cell? ⟨gW, 2, none⟩ = some (.int .u64 u.was.tx) ∧ W.cell? ⟨gW, 3, none⟩ = some (.int .u32 u.was.page) ∧ W.cell? ⟨gW, 4, none⟩ = some (.int .u16 u.was.slot) ∧ W.cell? ⟨gW, 5, none⟩ = some (str u.was.value) ∧ W.cell? ⟨gW, 6, none⟩ = some (.int .i64 u.was.pad)) (fun _ => false) rfl ?_
    refine R_take 0 47 (v := ?_) rfl rfl (by rfl) (by kernel_rfl) (fun _ _ _ h => h) hS0.out ?_ ?_
    rotate_left
    · intro w hSw; (try dsimp only at hSw); go_simp; (try with_reducible rfl)
    simp only [List.setIfInBounds_toArray, List.set_cons_zero, List.set_cons_succ]
    refine R_take 1 48 (v := ?_) rfl rfl (by rfl) (by kernel_rfl) (fun _ _ _ h => h) hS0.out ?_ ?_
    rotate_left
    · intro w hSw; (try dsimp only at hSw); go_simp; (try with_reducible rfl)
    simp only [List.setIfInBounds_toArray, List.set_cons_zero, List.set_cons_succ]
    refine R_take 2 49 (v := ?_) rfl rfl (by rfl) (by kernel_rfl) (fun _ _ _ h => h) hS0.out ?_ ?_
    rotate_left
    · intro w hSw; (try dsimp only at hSw); go_simp; (try with_reducible rfl)
    simp only [List.setIfInBounds_toArray, List.set_cons_zero, List.set_cons_succ]
    refine R_take 3 50 (v := ?_) rfl rfl (by rfl) (by kernel_rfl) (fun _ _ _ h => h) hS0.out ?_ ?_
    rotate_left
    · intro w hSw; (try dsimp only at hSw); go_simp; (try with_reducible rfl)
    simp only [List.setIfInBounds_toArray, List.set_cons_zero, List.set_cons_succ]
    have HW8 : Blk (w8.drew.setRow gU #[.int .u8 u.kind, .int .u64 u.tx, .int .u32 u.ppage, .int .u16 u.pslot, str u.was.bytes, str u.was.key, .bool u.was.mark, .int .u64 u.was.tx, .int .u32 u.was.page, .int .u16 u.was.slot, str u.was.value, .int .i64 u.was.pad]) gW 37 #[str u.was.key, .bool u.was.mark, .int .u64 u.was.tx, .int .u32 u.was.page, .int .u16 u.was.slot, str u.was.value, .int .i64 u.was.pad] := HW.drew.keep (heap_setRow_other _ _ _ _ (Ne.symm nUW))
    replace hS0 := Lib.hid (urow_cells HW8)
    refine R_store 4 (n := .skip) (w' := w8.drew.setRow gU #[.int .u8 u.kind, .int .u64 u.tx, .int .u32 u.ppage, .int .u16 u.pslot, str u.was.bytes, str u.was.key, .bool u.was.mark, .int .u64 u.was.tx, .int .u32 u.was.page, .int .u16 u.was.slot, str u.was.value, .int .i64 u.was.pad]) rfl rfl (by rfl) (by kernel_rfl) (run_op_store _ _ _ ⟨gU, 5, none⟩ _ rfl rfl rfl (run_storeVar_part w8.drew gU 5 _ _ #[.int .u8 u.kind, .int .u64 u.tx, .int .u32 u.ppage, .int .u16 u.pslot, str u.was.bytes, str [], .bool false, .int .u64 0, .int .u32 0, .int .u16 0, str [], .int .i64 0] #[str u.was.key, .bool u.was.mark, .int .u64 u.was.tx, .int .u32 u.was.page, .int .u16 u.was.slot, str u.was.value, .int .i64 u.was.pad] HUd.out row_size (by show 5 + 7 ≤ 12; omega) (row_one _ _ _ _ _ _ _))) (.inl rfl) (fun _ => hS0.out) ?_
    have HU9 : Blk (w8.drew.setRow gU #[.int .u8 u.kind, .int .u64 u.tx, .int .u32 u.ppage, .int .u16 u.pslot, str u.was.bytes, str u.was.key, .bool u.was.mark, .int .u64 u.was.tx, .int .u32 u.was.page, .int .u16 u.was.slot, str u.was.value, .int .i64 u.was.pad]) gU 48 #[.int .u8 u.kind, .int .u64 u.tx, .int .u32 u.ppage, .int .u16 u.pslot, str u.was.bytes, str u.was.key, .bool u.was.mark, .int .u64 u.was.tx, .int .u32 u.was.page, .int .u16 u.was.slot, str u.was.value, .int .i64 u.was.pad] := HUd.out.setRow _
    replace HR : Hid (Blk (w8.drew.setRow gU #[.int .u8 u.kind, .int .u64 u.tx, .int .u32 u.ppage, .int .u16 u.pslot, str u.was.bytes, str u.was.key, .bool u.was.mark, .int .u64 u.was.tx, .int .u32 u.was.page, .int .u16 u.was.slot, str u.was.value, .int .i64 u.was.pad]) gR 48 udZ) := Lib.hid (HR.out.drew.keep (heap_setRow_other _ _ _ _ nRU))
    replace hb1 : Below w.heap.size w (w8.drew.setRow gU #[.int .u8 u.kind, .int .u64 u.tx, .int .u32 u.ppage, .int .u16 u.pslot, str u.was.bytes, str u.was.key, .bool u.was.mark, .int .u64 u.was.tx, .int .u32 u.was.page, .int .u16 u.was.slot, str u.was.value, .int .i64 u.was.pad]) := below_setRow (show Below w.heap.size w w8.drew from ⟨hb1.os, hb1.tape, hb1.output, hb1.size, hb1.block⟩) hbs #[.int .u8 u.kind, .int .u64 u.tx, .int .u32 u.ppage, .int .u16 u.pslot, str u.was.bytes, str u.was.key, .bool u.was.mark, .int .u64 u.was.tx, .int .u32 u.was.page, .int .u16 u.was.slot, str u.was.value, .int .i64 u.was.pad]
    generalize hw9 : World.setRow w8.drew gU _ = w9 at hS0 HU9 HR hb1 HW8 ⊢
    clear hw9
    have c4 := HU9.cell 4
    have f4 := HU9.frozen 4
    simp only [List.getElem?_toArray, List.getElem?_cons_succ, List.getElem?_cons_zero] at c4
    refine R_take 5 51 (v := ?_) rfl rfl (by rfl) (by kernel_rfl) (fun _ _ _ h => h) hS0.out ?_ ?_
    rotate_left
    · intro w hSw; (try dsimp only at hSw); go_simp; (try with_reducible rfl)
    simp only [List.setIfInBounds_toArray, List.set_cons_zero, List.set_cons_succ]
    have HW9 := Lib.hid (HW8.far (p := ⟨gU, 4, none⟩) (Ne.symm nUW) (str u.was.key))
    refine R_store 6 (n := .skip) (w' := w9.setCell ⟨gU, 4, none⟩ (str u.was.key)) rfl rfl (by rfl) (by kernel_rfl) (by go_simp) (.inl rfl) (fun _ => urow_cells HW9.out) ?_
    replace HU := HU9.set_ 4 (str u.was.key)
    simp only [List.setIfInBounds_toArray, List.set_cons_zero, List.set_cons_succ] at HU
    replace HU := Lib.hid HU
    replace HR := Lib.hid (HR.out.far (p := ⟨gU, 4, none⟩) nRU (str u.was.key))
    replace hb1 := hb1.setCell (p := ⟨gU, 4, none⟩) hbs (str u.was.key)
    generalize hw10 : World.setCell w9 _ _ = w10 at HU HR hb1 HW9 ⊢
    clear hw10 c4 f4 HW9 HU9 hS0 HW8 HUd HW
    refine R_done (by kernel_rfl) ?_ _
    rename_i K9 hK9
    refine hK9 _ _ ?_
    clear hK9
    have HUV : Hid (udV u = .agg #[.int .u8 u.kind, .int .u64 u.tx, .int .u32 u.ppage, .int .u16 u.pslot, str u.was.key, str u.was.key, .bool u.was.mark, .int .u64 u.was.tx, .int .u32 u.was.page, .int .u16 u.was.slot, str u.was.value, .int .i64 u.was.pad]) := Lib.hid (by show Value.agg #[.int .u8 u.kind, .int .u64 u.tx, .int .u32 u.ppage, .int .u16 u.pslot, str u.key, str u.was.key, .bool u.was.mark, .int .u64 u.was.tx, .int .u32 u.was.page, .int .u16 u.was.slot, str u.was.value, .int .i64 u.was.pad] = _; rw [HKEY.out])
    have HMC := Lib.hid fun (W : World) => (show Calls Tryz.prog 101 #[.agg #[.int .u8 u.kind, .int .u64 u.tx, .int .u32 u.ppage, .int .u16 u.pslot, str u.was.key, str u.was.key, .bool u.was.mark, .int .u64 u.was.tx, .int .u32 u.was.page, .int .u16 u.was.slot, str u.was.value, .int .i64 u.was.pad]] W fun e w' => e = .returned (.bool true) ∧ Below W.heap.size W w' by rw [← HUV.out]; exact undo_may u HMAY.out W)
    clear HKEY hwas
    have c0 := HU.out.cell 0
    have c1 := HU.out.cell 1
    have c2 := HU.out.cell 2
    have c3 := HU.out.cell 3
    have c4 := HU.out.cell 4
    have c5 := HU.out.cell 5
    have c6 := HU.out.cell 6
    have c7 := HU.out.cell 7
    have c8 := HU.out.cell 8
    have c9 := HU.out.cell 9
    have c10 := HU.out.cell 10
    have c11 := HU.out.cell 11
    simp only [List.getElem?_toArray, List.getElem?_cons_succ, List.getElem?_cons_zero] at c0 c1 c2 c3 c4 c5 c6 c7 c8 c9 c10 c11
    go_wp2_with fail
    refine (HMC.out _).mono ?_
    rintro e w11 ⟨rfl, hb11⟩
    replace HR := Lib.hid (HR.out.below hb11 HR.out.lt)
    replace HU := Lib.hid (HU.out.below hb11 HU.out.lt)
    replace hb1 := hb1.trans (hb11.mono hb1.size)
    clear c0 c1 c2 c3 c4 c5 c6 c7 c8 c9 c10 c11
    clear hb11 HMC
    have c0 := HU.out.cell 0
    have c1 := HU.out.cell 1
    have c2 := HU.out.cell 2
    have c3 := HU.out.cell 3
    have c4 := HU.out.cell 4
    have c5 := HU.out.cell 5
    have c6 := HU.out.cell 6
    have c7 := HU.out.cell 7
    have c8 := HU.out.cell 8
    have c9 := HU.out.cell 9
    have c10 := HU.out.cell 10
    have c11 := HU.out.cell 11
    simp only [List.getElem?_toArray, List.getElem?_cons_succ, List.getElem?_cons_zero] at c0 c1 c2 c3 c4 c5 c6 c7 c8 c9 c10 c11
    go_wp2_with (refine wpList_store_part rfl _ _ _ rfl gR 0 (#[.int .u8 u.kind, .int .u64 u.tx, .int .u32 u.ppage, .int .u16 u.pslot, str u.was.key, str u.was.key, .bool u.was.mark, .int .u64 u.was.tx, .int .u32 u.was.page, .int .u16 u.was.slot, str u.was.value, .int .i64 u.was.pad]) rfl rfl _ _ HR.out ud_size (by show 0 + 12 ≤ 12; omega) (ud_one _ _ _ _ _ _ _ _ _ _ _ _) ?_)
    have hRf : Blk (w11.setRow gR (partRow udZ 0 (#[.int .u8 u.kind, .int .u64 u.tx, .int .u32 u.ppage, .int .u16 u.pslot, str u.was.key, str u.was.key, .bool u.was.mark, .int .u64 u.was.tx, .int .u32 u.was.page, .int .u16 u.was.slot, str u.was.value, .int .i64 u.was.pad]).toList)) gR 48 (#[.int .u8 u.kind, .int .u64 u.tx, .int .u32 u.ppage, .int .u16 u.pslot, str u.was.key, str u.was.key, .bool u.was.mark, .int .u64 u.was.tx, .int .u32 u.was.page, .int .u16 u.was.slot, str u.was.value, .int .i64 u.was.pad]) := HR.out.setRow _
    have hBf := below_setRow hb1 hBR (partRow udZ 0 (#[.int .u8 u.kind, .int .u64 u.tx, .int .u32 u.ppage, .int .u16 u.pslot, str u.was.key, str u.was.key, .bool u.was.mark, .int .u64 u.was.tx, .int .u32 u.was.page, .int .u16 u.was.slot, str u.was.value, .int .i64 u.was.pad]).toList)
    generalize World.setRow w11 gR _ = wf at hRf hBf ⊢
    have k0 := hRf.cell 0
    have k1 := hRf.cell 1
    have k2 := hRf.cell 2
    have k3 := hRf.cell 3
    have k4 := hRf.cell 4
    have k5 := hRf.cell 5
    have k6 := hRf.cell 6
    have k7 := hRf.cell 7
    have k8 := hRf.cell 8
    have k9 := hRf.cell 9
    have k10 := hRf.cell 10
    have k11 := hRf.cell 11
    simp only [List.getElem?_toArray, List.getElem?_cons_succ, List.getElem?_cons_zero] at k0 k1 k2 k3 k4 k5 k6 k7 k8 k9 k10 k11
    have huv := HUV.out
    refine bodyPost_ret (v := .tuple #[udV u, .int .i64 0]) (by rw [huv, results_cell_tmp rfl]; go_simp) rfl ⟨rfl, hBf⟩
end Go.Proofs.YtphkggcdfkcidaaGreat

/- The walk of package pool: Unpin as a deferred call; a pool on given pages of which none is pinned. -/
namespace Go.Proofs.YtphkggcdfkcidaaGreat
open Go.RowKit Go.Conc

set_option maxRecDepth 100000 in
set_option maxHeartbeats 1000000 in
theorem pool_unpin_d {F : Foot} {w : World} {gp gd gl at_ base : Nat} {p : Sp.Pl} (h : IsPl F w gp gd gl at_ base p) {id : Nat} (hid : id < 4294967296) {it : Sp.It} (hf : p.find id = some it) (hp : 1 ≤ it.pins) (u : FrameMode) :
    CallsD Tryz.prog 24 #[ptr gp, u32v id] u w fun e u' w' => u' = u ∧ (e = .returned (.int .i64 0) ∧ IsPl F w' gp gd gl at_ base (p.upd id fun x => { x with pins := x.pins - 1 }) ∧ Turns F F w w') := by
  obtain ⟨R, fb, cb, mb, v, s, r, cs, h⟩ := h
  obtain ⟨c0, c1, c2, c3, c4, c5, c6, c7⟩ := h.cells
  have HM := Lib.hid (pool_made c6)
  have hl := h.look_in hid hf
  obtain ⟨hit, rfl⟩ := Sp.Pl.find_mem hf
  have hlt := h.wf.idx_lt hit
  have cp := h.pins hit
  have hn := h.wf.n64
  have hs := h.wf.small it hit
  have e0 : decide ((it.pins : Int) = 0) = false := by rw [decide_eq_false_iff_not]; omega
  have hz := h.pins_frozen (it.idx * 9 + 6)
  have H := Lib.hid (h.pinned hit (fun k => k - 1) (by omega))
  have hF := h.foot.2.1
  have e1 : ((it.pins - 1 : Nat) : Int) = (it.pins : Int) - 1 := by omega
  have eu : ((p.upd it.page.id fun x => { x with pins := x.pins - 1 }).items.map (·.page.id)) = p.items.map (·.page.id) := Sp.Pl.upd_ids ⟨fun _ => rfl, fun _ => rfl⟩
  rw [e1, ← eu] at H
  have HI : IsPl F _ gp gd gl at_ base (p.upd it.page.id fun x => { x with pins := x.pins - 1 }) := ⟨R, fb, cb, mb, v, s, r, _, H.out⟩
  have HI := Lib.hid HI
  clear h c0 c1 c2 c3 c5 c7 e1 H eu
  go_enter_d Tryz.func24, Tryz.ntmps24
  go_wp2_with fail
  refine HM.out.mono ?_
  rintro e w1 ⟨rfl, hw⟩
  subst w1
  go_wp2_with fail
  go_ret
  exact ⟨rfl, HI.out, (Turns.refl F w).setCell (p := ⟨fb, it.idx * 9 + 6, none⟩) (.inl hF) _⟩

theorem lg_unpin_d {pg : Nat → Sp.Pg} {K : Foot} {w : World} {gd gl gp n : Nat} {L : List (Nat × Nat)} (h : LgAt pg K w gd gl gp n L) {k m : Nat} (hk : k < 4294967296) (hm : (k, m) ∈ L) (h0 : 1 ≤ m) (u : FrameMode) :
    CallsD Tryz.prog 24 #[ptr gp, u32v k] u w fun e u' w' => u' = u ∧ (e = .returned (.int .i64 0) ∧ Kept K w w' ∧ LgAt pg K w' gd gl gp n (Sp.aUnpin L k)) := by
  obtain ⟨hok, p, D, F, dk, hd, hlk, hpl, rfl, hfr, rfl, hDF, hb0, hKl⟩ := h
  obtain ⟨it, hit, e⟩ := List.mem_map.1 hm
  injection e with e1 e2
  have hf := Sp.Pl.find_of hpl.wf hit
  rw [e1] at hf
  refine (pool_unpin_d hpl hk hf (by omega) u).mono ?_
  rintro e u' w' ⟨rfl, rfl, h', ht⟩
  refine ⟨rfl, rfl, Kept.of_turns ht (fun b hk => ⟨hKl b hk, fun hF => hb0 b (.inr hF) hk⟩), ?_⟩
  rw [← Sp.abs_unpin]
  refine lg_make hok hd hlk h' rfl (fun y hy => ?_) hDF hb0 hKl ht
  obtain ⟨x, hx, rfl⟩ := Sp.Pl.upd_mem hy
  split <;> exact hfr x hx

/-- Where nothing is pinned a page can be pinned, and unpinned. -/
theorem Sp.aPin_zero {L : List (Nat × Nat)} {k : Nat} (hz : ∀ x ∈ L, x.2 = 0) (hl : L.length ≤ 2) :
    ∃ L', Sp.aPin 2 L k = some L' ∧ (k, 1) ∈ L' ∧ ∀ x ∈ Sp.aUnpin L' k, x.2 = 0 := by
  unfold Sp.aPin
  by_cases ha : Sp.aHas L k = true
  · rw [if_pos ha]
    refine ⟨_, rfl, ?_, fun x hx => ?_⟩
    · unfold Sp.aHas at ha
      obtain ⟨y, hy, e⟩ := List.any_eq_true.1 ha
      have e' : y.1 = k := by simpa using e
      refine List.mem_append.2 (.inr (List.mem_map.2 ⟨y, List.mem_filter.2 ⟨hy, e⟩, ?_⟩))
      rw [hz y hy, e']
    · obtain ⟨y, hy, rfl⟩ := List.mem_map.1 hx
      rcases List.mem_append.1 hy with h | h
      · have h0 := hz y (List.mem_filter.1 h).1
        split
        · show y.2 - 1 = 0; omega
        · exact h0
      · obtain ⟨z, hz', rfl⟩ := List.mem_map.1 h
        have h0 := hz z (List.mem_filter.1 hz').1
        have e' : z.1 = k := by simpa using (List.mem_filter.1 hz').2
        rw [if_pos e']
        show z.2 + 1 - 1 = 0; omega
  · rw [if_neg ha]
    have fin : ∀ M : List (Nat × Nat), (∀ x ∈ M, x.2 = 0) → (k, 1) ∈ M ++ [(k, 1)] ∧ ∀ x ∈ Sp.aUnpin (M ++ [(k, 1)]) k, x.2 = 0 := fun M hM => by
      refine ⟨by simp, fun x hx => ?_⟩
      obtain ⟨y, hy, rfl⟩ := List.mem_map.1 hx
      rcases List.mem_append.1 hy with h | h
      · have h0 := hM y h
        split
        · show y.2 - 1 = 0; omega
        · exact h0
      · rw [List.mem_singleton.1 h, if_pos rfl]; rfl
    by_cases hlt : L.length < 2
    · rw [if_pos hlt]
      exact ⟨_, rfl, (fin L hz).1, (fin L hz).2⟩
    · rw [if_neg hlt]
      cases L with
      | nil => simp at hlt
      | cons x M =>
        have e : Sp.aDrop (x :: M) = some M := by unfold Sp.aDrop; rw [if_pos (hz x (by simp))]
        rw [e]
        exact ⟨_, rfl, (fin M (fun y hy => hz y (by simp [hy]))).1, (fin M (fun y hy => hz y (by simp [hy]))).2⟩

/-- A pool of two frames on the given pages, none of them pinned. -/
def LzAt (pg : Nat → Sp.Pg) (K : Foot) (w : World) (gd gl gp : Nat) : Prop := ∃ L, LgAt pg K w gd gl gp 2 L ∧ ∀ x ∈ L, x.2 = 0
theorem LzAt.more {pg : Nat → Sp.Pg} {K K' : Foot} {w w' : World} {gd gl gp : Nat} (h : LzAt pg K w gd gl gp) (hb : Below w.heap.size w w') (hK : ∀ b, K' b → K b ∨ (w.heap.size ≤ b ∧ b < w'.heap.size)) : LzAt pg K' w' gd gl gp := by
  obtain ⟨L, h, hz⟩ := h
  exact ⟨L, h.more hb hK, hz⟩
theorem LzAt.below {pg : Nat → Sp.Pg} {K : Foot} {w w' : World} {gd gl gp : Nat} (h : LzAt pg K w gd gl gp) (hb : Below w.heap.size w w') : LzAt pg K w' gd gl gp := h.more hb (fun _ h => .inl h)
theorem LzAt.lt {pg : Nat → Sp.Pg} {K : Foot} {w : World} {gd gl gp : Nat} (h : LzAt pg K w gd gl gp) : ∀ b, K b → b < w.heap.size := by
  obtain ⟨L, h, _⟩ := h
  exact h.lt
theorem LzAt.ok {pg : Nat → Sp.Pg} {K : Foot} {w : World} {gd gl gp : Nat} (h : LzAt pg K w gd gl gp) : PgOk pg := by
  obtain ⟨L, h, _⟩ := h
  exact h.1
end Go.Proofs.YtphkggcdfkcidaaGreat

/- The walk of package seg: Get of a record that is there, or is not. -/
namespace Go.Proofs.YtphkggcdfkcidaaGreat
open Go.RowKit

theorem seg_cells {x : Sp.Pg} {A : Option Addr} {c g : Nat} {W : World} (h : Blk W g 53 (pgCs x A c)) :
    W.cell? ⟨g, 0, none⟩ = some (.int .u8 x.kind) ∧ W.cell? ⟨g, 1, none⟩ = some (.int .u8 x.level) ∧ W.cell? ⟨g, 2, none⟩ = some (.int .u32 x.id) ∧ W.cell? ⟨g, 3, none⟩ = some (.int .u64 x.lsn) ∧ W.cell? ⟨g, 4, none⟩ = some (.int .u32 x.next) ∧ W.cell? ⟨g, 5, none⟩ = some (.slice A x.rows.length c) :=
  ⟨h.cell 0, h.cell 1, h.cell 2, h.cell 3, h.cell 4, h.cell 5⟩
/-- Two blocks that were made one behind the other. -/
theorem alloc2 (w : World) (t1 t2 : TypeId) (c1 c2 : Array Value) :
    Blk ((w.alloc (.cells c1 t1)).alloc (.cells c2 t2)) w.heap.size t1 c1 ∧ Blk ((w.alloc (.cells c1 t1)).alloc (.cells c2 t2)) (w.heap.size + 1) t2 c2 ∧ Below w.heap.size w ((w.alloc (.cells c1 t1)).alloc (.cells c2 t2)) := by
  have h2 := Blk.new (w.alloc (.cells c1 t1)) t2 c2
  rw [World.size_alloc] at h2
  exact ⟨(Blk.new w t1 c1).alloc _, h2, ((Below.refl w.heap.size w).alloc (Nat.le_refl _) _).alloc (by simp) _⟩

set_option maxRecDepth 100000 in
set_option maxHeartbeats 4000000 in
theorem seg_get {G : Foot} {w : World} {x : Sp.Pg} {A : Option Addr} {c : Nat} (hR : RowsAt G w A x.rows) (hm : x.may) (hk : x.kind = 3) {s : Nat} (hs : s < x.rows.length) (hs16 : s < 65536) (u : Sp.Ud) (hu : x.rows[s] = u.bytes) (h1 : u.may) (h2 : u.wf) (h3 : u.was.pad = 0) :
    Calls Tryz.prog 25 #[pgV x A c, .int .u16 s] w fun e w' => e = .returned (.tuple #[udV u, .int .i64 0]) ∧ Below w.heap.size w w' := by
  have hmb := (mayB_iff x).2 hm
  have hm5 := hm.2.2.2.2
  have ht : Sp.total x.rows ≤ 1000000000 := by omega
  have hn : x.rows.length ≤ 1000000000 := by omega
  have HPM := Lib.hid fun (W : World) (h : RowsAt G W A x.rows) => page_may (c := c) h hn ht
  rw [hmb] at HPM
  have HUD := Lib.hid fun (W : World) => undo_decode u h1 h2 h3 W
  have HR := Lib.hid hR
  have HU := Lib.hid hu
  have d1 : ((x.kind : Int) != 3) = false := by rw [hk]; rfl
  have d2 : decide ((x.kind : Int) = 3) = true := by rw [hk]; rfl
  have wr : IntKind.i64.wrap (s : Int) = s := by rw [IntKind.wrap_i64]; omega
  have d4 : decide ((s : Int) ≥ x.rows.length) = false := by rw [decide_eq_false_iff_not]; omega
  have d5 : decide ((x.rows.length : Int) ≤ s) = false := by rw [decide_eq_false_iff_not]; omega
  clear hmb hm hm5 hk hR hu h1 h2 h3
  go_enter Tryz.func25, Tryz.ntmps25
  go_wp2_with fail
  obtain ⟨hP, hZ, hb1⟩ := alloc2 w 53 48 (pgCs x A c) udZ
  generalize hw1 : World.alloc (World.alloc w _) _ = w1 at hP hZ hb1 ⊢
  clear hw1
  refine (HPM.out w1 (HR.out.below hb1)).mono ?_
  rintro e w2 ⟨rfl, hb2⟩
  obtain ⟨gP, hgP⟩ : ∃ g, g = w.heap.size := ⟨_, rfl⟩
  obtain ⟨gR, hgR⟩ : ∃ g, g = w.heap.size + 1 := ⟨_, rfl⟩
  rw [← hgR] at hZ ⊢
  rw [← hgP] at hP ⊢
  have hBR : w.heap.size ≤ gR := by omega
  have HP := Lib.hid (hP.below hb2 hP.lt)
  have HZ := Lib.hid (hZ.below hb2 hZ.lt)
  have hb := hb1.trans (hb2.mono hb1.size)
  obtain ⟨b, o, rfl, _, _, hc⟩ := RowsAt.row (Reads.below HR.out hb) hs
  rw [HU.out] at hc
  clear hP hZ hb1 hb2 hgP hgR HPM HR HU
  obtain ⟨p0, p1, p2, p3, p4, p5⟩ := seg_cells HP.out
  go_wp2_with fail
  refine (HUD.out _).mono ?_
  rintro e w3 ⟨rfl, hb3⟩
  replace HZ := Lib.hid (HZ.out.below hb3 HZ.out.lt)
  replace hb := hb.trans (hb3.mono hb.size)
  clear HP p0 p1 p2 p3 p4 p5 hc HUD hb3
  have hUn := Blk.new w3 48 #[.int .u8 u.kind, .int .u64 u.tx, .int .u32 u.ppage, .int .u16 u.pslot, str u.key, str u.was.key, .bool u.was.mark, .int .u64 u.was.tx, .int .u32 u.was.page, .int .u16 u.was.slot, str u.was.value, .int .i64 u.was.pad]
  have hZa := HZ.out.alloc (.cells #[.int .u8 u.kind, .int .u64 u.tx, .int .u32 u.ppage, .int .u16 u.pslot, str u.key, str u.was.key, .bool u.was.mark, .int .u64 u.was.tx, .int .u32 u.was.page, .int .u16 u.was.slot, str u.was.value, .int .i64 u.was.pad] 48)
  go_wp2_with (refine wpList_store_part rfl _ _ _ rfl gR 0 #[.int .u8 u.kind, .int .u64 u.tx, .int .u32 u.ppage, .int .u16 u.pslot, str u.key, str u.was.key, .bool u.was.mark, .int .u64 u.was.tx, .int .u32 u.was.page, .int .u16 u.was.slot, str u.was.value, .int .i64 u.was.pad] rfl rfl _ _ hZa ud_size (by show 0 + 12 ≤ 12; omega) (ud_one _ _ _ _ _ _ _ _ _ _ _ _) ?_)
  have hRf : Blk ((w3.alloc (.cells #[.int .u8 u.kind, .int .u64 u.tx, .int .u32 u.ppage, .int .u16 u.pslot, str u.key, str u.was.key, .bool u.was.mark, .int .u64 u.was.tx, .int .u32 u.was.page, .int .u16 u.was.slot, str u.was.value, .int .i64 u.was.pad] 48)).setRow gR (partRow udZ 0 (#[Value.int .u8 u.kind, .int .u64 u.tx, .int .u32 u.ppage, .int .u16 u.pslot, str u.key, str u.was.key, .bool u.was.mark, .int .u64 u.was.tx, .int .u32 u.was.page, .int .u16 u.was.slot, str u.was.value, .int .i64 u.was.pad]).toList)) gR 48 #[.int .u8 u.kind, .int .u64 u.tx, .int .u32 u.ppage, .int .u16 u.pslot, str u.key, str u.was.key, .bool u.was.mark, .int .u64 u.was.tx, .int .u32 u.was.page, .int .u16 u.was.slot, str u.was.value, .int .i64 u.was.pad] := hZa.setRow _
  have hBf := below_setRow (hb.alloc hb.size (.cells #[.int .u8 u.kind, .int .u64 u.tx, .int .u32 u.ppage, .int .u16 u.pslot, str u.key, str u.was.key, .bool u.was.mark, .int .u64 u.was.tx, .int .u32 u.was.page, .int .u16 u.was.slot, str u.was.value, .int .i64 u.was.pad] 48)) hBR (partRow udZ 0 (#[Value.int .u8 u.kind, .int .u64 u.tx, .int .u32 u.ppage, .int .u16 u.pslot, str u.key, str u.was.key, .bool u.was.mark, .int .u64 u.was.tx, .int .u32 u.was.page, .int .u16 u.was.slot, str u.was.value, .int .i64 u.was.pad]).toList)
  generalize World.setRow _ gR _ = wf at hRf hBf ⊢
  have k0 := hRf.cell 0
  have k1 := hRf.cell 1
  have k2 := hRf.cell 2
  have k3 := hRf.cell 3
  have k4 := hRf.cell 4
  have k5 := hRf.cell 5
  have k6 := hRf.cell 6
  have k7 := hRf.cell 7
  have k8 := hRf.cell 8
  have k9 := hRf.cell 9
  have k10 := hRf.cell 10
  have k11 := hRf.cell 11
  simp only [List.getElem?_toArray, List.getElem?_cons_succ, List.getElem?_cons_zero] at k0 k1 k2 k3 k4 k5 k6 k7 k8 k9 k10 k11
  refine bodyPost_ret (v := .tuple #[udV u, .int .i64 0]) (by rw [results_cell_tmp rfl]; go_simp) rfl ⟨rfl, hBf⟩

set_option maxRecDepth 100000 in
set_option maxHeartbeats 4000000 in
theorem seg_get_none {G : Foot} {w : World} {x : Sp.Pg} {A : Option Addr} {c : Nat} (hR : RowsAt G w A x.rows) (hm : x.may) (hk : x.kind = 3) {s : Nat} (hs : x.rows.length ≤ s) (hs16 : s < 65536) :
    Calls Tryz.prog 25 #[pgV x A c, .int .u16 s] w fun e w' => e = .returned (.tuple #[.agg udZ, .int .i64 3]) ∧ Below w.heap.size w w' := by
  have hmb := (mayB_iff x).2 hm
  have hm5 := hm.2.2.2.2
  have ht : Sp.total x.rows ≤ 1000000000 := by omega
  have hn : x.rows.length ≤ 1000000000 := by omega
  have HPM := Lib.hid fun (W : World) (h : RowsAt G W A x.rows) => page_may (c := c) h hn ht
  rw [hmb] at HPM
  have HR := Lib.hid hR
  have d1 : ((x.kind : Int) != 3) = false := by rw [hk]; rfl
  have d2 : decide ((x.kind : Int) = 3) = true := by rw [hk]; rfl
  have wr : IntKind.i64.wrap (s : Int) = s := by rw [IntKind.wrap_i64]; omega
  have d4 : decide ((s : Int) ≥ x.rows.length) = true := by rw [decide_eq_true_eq]; omega
  have d5 : decide ((x.rows.length : Int) ≤ s) = true := by rw [decide_eq_true_eq]; omega
  clear hmb hm hm5 hk hR
  go_enter Tryz.func25, Tryz.ntmps25
  go_wp2_with fail
  obtain ⟨hP, hZ, hb1⟩ := alloc2 w 53 48 (pgCs x A c) udZ
  generalize hw1 : World.alloc (World.alloc w _) _ = w1 at hP hZ hb1 ⊢
  clear hw1
  refine (HPM.out w1 (HR.out.below hb1)).mono ?_
  rintro e w2 ⟨rfl, hb2⟩
  obtain ⟨gP, hgP⟩ : ∃ g, g = w.heap.size := ⟨_, rfl⟩
  obtain ⟨gR, hgR⟩ : ∃ g, g = w.heap.size + 1 := ⟨_, rfl⟩
  rw [← hgR] at hZ ⊢
  rw [← hgP] at hP ⊢
  have hBR : w.heap.size ≤ gR := by omega
  have HP := Lib.hid (hP.below hb2 hP.lt)
  have HZ := Lib.hid (hZ.below hb2 hZ.lt)
  have hb := hb1.trans (hb2.mono hb1.size)
  clear hP hZ hb1 hb2 hgP hgR HPM HR
  obtain ⟨p0, p1, p2, p3, p4, p5⟩ := seg_cells HP.out
  go_wp2_with (refine wpList_store_part rfl _ _ _ rfl gR 0 udZ rfl rfl _ _ HZ.out ud_size (by show 0 + 12 ≤ 12; omega) (ud_one _ _ _ _ _ _ _ _ _ _ _ _) ?_)
  have hRf : Blk (w2.setRow gR (partRow udZ 0 (udZ).toList)) gR 48 udZ := HZ.out.setRow _
  have hBf := below_setRow hb hBR (partRow udZ 0 (udZ).toList)
  clear HP p0 p1 p2 p3 p4 p5
  generalize World.setRow _ gR _ = wf at hRf hBf ⊢
  have k0 := hRf.cell 0
  have k1 := hRf.cell 1
  have k2 := hRf.cell 2
  have k3 := hRf.cell 3
  have k4 := hRf.cell 4
  have k5 := hRf.cell 5
  have k6 := hRf.cell 6
  have k7 := hRf.cell 7
  have k8 := hRf.cell 8
  have k9 := hRf.cell 9
  have k10 := hRf.cell 10
  have k11 := hRf.cell 11
  simp only [List.getElem?_toArray, List.getElem?_cons_succ, List.getElem?_cons_zero] at k0 k1 k2 k3 k4 k5 k6 k7 k8 k9 k10 k11
  refine bodyPost_ret (v := .tuple #[.agg udZ, .int .i64 3]) (by rw [results_cell_tmp rfl]; go_simp) rfl ⟨rfl, hBf⟩
end Go.Proofs.YtphkggcdfkcidaaGreat
