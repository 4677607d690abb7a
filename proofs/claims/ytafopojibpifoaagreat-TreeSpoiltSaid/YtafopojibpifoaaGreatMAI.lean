/- The walks of package row, at any pad: Decode of a row's own bytes. -/
import Derived.Test.YtafopojibpifoaaGreatMAH
import Derived.Test.YtafopojibpifoaaGreatMAE
import Derived.Deep.DeepCutAuto
import Derived.Test.YtafopojibpifoaaGreatMAG
import Derived.Test.YtafopojibpifoaaGreatMAF
import Derived.Test.YtafopojibpifoaaGreatMAA
import Derived.Lib.Bytealg
import Derived.MapKept
import Derived.WideMake

namespace Go.Proofs.YtafopojibpifoaaGreat
open Go.RowKit

theorem Sp.Rw.at_mark1 (r : Sp.Rw) : Sp.num ((r.bytes.drop 0).take 1) = r.markN := by have := r.at_mark []; rwa [List.append_nil] at this
theorem Sp.Rw.at_tx1 (r : Sp.Rw) (h : r.wf) : Sp.num ((r.bytes.drop 1).take 8) = r.tx := by have := r.at_tx h []; rwa [List.append_nil] at this
theorem Sp.Rw.at_page1 (r : Sp.Rw) (h : r.may) : Sp.num ((r.bytes.drop 9).take 4) = r.page := by have := r.at_page h []; rwa [List.append_nil] at this
theorem Sp.Rw.at_slot1 (r : Sp.Rw) (h : r.wf) : Sp.num ((r.bytes.drop 13).take 2) = r.slot := by have := r.at_slot h []; rwa [List.append_nil] at this
theorem Sp.Rw.at_klen1 (r : Sp.Rw) (h : r.may) : Sp.num ((r.bytes.drop 15).take 1) = r.key.length := by have := r.at_klen h []; rwa [List.append_nil] at this
theorem Sp.Rw.at_key1 (r : Sp.Rw) : (r.bytes.drop 16).take r.key.length = r.key := by have := r.at_key []; rwa [List.append_nil] at this
theorem Sp.Rw.at_vlen1 (r : Sp.Rw) (h : r.may) : Sp.num ((r.bytes.drop (16 + r.key.length)).take 1) = r.value.length := by have := r.at_vlen h []; rwa [List.append_nil] at this
theorem Sp.Rw.at_value1 (r : Sp.Rw) : (r.bytes.drop (16 + r.key.length + 1)).take r.value.length = r.value := by
  have := r.at_value []
  rw [List.append_nil] at this
  rwa [show 16 + r.key.length + 1 = 17 + r.key.length by omega]

theorem row_size : (Tryz.prog.info? 43).map (·.size) = some 7 := by kernel_rfl
theorem row_store {W : World} {g : Nat} {c0 c1 c2 c3 c4 c5 c6 d0 d1 d2 d3 d4 d5 d6 : Value} (h : Blk W g 43 #[c0, c1, c2, c3, c4, c5, c6]) (h1 : #[d0, d1, d2, d3, d4, d5, d6].all (·.oneCell') = true) :
    (storeVar 43 ⟨g, 0, none⟩ (.agg #[d0, d1, d2, d3, d4, d5, d6])).run Tryz.prog W = .ok () (W.setRow g #[d0, d1, d2, d3, d4, d5, d6]) :=
  run_storeVar_part W g 0 _ _ _ _ h row_size (by show 0 + 7 ≤ 7; omega) h1
theorem row_one (k v : Sp.Bs) (m : Bool) (a b c d : Int) : #[str k, .bool m, .int .u64 a, .int .u32 b, .int .u16 c, str v, .int .i64 d].all (·.oneCell') = true := by
  simp [Value.oneCell']
/-- What the statement leaves that reads the row's first parts. -/
def RdMid (w : World) (r : Sp.Rw) (g gb gR : Nat) (v : Value) (wx : World) : Prop :=
  ∃ g6, v = ptr g6 ∧ Blk wx g 117 #[str r.bytes, .int .i64 (15 : Nat), .bool true] ∧ Blk wx gb 113 #[ptr g] ∧ Blk wx gR 43 #[str [], .bool false, .int .u64 0, .int .u32 0, .int .u16 0, str [], .int .i64 0] ∧
    Blk wx g6 43 #[str [], .bool r.mark, .int .u64 r.tx, .int .u32 r.page, .int .u16 r.slot, str [], .int .i64 0] ∧ g6 ≠ g ∧ g6 ≠ gb ∧ g6 ≠ gR ∧ w.heap.size ≤ g6 ∧ Below w.heap.size w wx

set_option maxRecDepth 100000 in
set_option maxHeartbeats 8000000 in
theorem row_decodeP (HR0 : RepZ) (r : Sp.Rw) (hmay : r.may) (hwf : r.wf) (w : World) :
    Calls Tryz.prog 33 #[str r.bytes] w fun e w' => e = .returned (.tuple #[rwV r, .int .i64 0]) ∧ Below w.heap.size w w' := by
  have hlen := r.bytes_length
  have hm1 := hmay.2.1
  have hm3 := hmay.2.2.1
  have hpg := hmay.2.2.2.1
  have hsl := hwf.2
  have hL17 : 17 ≤ r.bytes.length := by omega
  have hLb : r.bytes.length ≤ 1000 := by omega
  have hmk : decide (0 < r.markN) = r.mark := by unfold Sp.Rw.markN; cases r.mark <;> rfl
  have wr32 : IntKind.u32.wrap (r.page : Int) = r.page := by rw [IntKind.wrap_u32]; omega
  have wr16 : IntKind.u16.wrap (r.slot : Int) = r.slot := by rw [IntKind.wrap_u16]; omega
  have HLEN := Lib.hid hlen
  have HRZ := Lib.hid HR0
  clear hlen HR0
  go_enter Tryz.func33, Tryz.ntmps33
  go_wp2_with fail
  have hb1 := (((Below.refl w.heap.size w).alloc (Nat.le_refl _) (.cells #[str [], .bool false, .int .u64 0, .int .u32 0, .int .u16 0, str [], .int .i64 0] 43)).alloc (by simp) (.cells #[str r.bytes, .int .i64 (0 : Nat), .bool true] 117)).alloc (by simp; omega) (.cells #[ptr (w.heap.size + 1)] 113)
  have hR0 := ((Blk.new w 43 #[str [], .bool false, .int .u64 0, .int .u32 0, .int .u16 0, str [], .int .i64 0]).alloc (.cells #[str r.bytes, .int .i64 (0 : Nat), .bool true] 117)).alloc (.cells #[ptr (w.heap.size + 1)] 113)
  have hG0 := (Blk.new (w.alloc (.cells #[str [], .bool false, .int .u64 0, .int .u32 0, .int .u16 0, str [], .int .i64 0] 43)) 117 #[str r.bytes, .int .i64 (0 : Nat), .bool true]).alloc (.cells #[ptr (w.heap.size + 1)] 113)
  have hX0 := Blk.new ((w.alloc (.cells #[str [], .bool false, .int .u64 0, .int .u32 0, .int .u16 0, str [], .int .i64 0] 43)).alloc (.cells #[str r.bytes, .int .i64 (0 : Nat), .bool true] 117)) 113 #[ptr (w.heap.size + 1)]
  rw [World.size_alloc] at hG0
  rw [World.size_alloc, World.size_alloc] at hX0
  obtain ⟨w1, hw1⟩ : ∃ w1, w1 = (((w.alloc (.cells #[str [], .bool false, .int .u64 0, .int .u32 0, .int .u16 0, str [], .int .i64 0] 43)).alloc (.cells #[str r.bytes, .int .i64 (0 : Nat), .bool true] 117)).alloc (.cells #[ptr (w.heap.size + 1)] 113)) := ⟨_, rfl⟩
  rw [← hw1] at hb1 hR0 hG0 hX0
  change Code.wp _ _ _ _ (((w.alloc (.cells #[str [], .bool false, .int .u64 0, .int .u32 0, .int .u16 0, str [], .int .i64 0] 43)).alloc (.cells #[str r.bytes, .int .i64 (0 : Nat), .bool true] 117)).alloc (.cells #[ptr (w.heap.size + 1)] 113))
  rw [← hw1]
  obtain ⟨gR, hgR⟩ : ∃ g, g = w.heap.size := ⟨_, rfl⟩
  obtain ⟨g, hg⟩ : ∃ g, g = w.heap.size + 1 := ⟨_, rfl⟩
  obtain ⟨gb, hgb⟩ : ∃ g, g = w.heap.size + 1 + 1 := ⟨_, rfl⟩
  rw [← hgb, ← hg] at hX0
  rw [← hg] at hG0
  rw [← hgR] at hR0
  rw [← hgb, ← hgR]
  have hne : gb ≠ g := by omega
  have hRg : gR ≠ g := by omega
  have hgB : w.heap.size ≤ g := by omega
  have hRB : w.heap.size ≤ gR := by omega
  have HG0 := Lib.hid hG0
  have HBX0 := Lib.hid hX0
  have HR0 := Lib.hid hR0
  clear hw1 hgR hg hgb hG0 hX0 hR0
  go_upto_region 3 with fail
  go_cut [6] (fun v wx => RdMid w r g gb gR v wx)
  case first =>
    have HG := Lib.hid HG0.out.drew
    have HBX := Lib.hid HBX0.out.drew
    have HR := Lib.hid HR0.out.drew
    have hS := Lib.hid (HBX.out.cell 0)
    have hB : Below w.heap.size w w1.drew := ⟨hb1.os, hb1.tape, hb1.output, hb1.size, hb1.block⟩
    have hsz : w.heap.size ≤ w1.drew.heap.size := hb1.size
    go_wp2_with fail
    refine R_begin (fun W => W.cell? ⟨gb, 0, none⟩ = some (ptr g)) (fun _ => false) rfl ?_
    refine R_take 0 14 (v := ?_) rfl rfl (by rfl) (by kernel_rfl) (fun _ _ _ h => h) hS.out ?_ ?_
    rotate_left
    · intro w hSw; (try dsimp only at hSw); go_simp; (try with_reducible rfl)
    simp only [List.setIfInBounds_toArray, List.set_cons_zero, List.set_cons_succ]
    refine R_take 3 17 (v := ?_) rfl rfl (by rfl) (by kernel_rfl) (fun _ _ _ h => h) hS.out ?_ ?_
    rotate_left
    · intro w hSw; (try dsimp only at hSw); go_simp; (try with_reducible rfl)
    simp only [List.setIfInBounds_toArray, List.set_cons_zero, List.set_cons_succ]
    refine R_take 5 19 (v := ?_) rfl rfl (by rfl) (by kernel_rfl) (fun _ _ _ h => h) hS.out ?_ ?_
    rotate_left
    · intro w hSw; (try dsimp only at hSw); go_simp; (try with_reducible rfl)
    simp only [List.setIfInBounds_toArray, List.set_cons_zero, List.set_cons_succ]
    refine R_take 8 22 (v := ?_) rfl rfl (by rfl) (by kernel_rfl) (fun _ _ _ h => h) hS.out ?_ ?_
    rotate_left
    · intro w hSw; (try dsimp only at hSw); go_simp; (try with_reducible rfl)
    simp only [List.setIfInBounds_toArray, List.set_cons_zero, List.set_cons_succ]
    refine R_all (rs := [1, 13]) (by kernel_rfl) (by simp) (fun i hi => ?_)
    simp only [List.mem_cons, List.not_mem_nil, or_false] at hi
    rcases hi with rfl | rfl
    · skip
      have hc := rd_num r.bytes g 0 1 w1.drew (by omega) (by omega) (by omega) (by omega) HG.out
      rw [Sp.Rw.at_mark1 r] at hc
      refine op_call 15 (w' := w1.drew) rfl rfl (by rfl) ?_ hc ?_
      · go_simp
      rintro e v1 ⟨rfl, hg, ht⟩
      replace HG := Lib.hid hg
      replace HBX := Lib.hid (HBX.out.turns ht (fun e => hne e))
      replace HR := Lib.hid (HR.out.turns ht (fun e => hRg e))
      replace hsz := Nat.le_trans hsz ht.size
      replace hB := hB.trans (ht.below hB.size (fun b hb => by rw [hb]; exact hgB))
      replace hS := Lib.hid (HBX.out.cell 0)
      refine ⟨_, rfl, fun _ => hS.out, ?_⟩
      simp only [List.setIfInBounds_toArray, List.set_cons_zero, List.set_cons_succ]
      clear hg ht hc
      refine R_take 2 16 (v := ?_) rfl rfl (by rfl) (by kernel_rfl) (fun _ _ _ h => h) hS.out ?_ ?_
      rotate_left
      · intro w hSw; (try dsimp only at hSw); go_simp; (try with_reducible rfl)
      simp only [List.setIfInBounds_toArray, List.set_cons_zero, List.set_cons_succ]
      refine R_all (rs := [4, 13]) (by kernel_rfl) (by simp) (fun i hi => ?_)
      simp only [List.mem_cons, List.not_mem_nil, or_false] at hi
      rcases hi with rfl | rfl
      · skip
        have hc := rd_num r.bytes g 1 8 v1 (by omega) (by omega) (by omega) (by omega) HG.out
        rw [Sp.Rw.at_tx1 r hwf] at hc
        refine op_call 18 (w' := v1) rfl rfl (by rfl) ?_ hc ?_
        · go_simp
        rintro e v2 ⟨rfl, hg, ht⟩
        replace HG := Lib.hid hg
        replace HBX := Lib.hid (HBX.out.turns ht (fun e => hne e))
        replace HR := Lib.hid (HR.out.turns ht (fun e => hRg e))
        replace hsz := Nat.le_trans hsz ht.size
        replace hB := hB.trans (ht.below hB.size (fun b hb => by rw [hb]; exact hgB))
        replace hS := Lib.hid (HBX.out.cell 0)
        refine ⟨_, rfl, fun _ => hS.out, ?_⟩
        simp only [List.setIfInBounds_toArray, List.set_cons_zero, List.set_cons_succ]
        clear hg ht hc
        refine R_all (rs := [6, 13]) (by kernel_rfl) (by simp) (fun i hi => ?_)
        simp only [List.mem_cons, List.not_mem_nil, or_false] at hi
        rcases hi with rfl | rfl
        · skip
          have hc := rd_num r.bytes g 9 4 v2 (by omega) (by omega) (by omega) (by omega) HG.out
          rw [Sp.Rw.at_page1 r hmay] at hc
          refine op_call 20 (w' := v2) rfl rfl (by rfl) ?_ hc ?_
          · go_simp
          rintro e v3 ⟨rfl, hg, ht⟩
          replace HG := Lib.hid hg
          replace HBX := Lib.hid (HBX.out.turns ht (fun e => hne e))
          replace HR := Lib.hid (HR.out.turns ht (fun e => hRg e))
          replace hsz := Nat.le_trans hsz ht.size
          replace hB := hB.trans (ht.below hB.size (fun b hb => by rw [hb]; exact hgB))
          replace hS := Lib.hid (HBX.out.cell 0)
          refine ⟨_, rfl, fun _ => hS.out, ?_⟩
          simp only [List.setIfInBounds_toArray, List.set_cons_zero, List.set_cons_succ]
          clear hg ht hc
          refine R_take 7 21 (v := ?_) rfl rfl (by rfl) (by kernel_rfl) (fun _ _ _ h => h) hS.out ?_ ?_
          rotate_left
          · intro w hSw; (try dsimp only at hSw); go_simp; (try with_reducible rfl)
          simp only [List.setIfInBounds_toArray, List.set_cons_zero, List.set_cons_succ]
          refine R_all (rs := [9, 13]) (by kernel_rfl) (by simp) (fun i hi => ?_)
          simp only [List.mem_cons, List.not_mem_nil, or_false] at hi
          rcases hi with rfl | rfl
          · skip
            have hc := rd_num r.bytes g 13 2 v3 (by omega) (by omega) (by omega) (by omega) HG.out
            rw [Sp.Rw.at_slot1 r hwf] at hc
            refine op_call 23 (w' := v3) rfl rfl (by rfl) ?_ hc ?_
            · go_simp
            rintro e v4 ⟨rfl, hg, ht⟩
            replace HG := Lib.hid hg
            replace HBX := Lib.hid (HBX.out.turns ht (fun e => hne e))
            replace HR := Lib.hid (HR.out.turns ht (fun e => hRg e))
            replace hsz := Nat.le_trans hsz ht.size
            replace hB := hB.trans (ht.below hB.size (fun b hb => by rw [hb]; exact hgB))
            replace hS := Lib.hid (HBX.out.cell 0)
            refine ⟨_, rfl, fun _ => hS.out, ?_⟩
            simp only [List.setIfInBounds_toArray, List.set_cons_zero, List.set_cons_succ]
            clear hg ht hc
            refine R_take 10 24 (v := ?_) rfl rfl (by rfl) (by kernel_rfl) (fun _ _ _ h => h) hS.out ?_ ?_
            rotate_left
            · intro w hSw; (try dsimp only at hSw); go_simp; (try with_reducible rfl)
            simp only [List.setIfInBounds_toArray, List.set_cons_zero, List.set_cons_succ]
            refine R_take 11 25 (v := ?_) rfl rfl (by rfl) (by kernel_rfl) (fun _ _ _ h => h) hS.out ?_ ?_
            rotate_left
            · intro w hSw; (try dsimp only at hSw); go_simp; (try with_reducible rfl)
            simp only [List.setIfInBounds_toArray, List.set_cons_zero, List.set_cons_succ]
            refine R_take 12 26 (v := ?_) rfl rfl (by rfl) (by kernel_rfl) (fun _ _ _ h => h) hS.out ?_ ?_
            rotate_left
            · intro w hSw; (try dsimp only at hSw); go_simp; (try with_reducible rfl)
            simp only [List.setIfInBounds_toArray, List.set_cons_zero, List.set_cons_succ]
            refine R_run 13 6 (v := ptr v4.heap.size) (w' := v4.alloc (.cells #[str [], .bool false, .int .u64 0, .int .u32 0, .int .u16 0, str [], .int .i64 0] 43)) rfl rfl (by rfl) (by kernel_rfl) ?_ (fun _ => (HBX.out.alloc _).cell 0) ?_
            · first | (go_simp; done) | (go_simp; rfl)
            simp only [List.setIfInBounds_toArray, List.set_cons_zero, List.set_cons_succ]
            have hgl := HG.out.lt
            have hbl := HBX.out.lt
            have hrl := HR.out.lt
            have hal : v4.heap.size < (v4.alloc (.cells #[str [], .bool false, .int .u64 0, .int .u32 0, .int .u16 0, str [], .int .i64 0] 43)).heap.size := by simp
            have hal2 : v4.heap.size ≤ (v4.alloc (.cells #[str [], .bool false, .int .u64 0, .int .u32 0, .int .u16 0, str [], .int .i64 0] 43)).heap.size := by simp
            have HN := Blk.new v4 43 #[str [], .bool false, .int .u64 0, .int .u32 0, .int .u16 0, str [], .int .i64 0]
            replace HG := HG.out.alloc (.cells #[str [], .bool false, .int .u64 0, .int .u32 0, .int .u16 0, str [], .int .i64 0] 43)
            replace HBX := HBX.out.alloc (.cells #[str [], .bool false, .int .u64 0, .int .u32 0, .int .u16 0, str [], .int .i64 0] 43)
            replace HR := HR.out.alloc (.cells #[str [], .bool false, .int .u64 0, .int .u32 0, .int .u16 0, str [], .int .i64 0] 43)
            replace hB := hB.alloc hB.size (.cells #[str [], .bool false, .int .u64 0, .int .u32 0, .int .u16 0, str [], .int .i64 0] 43)
            obtain ⟨g6, hg6⟩ : ∃ x, x = v4.heap.size := ⟨_, rfl⟩
            obtain ⟨v5, hw5⟩ : ∃ x, x = v4.alloc (.cells #[str [], .bool false, .int .u64 0, .int .u32 0, .int .u16 0, str [], .int .i64 0] 43) := ⟨_, rfl⟩
            rw [← hw5, ← hg6] at HN ⊢
            rw [← hw5] at HG HBX HR hB hal hal2
            rw [← hg6] at hgl hbl hrl hal hal2
            have hNg : g6 ≠ g := by omega
            have hNb : g6 ≠ gb := by omega
            have hNR : g6 ≠ gR := by omega
            have hNl : w.heap.size ≤ g6 := by omega
            replace hsz : w.heap.size ≤ v5.heap.size := by omega
            replace HN := Lib.hid HN
            replace HG := Lib.hid HG
            replace HBX := Lib.hid HBX
            replace HR := Lib.hid HR
            replace hS := Lib.hid (HBX.out.cell 0)
            clear hw5 hg6 hgl hbl hrl hal hal2
            have HNs := HN.out
            refine R_store 14 (n := .skip) (w' := v5.setRow g6 #[str [], .bool r.mark, .int .u64 r.tx, .int .u32 r.page, .int .u16 r.slot, str [], .int .i64 0]) rfl rfl (by rfl) (by kernel_rfl) ?_ (.inl rfl) (fun _ => (HBX.out.keep (heap_setRow_other _ _ _ _ (Ne.symm hNb))).cell 0) ?_
            · exact run_op_store _ _ _ _ _ rfl rfl rfl (row_store HNs (row_one _ _ _ _ _ _ _))
            replace HG := Lib.hid (HG.out.keep (heap_setRow_other v5 g6 g #[str [], .bool r.mark, .int .u64 r.tx, .int .u32 r.page, .int .u16 r.slot, str [], .int .i64 0] (Ne.symm hNg)))
            replace HBX := Lib.hid (HBX.out.keep (heap_setRow_other v5 g6 gb #[str [], .bool r.mark, .int .u64 r.tx, .int .u32 r.page, .int .u16 r.slot, str [], .int .i64 0] (Ne.symm hNb)))
            replace HR := Lib.hid (HR.out.keep (heap_setRow_other v5 g6 gR #[str [], .bool r.mark, .int .u64 r.tx, .int .u32 r.page, .int .u16 r.slot, str [], .int .i64 0] (Ne.symm hNR)))
            replace HN := Lib.hid (HN.out.setRow #[str [], .bool r.mark, .int .u64 r.tx, .int .u32 r.page, .int .u16 r.slot, str [], .int .i64 0])
            replace hB := below_setRow hB hNl #[str [], .bool r.mark, .int .u64 r.tx, .int .u32 r.page, .int .u16 r.slot, str [], .int .i64 0]
            replace hS := Lib.hid (HBX.out.cell 0)
            refine R_done (by kernel_rfl) ?_ _
            rename_i K9 hK9
            refine hK9 _ _ ?_
            clear hK9
            go_meet
            exact ⟨_, rfl, HG.out, HBX.out, HR.out, HN.out, hNg, hNb, hNR, hNl, hB⟩
          · skip
            refine op_run 6 (v := ptr v3.heap.size) (w' := v3.alloc (.cells #[str [], .bool false, .int .u64 0, .int .u32 0, .int .u16 0, str [], .int .i64 0] 43)) rfl rfl (by rfl) ?_ ⟨fun _ => (HBX.out.alloc _).cell 0, ?_⟩
            · first | (go_simp; done) | (go_simp; rfl)
            simp only [List.setIfInBounds_toArray, List.set_cons_zero, List.set_cons_succ]
            have hgl := HG.out.lt
            have hbl := HBX.out.lt
            have hrl := HR.out.lt
            have hal : v3.heap.size < (v3.alloc (.cells #[str [], .bool false, .int .u64 0, .int .u32 0, .int .u16 0, str [], .int .i64 0] 43)).heap.size := by simp
            have hal2 : v3.heap.size ≤ (v3.alloc (.cells #[str [], .bool false, .int .u64 0, .int .u32 0, .int .u16 0, str [], .int .i64 0] 43)).heap.size := by simp
            have HN := Blk.new v3 43 #[str [], .bool false, .int .u64 0, .int .u32 0, .int .u16 0, str [], .int .i64 0]
            replace HG := HG.out.alloc (.cells #[str [], .bool false, .int .u64 0, .int .u32 0, .int .u16 0, str [], .int .i64 0] 43)
            replace HBX := HBX.out.alloc (.cells #[str [], .bool false, .int .u64 0, .int .u32 0, .int .u16 0, str [], .int .i64 0] 43)
            replace HR := HR.out.alloc (.cells #[str [], .bool false, .int .u64 0, .int .u32 0, .int .u16 0, str [], .int .i64 0] 43)
            replace hB := hB.alloc hB.size (.cells #[str [], .bool false, .int .u64 0, .int .u32 0, .int .u16 0, str [], .int .i64 0] 43)
            obtain ⟨g6, hg6⟩ : ∃ x, x = v3.heap.size := ⟨_, rfl⟩
            obtain ⟨v5, hw5⟩ : ∃ x, x = v3.alloc (.cells #[str [], .bool false, .int .u64 0, .int .u32 0, .int .u16 0, str [], .int .i64 0] 43) := ⟨_, rfl⟩
            rw [← hw5, ← hg6] at HN ⊢
            rw [← hw5] at HG HBX HR hB hal hal2
            rw [← hg6] at hgl hbl hrl hal hal2
            have hNg : g6 ≠ g := by omega
            have hNb : g6 ≠ gb := by omega
            have hNR : g6 ≠ gR := by omega
            have hNl : w.heap.size ≤ g6 := by omega
            replace hsz : w.heap.size ≤ v5.heap.size := by omega
            replace HN := Lib.hid HN
            replace HG := Lib.hid HG
            replace HBX := Lib.hid HBX
            replace HR := Lib.hid HR
            replace hS := Lib.hid (HBX.out.cell 0)
            clear hw5 hg6 hgl hbl hrl hal hal2
            have hc := rd_num r.bytes g 13 2 v5 (by omega) (by omega) (by omega) (by omega) HG.out
            rw [Sp.Rw.at_slot1 r hwf] at hc
            refine R_call 9 23 (w' := v5) rfl rfl (by rfl) (by kernel_rfl) ?_ hc ?_
            · go_simp
            rintro e v4 ⟨rfl, hg, ht⟩
            replace HN := Lib.hid (HN.out.turns ht (fun e => hNg e))
            replace HG := Lib.hid hg
            replace HBX := Lib.hid (HBX.out.turns ht (fun e => hne e))
            replace HR := Lib.hid (HR.out.turns ht (fun e => hRg e))
            replace hsz := Nat.le_trans hsz ht.size
            replace hB := hB.trans (ht.below hB.size (fun b hb => by rw [hb]; exact hgB))
            replace hS := Lib.hid (HBX.out.cell 0)
            refine ⟨_, rfl, fun _ => hS.out, ?_⟩
            simp only [List.setIfInBounds_toArray, List.set_cons_zero, List.set_cons_succ]
            clear hg ht hc
            refine R_take 10 24 (v := ?_) rfl rfl (by rfl) (by kernel_rfl) (fun _ _ _ h => h) hS.out ?_ ?_
            rotate_left
            · intro w hSw; (try dsimp only at hSw); go_simp; (try with_reducible rfl)
            simp only [List.setIfInBounds_toArray, List.set_cons_zero, List.set_cons_succ]
            refine R_take 11 25 (v := ?_) rfl rfl (by rfl) (by kernel_rfl) (fun _ _ _ h => h) hS.out ?_ ?_
            rotate_left
            · intro w hSw; (try dsimp only at hSw); go_simp; (try with_reducible rfl)
            simp only [List.setIfInBounds_toArray, List.set_cons_zero, List.set_cons_succ]
            refine R_take 12 26 (v := ?_) rfl rfl (by rfl) (by kernel_rfl) (fun _ _ _ h => h) hS.out ?_ ?_
            rotate_left
            · intro w hSw; (try dsimp only at hSw); go_simp; (try with_reducible rfl)
            simp only [List.setIfInBounds_toArray, List.set_cons_zero, List.set_cons_succ]
            have HNs := HN.out
            refine R_store 14 (n := .skip) (w' := v4.setRow g6 #[str [], .bool r.mark, .int .u64 r.tx, .int .u32 r.page, .int .u16 r.slot, str [], .int .i64 0]) rfl rfl (by rfl) (by kernel_rfl) ?_ (.inl rfl) (fun _ => (HBX.out.keep (heap_setRow_other _ _ _ _ (Ne.symm hNb))).cell 0) ?_
            · exact run_op_store _ _ _ _ _ rfl rfl rfl (row_store HNs (row_one _ _ _ _ _ _ _))
            replace HG := Lib.hid (HG.out.keep (heap_setRow_other v4 g6 g #[str [], .bool r.mark, .int .u64 r.tx, .int .u32 r.page, .int .u16 r.slot, str [], .int .i64 0] (Ne.symm hNg)))
            replace HBX := Lib.hid (HBX.out.keep (heap_setRow_other v4 g6 gb #[str [], .bool r.mark, .int .u64 r.tx, .int .u32 r.page, .int .u16 r.slot, str [], .int .i64 0] (Ne.symm hNb)))
            replace HR := Lib.hid (HR.out.keep (heap_setRow_other v4 g6 gR #[str [], .bool r.mark, .int .u64 r.tx, .int .u32 r.page, .int .u16 r.slot, str [], .int .i64 0] (Ne.symm hNR)))
            replace HN := Lib.hid (HN.out.setRow #[str [], .bool r.mark, .int .u64 r.tx, .int .u32 r.page, .int .u16 r.slot, str [], .int .i64 0])
            replace hB := below_setRow hB hNl #[str [], .bool r.mark, .int .u64 r.tx, .int .u32 r.page, .int .u16 r.slot, str [], .int .i64 0]
            replace hS := Lib.hid (HBX.out.cell 0)
            refine R_done (by kernel_rfl) ?_ _
            rename_i K9 hK9
            refine hK9 _ _ ?_
            clear hK9
            go_meet
            exact ⟨_, rfl, HG.out, HBX.out, HR.out, HN.out, hNg, hNb, hNR, hNl, hB⟩
        · skip
          refine op_run 6 (v := ptr v2.heap.size) (w' := v2.alloc (.cells #[str [], .bool false, .int .u64 0, .int .u32 0, .int .u16 0, str [], .int .i64 0] 43)) rfl rfl (by rfl) ?_ ⟨fun _ => (HBX.out.alloc _).cell 0, ?_⟩
          · first | (go_simp; done) | (go_simp; rfl)
          simp only [List.setIfInBounds_toArray, List.set_cons_zero, List.set_cons_succ]
          have hgl := HG.out.lt
          have hbl := HBX.out.lt
          have hrl := HR.out.lt
          have hal : v2.heap.size < (v2.alloc (.cells #[str [], .bool false, .int .u64 0, .int .u32 0, .int .u16 0, str [], .int .i64 0] 43)).heap.size := by simp
          have hal2 : v2.heap.size ≤ (v2.alloc (.cells #[str [], .bool false, .int .u64 0, .int .u32 0, .int .u16 0, str [], .int .i64 0] 43)).heap.size := by simp
          have HN := Blk.new v2 43 #[str [], .bool false, .int .u64 0, .int .u32 0, .int .u16 0, str [], .int .i64 0]
          replace HG := HG.out.alloc (.cells #[str [], .bool false, .int .u64 0, .int .u32 0, .int .u16 0, str [], .int .i64 0] 43)
          replace HBX := HBX.out.alloc (.cells #[str [], .bool false, .int .u64 0, .int .u32 0, .int .u16 0, str [], .int .i64 0] 43)
          replace HR := HR.out.alloc (.cells #[str [], .bool false, .int .u64 0, .int .u32 0, .int .u16 0, str [], .int .i64 0] 43)
          replace hB := hB.alloc hB.size (.cells #[str [], .bool false, .int .u64 0, .int .u32 0, .int .u16 0, str [], .int .i64 0] 43)
          obtain ⟨g6, hg6⟩ : ∃ x, x = v2.heap.size := ⟨_, rfl⟩
          obtain ⟨v5, hw5⟩ : ∃ x, x = v2.alloc (.cells #[str [], .bool false, .int .u64 0, .int .u32 0, .int .u16 0, str [], .int .i64 0] 43) := ⟨_, rfl⟩
          rw [← hw5, ← hg6] at HN ⊢
          rw [← hw5] at HG HBX HR hB hal hal2
          rw [← hg6] at hgl hbl hrl hal hal2
          have hNg : g6 ≠ g := by omega
          have hNb : g6 ≠ gb := by omega
          have hNR : g6 ≠ gR := by omega
          have hNl : w.heap.size ≤ g6 := by omega
          replace hsz : w.heap.size ≤ v5.heap.size := by omega
          replace HN := Lib.hid HN
          replace HG := Lib.hid HG
          replace HBX := Lib.hid HBX
          replace HR := Lib.hid HR
          replace hS := Lib.hid (HBX.out.cell 0)
          clear hw5 hg6 hgl hbl hrl hal hal2
          have hc := rd_num r.bytes g 9 4 v5 (by omega) (by omega) (by omega) (by omega) HG.out
          rw [Sp.Rw.at_page1 r hmay] at hc
          refine R_call 6 20 (w' := v5) rfl rfl (by rfl) (by kernel_rfl) ?_ hc ?_
          · go_simp
          rintro e v3 ⟨rfl, hg, ht⟩
          replace HN := Lib.hid (HN.out.turns ht (fun e => hNg e))
          replace HG := Lib.hid hg
          replace HBX := Lib.hid (HBX.out.turns ht (fun e => hne e))
          replace HR := Lib.hid (HR.out.turns ht (fun e => hRg e))
          replace hsz := Nat.le_trans hsz ht.size
          replace hB := hB.trans (ht.below hB.size (fun b hb => by rw [hb]; exact hgB))
          replace hS := Lib.hid (HBX.out.cell 0)
          refine ⟨_, rfl, fun _ => hS.out, ?_⟩
          simp only [List.setIfInBounds_toArray, List.set_cons_zero, List.set_cons_succ]
          clear hg ht hc
          refine R_take 7 21 (v := ?_) rfl rfl (by rfl) (by kernel_rfl) (fun _ _ _ h => h) hS.out ?_ ?_
          rotate_left
          · intro w hSw; (try dsimp only at hSw); go_simp; (try with_reducible rfl)
          simp only [List.setIfInBounds_toArray, List.set_cons_zero, List.set_cons_succ]
          have hc := rd_num r.bytes g 13 2 v3 (by omega) (by omega) (by omega) (by omega) HG.out
          rw [Sp.Rw.at_slot1 r hwf] at hc
          refine R_call 9 23 (w' := v3) rfl rfl (by rfl) (by kernel_rfl) ?_ hc ?_
          · go_simp
          rintro e v4 ⟨rfl, hg, ht⟩
          replace HN := Lib.hid (HN.out.turns ht (fun e => hNg e))
          replace HG := Lib.hid hg
          replace HBX := Lib.hid (HBX.out.turns ht (fun e => hne e))
          replace HR := Lib.hid (HR.out.turns ht (fun e => hRg e))
          replace hsz := Nat.le_trans hsz ht.size
          replace hB := hB.trans (ht.below hB.size (fun b hb => by rw [hb]; exact hgB))
          replace hS := Lib.hid (HBX.out.cell 0)
          refine ⟨_, rfl, fun _ => hS.out, ?_⟩
          simp only [List.setIfInBounds_toArray, List.set_cons_zero, List.set_cons_succ]
          clear hg ht hc
          refine R_take 10 24 (v := ?_) rfl rfl (by rfl) (by kernel_rfl) (fun _ _ _ h => h) hS.out ?_ ?_
          rotate_left
          · intro w hSw; (try dsimp only at hSw); go_simp; (try with_reducible rfl)
          simp only [List.setIfInBounds_toArray, List.set_cons_zero, List.set_cons_succ]
          refine R_take 11 25 (v := ?_) rfl rfl (by rfl) (by kernel_rfl) (fun _ _ _ h => h) hS.out ?_ ?_
          rotate_left
          · intro w hSw; (try dsimp only at hSw); go_simp; (try with_reducible rfl)
          simp only [List.setIfInBounds_toArray, List.set_cons_zero, List.set_cons_succ]
          refine R_take 12 26 (v := ?_) rfl rfl (by rfl) (by kernel_rfl) (fun _ _ _ h => h) hS.out ?_ ?_
          rotate_left
          · intro w hSw; (try dsimp only at hSw); go_simp; (try with_reducible rfl)
          simp only [List.setIfInBounds_toArray, List.set_cons_zero, List.set_cons_succ]
          have HNs := HN.out
          refine R_store 14 (n := .skip) (w' := v4.setRow g6 #[str [], .bool r.mark, .int .u64 r.tx, .int .u32 r.page, .int .u16 r.slot, str [], .int .i64 0]) rfl rfl (by rfl) (by kernel_rfl) ?_ (.inl rfl) (fun _ => (HBX.out.keep (heap_setRow_other _ _ _ _ (Ne.symm hNb))).cell 0) ?_
          · exact run_op_store _ _ _ _ _ rfl rfl rfl (row_store HNs (row_one _ _ _ _ _ _ _))
          replace HG := Lib.hid (HG.out.keep (heap_setRow_other v4 g6 g #[str [], .bool r.mark, .int .u64 r.tx, .int .u32 r.page, .int .u16 r.slot, str [], .int .i64 0] (Ne.symm hNg)))
          replace HBX := Lib.hid (HBX.out.keep (heap_setRow_other v4 g6 gb #[str [], .bool r.mark, .int .u64 r.tx, .int .u32 r.page, .int .u16 r.slot, str [], .int .i64 0] (Ne.symm hNb)))
          replace HR := Lib.hid (HR.out.keep (heap_setRow_other v4 g6 gR #[str [], .bool r.mark, .int .u64 r.tx, .int .u32 r.page, .int .u16 r.slot, str [], .int .i64 0] (Ne.symm hNR)))
          replace HN := Lib.hid (HN.out.setRow #[str [], .bool r.mark, .int .u64 r.tx, .int .u32 r.page, .int .u16 r.slot, str [], .int .i64 0])
          replace hB := below_setRow hB hNl #[str [], .bool r.mark, .int .u64 r.tx, .int .u32 r.page, .int .u16 r.slot, str [], .int .i64 0]
          replace hS := Lib.hid (HBX.out.cell 0)
          refine R_done (by kernel_rfl) ?_ _
          rename_i K9 hK9
          refine hK9 _ _ ?_
          clear hK9
          go_meet
          exact ⟨_, rfl, HG.out, HBX.out, HR.out, HN.out, hNg, hNb, hNR, hNl, hB⟩
      · skip
        refine op_run 6 (v := ptr v1.heap.size) (w' := v1.alloc (.cells #[str [], .bool false, .int .u64 0, .int .u32 0, .int .u16 0, str [], .int .i64 0] 43)) rfl rfl (by rfl) ?_ ⟨fun _ => (HBX.out.alloc _).cell 0, ?_⟩
        · first | (go_simp; done) | (go_simp; rfl)
        simp only [List.setIfInBounds_toArray, List.set_cons_zero, List.set_cons_succ]
        have hgl := HG.out.lt
        have hbl := HBX.out.lt
        have hrl := HR.out.lt
        have hal : v1.heap.size < (v1.alloc (.cells #[str [], .bool false, .int .u64 0, .int .u32 0, .int .u16 0, str [], .int .i64 0] 43)).heap.size := by simp
        have hal2 : v1.heap.size ≤ (v1.alloc (.cells #[str [], .bool false, .int .u64 0, .int .u32 0, .int .u16 0, str [], .int .i64 0] 43)).heap.size := by simp
        have HN := Blk.new v1 43 #[str [], .bool false, .int .u64 0, .int .u32 0, .int .u16 0, str [], .int .i64 0]
        replace HG := HG.out.alloc (.cells #[str [], .bool false, .int .u64 0, .int .u32 0, .int .u16 0, str [], .int .i64 0] 43)
        replace HBX := HBX.out.alloc (.cells #[str [], .bool false, .int .u64 0, .int .u32 0, .int .u16 0, str [], .int .i64 0] 43)
        replace HR := HR.out.alloc (.cells #[str [], .bool false, .int .u64 0, .int .u32 0, .int .u16 0, str [], .int .i64 0] 43)
        replace hB := hB.alloc hB.size (.cells #[str [], .bool false, .int .u64 0, .int .u32 0, .int .u16 0, str [], .int .i64 0] 43)
        obtain ⟨g6, hg6⟩ : ∃ x, x = v1.heap.size := ⟨_, rfl⟩
        obtain ⟨v5, hw5⟩ : ∃ x, x = v1.alloc (.cells #[str [], .bool false, .int .u64 0, .int .u32 0, .int .u16 0, str [], .int .i64 0] 43) := ⟨_, rfl⟩
        rw [← hw5, ← hg6] at HN ⊢
        rw [← hw5] at HG HBX HR hB hal hal2
        rw [← hg6] at hgl hbl hrl hal hal2
        have hNg : g6 ≠ g := by omega
        have hNb : g6 ≠ gb := by omega
        have hNR : g6 ≠ gR := by omega
        have hNl : w.heap.size ≤ g6 := by omega
        replace hsz : w.heap.size ≤ v5.heap.size := by omega
        replace HN := Lib.hid HN
        replace HG := Lib.hid HG
        replace HBX := Lib.hid HBX
        replace HR := Lib.hid HR
        replace hS := Lib.hid (HBX.out.cell 0)
        clear hw5 hg6 hgl hbl hrl hal hal2
        have hc := rd_num r.bytes g 1 8 v5 (by omega) (by omega) (by omega) (by omega) HG.out
        rw [Sp.Rw.at_tx1 r hwf] at hc
        refine R_call 4 18 (w' := v5) rfl rfl (by rfl) (by kernel_rfl) ?_ hc ?_
        · go_simp
        rintro e v2 ⟨rfl, hg, ht⟩
        replace HN := Lib.hid (HN.out.turns ht (fun e => hNg e))
        replace HG := Lib.hid hg
        replace HBX := Lib.hid (HBX.out.turns ht (fun e => hne e))
        replace HR := Lib.hid (HR.out.turns ht (fun e => hRg e))
        replace hsz := Nat.le_trans hsz ht.size
        replace hB := hB.trans (ht.below hB.size (fun b hb => by rw [hb]; exact hgB))
        replace hS := Lib.hid (HBX.out.cell 0)
        refine ⟨_, rfl, fun _ => hS.out, ?_⟩
        simp only [List.setIfInBounds_toArray, List.set_cons_zero, List.set_cons_succ]
        clear hg ht hc
        have hc := rd_num r.bytes g 9 4 v2 (by omega) (by omega) (by omega) (by omega) HG.out
        rw [Sp.Rw.at_page1 r hmay] at hc
        refine R_call 6 20 (w' := v2) rfl rfl (by rfl) (by kernel_rfl) ?_ hc ?_
        · go_simp
        rintro e v3 ⟨rfl, hg, ht⟩
        replace HN := Lib.hid (HN.out.turns ht (fun e => hNg e))
        replace HG := Lib.hid hg
        replace HBX := Lib.hid (HBX.out.turns ht (fun e => hne e))
        replace HR := Lib.hid (HR.out.turns ht (fun e => hRg e))
        replace hsz := Nat.le_trans hsz ht.size
        replace hB := hB.trans (ht.below hB.size (fun b hb => by rw [hb]; exact hgB))
        replace hS := Lib.hid (HBX.out.cell 0)
        refine ⟨_, rfl, fun _ => hS.out, ?_⟩
        simp only [List.setIfInBounds_toArray, List.set_cons_zero, List.set_cons_succ]
        clear hg ht hc
        refine R_take 7 21 (v := ?_) rfl rfl (by rfl) (by kernel_rfl) (fun _ _ _ h => h) hS.out ?_ ?_
        rotate_left
        · intro w hSw; (try dsimp only at hSw); go_simp; (try with_reducible rfl)
        simp only [List.setIfInBounds_toArray, List.set_cons_zero, List.set_cons_succ]
        have hc := rd_num r.bytes g 13 2 v3 (by omega) (by omega) (by omega) (by omega) HG.out
        rw [Sp.Rw.at_slot1 r hwf] at hc
        refine R_call 9 23 (w' := v3) rfl rfl (by rfl) (by kernel_rfl) ?_ hc ?_
        · go_simp
        rintro e v4 ⟨rfl, hg, ht⟩
        replace HN := Lib.hid (HN.out.turns ht (fun e => hNg e))
        replace HG := Lib.hid hg
        replace HBX := Lib.hid (HBX.out.turns ht (fun e => hne e))
        replace HR := Lib.hid (HR.out.turns ht (fun e => hRg e))
        replace hsz := Nat.le_trans hsz ht.size
        replace hB := hB.trans (ht.below hB.size (fun b hb => by rw [hb]; exact hgB))
        replace hS := Lib.hid (HBX.out.cell 0)
        refine ⟨_, rfl, fun _ => hS.out, ?_⟩
        simp only [List.setIfInBounds_toArray, List.set_cons_zero, List.set_cons_succ]
        clear hg ht hc
        refine R_take 10 24 (v := ?_) rfl rfl (by rfl) (by kernel_rfl) (fun _ _ _ h => h) hS.out ?_ ?_
        rotate_left
        · intro w hSw; (try dsimp only at hSw); go_simp; (try with_reducible rfl)
        simp only [List.setIfInBounds_toArray, List.set_cons_zero, List.set_cons_succ]
        refine R_take 11 25 (v := ?_) rfl rfl (by rfl) (by kernel_rfl) (fun _ _ _ h => h) hS.out ?_ ?_
        rotate_left
        · intro w hSw; (try dsimp only at hSw); go_simp; (try with_reducible rfl)
        simp only [List.setIfInBounds_toArray, List.set_cons_zero, List.set_cons_succ]
        refine R_take 12 26 (v := ?_) rfl rfl (by rfl) (by kernel_rfl) (fun _ _ _ h => h) hS.out ?_ ?_
        rotate_left
        · intro w hSw; (try dsimp only at hSw); go_simp; (try with_reducible rfl)
        simp only [List.setIfInBounds_toArray, List.set_cons_zero, List.set_cons_succ]
        have HNs := HN.out
        refine R_store 14 (n := .skip) (w' := v4.setRow g6 #[str [], .bool r.mark, .int .u64 r.tx, .int .u32 r.page, .int .u16 r.slot, str [], .int .i64 0]) rfl rfl (by rfl) (by kernel_rfl) ?_ (.inl rfl) (fun _ => (HBX.out.keep (heap_setRow_other _ _ _ _ (Ne.symm hNb))).cell 0) ?_
        · exact run_op_store _ _ _ _ _ rfl rfl rfl (row_store HNs (row_one _ _ _ _ _ _ _))
        replace HG := Lib.hid (HG.out.keep (heap_setRow_other v4 g6 g #[str [], .bool r.mark, .int .u64 r.tx, .int .u32 r.page, .int .u16 r.slot, str [], .int .i64 0] (Ne.symm hNg)))
        replace HBX := Lib.hid (HBX.out.keep (heap_setRow_other v4 g6 gb #[str [], .bool r.mark, .int .u64 r.tx, .int .u32 r.page, .int .u16 r.slot, str [], .int .i64 0] (Ne.symm hNb)))
        replace HR := Lib.hid (HR.out.keep (heap_setRow_other v4 g6 gR #[str [], .bool r.mark, .int .u64 r.tx, .int .u32 r.page, .int .u16 r.slot, str [], .int .i64 0] (Ne.symm hNR)))
        replace HN := Lib.hid (HN.out.setRow #[str [], .bool r.mark, .int .u64 r.tx, .int .u32 r.page, .int .u16 r.slot, str [], .int .i64 0])
        replace hB := below_setRow hB hNl #[str [], .bool r.mark, .int .u64 r.tx, .int .u32 r.page, .int .u16 r.slot, str [], .int .i64 0]
        replace hS := Lib.hid (HBX.out.cell 0)
        refine R_done (by kernel_rfl) ?_ _
        rename_i K9 hK9
        refine hK9 _ _ ?_
        clear hK9
        go_meet
        exact ⟨_, rfl, HG.out, HBX.out, HR.out, HN.out, hNg, hNb, hNR, hNl, hB⟩
    · skip
      refine op_run 6 (v := ptr w1.drew.heap.size) (w' := w1.drew.alloc (.cells #[str [], .bool false, .int .u64 0, .int .u32 0, .int .u16 0, str [], .int .i64 0] 43)) rfl rfl (by rfl) ?_ ⟨fun _ => (HBX.out.alloc _).cell 0, ?_⟩
      · first | (go_simp; done) | (go_simp; rfl)
      simp only [List.setIfInBounds_toArray, List.set_cons_zero, List.set_cons_succ]
      have hgl := HG.out.lt
      have hbl := HBX.out.lt
      have hrl := HR.out.lt
      have hal : w1.drew.heap.size < (w1.drew.alloc (.cells #[str [], .bool false, .int .u64 0, .int .u32 0, .int .u16 0, str [], .int .i64 0] 43)).heap.size := by simp
      have hal2 : w1.drew.heap.size ≤ (w1.drew.alloc (.cells #[str [], .bool false, .int .u64 0, .int .u32 0, .int .u16 0, str [], .int .i64 0] 43)).heap.size := by simp
      have HN := Blk.new w1.drew 43 #[str [], .bool false, .int .u64 0, .int .u32 0, .int .u16 0, str [], .int .i64 0]
      replace HG := HG.out.alloc (.cells #[str [], .bool false, .int .u64 0, .int .u32 0, .int .u16 0, str [], .int .i64 0] 43)
      replace HBX := HBX.out.alloc (.cells #[str [], .bool false, .int .u64 0, .int .u32 0, .int .u16 0, str [], .int .i64 0] 43)
      replace HR := HR.out.alloc (.cells #[str [], .bool false, .int .u64 0, .int .u32 0, .int .u16 0, str [], .int .i64 0] 43)
      replace hB := hB.alloc hB.size (.cells #[str [], .bool false, .int .u64 0, .int .u32 0, .int .u16 0, str [], .int .i64 0] 43)
      obtain ⟨g6, hg6⟩ : ∃ x, x = w1.drew.heap.size := ⟨_, rfl⟩
      obtain ⟨v5, hw5⟩ : ∃ x, x = w1.drew.alloc (.cells #[str [], .bool false, .int .u64 0, .int .u32 0, .int .u16 0, str [], .int .i64 0] 43) := ⟨_, rfl⟩
      rw [← hw5, ← hg6] at HN ⊢
      rw [← hw5] at HG HBX HR hB hal hal2
      rw [← hg6] at hgl hbl hrl hal hal2
      have hNg : g6 ≠ g := by omega
      have hNb : g6 ≠ gb := by omega
      have hNR : g6 ≠ gR := by omega
      have hNl : w.heap.size ≤ g6 := by omega
      replace hsz : w.heap.size ≤ v5.heap.size := by omega
      replace HN := Lib.hid HN
      replace HG := Lib.hid HG
      replace HBX := Lib.hid HBX
      replace HR := Lib.hid HR
      replace hS := Lib.hid (HBX.out.cell 0)
      clear hw5 hg6 hgl hbl hrl hal hal2
      have hc := rd_num r.bytes g 0 1 v5 (by omega) (by omega) (by omega) (by omega) HG.out
      rw [Sp.Rw.at_mark1 r] at hc
      refine R_call 1 15 (w' := v5) rfl rfl (by rfl) (by kernel_rfl) ?_ hc ?_
      · go_simp
      rintro e v1 ⟨rfl, hg, ht⟩
      replace HN := Lib.hid (HN.out.turns ht (fun e => hNg e))
      replace HG := Lib.hid hg
      replace HBX := Lib.hid (HBX.out.turns ht (fun e => hne e))
      replace HR := Lib.hid (HR.out.turns ht (fun e => hRg e))
      replace hsz := Nat.le_trans hsz ht.size
      replace hB := hB.trans (ht.below hB.size (fun b hb => by rw [hb]; exact hgB))
      replace hS := Lib.hid (HBX.out.cell 0)
      refine ⟨_, rfl, fun _ => hS.out, ?_⟩
      simp only [List.setIfInBounds_toArray, List.set_cons_zero, List.set_cons_succ]
      clear hg ht hc
      refine R_take 2 16 (v := ?_) rfl rfl (by rfl) (by kernel_rfl) (fun _ _ _ h => h) hS.out ?_ ?_
      rotate_left
      · intro w hSw; (try dsimp only at hSw); go_simp; (try with_reducible rfl)
      simp only [List.setIfInBounds_toArray, List.set_cons_zero, List.set_cons_succ]
      have hc := rd_num r.bytes g 1 8 v1 (by omega) (by omega) (by omega) (by omega) HG.out
      rw [Sp.Rw.at_tx1 r hwf] at hc
      refine R_call 4 18 (w' := v1) rfl rfl (by rfl) (by kernel_rfl) ?_ hc ?_
      · go_simp
      rintro e v2 ⟨rfl, hg, ht⟩
      replace HN := Lib.hid (HN.out.turns ht (fun e => hNg e))
      replace HG := Lib.hid hg
      replace HBX := Lib.hid (HBX.out.turns ht (fun e => hne e))
      replace HR := Lib.hid (HR.out.turns ht (fun e => hRg e))
      replace hsz := Nat.le_trans hsz ht.size
      replace hB := hB.trans (ht.below hB.size (fun b hb => by rw [hb]; exact hgB))
      replace hS := Lib.hid (HBX.out.cell 0)
      refine ⟨_, rfl, fun _ => hS.out, ?_⟩
      simp only [List.setIfInBounds_toArray, List.set_cons_zero, List.set_cons_succ]
      clear hg ht hc
      have hc := rd_num r.bytes g 9 4 v2 (by omega) (by omega) (by omega) (by omega) HG.out
      rw [Sp.Rw.at_page1 r hmay] at hc
      refine R_call 6 20 (w' := v2) rfl rfl (by rfl) (by kernel_rfl) ?_ hc ?_
      · go_simp
      rintro e v3 ⟨rfl, hg, ht⟩
      replace HN := Lib.hid (HN.out.turns ht (fun e => hNg e))
      replace HG := Lib.hid hg
      replace HBX := Lib.hid (HBX.out.turns ht (fun e => hne e))
      replace HR := Lib.hid (HR.out.turns ht (fun e => hRg e))
      replace hsz := Nat.le_trans hsz ht.size
      replace hB := hB.trans (ht.below hB.size (fun b hb => by rw [hb]; exact hgB))
      replace hS := Lib.hid (HBX.out.cell 0)
      refine ⟨_, rfl, fun _ => hS.out, ?_⟩
      simp only [List.setIfInBounds_toArray, List.set_cons_zero, List.set_cons_succ]
      clear hg ht hc
      refine R_take 7 21 (v := ?_) rfl rfl (by rfl) (by kernel_rfl) (fun _ _ _ h => h) hS.out ?_ ?_
      rotate_left
      · intro w hSw; (try dsimp only at hSw); go_simp; (try with_reducible rfl)
      simp only [List.setIfInBounds_toArray, List.set_cons_zero, List.set_cons_succ]
      have hc := rd_num r.bytes g 13 2 v3 (by omega) (by omega) (by omega) (by omega) HG.out
      rw [Sp.Rw.at_slot1 r hwf] at hc
      refine R_call 9 23 (w' := v3) rfl rfl (by rfl) (by kernel_rfl) ?_ hc ?_
      · go_simp
      rintro e v4 ⟨rfl, hg, ht⟩
      replace HN := Lib.hid (HN.out.turns ht (fun e => hNg e))
      replace HG := Lib.hid hg
      replace HBX := Lib.hid (HBX.out.turns ht (fun e => hne e))
      replace HR := Lib.hid (HR.out.turns ht (fun e => hRg e))
      replace hsz := Nat.le_trans hsz ht.size
      replace hB := hB.trans (ht.below hB.size (fun b hb => by rw [hb]; exact hgB))
      replace hS := Lib.hid (HBX.out.cell 0)
      refine ⟨_, rfl, fun _ => hS.out, ?_⟩
      simp only [List.setIfInBounds_toArray, List.set_cons_zero, List.set_cons_succ]
      clear hg ht hc
      refine R_take 10 24 (v := ?_) rfl rfl (by rfl) (by kernel_rfl) (fun _ _ _ h => h) hS.out ?_ ?_
      rotate_left
      · intro w hSw; (try dsimp only at hSw); go_simp; (try with_reducible rfl)
      simp only [List.setIfInBounds_toArray, List.set_cons_zero, List.set_cons_succ]
      refine R_take 11 25 (v := ?_) rfl rfl (by rfl) (by kernel_rfl) (fun _ _ _ h => h) hS.out ?_ ?_
      rotate_left
      · intro w hSw; (try dsimp only at hSw); go_simp; (try with_reducible rfl)
      simp only [List.setIfInBounds_toArray, List.set_cons_zero, List.set_cons_succ]
      refine R_take 12 26 (v := ?_) rfl rfl (by rfl) (by kernel_rfl) (fun _ _ _ h => h) hS.out ?_ ?_
      rotate_left
      · intro w hSw; (try dsimp only at hSw); go_simp; (try with_reducible rfl)
      simp only [List.setIfInBounds_toArray, List.set_cons_zero, List.set_cons_succ]
      have HNs := HN.out
      refine R_store 14 (n := .skip) (w' := v4.setRow g6 #[str [], .bool r.mark, .int .u64 r.tx, .int .u32 r.page, .int .u16 r.slot, str [], .int .i64 0]) rfl rfl (by rfl) (by kernel_rfl) ?_ (.inl rfl) (fun _ => (HBX.out.keep (heap_setRow_other _ _ _ _ (Ne.symm hNb))).cell 0) ?_
      · exact run_op_store _ _ _ _ _ rfl rfl rfl (row_store HNs (row_one _ _ _ _ _ _ _))
      replace HG := Lib.hid (HG.out.keep (heap_setRow_other v4 g6 g #[str [], .bool r.mark, .int .u64 r.tx, .int .u32 r.page, .int .u16 r.slot, str [], .int .i64 0] (Ne.symm hNg)))
      replace HBX := Lib.hid (HBX.out.keep (heap_setRow_other v4 g6 gb #[str [], .bool r.mark, .int .u64 r.tx, .int .u32 r.page, .int .u16 r.slot, str [], .int .i64 0] (Ne.symm hNb)))
      replace HR := Lib.hid (HR.out.keep (heap_setRow_other v4 g6 gR #[str [], .bool r.mark, .int .u64 r.tx, .int .u32 r.page, .int .u16 r.slot, str [], .int .i64 0] (Ne.symm hNR)))
      replace HN := Lib.hid (HN.out.setRow #[str [], .bool r.mark, .int .u64 r.tx, .int .u32 r.page, .int .u16 r.slot, str [], .int .i64 0])
      replace hB := below_setRow hB hNl #[str [], .bool r.mark, .int .u64 r.tx, .int .u32 r.page, .int .u16 r.slot, str [], .int .i64 0]
      replace hS := Lib.hid (HBX.out.cell 0)
      refine R_done (by kernel_rfl) ?_ _
      rename_i K9 hK9
      refine hK9 _ _ ?_
      clear hK9
      go_meet
      exact ⟨_, rfl, HG.out, HBX.out, HR.out, HN.out, hNg, hNb, hNR, hNl, hB⟩
  case rest =>
    obtain ⟨g6, rfl, hG, hX, hR, hN, hNg, hNb, hNR, hNl, hB⟩ := hcut
    have HG := Lib.hid hG
    have HX := Lib.hid hX
    have HR := Lib.hid hR
    have HN := Lib.hid hN
    clear hG hX hR hN HG0 HBX0 HR0 hb1
    have hl1 : 15 + 1 + r.key.length ≤ r.bytes.length := by rw [HLEN.out]; omega
    have hl2 : 16 + r.key.length + 1 + r.value.length ≤ r.bytes.length := by rw [HLEN.out]; omega
    have hc1 := rd_piece r.bytes gb g 15 r.key.length wc (Sp.Rw.at_klen1 r hmay) hl1 (by omega) hne HX.out HG.out
    rw [show 15 + 1 = 16 from rfl, Sp.Rw.at_key1] at hc1
    have HP1 := Lib.hid hc1
    have hrv : rwV r = .agg #[str r.key, .bool r.mark, .int .u64 r.tx, .int .u32 r.page, .int .u16 r.slot, str r.value, .int .i64 r.pad] := rfl
    have hen := fun (W : World) => row_encodeP HRZ.out r hmay hwf W
    rw [hrv] at hen
    have HEN := Lib.hid hen
    have HRV := Lib.hid hrv
    clear hen hrv
    clear hc1
    go_wp2_with fail
    refine HP1.out.mono ?_
    rintro e w5 ⟨rfl, hg5, ht5⟩
    have HG5 := Lib.hid hg5
    have HX5 := Lib.hid (HX.out.turns ht5 (fun e => hne e))
    have HR5 := Lib.hid (HR.out.turns ht5 (fun e => hRg e))
    have HN5 := Lib.hid (HN.out.turns ht5 (fun e => hNg e))
    have hB5 := hB.trans (ht5.below hB.size (fun b hb => by rw [hb]; exact hgB))
    have c0 := HN5.out.cell 0
    have f0 := HN5.out.frozen 0
    simp only [List.getElem?_toArray, List.getElem?_cons_zero] at c0
    have HG6 := Lib.hid (HG5.out.far (p := ⟨g6, 0, none⟩) (Ne.symm hNg) (str r.key))
    have HX6 := Lib.hid (HX5.out.far (p := ⟨g6, 0, none⟩) (Ne.symm hNb) (str r.key))
    have HR6 := Lib.hid (HR5.out.far (p := ⟨g6, 0, none⟩) (Ne.symm hNR) (str r.key))
    have HN6 := Lib.hid (HN5.out.set_ 0 (str r.key))
    have hB6 := hB5.setCell (p := ⟨g6, 0, none⟩) hNl (str r.key)
    clear hg5 ht5 HP1 HG HX HR HN hB HG5 HX5 HR5 HN5 hB5
    have hc2 := rd_piece r.bytes gb g (16 + r.key.length) r.value.length _ (Sp.Rw.at_vlen1 r hmay) hl2 (by omega) hne HX6.out HG6.out
    rw [Sp.Rw.at_value1] at hc2
    have HP2 := Lib.hid hc2
    clear hc2
    go_wp2_with fail
    refine HP2.out.mono ?_
    rintro e w7 ⟨rfl, hg7, ht7⟩
    have HG7 := Lib.hid hg7
    have HX7 := Lib.hid (HX6.out.turns ht7 (fun e => hne e))
    have HR7 := Lib.hid (HR6.out.turns ht7 (fun e => hRg e))
    have HN7 := Lib.hid (HN6.out.turns ht7 (fun e => hNg e))
    have hB7 := hB6.trans (ht7.below hB6.size (fun b hb => by rw [hb]; exact hgB))
    clear hg7 ht7 HP2 HG6 HX6 HR6 HN6 hB6 c0 f0
    have n0 := HN7.out.cell 0
    have n1 := HN7.out.cell 1
    have n2 := HN7.out.cell 2
    have n3 := HN7.out.cell 3
    have n4 := HN7.out.cell 4
    have n5 := HN7.out.cell 5
    have n6 := HN7.out.cell 6
    have f5 := HN7.out.frozen 5
    have f6 := HN7.out.frozen 6
    have x0 := HX7.out.cell 0
    have p1 := HG7.out.cell 1
    have p2 := HG7.out.cell 2
    simp only [List.setIfInBounds_toArray, List.set_cons_zero, List.getElem?_toArray, List.getElem?_cons_succ, List.getElem?_cons_zero] at n0 n1 n2 n3 n4 n5 n6 x0 p1 p2
    have hpv : ((r.bytes.length : Nat) : Int) - (16 + (r.key.length : Int) + 1 + (r.value.length : Int)) = (r.pad : Int) := by have h1 := HLEN.out; omega
    have hgn : g ≠ g6 := Ne.symm hNg
    have hbn : gb ≠ g6 := Ne.symm hNb
    have HG9 := Lib.hid ((HG7.out.far (p := ⟨g6, 5, none⟩) (Ne.symm hNg) (str r.value)).far (p := ⟨g6, 6, none⟩) (Ne.symm hNg) (.int .i64 r.pad))
    have HX9 := Lib.hid ((HX7.out.far (p := ⟨g6, 5, none⟩) (Ne.symm hNb) (str r.value)).far (p := ⟨g6, 6, none⟩) (Ne.symm hNb) (.int .i64 r.pad))
    have HR9 := Lib.hid ((HR7.out.far (p := ⟨g6, 5, none⟩) (Ne.symm hNR) (str r.value)).far (p := ⟨g6, 6, none⟩) (Ne.symm hNR) (.int .i64 r.pad))
    have HN9 := Lib.hid ((HN7.out.set_ 5 (str r.value)).set_ 6 (.int .i64 r.pad))
    have hB9 := (hB7.setCell (p := ⟨g6, 5, none⟩) hNl (str r.value)).setCell (p := ⟨g6, 6, none⟩) hNl (.int .i64 r.pad)
    go_wp2_with fail
    refine (HEN.out _).mono ?_
    rintro e w10 ⟨rfl, hb10⟩
    have HG10 := HG9.out.below hb10 HG9.out.lt
    have HX10 := HX9.out.below hb10 HX9.out.lt
    have HR10 := HR9.out.below hb10 HR9.out.lt
    have HN10 := HN9.out.below hb10 HN9.out.lt
    have hB10 := hB9.trans (hb10.mono hB9.size)
    clear HG9 HX9 HR9 HN9 hB9 HG7 HX7 HR7 HN7 hB7 hb10 n0 n1 n2 n3 n4 n5 n6 f5 f6 x0 p1 p2 hpv HEN
    simp only [List.setIfInBounds_toArray, List.set_cons_zero, List.set_cons_succ] at HN10
    have n0 := HN10.cell 0
    have n1 := HN10.cell 1
    have n2 := HN10.cell 2
    have n3 := HN10.cell 3
    have n4 := HN10.cell 4
    have n5 := HN10.cell 5
    have n6 := HN10.cell 6
    have x0 := HX10.cell 0
    have p2 := HG10.cell 2
    simp only [List.getElem?_toArray, List.getElem?_cons_succ, List.getElem?_cons_zero] at n0 n1 n2 n3 n4 n5 n6 x0 p2
    have HR11 := Lib.hid HR10
    clear HG10 HX10 HN10 HR10
    go_wp2_with (refine wpList_store_part rfl _ _ _ rfl gR 0 #[str r.key, .bool r.mark, .int .u64 r.tx, .int .u32 r.page, .int .u16 r.slot, str r.value, .int .i64 r.pad] rfl rfl _ _ HR11.out row_size (by show 0 + 7 ≤ 7; omega) (row_one _ _ _ _ _ _ _) ?_)
    have hRf : Blk (w10.setRow gR (partRow #[str [], .bool false, .int .u64 0, .int .u32 0, .int .u16 0, str [], .int .i64 0] 0 [str r.key, .bool r.mark, .int .u64 r.tx, .int .u32 r.page, .int .u16 r.slot, str r.value, .int .i64 r.pad])) gR 43 #[str r.key, .bool r.mark, .int .u64 r.tx, .int .u32 r.page, .int .u16 r.slot, str r.value, .int .i64 r.pad] := HR11.out.setRow _
    have hBf := below_setRow hB10 hRB (partRow #[str [], .bool false, .int .u64 0, .int .u32 0, .int .u16 0, str [], .int .i64 0] 0 [str r.key, .bool r.mark, .int .u64 r.tx, .int .u32 r.page, .int .u16 r.slot, str r.value, .int .i64 r.pad])
    obtain ⟨wf, hwf2⟩ : ∃ x, x = w10.setRow gR (partRow #[str [], .bool false, .int .u64 0, .int .u32 0, .int .u16 0, str [], .int .i64 0] 0 [str r.key, .bool r.mark, .int .u64 r.tx, .int .u32 r.page, .int .u16 r.slot, str r.value, .int .i64 r.pad]) := ⟨_, rfl⟩
    rw [← hwf2] at hRf hBf ⊢
    clear hwf2
    have k0 := hRf.cell 0
    have k1 := hRf.cell 1
    have k2 := hRf.cell 2
    have k3 := hRf.cell 3
    have k4 := hRf.cell 4
    have k5 := hRf.cell 5
    have k6 := hRf.cell 6
    simp only [List.getElem?_toArray, List.getElem?_cons_succ, List.getElem?_cons_zero] at k0 k1 k2 k3 k4 k5 k6
    have hrv : rwV r = .agg #[str r.key, .bool r.mark, .int .u64 r.tx, .int .u32 r.page, .int .u16 r.slot, str r.value, .int .i64 r.pad] := rfl
    refine bodyPost_ret (v := .tuple #[rwV r, .int .i64 0]) (by rw [hrv, results_cell_tmp rfl]; go_simp) rfl ⟨rfl, hBf⟩
end Go.Proofs.YtafopojibpifoaaGreat

/- The walks of an inner page's entry: to its bytes, and back; pentimentoref07.EncodeEntry. -/
namespace Go.Proofs.YtafopojibpifoaaGreat
open Go.RowKit

/-- An entry's cells. -/
abbrev enCs (e : Sp.En) : List Value := [str e.key, .int .u32 e.child]
abbrev enV (e : Sp.En) : Value := .agg #[str e.key, .int .u32 e.child]

set_option maxRecDepth 100000 in
set_option maxHeartbeats 1000000 in
theorem row_encodeEntry (e : Sp.En) (h : e.may) (w : World) : Calls Tryz.prog 48 #[enV e] w fun x w' => x = .returned (.tuple #[str e.bytes, .int .i64 0]) ∧ Below w.heap.size w w' := by
  obtain ⟨key, child⟩ := e
  obtain ⟨h1, h2, h3⟩ := h
  dsimp only at h1 h2 h3
  have d1 : decide ((48 : Int) < key.length) = false := by rw [decide_eq_false_iff_not]; omega
  have d2 : decide ((child : Int) < 1) = false := by rw [decide_eq_false_iff_not]; omega
  have d3 : decide ((1024 : Int) < child) = false := by rw [decide_eq_false_iff_not]; omega
  have wr0 : IntKind.u64.wrap (child : Int) = child := by rw [IntKind.wrap_u64]; omega
  have HN := Lib.hid fun (W : World) => row_number child 4 W (by omega) (by omega) (by omega) (by omega)
  have hB := Blk.new w 66 #[str key, .int .u32 child]
  have hb := (Below.refl w.heap.size w).alloc (Nat.le_refl _) (.cells #[str key, .int .u32 child] 66)
  go_enter Tryz.func48, Tryz.ntmps48
  go_wp2_with fail
  obtain ⟨w1, hw1⟩ : ∃ w1, w1 = w.alloc (.cells #[str key, .int .u32 child] 66) := ⟨_, rfl⟩
  rw [← hw1] at hB hb ⊢
  have hg := hB.lt
  obtain ⟨g, hgw⟩ : ∃ g, g = w.heap.size := ⟨_, rfl⟩
  rw [← hgw] at hB hg ⊢
  clear hw1 hgw
  have hS := Lib.hid (show w1.drew.cell? ⟨g, 0, none⟩ = some (str key) ∧ w1.drew.cell? ⟨g, 1, none⟩ = some (.int .u32 child) from ⟨hB.cell 0, hB.cell 1⟩)
  refine R_begin (fun W => W.cell? ⟨g, 0, none⟩ = some (str key) ∧ W.cell? ⟨g, 1, none⟩ = some (.int .u32 child)) (fun _ => false) rfl ?_
  refine R_tk 0 18 hS.out ?_
  refine R_tk 1 19 hS.out ?_
  refine R_tk 2 20 hS.out ?_
  refine R_tk 4 22 hS.out ?_
  refine R_tk 5 23 hS.out ?_
  simp only [List.setIfInBounds_toArray, List.set_cons_zero, List.set_cons_succ]
  refine R_call 3 21 (w' := w1.drew) rfl rfl (by rfl) (by kernel_rfl) ?_ (HN.out _) ?_
  · go_simp
  rintro x w2 ⟨rfl, hb2⟩
  have hB2 := hB.drew.below hb2 hg
  have hS2 := Lib.hid (show w2.cell? ⟨g, 0, none⟩ = some (str key) ∧ w2.cell? ⟨g, 1, none⟩ = some (.int .u32 child) from ⟨hB2.cell 0, hB2.cell 1⟩)
  refine ⟨_, rfl, fun _ => hS2.out, ?_⟩
  simp only [List.setIfInBounds_toArray, List.set_cons_zero, List.set_cons_succ]
  refine R_take 6 24 (v := str (Sp.be 4 child ++ key)) rfl rfl (by rfl) (by kernel_rfl) (fun _ _ _ h => h) hS2.out ?_ ?_
  · intro w hSw
    go_simp
    rw [if_neg (by omega), str_append]
  simp only [List.setIfInBounds_toArray, List.set_cons_zero, List.set_cons_succ]
  refine R_tk 7 2 hS2.out ?_
  refine R_tk 8 3 hS2.out ?_
  simp only [List.setIfInBounds_toArray, List.set_cons_zero, List.set_cons_succ]
  refine R_done (by kernel_rfl) ?_ _
  rename_i K9 hK9
  refine hK9 _ _ ?_
  clear hK9
  have hbw : Below w.heap.size w w2 := hb.trans ((show Below w1.heap.size w1 w2 from ⟨hb2.os, hb2.tape, hb2.output, hb2.size, hb2.block⟩).mono hb.size)
  go_wp2_with fail
  go_ret2
  exact ⟨rfl, hbw⟩

set_option maxRecDepth 100000 in
set_option maxHeartbeats 1000000 in
theorem ref07_encodeEntry (e : Sp.En) (h : e.may) (w : World) : Calls Tryz.prog 55 #[enV e] w fun x w' => x = .returned (.tuple #[str e.bytes, .int .i64 0]) ∧ Below w.heap.size w w' := by
  obtain ⟨key, child⟩ := e
  obtain ⟨h1, h2, h3⟩ := h
  dsimp only at h1 h2 h3
  have d1 : decide ((48 : Int) < key.length) = false := by rw [decide_eq_false_iff_not]; omega
  have d2 : decide ((child : Int) = 0) = false := by rw [decide_eq_false_iff_not]; omega
  have d2' : ((child : Int) == 0) = false := by rw [beq_eq_false_iff_ne]; omega
  have d3 : decide ((1024 : Int) < child) = false := by rw [decide_eq_false_iff_not]; omega
  have wr0 : IntKind.u64.wrap (child : Int) = child := by rw [IntKind.wrap_u64]; omega
  have HN := Lib.hid fun (W : World) => ref07_num child 4 W (by omega) (by omega) (by omega) (by omega)
  have hB := Blk.new w 66 #[str key, .int .u32 child]
  have hb := (Below.refl w.heap.size w).alloc (Nat.le_refl _) (.cells #[str key, .int .u32 child] 66)
  go_enter Tryz.func55, Tryz.ntmps55
  go_wp2_with fail
  obtain ⟨w1, hw1⟩ : ∃ w1, w1 = w.alloc (.cells #[str key, .int .u32 child] 66) := ⟨_, rfl⟩
  rw [← hw1] at hB hb ⊢
  have hg := hB.lt
  obtain ⟨g, hgw⟩ : ∃ g, g = w.heap.size := ⟨_, rfl⟩
  rw [← hgw] at hB hg ⊢
  clear hw1 hgw
  have hS := Lib.hid (show w1.drew.cell? ⟨g, 0, none⟩ = some (str key) ∧ w1.drew.cell? ⟨g, 1, none⟩ = some (.int .u32 child) from ⟨hB.cell 0, hB.cell 1⟩)
  refine R_begin (fun W => W.cell? ⟨g, 0, none⟩ = some (str key) ∧ W.cell? ⟨g, 1, none⟩ = some (.int .u32 child)) (fun _ => false) rfl ?_
  refine R_tk 0 18 hS.out ?_
  refine R_tk 1 19 hS.out ?_
  refine R_tk 2 20 hS.out ?_
  refine R_tk 4 22 hS.out ?_
  refine R_tk 5 23 hS.out ?_
  simp only [List.setIfInBounds_toArray, List.set_cons_zero, List.set_cons_succ]
  refine R_call 3 21 (w' := w1.drew) rfl rfl (by rfl) (by kernel_rfl) ?_ (HN.out _) ?_
  · go_simp
  rintro x w2 ⟨rfl, hb2⟩
  have hB2 := hB.drew.below hb2 hg
  have hS2 := Lib.hid (show w2.cell? ⟨g, 0, none⟩ = some (str key) ∧ w2.cell? ⟨g, 1, none⟩ = some (.int .u32 child) from ⟨hB2.cell 0, hB2.cell 1⟩)
  refine ⟨_, rfl, fun _ => hS2.out, ?_⟩
  simp only [List.setIfInBounds_toArray, List.set_cons_zero, List.set_cons_succ]
  refine R_take 6 24 (v := str (Sp.be 4 child ++ key)) rfl rfl (by rfl) (by kernel_rfl) (fun _ _ _ h => h) hS2.out ?_ ?_
  · intro w hSw
    go_simp
    rw [if_neg (by omega), str_append]
  simp only [List.setIfInBounds_toArray, List.set_cons_zero, List.set_cons_succ]
  refine R_tk 7 2 hS2.out ?_
  refine R_tk 8 3 hS2.out ?_
  simp only [List.setIfInBounds_toArray, List.set_cons_zero, List.set_cons_succ]
  refine R_done (by kernel_rfl) ?_ _
  rename_i K9 hK9
  refine hK9 _ _ ?_
  clear hK9
  have hbw : Below w.heap.size w w2 := hb.trans ((show Below w1.heap.size w1 w2 from ⟨hb2.os, hb2.tape, hb2.output, hb2.size, hb2.block⟩).mono hb.size)
  go_wp2_with fail
  go_ret2
  exact ⟨rfl, hbw⟩

theorem Sp.En.take4 (e : Sp.En) (h : e.may) : Sp.num ((e.bytes.drop 0).take 4) = e.child := e.at_child h

set_option maxRecDepth 100000 in
set_option maxHeartbeats 2000000 in
theorem row_decodeEntry (e : Sp.En) (h : e.may) (w : World) : Calls Tryz.prog 31 #[str e.bytes] w fun x w' => x = .returned (.tuple #[enV e, .int .i64 0]) ∧ Below w.heap.size w w' := by
  have HH := Lib.hid h
  have hlen := e.bytes_length
  have h1 := h.1
  have hc := h.2.2
  have hl : e.bytes.length ≤ 52 := by omega
  clear h
  go_enter Tryz.func31, Tryz.ntmps31
  go_wp2_with fail
  have hb1 := ((Below.refl w.heap.size w).alloc (Nat.le_refl _) (.cells #[.string ⟨#[]⟩, .int .u32 0] 66)).alloc (by simp) (.cells #[str e.bytes, .int .i64 0, .bool true] 117)
  have hB2 := (Blk.new w 66 #[.string ⟨#[]⟩, .int .u32 0]).alloc (.cells #[str e.bytes, .int .i64 0, .bool true] 117)
  have hBr := Blk.new (w.alloc (.cells #[.string ⟨#[]⟩, .int .u32 0] 66)) 117 #[str e.bytes, .int .i64 0, .bool true]
  have hsz : (w.alloc (.cells #[.string ⟨#[]⟩, .int .u32 0] 66)).heap.size = w.heap.size + 1 := by simp
  rw [hsz] at hBr
  generalize hw1 : World.alloc (World.alloc w _) _ = w1 at hb1 hB2 hBr ⊢
  obtain ⟨g2, hg2⟩ : ∃ g, g = w.heap.size := ⟨_, rfl⟩
  obtain ⟨gr, hgr⟩ : ∃ g, g = w.heap.size + 1 := ⟨_, rfl⟩
  rw [← hgr] at hBr ⊢
  rw [← hg2] at hB2 ⊢
  have hgl : gr < w1.heap.size := hBr.lt
  have hne : g2 ≠ gr := by omega
  have hg2l : w.heap.size ≤ g2 := by omega
  have hgrl : w.heap.size ≤ gr := by omega
  clear hw1 hsz hg2 hgr
  have HN := Lib.hid (rd_num e.bytes gr 0 4 w1 (by omega) (by omega) (by omega) (by omega) hBr)
  rw [Sp.En.take4 e HH.out] at HN
  have wr0 : IntKind.u32.wrap (e.child : Int) = e.child := by rw [IntKind.wrap_u32]; omega
  refine HN.out.mono ?_
  rintro x w2 ⟨rfl, hr2, ht2⟩
  have hB3 := hB2.turns ht2 (fun e => hne e)
  have hb2 := hb1.trans (ht2.below hb1.size (fun b hb => by have hb : b = gr := hb; omega))
  clear hB2 hBr hb1 ht2 HN
  have hBe := Blk.new w2 66 #[.string ⟨#[]⟩, .int .u32 e.child]
  have hr3 := hr2.alloc (.cells #[.string ⟨#[]⟩, .int .u32 e.child] 66)
  have hB4 := hB3.alloc (.cells #[.string ⟨#[]⟩, .int .u32 e.child] 66)
  have hb4 := hb2.alloc hb2.size (.cells #[.string ⟨#[]⟩, .int .u32 e.child] 66)
  have hrl := hr2.lt
  have hl2 := hB3.lt
  have c1 := hr3.cell 1
  have c2 := hr3.cell 2
  have d0 := hBe.cell 0
  have f0 := hBe.frozen 0
  simp only [List.getElem?_toArray, List.getElem?_cons_succ, List.getElem?_cons_zero] at c1 c2 d0
  clear hr2
  go_wp2_with fail
  have hx : (⟨e.bytes.toArray⟩ : ByteArray).extract 4 (4 + e.key.length) = ⟨e.key.toArray⟩ := by
    rw [str_extract, e.at_key, Nat.add_sub_cancel_left, List.take_length]
  rw [hx]
  clear hBe hr3 hB4 hb4 f0 c1 c2 d0 hx
  have HE := Lib.hid fun (W : World) => row_encodeEntry e HH.out W
  have hBe := Blk.new w2 66 #[str e.key, .int .u32 e.child]
  have hB4 := hB3.alloc (.cells #[str e.key, .int .u32 e.child] 66)
  have hb4 := hb2.alloc hb2.size (.cells #[str e.key, .int .u32 e.child] 66)
  have hgel : g2 ≠ w2.heap.size := by omega
  generalize hw3 : World.alloc w2 _ = w3 at hBe hB4 hb4 ⊢
  generalize w2.heap.size = ge at *
  clear hw3 hB3 hb2
  refine (HE.out _).mono ?_
  rintro x w4 ⟨rfl, hb5⟩
  have hBe5 := hBe.below hb5 hBe.lt
  have hB5 := hB4.below hb5 hB4.lt
  have hbw := hb4.trans (hb5.mono hb4.size)
  have d0 := hBe5.cell 0
  have d1 := hBe5.cell 1
  have e0 := hB5.cell 0
  have e1 := hB5.cell 1
  have f0 := hB5.frozen 0
  have f1 := hB5.frozen 1
  simp only [List.getElem?_toArray, List.getElem?_cons_succ, List.getElem?_cons_zero] at d0 d1 e0 e1
  clear HE hBe hB4 hb4 hb5
  go_wp2_with fail
  have hX := (hB5.set_ 0 (str e.key)).set_ 1 (.int .u32 e.child)
  have hbx := ((hbw.setCell (p := ⟨g2, 0, none⟩) hg2l (str e.key)).setCell (p := ⟨g2, 1, none⟩) hg2l (.int .u32 e.child))
  generalize hw8 : World.setCell (World.setCell w4 _ _) _ _ = w8 at hX hbx ⊢
  have z0 := hX.cell 0
  have z1 := hX.cell 1
  simp only [List.setIfInBounds_toArray, List.set_cons_zero, List.set_cons_succ, List.getElem?_toArray, List.getElem?_cons_succ, List.getElem?_cons_zero] at z0 z1
  clear hw8 hX f0 f1 e0 e1 d0 d1
  exact bodyPost_ret (v := .tuple #[enV e, .int .i64 0]) (by rw [results_cell_tmp rfl]; go_simp) rfl ⟨rfl, hbx⟩
end Go.Proofs.YtafopojibpifoaaGreat

/- What a walk through a tree tells, which way leads to a key, which row comes next: plain laws. No program is named here. -/
namespace Go.Proofs.YtafopojibpifoaaGreat.Sp

/-- What a page is known to be. -/
inductive Kn where
  | bad
  | leaf (rs : List Rw)
  | inner (es : List En)
def KnOk (p : Pg) : Kn → Prop
  | .bad => (p.kind = 1 ∧ p.level ≠ 0) ∨ (p.kind ≠ 1 ∧ p.kind ≠ 2)
  | .leaf rs => LeafPg p rs ∧ Rises (keysR rs)
  | .inner es => InnerPg p es ∧ Rises (es.map (·.key))

/-- Is a key in a range (none: up to the end)? -/
def inK (k lo hi : Bs) : Bool := decide (¬ k < lo) && (hi.isEmpty || decide (k < hi))
/-- What was met. -/
structure WSt where
  seen : List Nat
  next : Nat
  first : Bool
  pages : List Nat
  rows : Nat
def goF (rec : WSt → Nat → Int → Bs → Bs → Option (Nat × WSt)) (lv : Int) (lo hi : Bs) : Bool → List En → WSt → Option (Nat × WSt)
  | _, [], s => some (0, s)
  | fst, e :: es, s =>
    if fst = false ∧ inK e.key lo hi = false then some (180, s) else
    match rec s e.child lv (if fst then lo else e.key) (match es with | [] => hi | e2 :: _ => e2.key) with
    | none => none
    | some (m, s') => if m = 0 then goF rec lv lo hi false es s' else some (m, s')
theorem goF_cons (rec : WSt → Nat → Int → Bs → Bs → Option (Nat × WSt)) (lv : Int) (lo hi : Bs) (fst : Bool) (e : En) (es : List En) (s : WSt) : goF rec lv lo hi fst (e :: es) s =
    if fst = false ∧ inK e.key lo hi = false then some (180, s) else
    match rec s e.child lv (if fst then lo else e.key) (match es with | [] => hi | e2 :: _ => e2.key) with
    | none => none
    | some (m, s') => if m = 0 then goF rec lv lo hi false es s' else some (m, s') := by
  cases es <;> rfl
/-- The walk from a page down: which error, what was met. -/
def walkF (pg : Nat → Pg) (kn : Nat → Option Kn) : Nat → WSt → Nat → Int → Bs → Bs → Option (Nat × WSt)
  | 0, _, _, _, _, _ => none
  | f + 1, s, id, level, lo, hi =>
    if id ∈ s.seen ∨ 1000 ≤ s.seen.length then none else
    match kn id with
    | none => none
    | some .bad => some (180, s)
    | some (.leaf rs) =>
      if 0 ≤ level ∧ ((pg id).level : Int) ≠ level then none else
      if s.first = false ∧ s.next ≠ id then some (180, s) else
      if rs.all (fun r => inK r.key lo hi) = true then some (0, ⟨s.seen ++ [id], (pg id).next, false, s.pages ++ [id], s.rows + rs.length⟩) else some (180, s)
    | some (.inner es) =>
      if (0 ≤ level ∧ ((pg id).level : Int) ≠ level) ∨ 8 ≤ (pg id).level ∨ (pg id).next ≠ 0 then none else
      goF (walkF pg kn f) ((pg id).level - 1) lo hi true es ⟨s.seen ++ [id], s.next, s.first, s.pages ++ [id], s.rows⟩
def st0 : WSt := ⟨[], 0, true, [], 0⟩

/-- The way down to a key: which entry of which page, and which leaf. -/
def wayF (kn : Nat → Option Kn) (k : Bs) : Nat → Nat → Option (List (Nat × Nat) × Nat)
  | 0, _ => none
  | f + 1, id => match kn id with
    | some (.leaf _) => some ([(id, 0)], id)
    | some (.inner es) => match es[childK (es.map (·.key)) k]? with
      | some e => (wayF kn k f e.child).map fun x => ((id, childK (es.map (·.key)) k) :: x.1, x.2)
      | none => none
    | _ => none
/-- The row at a place, or behind it. -/
def nextF (pg : Nat → Pg) (kn : Nat → Option Kn) : Nat → Nat → Nat → Option (Option Rw)
  | 0, _, _ => none
  | f + 1, id, at_ => match kn id with
    | some (.leaf rs) => if at_ < rs.length then some rs[at_]? else if (pg id).next = 0 then some none else nextF pg kn f (pg id).next 0
    | _ => none

/-- What the pages of a grown tree are. -/
def grownK (n : Nat) (rs : List Rw) (q : Nat) : Option Kn :=
  if q = 1 then some (if lvN n rs.length < 2 then .leaf rs else .inner (ens n rs))
  else if 2 ≤ lvN n rs.length ∧ 3 ≤ q ∧ q < 3 + lvN n rs.length then some (.leaf (lvRows n rs (q - 3))) else none

theorem lvN_le {n len : Nat} (hn : 1 ≤ n) : lvN n len ≤ len := by
  have h := (lvN_lt (n := n) (len := len) (i := lvN n len - 1) hn)
  by_cases h0 : lvN n len = 0
  · omega
  · have h1 := h.1 (by omega)
    have h2 : (lvN n len - 1) * 1 ≤ (lvN n len - 1) * n := Nat.mul_le_mul_left _ hn
    omega
theorem grownK_ok {n : Nat} (hn : 1 ≤ n) {rs : List Rw} (h8 : rs.length ≤ 8) (hm : ∀ r ∈ rs, r.may ∧ r.wf) (hr : Rises (keysR rs)) {q : Nat} {k : Kn} (h : grownK n rs q = some k) : 1 ≤ q ∧ q ≤ 12 ∧ KnOk (grown n rs q) k := by
  have hle := lvN_le (n := n) (len := rs.length) hn
  have hk : ∀ r ∈ rs, 1 ≤ r.key.length := fun r h => (hm r h).1.1
  unfold grownK at h
  split at h
  · rename_i e
    subst e
    refine ⟨by omega, by omega, ?_⟩
    rw [grown_root]
    injection h with h
    split at h
    · rename_i h2
      subst h
      exact ⟨root_leaf hm h2, hr⟩
    · rename_i h2
      subst h
      refine ⟨root_inner hn h8 hm (by omega), ?_⟩
      rw [ens_keys]
      exact seps_rise hn hr hk
  · split at h
    · rename_i h1 h2
      injection h with h
      subst h
      refine ⟨by omega, by omega, ?_⟩
      have e : q = 3 + (q - 3) := by omega
      have e2 := grown_leaf (n := n) (rs := rs) h2.1 (i := q - 3) (by omega)
      rw [← e] at e2
      rw [e2]
      exact ⟨lv_leaf hm _, lvRows_rise hr _⟩
    · cases h
theorem grownK_leaf {n : Nat} {rs : List Rw} (h2 : 2 ≤ lvN n rs.length) {i : Nat} (hi : i < lvN n rs.length) : grownK n rs (3 + i) = some (.leaf (lvRows n rs i)) := by
  unfold grownK
  rw [if_neg (by omega), if_pos ⟨h2, by omega, by omega⟩, Nat.add_sub_cancel_left]
theorem grownK_root {n : Nat} {rs : List Rw} (h2 : 2 ≤ lvN n rs.length) : grownK n rs 1 = some (.inner (ens n rs)) := by
  unfold grownK
  rw [if_pos rfl, if_neg (by omega)]
theorem grownK_one {n : Nat} {rs : List Rw} (h2 : lvN n rs.length < 2) : grownK n rs 1 = some (.leaf rs) := by
  unfold grownK
  rw [if_pos rfl, if_pos h2]

/-- What was met behind the root and i leaves. -/
def stA (n : Nat) (rs : List Rw) (i : Nat) : WSt :=
  ⟨1 :: (List.range i).map (3 + ·), if i = 0 then 0 else if i * n < rs.length then 3 + i else 0, decide (i = 0), 1 :: (List.range i).map (3 + ·), min (i * n) rs.length⟩
theorem ens_drop {n : Nat} {rs : List Rw} {i : Nat} (hi : i < lvN n rs.length) : (ens n rs).drop i = ⟨sep n rs i, 3 + i⟩ :: (ens n rs).drop (i + 1) := by
  have h : i < (ens n rs).length := by rw [ens_length]; exact hi
  rw [List.drop_eq_getElem_cons h, ens_at h]
/-- Where a leaf's keys end. -/
def endK (n : Nat) (rs : List Rw) (i : Nat) : Bs := if i + 1 < lvN n rs.length then sep n rs (i + 1) else []
theorem ens_end {n : Nat} {rs : List Rw} {i : Nat} : (match (ens n rs).drop (i + 1) with | [] => [] | e2 :: _ => e2.key) = endK n rs i := by
  unfold endK
  by_cases h : i + 1 < lvN n rs.length
  · rw [ens_drop h, if_pos h]
  · rw [if_neg h, List.drop_eq_nil_of_le (by rw [ens_length]; omega)]
theorem lv_in {n : Nat} (hn : 1 ≤ n) {rs : List Rw} (hr : Rises (keysR rs)) {i : Nat} (hi : i < lvN n rs.length) : (lvRows n rs i).all (fun r => inK r.key (sep n rs i) (endK n rs i)) = true := by
  rw [List.all_eq_true]
  intro r hm
  obtain ⟨t, ht, rfl⟩ := List.getElem_of_mem hm
  have hlr := lvRows_length n rs i
  have ht' : i * n + t < rs.length := by omega
  rw [lvRows_at ht ht']
  unfold inK
  rw [Bool.and_eq_true, decide_eq_true_eq, Bool.or_eq_true]
  refine ⟨?_, ?_⟩
  · by_cases h0 : i = 0
    · subst h0
      exact not_lt_nil' _
    · rw [sep_at (by omega) (by omega)]
      by_cases e : t = 0
      · subst e; exact ltB_irrefl _
      · exact ltB_asymm (keys_lt hr (by omega) ht')
  · unfold endK
    split
    · rename_i h
      have h1 := (lvN_lt (len := rs.length) hn).1 h
      rw [sep_at (by omega) h1]
      refine .inr (decide_eq_true ?_)
      have : (i + 1) * n = i * n + n := by rw [Nat.add_mul, Nat.one_mul]
      exact keys_lt hr (by omega) h1
    · exact .inl rfl
theorem sep_nonempty {n : Nat} {rs : List Rw} (hk : ∀ r ∈ rs, 1 ≤ r.key.length) {i : Nat} (hi : 1 ≤ i) (h : i * n < rs.length) : (sep n rs i).isEmpty = false := by
  rw [sep_at hi h]
  have := hk _ (List.getElem_mem h)
  cases hc : (rs[i * n]).key with
  | nil => rw [hc] at this; simp at this
  | cons a b => rfl
/-- An entry's key is in the root's range. -/
theorem sep_in (k : Bs) : inK k [] [] = true := by
  unfold inK
  simp [not_lt_nil' k]
theorem stA_succ {n : Nat} (_hn : 1 ≤ n) {rs : List Rw} {i : Nat} (hi : i * n < rs.length) : (⟨(stA n rs i).seen ++ [3 + i], if (i + 1) * n < rs.length then 4 + i else 0, false, (stA n rs i).pages ++ [3 + i], (stA n rs i).rows + (lvRows n rs i).length⟩ : WSt) = stA n rs (i + 1) := by
  unfold stA
  have e : (i + 1) * n = i * n + n := by rw [Nat.add_mul, Nat.one_mul]
  rw [lvRows_length, List.range_succ]
  simp only [List.map_append, List.map_cons, List.map_nil, List.cons_append]
  have e2 : min (i * n) rs.length + min n (rs.length - i * n) = min ((i + 1) * n) rs.length := by omega
  rw [e2, if_neg (show ¬ i + 1 = 0 by omega)]
  have e3 : decide (i + 1 = 0) = false := by simp
  rw [e3]
  have e4 : 4 + i = 3 + (i + 1) := by omega
  rw [e4]

theorem stA_no {n : Nat} {rs : List Rw} (h8 : rs.length ≤ 8) (hn : 1 ≤ n) {i : Nat} (hi : i ≤ lvN n rs.length) : ¬ (3 + i ∈ (stA n rs i).seen ∨ 1000 ≤ (stA n rs i).seen.length) := by
  have hle := lvN_le (n := n) (len := rs.length) hn
  rintro (hm | hm)
  · rcases List.mem_cons.1 hm with hm | hm
    · omega
    · obtain ⟨x, hx, e⟩ := List.mem_map.1 hm
      have := List.mem_range.1 hx
      omega
  · have : (stA n rs i).seen.length = i + 1 := by simp [stA]
    omega
/-- One leaf of a grown tree more. -/
theorem walk_leaf {n : Nat} (hn : 1 ≤ n) {rs : List Rw} (h8 : rs.length ≤ 8) (hr : Rises (keysR rs)) {i : Nat} (hi : i < lvN n rs.length) {pg : Nat → Pg} {kn : Nat → Option Kn} (hp : pg (3 + i) = lvPg n rs i) (hk : kn (3 + i) = some (.leaf (lvRows n rs i))) (f : Nat) {lo : Bs} (hlo : lo = sep n rs i) :
    walkF pg kn (f + 1) (stA n rs i) (3 + i) 0 lo (endK n rs i) = some (0, stA n rs (i + 1)) := by
  subst hlo
  have hi' := (lvN_lt (len := rs.length) hn).1 hi
  have hno := stA_no h8 hn (Nat.le_of_lt hi)
  unfold walkF
  rw [if_neg hno, hk]
  simp only [hp]
  rw [if_neg (by simp [lvPg]), lv_in hn hr hi, if_neg (by
    rintro ⟨h1, h2⟩
    unfold stA at h1 h2
    have h3 : ¬ i = 0 := by simpa using h1
    rw [if_neg h3, if_pos hi'] at h2
    exact h2 rfl), if_pos rfl]
  rw [← stA_succ hn hi']
  rfl

/-- The leaves of a grown tree, up to one of them. -/
theorem go_pre {n : Nat} (hn : 1 ≤ n) {rs : List Rw} (h8 : rs.length ≤ 8) (hr : Rises (keysR rs)) {pg : Nat → Pg} {kn : Nat → Option Kn} (f : Nat) : ∀ j, j ≤ lvN n rs.length → (∀ i, i < j → pg (3 + i) = lvPg n rs i ∧ kn (3 + i) = some (.leaf (lvRows n rs i))) →
    goF (walkF pg kn (f + 1)) 0 [] [] true (ens n rs) (stA n rs 0) = goF (walkF pg kn (f + 1)) 0 [] [] (decide (j = 0)) ((ens n rs).drop j) (stA n rs j)
  | 0, _, _ => by simp
  | j + 1, hj, h => by
    rw [go_pre hn h8 hr f j (by omega) (fun i hi => h i (by omega)), ens_drop (by omega)]
    rw [goF_cons, if_neg (by rw [sep_in]; simp)]
    rw [ens_end]
    simp only []
    have hlo : (if decide (j = 0) = true then ([] : Bs) else sep n rs j) = sep n rs j := by
      by_cases h0 : j = 0
      · subst h0; rfl
      · rw [if_neg (by simpa using h0)]
    rw [hlo, walk_leaf hn h8 hr (by omega) (h j (by omega)).1 (h j (by omega)).2 f rfl]
    simp
/-- The root of a grown tree with leaves below it. -/
theorem walk_root {n : Nat} {rs : List Rw} {pg : Nat → Pg} {kn : Nat → Option Kn} (h2 : 2 ≤ lvN n rs.length) (hp : pg 1 = rootPg n rs) (hk : kn 1 = some (.inner (ens n rs))) (f : Nat) :
    walkF pg kn (f + 1) st0 1 (-1) [] [] = goF (walkF pg kn f) 0 [] [] true (ens n rs) (stA n rs 0) := by
  unfold walkF
  rw [if_neg (by simp [st0]), hk]
  have hroot : rootPg n rs = ⟨2, 1, 1, 0, 0, (ens n rs).map En.bytes⟩ := by unfold rootPg; rw [if_neg (by omega)]
  simp only [hp, hroot]
  rw [if_neg (by simp)]
  have e : (⟨st0.seen ++ [1], st0.next, st0.first, st0.pages ++ [1], st0.rows⟩ : WSt) = stA n rs 0 := by simp [st0, stA]
  rw [e]
  rfl
/-- A tree that has grown is one. -/
theorem walk_grown {n : Nat} (hn : 1 ≤ n) {rs : List Rw} (h8 : rs.length ≤ 8) (hr : Rises (keysR rs)) (f : Nat) : ∃ s, walkF (grown n rs) (grownK n rs) (f + 2) st0 1 (-1) [] [] = some (0, s) ∧ s.rows = rs.length ∧ s.next = 0 := by
  by_cases h2 : lvN n rs.length < 2
  · refine ⟨⟨[1], 0, false, [1], rs.length⟩, ?_, rfl, rfl⟩
    have hroot : grown n rs 1 = ⟨1, 0, 1, 0, 0, rs.map Rw.bytes⟩ := by rw [grown_root]; unfold rootPg; rw [if_pos h2]
    rw [show f + 2 = f + 1 + 1 from rfl, walkF, if_neg (by simp [st0]), grownK_one h2]
    simp only [hroot]
    rw [if_neg (by simp), if_neg (by simp [st0]), if_pos (by rw [List.all_eq_true]; intro r _; exact sep_in _)]
    simp [st0]
  · have h2' : 2 ≤ lvN n rs.length := by omega
    refine ⟨stA n rs (lvN n rs.length), ?_, ?_, ?_⟩
    · rw [show f + 2 = f + 1 + 1 from rfl, walk_root h2' (grown_root n rs) (grownK_root h2') (f + 1), go_pre hn h8 hr f _ (Nat.le_refl _) (fun i hi => ⟨grown_leaf h2' hi, grownK_leaf h2' hi⟩), List.drop_eq_nil_of_le (by rw [ens_length]; omega)]
      rfl
    · have := (lvN_lt (n := n) (len := rs.length) (i := lvN n rs.length) hn)
      show min _ _ = _
      omega
    · have := (lvN_lt (n := n) (len := rs.length) (i := lvN n rs.length) hn)
      show (if _ then _ else _) = _
      rw [if_neg (by omega), if_neg (by omega)]

/-- A spoilt tree's pages, and what they are: leaf k is another one. -/
def spPg (n : Nat) (rs : List Rw) (k : Nat) (how : Nat) : Pg :=
  match how with
  | 0 => { lvPg n rs k with next := 0 }
  | 1 => { lvPg n rs k with next := 3 + k }
  | 2 => { lvPg n rs k with rows := (lvRows n rs (k + 1)).map Rw.bytes }
  | 3 => { lvPg n rs k with level := 1 }
  | _ => { lvPg n rs k with kind := 0 }
def spKn (n : Nat) (rs : List Rw) (k : Nat) (how : Nat) : Kn :=
  match how with
  | 0 => .leaf (lvRows n rs k)
  | 1 => .leaf (lvRows n rs k)
  | 2 => .leaf (lvRows n rs (k + 1))
  | _ => .bad
theorem spKn_bad (n : Nat) (rs : List Rw) (k : Nat) {how : Nat} (h : 3 ≤ how) : spKn n rs k how = .bad := by
  obtain ⟨m, rfl⟩ : ∃ m, how = m + 3 := ⟨how - 3, by omega⟩
  rfl
def spoilt (n : Nat) (rs : List Rw) (k how q : Nat) : Pg := if q = 3 + k then spPg n rs k how else grown n rs q
def spoiltK (n : Nat) (rs : List Rw) (k how q : Nat) : Option Kn := if q = 3 + k then some (spKn n rs k how) else grownK n rs q
theorem spKn_ok {n : Nat} {rs : List Rw} (hm : ∀ r ∈ rs, r.may ∧ r.wf) (hr : Rises (keysR rs)) (k how : Nat) : KnOk (spPg n rs k how) (spKn n rs k how) := by
  unfold spPg spKn
  split
  · exact ⟨⟨rfl, rfl, rfl, fun r hr => hm r (lvRows_mem hr)⟩, lvRows_rise hr _⟩
  · exact ⟨⟨rfl, rfl, rfl, fun r hr => hm r (lvRows_mem hr)⟩, lvRows_rise hr _⟩
  · exact ⟨⟨rfl, rfl, rfl, fun r hr => hm r (lvRows_mem hr)⟩, lvRows_rise hr _⟩
  · exact .inl ⟨rfl, by show (1 : Nat) ≠ 0; decide⟩
  · rename_i h0 h1 h2 h3
    split
    · exact absurd rfl h0
    · exact absurd rfl h1
    · exact absurd rfl h2
    · exact .inr ⟨by show (0 : Nat) ≠ 1; decide, by show (0 : Nat) ≠ 2; decide⟩
theorem spoiltK_ok {n : Nat} (hn : 1 ≤ n) {rs : List Rw} (h8 : rs.length ≤ 8) (hm : ∀ r ∈ rs, r.may ∧ r.wf) (hr : Rises (keysR rs)) {k how : Nat} (hk : k + 1 < lvN n rs.length) {q : Nat} {x : Kn} (h : spoiltK n rs k how q = some x) : 1 ≤ q ∧ q ≤ 12 ∧ KnOk (spoilt n rs k how q) x := by
  have hle := lvN_le (n := n) (len := rs.length) hn
  unfold spoiltK at h
  unfold spoilt
  split at h
  · rename_i e
    injection h with h
    subst h
    rw [if_pos e]
    exact ⟨by omega, by omega, spKn_ok hm hr k how⟩
  · rename_i e
    rw [if_neg e]
    exact grownK_ok hn h8 hm hr h
/-- A spoilt tree is none. -/
theorem walk_spoilt {n : Nat} (hn : 1 ≤ n) {rs : List Rw} (h8 : rs.length ≤ 8) (hr : Rises (keysR rs)) (hkl : ∀ r ∈ rs, 1 ≤ r.key.length) (f : Nat) {k how : Nat} (hk : k + 1 < lvN n rs.length) : ∃ s, walkF (spoilt n rs k how) (spoiltK n rs k how) (f + 2) st0 1 (-1) [] [] = some (180, s) := by
  have h2 : 2 ≤ lvN n rs.length := by omega
  have hi := (lvN_lt (n := n) (len := rs.length) (i := k) hn).1 (by omega)
  have hi2 := (lvN_lt (n := n) (len := rs.length) (i := k + 1) hn).1 hk
  have hp : ∀ i, i < k → spoilt n rs k how (3 + i) = lvPg n rs i ∧ spoiltK n rs k how (3 + i) = some (.leaf (lvRows n rs i)) := fun i hi => by
    unfold spoilt spoiltK
    rw [if_neg (by omega), if_neg (by omega)]
    exact ⟨grown_leaf h2 (by omega), grownK_leaf h2 (by omega)⟩
  have hpk : spoilt n rs k how (3 + k) = spPg n rs k how ∧ spoiltK n rs k how (3 + k) = some (spKn n rs k how) := by
    unfold spoilt spoiltK
    rw [if_pos rfl, if_pos rfl]; exact ⟨rfl, rfl⟩
  have hp2 : spoilt n rs k how (3 + (k + 1)) = lvPg n rs (k + 1) ∧ spoiltK n rs k how (3 + (k + 1)) = some (.leaf (lvRows n rs (k + 1))) := by
    unfold spoilt spoiltK
    rw [if_neg (by omega), if_neg (by omega)]
    exact ⟨grown_leaf h2 hk, grownK_leaf h2 hk⟩
  have hroot : spoilt n rs k how 1 = rootPg n rs ∧ spoiltK n rs k how 1 = some (.inner (ens n rs)) := by
    unfold spoilt spoiltK
    rw [if_neg (by omega), if_neg (by omega)]
    exact ⟨grown_root n rs, grownK_root h2⟩
  have hno : ∀ j, j ≤ k + 1 → ¬ (3 + j ∈ (stA n rs j).seen ∨ 1000 ≤ (stA n rs j).seen.length) := fun j hj => stA_no h8 hn (by omega)
  have hle := lvN_le (n := n) (len := rs.length) hn
  rw [show f + 2 = f + 1 + 1 from rfl, walk_root h2 hroot.1 hroot.2 (f + 1), go_pre hn h8 hr f k (by omega) hp, ens_drop (by omega), goF_cons, if_neg (by rw [sep_in]; simp), ens_end]
  simp only []
  have hlo : (if decide (k = 0) = true then ([] : Bs) else sep n rs k) = sep n rs k := by
    by_cases h0 : k = 0
    · subst h0; rfl
    · rw [if_neg (by simpa using h0)]
  rw [hlo, walkF, if_neg (hno k (by omega)), hpk.2]
  have hfirst : ¬ ((stA n rs k).first = false ∧ (stA n rs k).next ≠ 3 + k) := by
    rintro ⟨h1, h3⟩
    unfold stA at h1 h3
    have h4 : ¬ k = 0 := by simpa using h1
    rw [if_neg h4, if_pos hi] at h3
    exact h3 rfl
  -- the leaf behind the spoilt one, whose number is not what was told
  have hbehind : ∀ s : WSt, s.first = false → s.next ≠ 3 + (k + 1) → ¬ (3 + (k + 1) ∈ s.seen ∨ 1000 ≤ s.seen.length) → ∃ s', goF (walkF (spoilt n rs k how) (spoiltK n rs k how) (f + 1)) 0 [] [] false ((ens n rs).drop (k + 1)) s = some (180, s') := fun s h1 h3 h4 => by
    refine ⟨s, ?_⟩
    rw [ens_drop hk, goF_cons, if_neg (by rw [sep_in]; simp), ens_end]
    simp only []
    rw [walkF, if_neg h4, hp2.2]
    simp only [hp2.1]
    rw [if_neg (by simp [lvPg]), if_pos ⟨h1, h3⟩]
    simp
  rcases (show how = 0 ∨ how = 1 ∨ how = 2 ∨ 3 ≤ how by omega) with rfl | rfl | rfl | h3
  · simp only [hpk.1, spPg, spKn]
    rw [if_neg (by simp [lvPg]), if_neg hfirst, if_pos (lv_in hn hr (by omega))]
    refine hbehind _ rfl (by show (0 : Nat) ≠ _; omega) ?_
    rintro (hm | hm)
    · rcases List.mem_append.1 hm with hm | hm
      · rcases List.mem_cons.1 hm with hm | hm
        · omega
        · obtain ⟨x, hx, e⟩ := List.mem_map.1 hm
          have := List.mem_range.1 hx
          omega
      · simp at hm
    · simp [stA] at hm
      omega
  · simp only [hpk.1, spPg, spKn]
    rw [if_neg (by simp [lvPg]), if_neg hfirst, if_pos (lv_in hn hr (by omega))]
    refine hbehind _ rfl (by show 3 + k ≠ _; omega) ?_
    rintro (hm | hm)
    · rcases List.mem_append.1 hm with hm | hm
      · rcases List.mem_cons.1 hm with hm | hm
        · omega
        · obtain ⟨x, hx, e⟩ := List.mem_map.1 hm
          have := List.mem_range.1 hx
          omega
      · simp at hm
    · simp [stA] at hm
      omega
  · simp only [hpk.1, spPg, spKn]
    refine ⟨stA n rs k, ?_⟩
    have hin : ¬ (lvRows n rs (k + 1)).all (fun r => inK r.key (sep n rs k) (endK n rs k)) = true := by
      rw [List.all_eq_true]
      intro hall
      have hl := lvRows_length n rs (k + 1)
      have h0 : 0 < (lvRows n rs (k + 1)).length := by omega
      have h1 := hall _ (List.getElem_mem h0)
      rw [lvRows_at h0 (by omega)] at h1
      unfold inK endK at h1
      rw [if_pos hk, Bool.and_eq_true, Bool.or_eq_true, sep_nonempty hkl (by omega) hi2, sep_at (by omega) hi2] at h1
      simp only [Nat.add_zero] at h1
      have h5 := h1.2
      simp [ltB_irrefl] at h5
    rw [if_neg (by simp [lvPg]), if_neg hfirst, if_neg hin]
    simp
  · rw [spKn_bad n rs k h3]
    exact ⟨_, by simp; rfl⟩

/-- The way in a grown tree. -/
theorem way_grown {n : Nat} (hn : 1 ≤ n) {rs : List Rw} (hr : Rises (keysR rs)) (hkl : ∀ r ∈ rs, 1 ≤ r.key.length) (k : Bs) (f : Nat) : ∃ l q ls, wayF (grownK n rs) k (f + 2) 1 = some (l, q) ∧ l.length ≤ 2 ∧ grownK n rs q = some (.leaf ls) ∧
    ∃ c, (q = 1 ∧ c = 0 ∧ ls = rs ∧ lvN n rs.length < 2 ∨ q = 3 + c ∧ ls = lvRows n rs c ∧ c < lvN n rs.length ∧ 2 ≤ lvN n rs.length) ∧ findK (keysR rs) k = c * n + findK (keysR ls) k ∧ isK (keysR rs) k = isK (keysR ls) k := by
  by_cases h2 : lvN n rs.length < 2
  · refine ⟨[(1, 0)], 1, rs, ?_, by simp, grownK_one h2, 0, .inl ⟨rfl, rfl, rfl, h2⟩, by simp, rfl⟩
    rw [show f + 2 = f + 1 + 1 from rfl, wayF, grownK_one h2]
  · have h2' : 2 ≤ lvN n rs.length := by omega
    have h1 : 1 ≤ rs.length := by
      have := (lvN_lt (n := n) (len := rs.length) (i := 0) hn).1 (by omega)
      omega
    obtain ⟨c, e, hc, hf, hi⟩ := leaf_spec hn hr hkl h1 k
    refine ⟨[(1, c), (3 + c, 0)], 3 + c, lvRows n rs c, ?_, by simp, grownK_leaf h2' hc, c, .inr ⟨rfl, rfl, hc, h2'⟩, hf, hi⟩
    rw [show f + 2 = f + 1 + 1 from rfl, wayF, grownK_root h2']
    simp only [ens_keys, ← e]
    rw [List.getElem?_eq_getElem (by rw [ens_length]; exact hc), ens_at]
    simp only []
    rw [wayF, grownK_leaf h2' hc]
    rfl
/-- What comes next in a grown tree. -/
theorem next_grown {n : Nat} (hn : 1 ≤ n) {rs : List Rw} {c q a : Nat} {ls : List Rw} (h : q = 1 ∧ c = 0 ∧ ls = rs ∧ lvN n rs.length < 2 ∨ q = 3 + c ∧ ls = lvRows n rs c ∧ c < lvN n rs.length ∧ 2 ≤ lvN n rs.length) (ha : a ≤ ls.length) (f : Nat) :
    nextF (grown n rs) (grownK n rs) (f + 2) q a = some rs[c * n + a]? := by
  rcases h with ⟨rfl, rfl, rfl, h2⟩ | ⟨rfl, rfl, hc, h2⟩
  · rw [show f + 2 = f + 1 + 1 from rfl, nextF, grownK_one h2]
    simp only [Nat.zero_mul, Nat.zero_add]
    by_cases hlt : a < ls.length
    · rw [if_pos hlt]
    · have hroot : grown n ls 1 = ⟨1, 0, 1, 0, 0, ls.map Rw.bytes⟩ := by rw [grown_root]; unfold rootPg; rw [if_pos h2]
      rw [if_neg hlt, hroot, if_pos rfl, List.getElem?_eq_none (by omega)]
  · have hlr := lvRows_length n rs c
    have hc' := (lvN_lt (n := n) (len := rs.length) hn).1 hc
    rw [show f + 2 = f + 1 + 1 from rfl, nextF, grownK_leaf h2 hc]
    simp only []
    by_cases hlt : a < (lvRows n rs c).length
    · rw [if_pos hlt, List.getElem?_eq_getElem hlt, lvRows_at hlt (by omega), List.getElem?_eq_getElem (by omega)]
    · rw [if_neg hlt, grown_leaf h2 hc]
      have e : (c + 1) * n = c * n + n := by rw [Nat.add_mul, Nat.one_mul]
      by_cases hl : (c + 1) * n < rs.length
      · have hc2 : c + 1 < lvN n rs.length := (lvN_lt hn).2 hl
        have hn2 : (lvPg n rs c).next = 3 + (c + 1) := by
          show (if _ then _ else _) = _
          rw [if_pos hl]; omega
        rw [hn2, if_neg (by omega), nextF, grownK_leaf h2 hc2]
        simp only []
        have hlr2 := lvRows_length n rs (c + 1)
        have h0 : 0 < (lvRows n rs (c + 1)).length := by omega
        rw [if_pos h0, List.getElem?_eq_getElem h0, lvRows_at h0 (by omega)]
        have e5 : c * n + a = (c + 1) * n + 0 := by omega
        rw [e5, List.getElem?_eq_getElem (by omega)]
      · have hn2 : (lvPg n rs c).next = 0 := by
          show (if _ then _ else _) = _
          rw [if_neg hl]
        rw [hn2, if_pos rfl, List.getElem?_eq_none (by omega)]
end Go.Proofs.YtafopojibpifoaaGreat.Sp

/- The walks that compare keys: strings.Compare, key.Compare, key.In, pentimentoref03.Compare. -/
namespace Go.Proofs.YtafopojibpifoaaGreat
open Go.RowKit

set_option maxRecDepth 100000 in
theorem bytealg_compare (a b : Sp.Bs) (w : World) : Calls Tryz.prog 101 #[str a, str b] w fun e w' => e = .returned (.int .i64 (Lib.compareBytes a b)) ∧ w' = w := by
  go_enter Tryz.func101, Tryz.ntmps101
  go_wp2
  rw [run_callFunc_extern Tryz.func138 (by kernel_rfl) (by kernel_rfl) (by kernel_rfl) (e := Extern.BytealgCompare.compare) (by kernel_rfl), Lib.run_compareString]
  simp only [Result.andThen]
  rw [Oper.upon_value]
  go_wp2
  go_ret
  exact ⟨rfl, rfl⟩
theorem strings_compare (a b : Sp.Bs) (w : World) : Calls Tryz.prog 71 #[str a, str b] w fun e w' => e = .returned (.int .i64 (Lib.compareBytes a b)) ∧ w' = w := by
  have HC := Lib.hid fun (W : World) => bytealg_compare a b W
  go_enter Tryz.func71, Tryz.ntmps71
  go_wp2_with fail
  refine (HC.out _).mono ?_
  rintro e w1 ⟨rfl, hw⟩
  subst w1
  go_wp2_with fail
  go_ret
  exact ⟨rfl, rfl⟩
theorem key_compare (a b : Sp.Bs) (w : World) : Calls Tryz.prog 50 #[str a, str b] w fun e w' => e = .returned (.int .i64 (Lib.compareBytes a b)) ∧ w' = w := by
  have HC := Lib.hid fun (W : World) => strings_compare a b W
  go_enter Tryz.func50, Tryz.ntmps50
  go_wp2_with fail
  refine (HC.out _).mono ?_
  rintro e w1 ⟨rfl, hw⟩
  subst w1
  go_wp2_with fail
  go_ret
  exact ⟨rfl, rfl⟩
theorem bytesLess_iff : ∀ a b : Sp.Bs, Op.bytesLess a b = decide (a < b)
  | [], [] => by simp [Op.bytesLess]
  | [], _ :: _ => by simp [Op.bytesLess]
  | _ :: _, [] => by simp [Op.bytesLess]
  | x :: a, y :: b => by
    have ih := bytesLess_iff a b
    rw [Bool.eq_iff_iff, decide_eq_true_eq, List.cons_lt_cons_iff]
    simp [Op.bytesLess, ih]
theorem leq_iff (a b : Sp.Bs) : (Op.bytesLess a b = true ∨ a = b) ↔ ¬ b < a := by
  rw [bytesLess_iff, decide_eq_true_eq]
  constructor
  · rintro (h | rfl)
    · exact Sp.ltB_asymm h
    · exact Sp.ltB_irrefl _
  · intro h
    by_cases e : a = b
    · exact .inr e
    · exact .inl (Sp.ltB_of h e)
theorem key_in (k lo hi : Sp.Bs) (w : World) : Calls Tryz.prog 30 #[str k, str lo, str hi] w fun e w' => e = .returned (.bool (Sp.inK k lo hi)) ∧ w' = w := by
  go_enter Tryz.func30, Tryz.ntmps30
  go_wp2_with fail
  · rename_i h1 h2
    subst h2
    have h3 := (leq_iff lo k).1 h1
    have h4 : (Op.bytesLess lo k || lo == k) = true := by simpa using h1
    go_ret
    rw [h4]
    simp [Sp.inK, h3]
  · rename_i h1 h2
    have h3 := (leq_iff lo k).1 h1
    have h4 : (Op.bytesLess lo k || lo == k) = true := by simpa using h1
    go_ret
    have h5 : hi.isEmpty = false := by cases hi <;> simp_all
    rw [h4]
    simp [Sp.inK, h3, h5, bytesLess_iff]
  · rename_i h1
    have h3 : k < lo := Decidable.byContradiction fun h => h1 ((leq_iff lo k).2 h)
    go_ret
    simp [Sp.inK, h3]

theorem Below.drewN {B : Nat} {w w' : World} (h : Below B w w') (n : Nat) : Below B w (w'.drewN n) := ⟨h.os, h.tape, h.output, h.size, h.block⟩
theorem compare_app : ∀ (p a b : Sp.Bs), Lib.compareBytes (p ++ a) (p ++ b) = Lib.compareBytes a b
  | [], _, _ => rfl
  | x :: p, a, b => by
    rw [List.cons_append, List.cons_append, Lib.compareBytes, if_neg (UInt8.lt_irrefl x), if_neg (UInt8.lt_irrefl x)]
    exact compare_app p a b
theorem compare_from {a b : Sp.Bs} {k : Nat} (h : a.take k = b.take k) : Lib.compareBytes a b = Lib.compareBytes (a.drop k) (b.drop k) := by
  have e := compare_app (a.take k) (a.drop k) (b.drop k)
  rw [List.take_append_drop] at e
  rw [← e, h, List.take_append_drop]

set_option maxRecDepth 100000 in
theorem ref03_compare (a b : Sp.Bs) (w : World) (ha : a.length < 9223372036854775807) : Calls Tryz.prog 13 #[str a, str b] w fun e w' => e = .returned (.int .i64 (Lib.compareBytes a b)) ∧ Below w.heap.size w w' := by
  go_enter Tryz.func13, Tryz.ntmps13
  go_wp2_with fail
  go_loopw [5] (fun i wr => ∃ k : Nat, k ≤ a.length ∧ k ≤ b.length ∧ i = .int .i64 k ∧ a.take k = b.take k ∧ Below w.heap.size w wr) (fun i _ => a.length - (intOf i).toNat)
  case atStart => exact ⟨0, by omega, by omega, rfl, by simp, Below.refl _ _⟩
  case round =>
    obtain ⟨k, hk, hk2, rfl, htk, hb⟩ := hrel
    have HF := Lib.hid (compare_from htk)
    by_cases hc : k < a.length ∧ k < b.length
    · obtain ⟨h1, h2⟩ := hc
      have ea : a.drop k = a[k] :: a.drop (k + 1) := List.drop_eq_getElem_cons h1
      have eb : b.drop k = b[k] :: b.drop (k + 1) := List.drop_eq_getElem_cons h2
      have hC : Lib.compareBytes a b = if a[k] < b[k] then -1 else if b[k] < a[k] then 1 else Lib.compareBytes (a.drop (k + 1)) (b.drop (k + 1)) := by rw [HF.out, ea, eb, Lib.compareBytes]
      have HC := Lib.hid hC
      clear hC ea eb HF
      have q1 : k < (⟨a.toArray⟩ : ByteArray).size := by rw [str_size]; exact h1
      have q2 : k < (⟨b.toArray⟩ : ByteArray).size := by rw [str_size]; exact h2
      by_cases h4 : a[k] < b[k]
      · have d1 : decide ((⟨a.toArray⟩ : ByteArray)[k].toNat < (⟨b.toArray⟩ : ByteArray)[k].toNat) = true := decide_eq_true (UInt8.lt_iff_toNat_lt.1 h4)
        go_wp2_with fail
        go_quiet (fail)
        go_wp2_with fail
        go_ret
        exact ⟨by rw [HC.out, if_pos h4]; rfl, Below.drewN hb _⟩
      · have d1 : decide ((⟨a.toArray⟩ : ByteArray)[k].toNat < (⟨b.toArray⟩ : ByteArray)[k].toNat) = false := decide_eq_false (fun h => h4 (UInt8.lt_iff_toNat_lt.2 h))
        by_cases h6 : b[k] < a[k]
        · have d2 : decide ((⟨b.toArray⟩ : ByteArray)[k].toNat < (⟨a.toArray⟩ : ByteArray)[k].toNat) = true := decide_eq_true (UInt8.lt_iff_toNat_lt.1 h6)
          go_wp2_with fail
          go_quiet (fail)
          go_wp2_with fail
          go_quiet (fail)
          go_wp2_with fail
          go_ret
          exact ⟨by rw [HC.out, if_neg h4, if_pos h6]; rfl, Below.drewN (Below.drewN hb _) _⟩
        · have d2 : decide ((⟨b.toArray⟩ : ByteArray)[k].toNat < (⟨a.toArray⟩ : ByteArray)[k].toNat) = false := decide_eq_false (fun h => h6 (UInt8.lt_iff_toNat_lt.2 h))
          have e : a[k] = b[k] := UInt8.le_antisymm (UInt8.not_lt.1 h6) (UInt8.not_lt.1 h4)
          go_wp2_with fail
          go_quiet (fail)
          go_wp2_with fail
          go_quiet (fail)
          go_wp2_with fail
          go_roundw
          case rel => exact ⟨k + 1, h1, h2, by go_num, by rw [List.take_succ_eq_append_getElem h1, List.take_succ_eq_append_getElem h2, htk, e], Below.drewN hb _⟩
          case measure => simp [intOf]; omega
    · have hend : (a.length < b.length ∧ k = a.length) ∨ (b.length < a.length ∧ k = b.length) ∨ (a.length = b.length ∧ k = a.length) := by omega
      rcases hend with ⟨h1, rfl⟩ | ⟨h1, rfl⟩ | ⟨h1, rfl⟩
      · have hC : Lib.compareBytes a b = -1 := by
          rw [HF.out, List.drop_length, List.drop_eq_getElem_cons h1]; rfl
        go_wp2_with fail
        go_ret
        exact ⟨by rw [hC]; rfl, hb⟩
      · have hC : Lib.compareBytes a b = 1 := by
          rw [HF.out, List.drop_length, List.drop_eq_getElem_cons h1]; rfl
        go_wp2_with fail
        go_ret
        exact ⟨by rw [hC]; rfl, hb⟩
      · have hC : Lib.compareBytes a b = 0 := by
          rw [HF.out, List.drop_length, h1, List.drop_length]; rfl
        go_wp2_with fail
        go_ret
        exact ⟨by rw [hC]; rfl, hb⟩
end Go.Proofs.YtafopojibpifoaaGreat

/- Maps whose entries are told one by one: a new key, a key that is there; any values. No program is named here. -/
namespace Go.Proofs.YtafopojibpifoaaGreat
open Go.RowKit

/-- The world in which block r is this map. -/
def mapW (w : World) (r : Nat) (es : Array MapEntry) (clock : Nat) : World := { w with heap := w.heap.setIfInBounds r (.map es clock) }
theorem mapW_at {w : World} {r : Nat} {o : Obj} (h : w.heap[r]? = some o) (es : Array MapEntry) (clock : Nat) : (mapW w r es clock).heap[r]? = some (.map es clock) := (MapKept.heap_set h).1
theorem mapW_far {w : World} {r : Nat} {o : Obj} (h : w.heap[r]? = some o) (es : Array MapEntry) (clock : Nat) {b : Nat} (hb : b ≠ r) : (mapW w r es clock).heap[b]? = w.heap[b]? := (MapKept.heap_set h).2 b hb
theorem mapW_size (w : World) (r : Nat) (es : Array MapEntry) (clock : Nat) : (mapW w r es clock).heap.size = w.heap.size := by simp [mapW]
theorem below_mapW {B : Nat} {w0 w : World} (h : Below B w0 w) {r : Nat} {o : Obj} (hr : w.heap[r]? = some o) (hB : B ≤ r) (es : Array MapEntry) (clock : Nat) : Below B w0 (mapW w r es clock) :=
  ⟨h.os, h.tape, h.output, by rw [mapW_size]; exact h.size, fun b hb => (mapW_far hr es clock (by omega)).trans (h.block b hb)⟩
theorem Blk.mapW {w : World} {g : Nat} {t : TypeId} {cs : Array Value} (h : Blk w g t cs) {r : Nat} {o : Obj} (hr : w.heap[r]? = some o) (hne : g ≠ r) (es : Array MapEntry) (clock : Nat) : Blk (mapW w r es clock) g t cs := (mapW_far hr es clock hne).trans h

variable {P : Program} {w : World}
theorem run_update_new {mty kt et : TypeId} {d : TypeDesc} {r clock : Nat} {es : Array MapEntry} {k val : Value} (hm : P.underlying mty = some (.map kt et)) (hk : P.underlying kt = some d) (hkey : MapKept.IsKey d k) (hb : w.heap[r]? = some (.map es clock)) (hf : Instr.findNow d k es.toList 0 = some none) :
    (Instr.mapUpdate mty (.map (some r)) k val).run P w = .ok () (mapW w r (es.push { key := k, val := val, born := clock }) (clock + 1)) := by
  have hc : (Instr.checkKey false 10000 kt k).run P w = .ok () w := MapKept.run_checkKey hk hkey false 9999
  simp [Instr.mapUpdate, run_underlying hm, MapKept.run_getObj_map hb, hc, MapKept.run_findKey hk hf, MapKept.run_setObj_map _ hb, Result.andThen, mapW]
theorem run_lookup_there {mty kt et : TypeId} {d : TypeDesc} {r clock i : Nat} {es : Array MapEntry} {k v : Value} (hm : P.underlying mty = some (.map kt et)) (hk : P.underlying kt = some d) (hkey : MapKept.IsKey d k) (hb : w.heap[r]? = some (.map es clock)) (hf : Instr.findNow d k es.toList 0 = some (some (i, v))) :
    (Instr.lookup mty (.map (some r)) k true).run P w = .ok (.tuple #[v, .bool true]) w := by
  have hc : ∀ em, (Instr.checkKey em 10000 kt k).run P w = .ok () w := fun em => MapKept.run_checkKey hk hkey em 9999
  simp [Instr.lookup, run_underlying hm, MapKept.run_getObj_map hb, hc, MapKept.run_findKey hk hf, Result.andThen]
end Go.Proofs.YtafopojibpifoaaGreat
