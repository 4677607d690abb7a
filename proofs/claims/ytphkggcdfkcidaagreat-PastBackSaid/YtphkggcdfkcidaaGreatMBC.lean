/- The walks of package twin's Read outside of a disk, and of package pool's Pin of what is no page there. -/
import Derived.Test.YtphkggcdfkcidaaGreatMAG
import Derived.Test.YtphkggcdfkcidaaGreatMAC
import Derived.Test.YtphkggcdfkcidaaGreatMAL
import Derived.Test.YtphkggcdfkcidaaGreatMAK
import Derived.Test.YtphkggcdfkcidaaGreatMAH
import Derived.Test.YtphkggcdfkcidaaGreatMAM

namespace Go.Proofs.YtphkggcdfkcidaaGreat
open Go.RowKit

set_option maxRecDepth 100000 in
set_option maxHeartbeats 2000000 in
theorem twin_read_out {F : Foot} {w : World} {g : Nat} {d : Sp.Dk} (h : IsDk F w g d) (base page : Nat) (hp : page < 4294967296) (hb : base ≤ d.sure.length) (ho : d.sure.length < base + page * 4 + 4) :
    Calls Tryz.prog 52 #[.pointer (some ⟨g, 0, none⟩), .int .i64 base, .int .u32 page] w fun e w' => e = .returned (.tuple #[str [], .int .i64 2]) ∧ w' = w := by
  have hfew := h.wf.few
  have HL := Lib.hid (disk_len h)
  have d1 : decide ((base : Int) < 0) = false := by simp
  have d2 : decide ((d.sure.length : Int) < base) = false := by rw [decide_eq_false_iff_not]; omega
  have d3 : decide ((d.sure.length : Int) - 4 < base + page * 4) = true := by rw [decide_eq_true_eq]; omega
  clear h
  go_enter Tryz.func52, Tryz.ntmps52
  go_wp2_with fail
  refine HL.out.mono ?_
  rintro e w1 ⟨rfl, hw⟩
  subst w1
  go_wp2_with fail
  refine HL.out.mono ?_
  rintro e w1 ⟨rfl, hw⟩
  subst w1
  go_wp2_with fail
  go_ret2
  exact ⟨rfl, rfl⟩

set_option maxRecDepth 100000 in
set_option maxHeartbeats 4000000 in
/-- A page that the disk has not. -/
theorem pool_pin_far {F : Foot} {w : World} {gp gd gl at_ base : Nat} {p : Sp.Pl} (h : IsPl F w gp gd gl at_ base p) {id : Nat} (hid : id < 4294967296) (hf : p.find id = none)
    (HTR : ∀ W, Below w.heap.size w W → Calls Tryz.prog 52 #[ptr gd, .int .i64 base, u32v id] W fun e w' => e = .returned (.tuple #[str [], .int .i64 2]) ∧ Below W.heap.size W w') :
    Calls Tryz.prog 23 #[ptr gp, u32v id] w fun e w' => e = .returned (.tuple #[zeroPgV, .int .i64 2]) ∧ Below w.heap.size w w' := by
  obtain ⟨R, fb, cb, mb, v, s0, r, cs, h⟩ := h
  have hb2 := Blk.new w 53 #[.int .u8 0, .int .u8 0, .int .u32 0, .int .u64 0, .int .u32 0, .slice none 0 0]
  have hbw := (Below.refl w.heap.size w).alloc (Nat.le_refl _) (.cells #[.int .u8 0, .int .u8 0, .int .u32 0, .int .u64 0, .int .u32 0, .slice none 0 0] 53)
  have h2 := h.keep (w' := w.alloc (.cells #[.int .u8 0, .int .u8 0, .int .u32 0, .int .u64 0, .int .u32 0, .slice none 0 0] 53)) (by simp) (fun b hb => Below.heap_alloc w _ b (h.lt b hb))
  obtain ⟨c0, c1, c2, c3, c4, c5, c6, c7⟩ := h2.cells
  have HM := Lib.hid (pool_made c6)
  have hlk := h2.look_out hid hf
  have HT := Lib.hid HTR
  have hz0 : ∀ W, (Instr.build 53 #[]).run Tryz.prog W = .ok zeroPgV W := fun W => by kernel_rfl
  clear c1 c2 c4 c5 c7 h HTR hf
  go_enter Tryz.func23, Tryz.ntmps23
  go_wp2_with fail
  obtain ⟨w2, hw2⟩ : ∃ w2, w2 = w.alloc (.cells #[.int .u8 0, .int .u8 0, .int .u32 0, .int .u64 0, .int .u32 0, .slice none 0 0] 53) := ⟨_, rfl⟩
  rw [← hw2] at HM hlk hb2 hbw c0 c3 c6 h2 ⊢
  obtain ⟨g4, hg⟩ : ∃ g, g = w.heap.size := ⟨_, rfl⟩
  rw [← hg] at hb2 ⊢
  have hg4l : w.heap.size ≤ g4 := by omega
  clear hw2 hg
  refine HM.out.mono ?_
  rintro e w1 ⟨rfl, hw⟩
  subst w1
  go_wp2_with fail
  have hS := Lib.hid (⟨c0, c3⟩ : w2.drew.cell? ⟨gp, 0, none⟩ = some (ptr gd) ∧ w2.drew.cell? ⟨gp, 3, none⟩ = some (.int .i64 base))
  have hgp0 := h2.blk
  clear c0 c3 c6 h2 HM hlk
  refine R_begin (fun W => W.cell? ⟨gp, 0, none⟩ = some (ptr gd) ∧ W.cell? ⟨gp, 3, none⟩ = some (.int .i64 base)) (fun _ => false) rfl ?_
  refine R_tk 0 28 hS.out ?_
  refine R_tk 1 29 hS.out ?_
  refine R_tk 2 30 hS.out ?_
  refine R_tk 3 31 hS.out ?_
  refine R_tk 4 32 hS.out ?_
  refine R_tk 5 33 hS.out ?_
  refine R_tk 6 34 hS.out ?_
  refine R_tk 7 35 hS.out ?_
  refine R_tk 8 36 hS.out ?_
  simp only [List.setIfInBounds_toArray, List.set_cons_zero, List.set_cons_succ]
  refine R_call 9 37 (w' := w2.drew) rfl rfl (by rfl) (by kernel_rfl) ?_ (HT.out w2.drew ⟨hbw.os, hbw.tape, hbw.output, hbw.size, hbw.block⟩) ?_
  · go_simp
  rintro e w3 ⟨rfl, hb3⟩
  have hgp3 := hgp0.drew.below hb3 hgp0.lt
  have hS3 := Lib.hid (show w3.cell? ⟨gp, 0, none⟩ = some (ptr gd) ∧ w3.cell? ⟨gp, 3, none⟩ = some (.int .i64 base) from ⟨(hgp3.cell 0).trans rfl, (hgp3.cell 3).trans rfl⟩)
  refine ⟨_, rfl, fun _ => hS3.out, ?_⟩
  simp only [List.setIfInBounds_toArray, List.set_cons_zero, List.set_cons_succ]
  refine R_tk 10 27 hS3.out ?_
  refine R_tk 11 38 hS3.out ?_
  refine R_tk 12 39 hS3.out ?_
  refine R_tk 13 8 hS3.out ?_
  refine R_tk 14 9 hS3.out ?_
  simp only [List.setIfInBounds_toArray, List.set_cons_zero, List.set_cons_succ]
  refine R_done (by kernel_rfl) ?_ _
  rename_i K9 hK9
  refine hK9 _ _ ?_
  clear hK9
  have hbd : Below w2.heap.size w2 w3 := (Below.refl w2.heap.size w2).drew.trans hb3
  have hb3' := hb2.below hbd hb2.lt
  have hbw3 : Below w.heap.size w w3 := hbw.trans (hbd.mono hbw.size)
  clear hS hS3 hgp3 hgp0 hb2 hbw hb3 hbd HT
  have HB7 := Lib.hid hb3'
  have hbw7 := hbw3
  clear hb3' hbw3
  have z0 := HB7.out.cell 0
  have f0 := HB7.out.frozen 0
  have z1 := HB7.out.cell 1
  have f1 := HB7.out.frozen 1
  have z2 := HB7.out.cell 2
  have f2 := HB7.out.frozen 2
  have z3 := HB7.out.cell 3
  have f3 := HB7.out.frozen 3
  have z4 := HB7.out.cell 4
  have f4 := HB7.out.frozen 4
  have z5 := HB7.out.cell 5
  have f5 := HB7.out.frozen 5
  simp only [List.getElem?_toArray, List.getElem?_cons_succ, List.getElem?_cons_zero] at z0 z1 z2 z3 z4 z5
  go_wp2_with fail
  obtain ⟨W8, hW8, hX8, ht8, hk8⟩ := six_set HB7.out (.int .u8 0) (.int .u8 0) (.int .u32 0) (.int .u64 0) (.int .u32 0) (.slice none 0 0)
  rw [hW8]
  have z0 := hX8.cell 0
  have z1 := hX8.cell 1
  have z2 := hX8.cell 2
  have z3 := hX8.cell 3
  have z4 := hX8.cell 4
  have z5 := hX8.cell 5
  simp only [List.getElem?_toArray, List.getElem?_cons_succ, List.getElem?_cons_zero] at z0 z1 z2 z3 z4 z5
  clear f0 f1 f2 f3 f4 f5 hW8
  exact bodyPost_ret (v := .tuple #[zeroPgV, .int .i64 2]) (by rw [results_cell_tmp rfl]; go_simp) rfl ⟨rfl, hbw7.trans (ht8.below hbw7.size (fun b hb => by rw [hb]; exact hg4l))⟩

set_option maxRecDepth 100000 in
set_option maxHeartbeats 4000000 in
/-- Bytes that are no page. -/
theorem pool_pin_bad {F : Foot} {w : World} {gp gd gl at_ base : Nat} {p : Sp.Pl} (h : IsPl F w gp gd gl at_ base p) {id : Nat} (hid : id < 4294967296) (hf : p.find id = none)
    (t : Sp.Bs) (h4 : 4 ≤ t.length) (hl : t.length ≤ 1000000000) (hne : Sp.sealed (t.take (t.length - 4)) ≠ t) (HTR : ∀ W, Below w.heap.size w W → Calls Tryz.prog 52 #[ptr gd, .int .i64 base, u32v id] W fun e w' => e = .returned (.tuple #[str t, .int .i64 0]) ∧ Below W.heap.size W w') :
    Calls Tryz.prog 23 #[ptr gp, u32v id] w fun e w' => e = .returned (.tuple #[zeroPgV, .int .i64 60]) ∧ Below w.heap.size w w' := by
  obtain ⟨R, fb, cb, mb, v, s0, r, cs, h⟩ := h
  have hb2 := Blk.new w 53 #[.int .u8 0, .int .u8 0, .int .u32 0, .int .u64 0, .int .u32 0, .slice none 0 0]
  have hbw := (Below.refl w.heap.size w).alloc (Nat.le_refl _) (.cells #[.int .u8 0, .int .u8 0, .int .u32 0, .int .u64 0, .int .u32 0, .slice none 0 0] 53)
  have h2 := h.keep (w' := w.alloc (.cells #[.int .u8 0, .int .u8 0, .int .u32 0, .int .u64 0, .int .u32 0, .slice none 0 0] 53)) (by simp) (fun b hb => Below.heap_alloc w _ b (h.lt b hb))
  obtain ⟨c0, c1, c2, c3, c4, c5, c6, c7⟩ := h2.cells
  have HM := Lib.hid (pool_made c6)
  have hlk := h2.look_out hid hf
  have HT := Lib.hid HTR
  have hz0 : ∀ W, (Instr.build 53 #[]).run Tryz.prog W = .ok zeroPgV W := fun W => by kernel_rfl
  clear c1 c2 c4 c5 c7 h HTR hf
  go_enter Tryz.func23, Tryz.ntmps23
  go_wp2_with fail
  obtain ⟨w2, hw2⟩ : ∃ w2, w2 = w.alloc (.cells #[.int .u8 0, .int .u8 0, .int .u32 0, .int .u64 0, .int .u32 0, .slice none 0 0] 53) := ⟨_, rfl⟩
  rw [← hw2] at HM hlk hb2 hbw c0 c3 c6 h2 ⊢
  obtain ⟨g4, hg⟩ : ∃ g, g = w.heap.size := ⟨_, rfl⟩
  rw [← hg] at hb2 ⊢
  have hg4l : w.heap.size ≤ g4 := by omega
  clear hw2 hg
  refine HM.out.mono ?_
  rintro e w1 ⟨rfl, hw⟩
  subst w1
  go_wp2_with fail
  have hS := Lib.hid (⟨c0, c3⟩ : w2.drew.cell? ⟨gp, 0, none⟩ = some (ptr gd) ∧ w2.drew.cell? ⟨gp, 3, none⟩ = some (.int .i64 base))
  have hgp0 := h2.blk
  clear c0 c3 c6 h2 HM hlk
  refine R_begin (fun W => W.cell? ⟨gp, 0, none⟩ = some (ptr gd) ∧ W.cell? ⟨gp, 3, none⟩ = some (.int .i64 base)) (fun _ => false) rfl ?_
  refine R_tk 0 28 hS.out ?_
  refine R_tk 1 29 hS.out ?_
  refine R_tk 2 30 hS.out ?_
  refine R_tk 3 31 hS.out ?_
  refine R_tk 4 32 hS.out ?_
  refine R_tk 5 33 hS.out ?_
  refine R_tk 6 34 hS.out ?_
  refine R_tk 7 35 hS.out ?_
  refine R_tk 8 36 hS.out ?_
  simp only [List.setIfInBounds_toArray, List.set_cons_zero, List.set_cons_succ]
  refine R_call 9 37 (w' := w2.drew) rfl rfl (by rfl) (by kernel_rfl) ?_ (HT.out w2.drew ⟨hbw.os, hbw.tape, hbw.output, hbw.size, hbw.block⟩) ?_
  · go_simp
  rintro e w3 ⟨rfl, hb3⟩
  have hgp3 := hgp0.drew.below hb3 hgp0.lt
  have hS3 := Lib.hid (show w3.cell? ⟨gp, 0, none⟩ = some (ptr gd) ∧ w3.cell? ⟨gp, 3, none⟩ = some (.int .i64 base) from ⟨(hgp3.cell 0).trans rfl, (hgp3.cell 3).trans rfl⟩)
  refine ⟨_, rfl, fun _ => hS3.out, ?_⟩
  simp only [List.setIfInBounds_toArray, List.set_cons_zero, List.set_cons_succ]
  refine R_tk 10 27 hS3.out ?_
  refine R_tk 11 38 hS3.out ?_
  refine R_tk 12 39 hS3.out ?_
  refine R_tk 13 8 hS3.out ?_
  refine R_tk 14 9 hS3.out ?_
  simp only [List.setIfInBounds_toArray, List.set_cons_zero, List.set_cons_succ]
  refine R_done (by kernel_rfl) ?_ _
  rename_i K9 hK9
  refine hK9 _ _ ?_
  clear hK9
  have hbd : Below w2.heap.size w2 w3 := (Below.refl w2.heap.size w2).drew.trans hb3
  have hb3' := hb2.below hbd hb2.lt
  have hbw3 : Below w.heap.size w w3 := hbw.trans (hbd.mono hbw.size)
  clear hS hS3 hgp3 hgp0 hb2 hbw hb3 hbd HT
  have HDEC := Lib.hid (page_decode_bad t w3 h4 hl hne)
  clear hne h4 hl
  go_wp2_with fail
  refine HDEC.out.mono ?_
  rintro e w4 ⟨rfl, hb4⟩
  have hb4' := hb3'.below hb4 hb3'.lt
  have hbw4 : Below w.heap.size w w4 := hbw3.trans (hb4.mono hbw3.size)
  have hb5 := (Below.refl w4.heap.size w4).alloc (Nat.le_refl _) (.cells #[.int .u8 0, .int .u8 0, .int .u32 0, .int .u64 0, .int .u32 0, .slice none 0 0] 53)
  have HB7 := Lib.hid (hb4'.below hb5 hb4'.lt)
  have hbw7 := hbw4.trans (hb5.mono hbw4.size)
  clear hb4 hb4' hbw4 hb3' hbw3 HDEC hb5
  have z0 := HB7.out.cell 0
  have f0 := HB7.out.frozen 0
  have z1 := HB7.out.cell 1
  have f1 := HB7.out.frozen 1
  have z2 := HB7.out.cell 2
  have f2 := HB7.out.frozen 2
  have z3 := HB7.out.cell 3
  have f3 := HB7.out.frozen 3
  have z4 := HB7.out.cell 4
  have f4 := HB7.out.frozen 4
  have z5 := HB7.out.cell 5
  have f5 := HB7.out.frozen 5
  simp only [List.getElem?_toArray, List.getElem?_cons_succ, List.getElem?_cons_zero] at z0 z1 z2 z3 z4 z5
  go_wp2_with fail
  obtain ⟨W8, hW8, hX8, ht8, hk8⟩ := six_set HB7.out (.int .u8 0) (.int .u8 0) (.int .u32 0) (.int .u64 0) (.int .u32 0) (.slice none 0 0)
  rw [hW8]
  have z0 := hX8.cell 0
  have z1 := hX8.cell 1
  have z2 := hX8.cell 2
  have z3 := hX8.cell 3
  have z4 := hX8.cell 4
  have z5 := hX8.cell 5
  simp only [List.getElem?_toArray, List.getElem?_cons_succ, List.getElem?_cons_zero] at z0 z1 z2 z3 z4 z5
  clear f0 f1 f2 f3 f4 f5 hW8
  exact bodyPost_ret (v := .tuple #[zeroPgV, .int .i64 60]) (by rw [results_cell_tmp rfl]; go_simp) rfl ⟨rfl, hbw7.trans (ht8.below hbw7.size (fun b hb => by rw [hb]; exact hg4l))⟩

end Go.Proofs.YtphkggcdfkcidaaGreat

/- The walk of package past: Undo, where there is no such record. -/
namespace Go.Proofs.YtphkggcdfkcidaaGreat
open Go.RowKit Go.Conc

set_option maxRecDepth 100000 in
set_option maxHeartbeats 4000000 in
/-- There is no such record on the page. -/
theorem past_undo_none {pg : Nat → Sp.Pg} {K : Foot} {w : World} {gd gl gp : Nat} (h : LzAt pg K w gd gl gp) {q s : Nat} (h1 : 1 ≤ q) (h6 : q ≤ 6) (hk : (pg q).kind = 3) (hs : (pg q).rows.length ≤ s) (hs16 : s < 65536) :
    Calls Tryz.prog 12 #[ptr gp, .agg #[.int .u32 q, .int .u16 s]] w fun e w' => e = .returned (.tuple #[.agg udZ, .int .i64 3]) ∧ Kept K w w' ∧ LzAt pg K w' gd gl gp := by
  obtain ⟨L, hL, hz⟩ := h
  have hKl := Lib.hid hL.lt
  obtain ⟨hok, _⟩ := id hL
  have HSG := Lib.hid fun (G : Foot) (W : World) (A : Option Addr) (c : Nat) (hR : RowsAt G W A (pg q).rows) => seg_get_none (c := c) hR (hok q h1 h6).2.1 hk hs hs16
  have HPN := Lib.hid fun (K : Foot) (W : World) (h : LgAt pg K W gd gl gp 2 L) => lz_pin h hz h1 h6
  have HL := Lib.hid hL
  clear hL hok hk
  go_enter_defers Tryz.func12, Tryz.ntmps12
  go_wp2_with fail
  obtain ⟨hT, hZ, hb1⟩ := alloc2 w 26 48 #[.int .u32 q, .int .u16 s] udZ
  generalize hw1 : World.alloc (World.alloc w _) _ = w1 at hT hZ hb1 ⊢
  clear hw1
  obtain ⟨gT, hgT⟩ : ∃ g, g = w.heap.size := ⟨_, rfl⟩
  obtain ⟨gR, hgR⟩ : ∃ g, g = w.heap.size + 1 := ⟨_, rfl⟩
  rw [← hgR] at hZ ⊢
  rw [← hgT] at hT ⊢
  have hTl := hT.lt
  have hZl := hZ.lt
  have hL1 := HL.out.more (K' := fun b => K b ∨ b = gT ∨ b = gR) hb1 (fun b hb => by rcases hb with hb | rfl | rfl; exact .inl hb; exact .inr ⟨by omega, hTl⟩; exact .inr ⟨by omega, hZl⟩)
  refine (HPN.out _ w1 hL1).mono ?_
  rintro e w2 ⟨L', A, c, rfl, hA, hR, hL2, hk2, hm, hz2⟩
  have HT := Lib.hid (hT.kept hk2 (.inr (.inl rfl)))
  have HZ := Lib.hid (hZ.kept hk2 (.inr (.inr rfl)))
  have HK := Lib.hid ((Kept.of_below hb1 hKl.out).trans (hk2.mono (fun b hb => .inl hb)))
  have HR := Lib.hid hR
  have HL2 := Lib.hid hL2
  have HM := Lib.hid hm
  have HZ2 := Lib.hid hz2
  have HRl := Lib.hid (show K gR → False from fun hg => by have := hKl.out gR hg; omega)
  have t0 := HT.out.cell 0
  have t1 := HT.out.cell 1
  simp only [List.getElem?_toArray, List.getElem?_cons_succ, List.getElem?_cons_zero] at t0 t1
  clear hT hZ hb1 hgT hgR hTl hZl hL1 hk2 hR hL2 hm hz2 HPN HL hA hz
  have hTl := HT.out.lt
  have hZl := HZ.out.lt
  have hb3 := (Below.refl w2.heap.size w2).alloc (Nat.le_refl _) (.cells (pgCs (pg q) A c) 53)
  have hRr := Reads.below HR.out hb3
  have HSC := Lib.hid (HSG.out _ _ A c hRr)
  clear hRr HSG
  go_wp2_with fail
  refine HSC.out.mono ?_
  rintro e w4 ⟨rfl, hb4⟩
  have hb24 := hb3.trans (hb4.mono hb3.size)
  replace HZ := Lib.hid (HZ.out.below hb24 HZ.out.lt)
  replace HK := Lib.hid (HK.out.trans (Kept.of_below hb24 (fun b hb => HL2.out.lt b (.inl hb))))
  replace HL2 := Lib.hid (HL2.out.below hb24)
  clear HSC hb3 hb4 HR HT t0 t1
  go_wp2_with (refine wpList_store_part rfl _ _ _ rfl gR 0 #[.int .u8 0, .int .u64 0, .int .u32 0, .int .u16 0, str [], str [], .bool false, .int .u64 0, .int .u32 0, .int .u16 0, str [], .int .i64 0] rfl rfl _ _ HZ.out ud_size (by show 0 + 12 ≤ 12; omega) (ud_one _ _ _ _ _ _ _ _ _ _ _ _) ?_)
  have hRf : Blk (w4.setRow gR (partRow udZ 0 (#[Value.int .u8 0, .int .u64 0, .int .u32 0, .int .u16 0, str [], str [], .bool false, .int .u64 0, .int .u32 0, .int .u16 0, str [], .int .i64 0]).toList)) gR 48 #[.int .u8 0, .int .u64 0, .int .u32 0, .int .u16 0, str [], str [], .bool false, .int .u64 0, .int .u32 0, .int .u16 0, str [], .int .i64 0] := HZ.out.setRow _
  have hLf := HL2.out.turns ((Turns.refl (fun b => K b ∨ b = gT ∨ b = gR) w4).setRow (.inl (.inr (.inr rfl))) (partRow udZ 0 (#[Value.int .u8 0, .int .u64 0, .int .u32 0, .int .u16 0, str [], str [], .bool false, .int .u64 0, .int .u32 0, .int .u16 0, str [], .int .i64 0]).toList))
  have hKf : Kept K w (w4.setRow gR (partRow udZ 0 (#[Value.int .u8 0, .int .u64 0, .int .u32 0, .int .u16 0, str [], str [], .bool false, .int .u64 0, .int .u32 0, .int .u16 0, str [], .int .i64 0]).toList)) := HK.out.trans ⟨rfl, rfl, rfl, by simp, fun b hb => heap_setRow_other _ _ _ _ (fun e => HRl.out (e ▸ hb))⟩
  clear HZ HL2 HK
  generalize World.setRow _ gR _ = wf at hRf hLf hKf ⊢
  refine leaves_cons (f := 24) (args := #[ptr gp, u32v q]) (by simp) (by simp [go_sem]) ?_
  refine (lg_unpin_d hLf (by omega) HM.out (by omega) .returning).mono ?_
  rintro e u' w6 ⟨rfl, rfl, hk6, hL6⟩
  have hRg := hRf.kept hk6 (.inr (.inr rfl))
  have hKg := hKf.trans (hk6.mono (fun b hb => .inl hb))
  have k0 := hRg.cell 0
  have k1 := hRg.cell 1
  have k2 := hRg.cell 2
  have k3 := hRg.cell 3
  have k4 := hRg.cell 4
  have k5 := hRg.cell 5
  have k6 := hRg.cell 6
  have k7 := hRg.cell 7
  have k8 := hRg.cell 8
  have k9 := hRg.cell 9
  have k10 := hRg.cell 10
  have k11 := hRg.cell 11
  simp only [List.getElem?_toArray, List.getElem?_cons_succ, List.getElem?_cons_zero] at k0 k1 k2 k3 k4 k5 k6 k7 k8 k9 k10 k11
  refine ⟨.tuple #[.agg udZ, .int .i64 3], by rw [results_cell_tmp rfl]; go_simp, rfl, hKg, _, hL6.mono (fun b hb => .inl hb), HZ2.out⟩
theorem lg_none {pg : Nat → Sp.Pg} {p : Sp.Pl} (h : p.ofP pg) {k : Nat} (hk : k < 1 ∨ 6 < k) : p.find k = none := by
  cases hf : p.find k with
  | none => rfl
  | some it =>
    obtain ⟨hit, e⟩ := Sp.Pl.find_mem hf
    have := (h it hit).2.2
    omega
/-- The error of a page that can't be pinned. -/
def farEr (k : Nat) : Nat := if k < 1 then 60 else 2
theorem farEr_ne (k : Nat) : 1 ≤ farEr k := by unfold farEr; split <;> omega
/-- Page 0, and pages that the disk has not, can't be pinned. -/
theorem lg_pin_far {pg : Nat → Sp.Pg} {K : Foot} {w : World} {gd gl gp n : Nat} {L : List (Nat × Nat)} (h : LgAt pg K w gd gl gp n L) {k : Nat} (hk : k < 1 ∨ 6 < k) (k32 : k < 4294967296) :
    Calls Tryz.prog 23 #[ptr gp, u32v k] w fun e w' => e = .returned (.tuple #[zeroPgV, .int .i64 (farEr k)]) ∧ Below w.heap.size w w' := by
  obtain ⟨hok, p, D, F, dk, hd, hlk, hpl, rfl, hfr, rfl, hDF, hb0, hKl⟩ := h
  have hf := lg_none hfr hk
  rcases hk with h0 | h6
  · obtain rfl : k = 0 := by omega
    refine pool_pin_bad hpl k32 hf (Sp.zeros 512) (by rw [show (Sp.zeros 512).length = 512 from List.length_replicate ..]; omega) (by rw [show (Sp.zeros 512).length = 512 from List.length_replicate ..]; omega) ?_ (fun W hb => ?_)
    · have e : (Sp.zeros 512).take ((Sp.zeros 512).length - 4) = Sp.zeros 508 := by rw [show (Sp.zeros 512).length = 512 from List.length_replicate ..]; exact List.take_replicate ..
      rw [e]; exact Sp.zeros_unsealed
    · have := twin_read (hd.below hb) (by rw [hlk.fuse]; decide) hlk.loose 44 0 (by omega) (by rw [hlk.len]; omega)
      rw [hlk.zero] at this
      exact this
  · have e2 : farEr k = 2 := by unfold farEr; rw [if_neg (by omega)]
    rw [e2]
    refine pool_pin_far hpl k32 hf (fun W hb => ?_)
    refine (twin_read_out (hd.below hb) 44 k k32 (by rw [hlk.len]; omega) (by rw [hlk.len]; omega)).mono ?_
    rintro e w' ⟨h1, rfl⟩
    exact ⟨h1, Below.refl _ _⟩

set_option maxRecDepth 100000 in
set_option maxHeartbeats 4000000 in
/-- There is no such page. -/
theorem past_undo_far {pg : Nat → Sp.Pg} {K : Foot} {w : World} {gd gl gp : Nat} (h : LzAt pg K w gd gl gp) {q s : Nat} (hq : q < 1 ∨ 6 < q) (q32 : q < 4294967296) :
    Calls Tryz.prog 12 #[ptr gp, .agg #[.int .u32 q, .int .u16 s]] w fun e w' => e = .returned (.tuple #[.agg udZ, .int .i64 (farEr q)]) ∧ Kept K w w' ∧ LzAt pg K w' gd gl gp := by
  obtain ⟨L, hL, hz⟩ := h
  have hKl := Lib.hid hL.lt
  obtain ⟨hT, hZ, hb1⟩ := alloc2 w 26 48 #[.int .u32 q, .int .u16 s] udZ
  obtain ⟨w1, hw1⟩ : ∃ x, x = World.alloc (World.alloc w (.cells #[.int .u32 q, .int .u16 s] 26)) (.cells udZ 48) := ⟨_, rfl⟩
  rw [← hw1] at hT hZ hb1
  obtain ⟨gT, hgT⟩ : ∃ g, g = w.heap.size := ⟨_, rfl⟩
  obtain ⟨gR, hgR⟩ : ∃ g, g = w.heap.size + 1 := ⟨_, rfl⟩
  rw [← hgR] at hZ
  rw [← hgT] at hT
  have hTl := hT.lt
  have hZl := hZ.lt
  have hL1 := hL.more (K' := fun b => K b ∨ b = gT ∨ b = gR) hb1 (fun b hb => by rcases hb with hb | rfl | rfl; exact .inl hb; exact .inr ⟨by omega, hTl⟩; exact .inr ⟨by omega, hZl⟩)
  have hc := lg_pin_far hL1 hq q32
  have e1 := farEr_ne q
  obtain ⟨er, her⟩ : ∃ er, er = farEr q := ⟨_, rfl⟩
  rw [← her] at hc e1 ⊢
  clear her
  have HC := Lib.hid hc
  have HL1 := Lib.hid hL1
  have HT := Lib.hid hT
  have HZ := Lib.hid hZ
  have HB1 := Lib.hid hb1
  have hne : decide ((er : Int) = 0) = false := by rw [decide_eq_false_iff_not]; omega
  have hne2 : ((er : Int) != 0) = true := by simp; omega
  have hne3 : ¬ (er : Int) = 0 := by omega
  clear hc hL1 hT hZ hb1 hL
  have HRl := Lib.hid (show K gR → False from fun hg => by have := hKl.out gR hg; omega)
  go_enter_defers Tryz.func12, Tryz.ntmps12
  go_wp2_with fail
  rw [show (World.alloc (World.alloc w _) _) = w1 from hw1.symm]
  rw [← hgR]
  rw [← hgT]
  clear hw1 hgT hgR
  refine HC.out.mono ?_
  rintro e w2 ⟨rfl, hb2⟩
  replace HZ := Lib.hid (HZ.out.below hb2 HZ.out.lt)
  have HL2 := Lib.hid (HL1.out.below hb2)
  have HK := Lib.hid ((Kept.of_below HB1.out hKl.out).trans (Kept.of_below hb2 (fun b hb => HL1.out.lt b (.inl hb))))
  clear hb2 HB1 HC HL1
  have hb3 := (Below.refl w2.heap.size w2).alloc (Nat.le_refl _) (.cells #[.int .u8 0, .int .u8 0, .int .u32 0, .int .u64 0, .int .u32 0, .slice none 0 0] 53)
  have HZ3 := Lib.hid (HZ.out.below hb3 HZ.out.lt)
  have HL3 := Lib.hid (HL2.out.below hb3)
  have HK3 := Lib.hid (HK.out.trans (Kept.of_below hb3 (fun b hb => HL2.out.lt b (.inl hb))))
  have hz2 : ∀ W, (Instr.build 48 #[]).run Tryz.prog W = .ok (.agg udZ) W := fun W => by kernel_rfl
  clear HZ HL2 HK
  go_upto_region 5 with fail
  generalize World.alloc w2 _ = w3 at HZ3 HL3 HK3 ⊢
  go_wp2_with (refine wpList_store_part rfl _ _ _ rfl gR 0 #[.int .u8 0, .int .u64 0, .int .u32 0, .int .u16 0, str [], str [], .bool false, .int .u64 0, .int .u32 0, .int .u16 0, str [], .int .i64 0] rfl rfl _ _ HZ3.out ud_size (by show 0 + 12 ≤ 12; omega) (ud_one _ _ _ _ _ _ _ _ _ _ _ _) ?_)
  have hpz : partRow udZ 0 [Value.int IntKind.u8 0, Value.int IntKind.u64 0, Value.int IntKind.u32 0, Value.int IntKind.u16 0, str [], str [], Value.bool false, Value.int IntKind.u64 0, Value.int IntKind.u32 0, Value.int IntKind.u16 0, str [], Value.int IntKind.i64 0] = udZ := rfl
  rw [hpz]
  have hRg := HZ3.out.setRow udZ
  have hLf := HL3.out.turns ((Turns.refl (fun b => K b ∨ b = gT ∨ b = gR) w3).setRow (.inl (.inr (.inr rfl))) udZ)
  have hKf : Kept K w (w3.setRow gR udZ) := HK3.out.trans ⟨rfl, rfl, rfl, by simp, fun b hb => heap_setRow_other _ _ _ _ (fun e => HRl.out (e ▸ hb))⟩
  generalize World.setRow _ gR _ = wf at hRg hLf hKf ⊢
  have k0 := hRg.cell 0
  have k1 := hRg.cell 1
  have k2 := hRg.cell 2
  have k3 := hRg.cell 3
  have k4 := hRg.cell 4
  have k5 := hRg.cell 5
  have k6 := hRg.cell 6
  have k7 := hRg.cell 7
  have k8 := hRg.cell 8
  have k9 := hRg.cell 9
  have k10 := hRg.cell 10
  have k11 := hRg.cell 11
  simp only [List.getElem?_toArray, List.getElem?_cons_succ, List.getElem?_cons_zero] at k0 k1 k2 k3 k4 k5 k6 k7 k8 k9 k10 k11
  refine ⟨.tuple #[.agg udZ, .int .i64 er], by rw [results_cell_tmp rfl]; go_simp, rfl, hKf, _, hLf.mono (fun b hb => .inl hb), hz⟩
end Go.Proofs.YtphkggcdfkcidaaGreat

/- What PastBack's law rests on: what Undo answers of any Roll, and the law's own memory. -/
namespace Go.Proofs.YtphkggcdfkcidaaGreat
open Go.RowKit Go.Conc

theorem lv_lt {W : World} {b o : Nat} {v : Value} (h : W.cell? ⟨b, o, none⟩ = some v) : b < W.heap.size := by
  rcases Nat.lt_or_ge b W.heap.size with hlt | hge
  · exact hlt
  · simp [World.cell?, Array.getElem?_eq_none hge] at h
/-- What Undo answers of a Roll. -/
def UndC (pg : Nat → Sp.Pg) (gd gl gp q s : Nat) (cs : Array Value) (er : Nat) : Prop :=
  ∀ (K : Foot) (w : World), LzAt pg K w gd gl gp → Calls Tryz.prog 12 #[ptr gp, .agg #[.int .u32 q, .int .u16 s]] w fun e w' => e = .returned (.tuple #[.agg cs, .int .i64 er]) ∧ Kept K w w' ∧ LzAt pg K w' gd gl gp
theorem stRows_at {key : Sp.Bs} {l : List Sp.Stp} {n p s : Nat} (hs : s < (Sp.stRows key l n p).length) : 2 * p + s < n ∧ s < 2 ∧ (Sp.stRows key l n p)[s]? = some (Sp.stUd key l (2 * p + s)).bytes := by
  unfold Sp.stRows at hs ⊢
  by_cases h1 : 2 * p < n <;> by_cases h2 : 2 * p + 1 < n
  · rw [if_pos h1, if_pos h2] at hs ⊢
    match s, hs with
    | 0, _ => exact ⟨h1, by omega, rfl⟩
    | 1, _ => exact ⟨h2, by omega, rfl⟩
    | s + 2, h => exact absurd (show s + 2 < 2 from h) (by omega)
  · rw [if_pos h1, if_neg h2] at hs ⊢
    match s, hs with
    | 0, _ => exact ⟨h1, by omega, rfl⟩
    | s + 1, h => simp at h
  · omega
  · rw [if_neg h1, if_neg h2] at hs
    simp at hs
theorem udZ_one : udZ.all (·.oneCell') = true := ud_one _ _ _ _ _ _ _ _ _ _ _ _
/-- Any Roll over a story's pages. -/
theorem undC_of {key : Sp.Bs} {l : List Sp.Stp} (hk : 1 ≤ key.length ∧ key.length ≤ 48) (h10 : l.length ≤ 10) {pg : Nat → Sp.Pg} (hpg : pg = Sp.stPg key l l.length) (gd gl gp q s : Nat) (q32 : q < 4294967296) (s16 : s < 65536) :
    ∃ cs er, UndC pg gd gl gp q s cs er ∧ cs.size = 12 ∧ cs.all (·.oneCell') = true ∧
      ((er = 0 ∧ 1 ≤ q ∧ q ≤ 6 ∧ s < (Sp.stRows key l l.length (q - 1)).length ∧ cs = (udCs (Sp.stUd key l (2 * (q - 1) + s))).toArray) ∨ (er ≠ 0 ∧ ((q < 1 ∨ 6 < q) ∨ (1 ≤ q ∧ q ≤ 6 ∧ (Sp.stRows key l l.length (q - 1)).length ≤ s)))) := by
  by_cases hf : q < 1 ∨ 6 < q
  · refine ⟨udZ, farEr q, fun K w h => past_undo_far h hf q32, rfl, udZ_one, .inr ⟨by have := farEr_ne q; omega, .inl hf⟩⟩
  · have hq1 : 1 ≤ q := by omega
    have hq6 : q ≤ 6 := by omega
    have hk3 : (pg q).kind = 3 := by rw [hpg]; rfl
    have hr : (pg q).rows = Sp.stRows key l l.length (q - 1) := by rw [hpg]; rfl
    by_cases hs : s < (Sp.stRows key l l.length (q - 1)).length
    · obtain ⟨hi, hs2, he⟩ := stRows_at hs
      obtain ⟨u1, u2, u3, u4⟩ := Sp.stUd_ok hk h10 hi
      have hg := (List.getElem?_eq_some_iff.1 he)
      obtain ⟨_, hg⟩ := hg
      refine ⟨_, 0, fun K w h => past_undo h hq1 hq6 hk3 (by rw [hr]; exact hs) s16 (Sp.stUd key l (2 * (q - 1) + s)) (by simp only [hr]; exact hg) u1 u2 (stUd_pad key l _), rfl, ud_one _ _ _ _ _ _ _ _ _ _ _ _, .inl ⟨rfl, hq1, hq6, hs, rfl⟩⟩
    · refine ⟨udZ, 3, fun K w h => past_undo_none h hq1 hq6 hk3 (by rw [hr]; omega) s16, rfl, udZ_one, .inr ⟨by omega, .inr ⟨hq1, hq6, by omega⟩⟩⟩

theorem backC_of {pg : Nat → Sp.Pg} {gd gl gp : Nat} {row : Nat → Sp.Rw} {k : Nat} (h : BackAt pg gd gl gp row k) {o : Option Sp.Rw} (ho : o = if k = 0 then none else some (row (k - 1))) : BackC pg gd gl gp (row k) (Sp.orZ o) o.isSome 0 := fun K w hl => by
  have h' := h K w hl
  subst ho
  by_cases e : k = 0
  · subst e
    rw [if_pos rfl] at h' ⊢
    exact h'
  · rw [if_neg e] at h' ⊢
    rw [show decide (0 < k) = true by rw [decide_eq_true_eq]; omega] at h'
    exact h'
theorem kept_drewN (K : Foot) (w : World) (n : Nat) : Kept K w (w.drewN n) := ⟨rfl, rfl, rfl, Nat.le_refl _, fun _ _ => rfl⟩
theorem roll_size2 : (Tryz.prog.info? 26).map (·.size) = some 2 := by kernel_rfl
/-- Back of a row that was somebody's else. -/
theorem back_any {key : Sp.Bs} {l : List Sp.Stp} (hk : 1 ≤ key.length ∧ key.length ≤ 48) (h10 : l.length ≤ 10) {pg : Nat → Sp.Pg} (hpg : pg = Sp.stPg key l l.length) {k : Nat} (hkl : k < l.length) (gd gl gp tx : Nat) :
    ∃ (cs : Array Value) (b : Bool) (er : Int), BackC pg gd gl gp { Sp.stRow key l k with tx := tx } cs b er ∧ cs.size = 7 ∧ cs.all (·.oneCell') = true ∧ ((tx = (Sp.stRow key l k).tx ∧ er = 0) ∨ (tx ≠ (Sp.stRow key l k).tx ∧ er = 120)) := by
  by_cases e : tx = (Sp.stRow key l k).tx
  · subst e
    exact ⟨_, _, 0, backC_of (sto_back hk h10 hkl (by rw [hpg]) gd gl gp) rfl, orZ_size _, orZ_one _, .inl ⟨rfl, rfl⟩⟩
  · obtain ⟨r1, r2, r3, r4, r5, r6⟩ := Sp.stRow_ok hk h10 hkl
    obtain ⟨u1, u2, u3, u4⟩ := Sp.stUd_ok hk h10 hkl
    have hu : UndoAt pg gd gl gp (Sp.stRow key l k).page (Sp.stRow key l k).slot (Sp.stUd key l k) := by
      rw [r4, r5]
      refine undo_at (by omega) (by omega) (by rw [hpg]; rfl) (by omega) _ ?_ u1 u2 (stUd_pad key l k)
      rw [hpg]; exact Sp.stPg_at hkl
    exact ⟨rwZ, false, 120, fun K W h => past_back_bad h { Sp.stRow key l k with tx := tx } (Sp.stUd key l k) (by show 1 ≤ (Sp.stRow key l k).page; rw [r4]; omega) hu (by rw [u3]; exact fun h => e h.symm), rfl, row_one _ _ _ _ _ _ _, .inr ⟨e, rfl⟩⟩
theorem ud_store12 {W : World} {g : Nat} {cs : Array Value} (h : Blk W g 48 udZ) (hs : cs.size = 12) (h1 : cs.all (·.oneCell') = true) :
    (storeVar 48 ⟨g, 0, none⟩ (.agg cs)).run Tryz.prog W = .ok () (W.setRow g cs) := by
  have := run_storeVar_part (P := Tryz.prog) W g 0 _ 48 udZ cs h (by rw [hs]; exact ud_size) (by rw [hs]; show 0 + 12 ≤ 12; omega) h1
  have e : partRow udZ 0 cs.toList = cs := by
    unfold partRow
    have : (udZ : Array Value).toList.drop (0 + cs.toList.length) = [] := by rw [List.drop_eq_nil_of_le]; simp [hs]
    rw [this]; simp
  rw [e] at this
  exact this
/-- Behind 'u, e := Undo(..)'. -/
def CallAtU (pg : Nat → Sp.Pg) (K : Foot) (W0 : World) (gd gl gp : Nat) (cs : Array Value) (v : Value) (W : World) : Prop :=
  ∃ g, v = ptr g ∧ Blk W g 48 cs ∧ LzAt pg (fun b => K b ∨ b = g) W gd gl gp ∧ Kept K W0 W ∧ W0.heap.size ≤ g
section
variable {pg : Nat → Sp.Pg} {K : Foot} {W0 v1 : World} {gd gl gp : Nat}
theorem callAtU_1 (hk : Kept K W0 v1) (hp : LzAt pg K v1 gd gl gp) (cs : Array Value) : CallAtU pg K W0 gd gl gp cs (ptr v1.heap.size) ((v1.alloc (.cells udZ 48)).setRow v1.heap.size cs) := by
  have hb := (Below.refl v1.heap.size v1).alloc (Nat.le_refl _) (.cells udZ 48)
  have hp1 : LzAt pg (fun b => K b ∨ b = v1.heap.size) (v1.alloc (.cells udZ 48)) gd gl gp := hp.more hb (fun b hb => by rcases hb with hb | rfl; exact .inl hb; exact .inr ⟨Nat.le_refl _, by simp⟩)
  refine ⟨v1.heap.size, rfl, (Blk.new v1 _ udZ).setRow cs, hp1.turns ((Turns.refl (fun b => K b ∨ b = v1.heap.size) _).setRow (.inl (.inr rfl)) cs), ?_, hk.size⟩
  exact hk.trans ((Kept.of_below hb hp.lt).trans ⟨rfl, rfl, rfl, by simp, fun b hb' => heap_setRow_other _ _ _ _ (Nat.ne_of_lt (hp.lt b hb'))⟩)
theorem callAtU_0 (hp : LzAt pg K W0 gd gl gp) : LzAt pg (fun b => K b ∨ b = W0.heap.size) (W0.drew.alloc (.cells udZ 48)) gd gl gp ∧ Kept K W0 (W0.drew.alloc (.cells udZ 48)) ∧ Blk (W0.drew.alloc (.cells udZ 48)) W0.heap.size 48 udZ := by
  have hb := (Below.refl W0.drew.heap.size W0.drew).alloc (Nat.le_refl _) (.cells udZ 48)
  refine ⟨hp.drew.more hb (fun b hb => by rcases hb with hb | rfl; exact .inl hb; exact .inr ⟨Nat.le_refl _, by simp⟩), ?_, Blk.new W0.drew _ udZ⟩
  exact (Kept.drew_ K W0).trans (Kept.of_below hb hp.drew.lt)
theorem callAtU_2 (hp0 : LzAt pg K W0 gd gl gp) (hk : Kept (fun b => K b ∨ b = W0.heap.size) (W0.drew.alloc (.cells udZ 48)) v1) (hp : LzAt pg (fun b => K b ∨ b = W0.heap.size) v1 gd gl gp) (cs : Array Value) :
    CallAtU pg K W0 gd gl gp cs (ptr W0.heap.size) (v1.setRow W0.heap.size cs) := by
  obtain ⟨_, h2, h3⟩ := callAtU_0 hp0
  refine ⟨W0.heap.size, rfl, (h3.kept hk (.inr rfl)).setRow cs, hp.turns ((Turns.refl (fun b => K b ∨ b = W0.heap.size) _).setRow (.inl (.inr rfl)) cs), ?_, Nat.le_refl _⟩
  exact h2.trans ((hk.mono (fun b hb => .inl hb)).trans ⟨rfl, rfl, rfl, by simp, fun b hb' => heap_setRow_other _ _ _ _ (Nat.ne_of_lt (hp0.lt b hb'))⟩)
end

/-- The law's play and rows, and its Roll. -/
structure LawB (K : Foot) (W : World) (gP gd gl gp gr gv n : Nat) (f : Nat → Sp.Rw) (gT aq as_ : Nat) : Prop where
  i : LawIn K W gP gd gl gp gr gv n f
  t : Blk W gT 26 #[.int .u32 aq, .int .u16 as_]
  kT : K gT
section
variable {K K' : Foot} {W W' : World} {gP gd gl gp gr gv n : Nat} {f : Nat → Sp.Rw} {gT aq as_ : Nat}
theorem LawB.kept (h : LawB K W gP gd gl gp gr gv n f gT aq as_) (hk : Kept K W W') : LawB K W' gP gd gl gp gr gv n f gT aq as_ := ⟨h.i.kept hk, h.t.kept hk h.kT, h.kT⟩
theorem LawB.mono (h : LawB K W gP gd gl gp gr gv n f gT aq as_) (hk : ∀ b, K b → K' b) : LawB K' W gP gd gl gp gr gv n f gT aq as_ := ⟨h.i.mono hk, h.t, hk _ h.kT⟩
theorem LawB.s (h : LawB K W gP gd gl gp gr gv n f gT aq as_) {i : Nat} (hi : i < n) : W.cell? ⟨gP, 2, none⟩ = some (ptr gp) ∧
    W.cell? ⟨gv, i * 7, none⟩ = some (str (f i).key) ∧ W.cell? ⟨gv, i * 7 + 1, none⟩ = some (.bool (f i).mark) ∧ W.cell? ⟨gv, i * 7 + 2, none⟩ = some (.int .u64 (f i).tx) ∧ W.cell? ⟨gv, i * 7 + 3, none⟩ = some (.int .u32 (f i).page) ∧
    W.cell? ⟨gv, i * 7 + 4, none⟩ = some (.int .u16 (f i).slot) ∧ W.cell? ⟨gv, i * 7 + 5, none⟩ = some (str (f i).value) ∧ W.cell? ⟨gv, i * 7 + 6, none⟩ = some (.int .i64 (f i).pad) := h.i.s hi
theorem LawB.st (h : LawB K W gP gd gl gp gr gv n f gT aq as_) : W.cell? ⟨gP, 2, none⟩ = some (ptr gp) ∧ W.cell? ⟨gT, 0, none⟩ = some (.int .u32 aq) ∧ W.cell? ⟨gT, 1, none⟩ = some (.int .u16 as_) := ⟨h.i.play.cell 2, h.t.cell 0, h.t.cell 1⟩
end
end Go.Proofs.YtphkggcdfkcidaaGreat

/- PastBack answers true where there is too much for it to play. -/
namespace Go.Proofs.YtphkggcdfkcidaaGreat
open Go.RowKit Go.Conc

set_option maxRecDepth 100000 in
set_option maxHeartbeats 4000000 in
/-- What is too much is answered by works. -/
theorem law_back_out (key : Sp.Bs) (l : List Sp.Stp) (fr aq as_ tx cap : Nat) (A : Option Addr) (hl : l.length ≤ 140737488355328) (hsl : ∀ x ∈ l, x.s.length ≤ 140737488355328) (hkl : key.length ≤ 140737488355328) (G : Foot) (w : World) (hR : StpsAt G w A l)
    (hout : ¬ (hzB l = false ∧ 1 ≤ l.length ∧ 1 ≤ key.length ∧ key.length ≤ 48)) :
    Calls Tryz.prog 3 #[str key, .slice A l.length cap, .int .u8 fr, .agg #[.int .u32 aq, .int .u16 as_], .int .u64 tx] w fun e w' => e = .returned (.bool true) ∧ Below w.heap.size w w' := by
  have HZ := Lib.hid fun (W : World) (h : StpsAt G W A l) => law26_heavy A cap l hl hsl G W h
  have HW := Lib.hid fun (W : World) => law26_works W
  have HR := Lib.hid hR
  clear hR hsl
  have hcs : hzB l = true ∨ (hzB l = false ∧ l.length = 0) ∨ (hzB l = false ∧ 1 ≤ l.length ∧ key.length = 0) ∨ (hzB l = false ∧ 1 ≤ l.length ∧ 1 ≤ key.length ∧ 48 < key.length) := by
    cases hz : hzB l with
    | true => exact .inl rfl
    | false =>
      by_cases h2 : l.length = 0
      · exact .inr (.inl ⟨rfl, h2⟩)
      · by_cases h3 : key.length = 0
        · exact .inr (.inr (.inl ⟨rfl, by omega, h3⟩))
        · by_cases h4 : 48 < key.length
          · exact .inr (.inr (.inr ⟨rfl, by omega, by omega, h4⟩))
          · exact absurd ⟨hz, by omega, by omega, by omega⟩ hout
  clear hout
  rcases hcs with hz | ⟨hz, h2⟩ | ⟨hz, h2, h3⟩ | ⟨hz, h2, h3, h4⟩
  · rw [hz] at HZ
    clear hz
    go_enter Tryz.func3, Tryz.ntmps3
    go_wp2_with fail
    have hb0 := (Below.refl w.heap.size w).alloc (Nat.le_refl _) (.cells #[.int .u32 aq, .int .u16 as_] 26)
    refine (HZ.out _ (HR.out.keep2 hb0)).mono ?_
    rintro e w1 ⟨rfl, rfl⟩
    go_wp2_with fail
    refine (HW.out _).mono ?_
    rintro e w2 ⟨rfl, hb2⟩
    go_wp2_with fail
    go_ret
    exact ⟨rfl, hb0.trans (hb2.mono hb0.size)⟩
  · rw [hz] at HZ
    have d2 : ((l.length : Int) == 0) = true := by rw [beq_iff_eq]; omega
    have d2b : decide ((l.length : Int) = 0) = true := by rw [decide_eq_true_eq]; omega
    clear hz h2
    go_enter Tryz.func3, Tryz.ntmps3
    go_wp2_with fail
    have hb0 := (Below.refl w.heap.size w).alloc (Nat.le_refl _) (.cells #[.int .u32 aq, .int .u16 as_] 26)
    refine (HZ.out _ (HR.out.keep2 hb0)).mono ?_
    rintro e w1 ⟨rfl, rfl⟩
    go_wp2_with fail
    refine (HW.out _).mono ?_
    rintro e w2 ⟨rfl, hb2⟩
    go_wp2_with fail
    go_ret
    exact ⟨rfl, hb0.trans (hb2.mono hb0.size)⟩
  · rw [hz] at HZ
    have d2 : ((l.length : Int) == 0) = false := by rw [beq_eq_false_iff_ne]; omega
    have d2b : decide ((l.length : Int) = 0) = false := by rw [decide_eq_false_iff_not]; omega
    have d3 : decide ((key.length : Int) < 1) = true := by rw [decide_eq_true_eq]; omega
    clear hz h3
    go_enter Tryz.func3, Tryz.ntmps3
    go_wp2_with fail
    have hb0 := (Below.refl w.heap.size w).alloc (Nat.le_refl _) (.cells #[.int .u32 aq, .int .u16 as_] 26)
    refine (HZ.out _ (HR.out.keep2 hb0)).mono ?_
    rintro e w1 ⟨rfl, rfl⟩
    go_wp2_with fail
    refine (HW.out _).mono ?_
    rintro e w2 ⟨rfl, hb2⟩
    go_wp2_with fail
    go_ret
    exact ⟨rfl, hb0.trans (hb2.mono hb0.size)⟩
  · rw [hz] at HZ
    have d2 : ((l.length : Int) == 0) = false := by rw [beq_eq_false_iff_ne]; omega
    have d2b : decide ((l.length : Int) = 0) = false := by rw [decide_eq_false_iff_not]; omega
    have d3 : decide ((key.length : Int) < 1) = false := by rw [decide_eq_false_iff_not]; omega
    have d4 : decide ((48 : Int) < (key.length : Int)) = true := by rw [decide_eq_true_eq]; omega
    clear hz
    go_enter Tryz.func3, Tryz.ntmps3
    go_wp2_with fail
    have hb0 := (Below.refl w.heap.size w).alloc (Nat.le_refl _) (.cells #[.int .u32 aq, .int .u16 as_] 26)
    refine (HZ.out _ (HR.out.keep2 hb0)).mono ?_
    rintro e w1 ⟨rfl, rfl⟩
    go_wp2_with fail
    refine (HW.out _).mono ?_
    rintro e w2 ⟨rfl, hb2⟩
    go_wp2_with fail
    go_ret
    exact ⟨rfl, hb0.trans (hb2.mono hb0.size)⟩
end Go.Proofs.YtphkggcdfkcidaaGreat
