/- The walks of package pool: Pin of a page that is not in. -/
import Derived.Test.YtphkggcdfkcidaaGreatMAF
import Derived.Test.YtphkggcdfkcidaaGreatMAD
import Derived.Test.YtphkggcdfkcidaaGreatMAA
import Derived.Test.YtphkggcdfkcidaaGreatMAC

namespace Go.Proofs.YtphkggcdfkcidaaGreat
open Go.RowKit Go.Conc

/-- the block of a page's rows. -/
def rowOf (w : World) (A : Option Addr) : Foot := fun b => (∃ o, A = some ⟨b, o, none⟩) ∧ b < w.heap.size
theorem rows_tight {G : Foot} {w : World} {A : Option Addr} {rows : List Sp.Bs} (h : RowsAt G w A rows) : RowsAt (fun b => G b ∧ rowOf w A b) w A rows :=
  ⟨h.1, fun hp => by
    obtain ⟨b, o, e, hg, hl, hc⟩ := h.2 hp
    exact ⟨b, o, e, ⟨hg, ⟨o, e⟩, hl⟩, hl, hc⟩⟩

abbrev zeroPgV : Value := .agg #[.int .u8 0, .int .u8 0, .int .u32 0, .int .u64 0, .int .u32 0, .slice none 0 0]
def PinOutPost (Z : Nat → Sp.Pl → List Nat → Foot → World → Prop) (Z4 : World → Prop) (H : Foot) (w : World) (gp gd gl at_ base fb cb mb : Nat) (x : Sp.Pg) (e : Ending) (w' : World) : Prop :=
  (e = .returned (.tuple #[zeroPgV, .int .i64 4]) ∧ ∃ w2 g4, Z4 w2 ∧ w.heap.size ≤ g4 ∧ Turns (only g4) (only g4) w2 w') ∨
  ∃ (i : Nat) (p' : Sp.Pl) (F' H' : Foot) (ids' rest : List Nat) (w2 : World) (F3 R3 : Foot) (v3 : Value) (s3 r3 : Nat) (cs3 : Array Value) (A : Option Addr) (c : Nat), e = .returned (.tuple #[pgV x A c, .int .i64 0]) ∧ OkAddr A ∧ RowsAt (fun b => w.heap.size ≤ b) w' A x.rows ∧
    IsPlAt F3 R3 w' gp gd gl at_ base fb cb mb v3 s3 r3 cs3 rest (ids'.filter (fun y => !(y == x.id)) ++ [x.id]) ((p'.bring x i rest).pinUp x.id) ∧ p'.free = i :: rest ∧ p'.find x.id = none ∧ Z i p' ids' H' w2 ∧ (∀ b, F' b → H' b) ∧ Turns H H' w w2 ∧ (∃ G : Foot, (∀ b, G b → ¬ H' b ∧ w.heap.size ≤ b) ∧ Turns (fun b => F' b ∨ G b) F3 w2 w')

set_option maxRecDepth 100000 in
set_option maxHeartbeats 4000000 in
theorem pool_pin_out {F R H D : Foot} {w : World} {gp gd gl at_ base fb cb mb s r : Nat} {v : Value} {cs : Array Value} {fl ids : List Nat} {p : Sp.Pl} (h : IsPlAt F R w gp gd gl at_ base fb cb mb v s r cs fl ids p) {x : Sp.Pg} (hx : x.wf ∧ x.may) (hf : p.find x.id = none)
    {dk : Sp.Dk} (hdk : IsDk D w gd dk) (hfu : dk.fuse ≠ 0) (hlo : dk.loose = []) (hi : base + x.id * 4 + 4 ≤ dk.sure.length) (hpg : Sp.pageAt dk.sure (base + x.id * 4) = pgBytes x) (hH : ∀ b, H b → b < w.heap.size)
    (Z : Nat → Sp.Pl → List Nat → Foot → World → Prop) (Z4 : World → Prop)
    (hT : ∀ W, Below w.heap.size w W → IsPlAt F R W gp gd gl at_ base fb cb mb v s r cs fl ids p → Calls Tryz.prog 94 #[ptr gp] W (TookPost Z Z4 H R W gp gd gl at_ base fb cb mb x.id))
    (hids : ∀ i p' ids' H' w2, Z i p' ids' H' w2 → ids'.length ≤ 64) :
    Calls Tryz.prog 23 #[ptr gp, u32v x.id] w (PinOutPost Z Z4 H w gp gd gl at_ base fb cb mb x) := by
  have hid : x.id < 4294967296 := hx.1.2.2.1
  have hb2 := Blk.new w 53 #[.int .u8 0, .int .u8 0, .int .u32 0, .int .u64 0, .int .u32 0, .slice none 0 0]
  have hbw := (Below.refl w.heap.size w).alloc (Nat.le_refl _) (.cells #[.int .u8 0, .int .u8 0, .int .u32 0, .int .u64 0, .int .u32 0, .slice none 0 0] 53)
  have h2 := h.keep (w' := w.alloc (.cells #[.int .u8 0, .int .u8 0, .int .u32 0, .int .u64 0, .int .u32 0, .slice none 0 0] 53)) (by simp) (fun b hb => Below.heap_alloc w _ b (h.lt b hb))
  have hd2 := hdk.below hbw
  obtain ⟨c0, c1, c2, c3, c4, c5, c6, c7⟩ := h2.cells
  have HM := Lib.hid (pool_made c6)
  have hlk := h2.look_out hid hf
  have hg4l : w.heap.size ≤ w.heap.size := Nat.le_refl _
  have HT := Lib.hid hT
  have hFl := h.lt
  have hz0 : ∀ W, (Instr.build 53 #[]).run Tryz.prog W = .ok zeroPgV W := fun W => by kernel_rfl
  clear c1 c2 c4 c5 c7 h hT hf hdk
  go_enter Tryz.func23, Tryz.ntmps23
  go_wp2_with fail
  obtain ⟨w2, hw2⟩ : ∃ w2, w2 = w.alloc (.cells #[.int .u8 0, .int .u8 0, .int .u32 0, .int .u64 0, .int .u32 0, .slice none 0 0] 53) := ⟨_, rfl⟩
  rw [← hw2] at HM hlk hb2 hbw c0 c3 c6 h2 hd2 ⊢
  obtain ⟨g4, hg⟩ : ∃ g, g = w.heap.size := ⟨_, rfl⟩
  rw [← hg] at hb2 ⊢
  have hg4l : w.heap.size ≤ g4 := by omega
  clear hw2 hg
  refine HM.out.mono ?_
  rintro e w1 ⟨rfl, hw⟩
  subst w1
  go_wp2_with fail
  have hS := Lib.hid (⟨c0, c3⟩ : w2.drew.cell? ⟨gp, 0, none⟩ = some (ptr gd) ∧ w2.drew.cell? ⟨gp, 3, none⟩ = some (.int .i64 base))
  have HTR := Lib.hid (twin_read (w := w2.drew) (hd2.below (Below.refl _ w2).drew) hfu hlo base x.id hid hi)
  rw [hpg] at HTR
  have H2 := Lib.hid h2
  have hgp0 := h2.blk
  clear c0 c3 c6 h2 HM hlk
  refine R_begin (fun W => W.cell? ⟨gp, 0, none⟩ = some (ptr gd) ∧ W.cell? ⟨gp, 3, none⟩ = some (.int .i64 base)) (fun _ => false) rfl ?_
  refine R_take 0 28 (v := ?_) rfl rfl (by rfl) (by kernel_rfl) (fun _ _ _ h => h) hS.out ?_ ?_
  rotate_left
  · intro w hSw; (try dsimp only at hSw); go_simp; (try with_reducible rfl)
  simp only [List.setIfInBounds_toArray, List.set_cons_zero, List.set_cons_succ]
  refine R_take 1 29 (v := ?_) rfl rfl (by rfl) (by kernel_rfl) (fun _ _ _ h => h) hS.out ?_ ?_
  rotate_left
  · intro w hSw; (try dsimp only at hSw); go_simp; (try with_reducible rfl)
  simp only [List.setIfInBounds_toArray, List.set_cons_zero, List.set_cons_succ]
  refine R_take 2 30 (v := ?_) rfl rfl (by rfl) (by kernel_rfl) (fun _ _ _ h => h) hS.out ?_ ?_
  rotate_left
  · intro w hSw; (try dsimp only at hSw); go_simp; (try with_reducible rfl)
  simp only [List.setIfInBounds_toArray, List.set_cons_zero, List.set_cons_succ]
  refine R_take 3 31 (v := ?_) rfl rfl (by rfl) (by kernel_rfl) (fun _ _ _ h => h) hS.out ?_ ?_
  rotate_left
  · intro w hSw; (try dsimp only at hSw); go_simp; (try with_reducible rfl)
  simp only [List.setIfInBounds_toArray, List.set_cons_zero, List.set_cons_succ]
  refine R_take 4 32 (v := ?_) rfl rfl (by rfl) (by kernel_rfl) (fun _ _ _ h => h) hS.out ?_ ?_
  rotate_left
  · intro w hSw; (try dsimp only at hSw); go_simp; (try with_reducible rfl)
  simp only [List.setIfInBounds_toArray, List.set_cons_zero, List.set_cons_succ]
  refine R_take 5 33 (v := ?_) rfl rfl (by rfl) (by kernel_rfl) (fun _ _ _ h => h) hS.out ?_ ?_
  rotate_left
  · intro w hSw; (try dsimp only at hSw); go_simp; (try with_reducible rfl)
  simp only [List.setIfInBounds_toArray, List.set_cons_zero, List.set_cons_succ]
  refine R_take 6 34 (v := ?_) rfl rfl (by rfl) (by kernel_rfl) (fun _ _ _ h => h) hS.out ?_ ?_
  rotate_left
  · intro w hSw; (try dsimp only at hSw); go_simp; (try with_reducible rfl)
  simp only [List.setIfInBounds_toArray, List.set_cons_zero, List.set_cons_succ]
  refine R_take 7 35 (v := ?_) rfl rfl (by rfl) (by kernel_rfl) (fun _ _ _ h => h) hS.out ?_ ?_
  rotate_left
  · intro w hSw; (try dsimp only at hSw); go_simp; (try with_reducible rfl)
  simp only [List.setIfInBounds_toArray, List.set_cons_zero, List.set_cons_succ]
  refine R_take 8 36 (v := ?_) rfl rfl (by rfl) (by kernel_rfl) (fun _ _ _ h => h) hS.out ?_ ?_
  rotate_left
  · intro w hSw; (try dsimp only at hSw); go_simp; (try with_reducible rfl)
  simp only [List.setIfInBounds_toArray, List.set_cons_zero, List.set_cons_succ]
  refine R_call 9 37 (w' := w2.drew) rfl rfl (by rfl) (by kernel_rfl) ?_ HTR.out ?_
  · go_simp
  rintro e w3 ⟨rfl, hb3⟩
  have hgp3 := hgp0.drew.below hb3 hgp0.lt
  have hS3 : w3.cell? ⟨gp, 0, none⟩ = some (ptr gd) ∧ w3.cell? ⟨gp, 3, none⟩ = some (.int .i64 base) := ⟨(hgp3.cell 0).trans rfl, (hgp3.cell 3).trans rfl⟩
  refine ⟨_, rfl, fun _ => hS3, ?_⟩
  simp only [List.setIfInBounds_toArray, List.set_cons_zero, List.set_cons_succ]
  clear hS HTR
  have hS := Lib.hid hS3
  clear hS3
  refine R_take 10 27 (v := ?_) rfl rfl (by rfl) (by kernel_rfl) (fun _ _ _ h => h) hS.out ?_ ?_
  rotate_left
  · intro w hSw; (try dsimp only at hSw); go_simp; (try with_reducible rfl)
  simp only [List.setIfInBounds_toArray, List.set_cons_zero, List.set_cons_succ]
  refine R_take 11 38 (v := ?_) rfl rfl (by rfl) (by kernel_rfl) (fun _ _ _ h => h) hS.out ?_ ?_
  rotate_left
  · intro w hSw; (try dsimp only at hSw); go_simp; (try with_reducible rfl)
  simp only [List.setIfInBounds_toArray, List.set_cons_zero, List.set_cons_succ]
  refine R_take 12 39 (v := ?_) rfl rfl (by rfl) (by kernel_rfl) (fun _ _ _ h => h) hS.out ?_ ?_
  rotate_left
  · intro w hSw; (try dsimp only at hSw); go_simp; (try with_reducible rfl)
  simp only [List.setIfInBounds_toArray, List.set_cons_zero, List.set_cons_succ]
  refine R_take 13 8 (v := ?_) rfl rfl (by rfl) (by kernel_rfl) (fun _ _ _ h => h) hS.out ?_ ?_
  rotate_left
  · intro w hSw; (try dsimp only at hSw); go_simp; (try with_reducible rfl)
  simp only [List.setIfInBounds_toArray, List.set_cons_zero, List.set_cons_succ]
  refine R_take 14 9 (v := ?_) rfl rfl (by rfl) (by kernel_rfl) (fun _ _ _ h => h) hS.out ?_ ?_
  rotate_left
  · intro w hSw; (try dsimp only at hSw); go_simp; (try with_reducible rfl)
  simp only [List.setIfInBounds_toArray, List.set_cons_zero, List.set_cons_succ]
  refine R_done (by kernel_rfl) ?_ _
  rename_i K9 hK9
  refine hK9 _ _ ?_
  have hbd : Below w2.heap.size w2 w3 := (Below.refl w2.heap.size w2).drew.trans hb3
  have h3 := H2.out.keep hbd.size (fun b hb => hbd.block b (H2.out.lt b hb))
  have hb3' := hb2.below hbd hb2.lt
  have hbw3 : Below w.heap.size w w3 := hbw.trans (hbd.mono hbw.size)
  have HDEC := Lib.hid (page_decode (w := w3) hx.1 hx.2)
  clear hS hgp3 hgp0 H2 hb2 hbw hb3 hbd hpg
  go_wp2_with fail
  refine HDEC.out.mono ?_
  rintro e w4 ⟨A, c, rfl, hA, hR, hb4⟩
  have hg43 := hb3'.lt
  have hs34 := hb4.size
  have hb4' := hb3'.below hb4 hb3'.lt
  have h4 := h3.keep hb4.size (fun b hb => hb4.block b (h3.lt b hb))
  have hbw4 : Below w.heap.size w w4 := hbw3.trans (hb4.mono hbw3.size)
  have hR4 := rows_tight hR
  have HB4 := Lib.hid hb4'
  have H4 := Lib.hid h4
  have HA := Lib.hid hA
  have HR4 := Lib.hid hR4
  have hs30 := hbw3.size
  clear hA hR hR4 hb4' h4 h3 hb3' hb4 HDEC
  go_wp2_with fail
  have hb5 := (Below.refl w4.heap.size w4).alloc (Nat.le_refl _) (.cells (pgCs x A c) 53)
  have h5 := H4.out.keep hb5.size (fun b hb => hb5.block b (H4.out.lt b hb))
  have hR5 := Reads.below HR4.out hb5
  have hg45 := HB4.out.below hb5 HB4.out.lt
  have hbw5 : Below w.heap.size w _ := hbw4.trans (hb5.mono hbw4.size)
  have hs45 := hb5.size
  have hroF : ∀ b, (w3.heap.size ≤ b ∧ rowOf w4 A b) → b < w4.heap.size := fun b hb => hb.2.2
  obtain ⟨w5, hw5⟩ : ∃ w5, w5 = w4.alloc (.cells (pgCs x A c) 53) := ⟨_, rfl⟩
  change Calls Tryz.prog _ #[ptr gp, pgV x A c] (w4.alloc (.cells (pgCs x A c) 53)) _
  rw [← hw5] at h5 hR5 hg45 hbw5 hs45 ⊢
  clear hb5 HB4 H4 HR4
  have hb6 := (Below.refl w5.heap.size w5).alloc (Nat.le_refl _) (.cells (pgCs x A c) 53)
  have HBR := Lib.hid (pool_brings (w := w5) (H := H) (G := fun b => w3.heap.size ≤ b ∧ rowOf w4 A b) hx HA.out hR5 (fun b hb => ⟨fun hh => by have := hH b hh; have := hb.1; omega, by have := hroF b hb; omega⟩) (fun b hb => by have := hH b hb; have := hbw5.size; omega) Z Z4
    (HT.out _ (hbw5.trans (hb6.mono hbw5.size)) (h5.keep hb6.size (fun b hb => hb6.block b (h5.lt b hb)))))
  have htw5 := Turns.of_below hbw5 H
  have hg4H : ¬ H g4 := fun hh => by have := hH g4 hh; omega
  have hg4r : ¬ (w3.heap.size ≤ g4 ∧ rowOf w4 A g4) := fun hh => by omega
  clear hb6 HT h5 hbw5
  refine HBR.out.mono ?_
  rintro e w7 (⟨rfl, hz, htz⟩ | ⟨i, p', F', H', v', s', r', cs', ids', rest, w6, rfl, h7, hfree, hnone, ht6, hF', hZ, ht7⟩)
  · have HB7 := Lib.hid (hg45.turns htz hg4H)
    have hg47 := HB7.out.lt
    have z0 := HB7.out.cell 0
    have f0 := HB7.out.frozen 0
    have z1 := HB7.out.cell 1
    have f1 := HB7.out.frozen 1
    have z2 := HB7.out.cell 2
    have f2 := HB7.out.frozen 2
    have z3 := HB7.out.cell 3
    have f3 := HB7.out.frozen 3
    have z4 := HB7.out.cell 4
    have f4 := HB7.out.frozen 4
    have z5 := HB7.out.cell 5
    have f5 := HB7.out.frozen 5
    simp only [List.getElem?_toArray, List.getElem?_cons_succ, List.getElem?_cons_zero] at z0 z1 z2 z3 z4 z5
    clear hg45 HBR
    go_wp2_with fail
    obtain ⟨W8, hW8, hX8, ht8, hk8⟩ := six_set HB7.out (.int .u8 0) (.int .u8 0) (.int .u32 0) (.int .u64 0) (.int .u32 0) (.slice none 0 0)
    rw [hW8]
    have z0 := hX8.cell 0
    have z1 := hX8.cell 1
    have z2 := hX8.cell 2
    have z3 := hX8.cell 3
    have z4 := hX8.cell 4
    have z5 := hX8.cell 5
    simp only [List.getElem?_toArray, List.getElem?_cons_succ, List.getElem?_cons_zero] at z0 z1 z2 z3 z4 z5
    clear f0 f1 f2 f3 f4 f5 hW8
    exact bodyPost_ret (v := .tuple #[zeroPgV, .int .i64 4]) (by rw [results_cell_tmp rfl]; go_simp) rfl (.inl ⟨rfl, w7, g4, hz, hg4l, ht8⟩)
  -- pins, copied
  obtain ⟨it, hite⟩ : ∃ it : Sp.It, it = ⟨x, 0, false, 0, i⟩ := ⟨_, rfl⟩
  obtain ⟨p2, hp2⟩ : ∃ p2, p2 = p'.bring x i rest := ⟨_, rfl⟩
  have hit : it ∈ p2.items := by rw [hp2, hite]; simp [Sp.Pl.bring]
  have hxe : x = it.page := by rw [hite]
  have hpin0 : it.pins < 1000000000 := by rw [hite]; simp
  rw [← hp2] at h7
  have hf2 : p2.find it.page.id = some it := Sp.Pl.find_of h7.wf hit
  have hl' := hids i p' ids' H' w6 hZ
  have HP2 := Lib.hid hp2
  have hg4H' : ¬ H' g4 := fun hh => by
    have hz := hg45.lt
    rcases ht6.foot g4 hh with h | h
    · exact hg4H h
    · omega
  have hg4F : ¬ (F' g4 ∨ (w3.heap.size ≤ g4 ∧ rowOf w4 A g4)) := fun hh => by
    rcases hh with hh | hh
    · exact hg4H' (hF' g4 hh)
    · exact hg4r hh
  have hb2 := (hg45.turns ht6 hg4H).turns ht7 (fun hh => hg4F (.inl hh))
  have HPN := Lib.hid (pool_pins_walk h7 (id := it.page.id) (by rw [← hxe]; exact hid) hf2 hpin0 hl')
  have hlt9 := h7.wf.idx_lt hit
  have hn64 := h7.wf.n64
  have hg4 := hg4F
  have hs67 := ht7.size
  have hs56 := ht6.size
  clear h7 hp2 hite hg45 HBR
  subst hxe
  go_wp2_with fail
  refine (HPN.out).mono ?_
  rintro e w8 ⟨F3, v3, cs3, rfl, h3, ht3⟩
  have hit3 : ({ it with pins := it.pins + 1 } : Sp.It) ∈ (p2.pinUp it.page.id).items := List.mem_map.2 ⟨it, hit, by simp⟩
  obtain ⟨A2, c2, hA, hR, hc⟩ := h3.fr.item _ hit3
  have k0 := (h3.fr.blk.cell _).trans (hc 0 (by omega))
  have k1 := (h3.fr.blk.cell _).trans (hc 1 (by omega))
  have k2 := (h3.fr.blk.cell _).trans (hc 2 (by omega))
  have k3 := (h3.fr.blk.cell _).trans (hc 3 (by omega))
  have k4 := (h3.fr.blk.cell _).trans (hc 4 (by omega))
  have k5 := (h3.fr.blk.cell _).trans (hc 5 (by omega))
  simp only [frCells, List.getElem?_cons_succ, List.getElem?_cons_zero, Nat.add_zero] at k0 k1 k2 k3 k4 k5
  have hlr : it.page.rows.length ≤ 1000000 := by
    have := (h3.wf.pg _ hit3).2.2.2.2.2
    have : 4 * it.page.rows.length + Sp.total it.page.rows ≤ 484 := this
    omega
  have HCP := Lib.hid (pool_copied (c := c2) hA hR hlr)
  have hg42 := hb2.lt
  have hb3 := hb2.turns ht3 hg4
  have H3 := Lib.hid h3
  clear hA hR hc h3 hb2 HPN
  go_wp2_with fail
  refine HCP.out.mono ?_
  rintro e w9 ⟨A', c', rfl, hA', hR', hb4⟩
  have hB4 := hb3.below hb4 hb3.lt
  have z0 := hB4.cell 0
  have z1 := hB4.cell 1
  have z2 := hB4.cell 2
  have z3 := hB4.cell 3
  have z4 := hB4.cell 4
  have z5 := hB4.cell 5
  have f0 := hB4.frozen 0
  have f1 := hB4.frozen 1
  have f2 := hB4.frozen 2
  have f3 := hB4.frozen 3
  have f4 := hB4.frozen 4
  have f5 := hB4.frozen 5
  simp only [List.getElem?_toArray, List.getElem?_cons_succ, List.getElem?_cons_zero] at z0 z1 z2 z3 z4 z5
  have h4 := H3.out.keep hb4.size (fun b hb => hb4.block b (H3.out.lt b hb))
  have HR := Lib.hid hR'
  have HA := Lib.hid hA'
  have H4 := Lib.hid h4
  have ht4 := ht3.next hb4
  have HB4 := Lib.hid hB4
  have hg4k := hb3.lt
  clear hR' hA' h4 hB4 H3 HCP k0 k1 k2 k3 k4 k5 hb3
  go_wp2_with fail
  obtain ⟨W8, hW8, hX8, ht8, hk8⟩ := six_set HB4.out (.int .u8 it.page.kind) (.int .u8 it.page.level) (.int .u32 it.page.id) (.int .u64 it.page.lsn) (.int .u32 it.page.next) (.slice A' it.page.rows.length c')
  rw [hW8]
  have z0 := hX8.cell 0
  have z1 := hX8.cell 1
  have z2 := hX8.cell 2
  have z3 := hX8.cell 3
  have z4 := hX8.cell 4
  have z5 := hX8.cell 5
  simp only [List.getElem?_toArray, List.getElem?_cons_succ, List.getElem?_cons_zero] at z0 z1 z2 z3 z4 z5
  clear f0 f1 f2 f3 f4 f5 hW8
  have hF3 : ∀ b, F3 b → (F' b ∨ (w3.heap.size ≤ b ∧ rowOf w4 A b)) ∨ w7.heap.size ≤ b := fun b hb => ht3.foot b hb
  have hnF3 : ¬ F3 g4 := fun hh => by
    rcases hF3 g4 hh with h | h
    · exact hg4F h
    · omega
  have hz8 := ht3.size
  have hzw := htw5.size
  have hpl := H4.out.keep ht8.size (fun b hb => hk8 b (fun e => hnF3 (e ▸ hb)))
  rw [HP2.out] at hpl
  refine bodyPost_ret (v := .tuple #[pgV it.page A' c', .int .i64 0]) (by rw [results_cell_tmp rfl]; go_simp) rfl (.inr ⟨i, p', F', H', ids', rest, w6, F3, (fun b => R b ∨ (w3.heap.size ≤ b ∧ rowOf w4 A b)), v3, s', r', cs3, A', c', rfl, HA.out, ?_, hpl, hfree, hnone, hZ, hF', htw5.trans ht6, ⟨fun b => (w3.heap.size ≤ b ∧ rowOf w4 A b) ∨ b = g4, ?_, ?_⟩⟩)
  · exact (HR.out.keep ht8.size (fun b hb => hk8 b (fun e => by have hb : w8.heap.size ≤ b := hb; omega))).mono (fun b hb => by have hb : w8.heap.size ≤ b := hb; omega)
  · rintro b (hb | rfl)
    · have hb4 := hroF b hb
      refine ⟨fun hh => ?_, by have := hb.1; omega⟩
      rcases ht6.foot b hh with h | h
      · have := hH b h; have := hb.1; omega
      · omega
    · exact ⟨hg4H', hg4l⟩
  · refine ⟨ht8.os.trans (ht4.os.trans ht7.os), ht8.tape.trans (ht4.tape.trans ht7.tape), ht8.output.trans (ht4.output.trans ht7.output), Nat.le_trans hs67 (Nat.le_trans ht4.size ht8.size), fun b hb hn => ?_, fun b hb => ?_⟩
    · rw [hk8 b (fun e => hn (.inr (.inr e))), ht4.block b (by omega) (fun h => hn (h.imp id (fun h => .inl h)))]
      exact ht7.block b hb (fun h => hn (.inl h))
    · rcases hF3 b hb with h | h
      · exact .inl (h.imp id (fun h => .inl h))
      · exact .inr (by omega)
end Go.Proofs.YtphkggcdfkcidaaGreat

/- Pin, of a pool whose pages are all clean. -/
namespace Go.Proofs.YtphkggcdfkcidaaGreat
open Go.RowKit Go.Conc

namespace Sp
/-- a page set last in the row. -/
def Pl.last (p : Pl) (id : Nat) : Pl := { p with items := p.items.filter (fun x => x.page.id != id) ++ p.items.filter (fun x => x.page.id == id) }
theorem Pl.last_perm (p : Pl) (id : Nat) : (p.last id).items.Perm p.items := by
  unfold Pl.last
  have h := List.filter_append_perm (fun x : It => x.page.id != id) p.items
  have e : (fun x : It => !(x.page.id != id)) = fun x => x.page.id == id := by funext x; simp [bne]
  rw [e] at h
  exact h
theorem filter_one : ∀ {l : List Nat} {a : Nat}, l.Nodup → a ∈ l → l.filter (fun x => x == a) = [a]
  | x :: l, a, hn, hm => by
    rw [List.nodup_cons] at hn
    by_cases e : x = a
    · subst e
      rw [List.filter_cons_of_pos (by simp), List.filter_eq_nil_iff.2]
      intro y hy
      have : y ≠ x := fun e => hn.1 (e ▸ hy)
      simpa using this
    · rw [List.filter_cons_of_neg (by simpa using e)]
      rcases List.mem_cons.1 hm with h | h
      · exact absurd h.symm e
      · exact filter_one hn.2 h
theorem Pl.last_ids {p : Pl} (h : (p.items.map (·.page.id)).Nodup) {id : Nat} (hm : id ∈ p.items.map (·.page.id)) : (p.last id).items.map (·.page.id) = (p.items.map (·.page.id)).filter (fun x => !(x == id)) ++ [id] := by
  unfold Pl.last
  rw [List.map_append]
  congr 1
  · rw [List.filter_map]; rfl
  · have := filter_one h hm
    rw [List.filter_map] at this
    exact this
end Sp

/-- Pin of a page that is in. -/
theorem pool_pin_in' {F : Foot} {w : World} {gp gd gl at_ base : Nat} {p : Sp.Pl} (h : IsPl F w gp gd gl at_ base p) {id : Nat} (hid : id < 4294967296) {it : Sp.It} (hf : p.find id = some it) (hp : it.pins < 1000000000) :
    Calls Tryz.prog 23 #[ptr gp, u32v id] w fun e w' => ∃ F' A c, e = .returned (.tuple #[pgV it.page A c, .int .i64 0]) ∧ OkAddr A ∧ RowsAt (fun b => w.heap.size ≤ b) w' A it.page.rows ∧
      IsPl F' w' gp gd gl at_ base ((p.pinUp id).last id) ∧ Turns F F' w w' := by
  obtain ⟨hit, rfl⟩ := Sp.Pl.find_mem hf
  obtain ⟨R, fb, cb, mb, v, s, r, cs, h⟩ := h
  have hlen : (p.items.map (·.page.id)).length ≤ 64 := by
    have := h.wf.len; have := h.wf.n64
    rw [List.length_map]; omega
  refine (pool_pin_in h hid hf hp hlen).mono ?_
  rintro e w' ⟨F', v', cs', A, c, rfl, hA, hR, h', ht⟩
  refine ⟨F', A, c, rfl, hA, hR, ⟨R, fb, cb, mb, v', s, r, cs', ?_⟩, ht⟩
  have eu : ((p.pinUp it.page.id).items.map (·.page.id)) = p.items.map (·.page.id) := Sp.Pl.upd_ids ⟨fun _ => rfl, fun _ => rfl⟩
  have e1 := Sp.Pl.last_ids (p := p.pinUp it.page.id) h'.wf.ids (id := it.page.id) (by rw [eu]; exact List.mem_map.2 ⟨it, hit, rfl⟩)
  rw [eu] at e1
  have := h'.perm (Sp.Pl.last_perm (p.pinUp it.page.id) it.page.id)
  rw [← e1] at this
  exact this

/-- What take leaves of a pool whose pages are all clean. -/
def ZClean (p : Sp.Pl) (ids : List Nat) : Nat → Sp.Pl → List Nat → Foot → World → Prop := fun _ p' ids' _ _ =>
  (p' = p ∧ ids' = ids) ∨ ∃ pre it post, p.free = [] ∧ ids = pre ++ it.page.id :: post ∧ (∀ n ∈ pre, ∃ y, p.find n = some y ∧ 0 < y.pins) ∧ p.find it.page.id = some it ∧ it.pins = 0 ∧ p' = p.drop it.page.id it.idx ∧ ids' = ids.filter (fun x => !(x == it.page.id))
def Z4Clean (w : World) (p : Sp.Pl) (ids : List Nat) : World → Prop := fun w2 => p.free = [] ∧ (∀ n ∈ ids, ∃ it, p.find n = some it ∧ 0 < it.pins) ∧ Below w.heap.size w w2

theorem take_clean {F R : Foot} {w : World} {gp gd gl at_ base fb cb mb s r : Nat} {v : Value} {cs : Array Value} {ids : List Nat} {p : Sp.Pl} (hclean : ∀ it ∈ p.items, it.dirty = false) (hids : ids = p.items.map (·.page.id)) {id : Nat} (hf : p.find id = none)
    (W : World) (hb : Below w.heap.size w W) (h : IsPlAt F R W gp gd gl at_ base fb cb mb v s r cs p.free ids p) :
    Calls Tryz.prog 94 #[ptr gp] W (TookPost (ZClean p ids) (Z4Clean w p ids) F R W gp gd gl at_ base fb cb mb id) := by
  have hlen : ids.length ≤ 64 := by
    have := h.wf.len; have := h.wf.n64
    rw [hids, List.length_map]; omega
  have hids32 : ∀ it ∈ p.items, it.page.id < 4294967296 := fun it hit => (h.wf.pg it hit).1.2.2.1
  cases hfr : p.free with
  | cons i rest =>
    refine (pool_take_free h hfr).mono ?_
    rintro e w' ⟨rfl, F', v', s', r', cs', h', ht⟩
    exact .inr ⟨i, p, F', F', v', s', r', cs', ids, rest, rfl, h', hfr, hf, ht, fun _ h => h, .inl ⟨rfl, rfl⟩⟩
  | nil =>
    have hin : ∀ n ∈ ids, n < 4294967296 ∧ ∃ it, p.find n = some it := fun n hn => by
      rw [hids] at hn
      obtain ⟨it, hit, rfl⟩ := List.mem_map.1 hn
      exact ⟨hids32 it hit, it, Sp.Pl.find_of h.wf hit⟩
    refine (pool_take_scan h hfr hin hlen (fun _ F' W1 w1 => Turns F F' W1 w1) (fun it hit hp W1 h1 ht1 => ?_)).mono ?_
    · refine (pool_drops_clean h1 (hids32 it hit) (Sp.Pl.find_of h.wf hit) (hclean it hit)).mono ?_
      rintro e w' ⟨rfl, F', v', cs', h', ht'⟩
      exact ⟨rfl, F', v', _, _, cs', h', ht'⟩
    · rintro e w' (⟨rfl, hall, ht⟩ | ⟨pre, it, post, hsp, hpre, hfi, hp0, rfl, W1, w1, F', v', s', r', cs', ht1, hX, h', ht2⟩)
      · exact .inl ⟨rfl, ⟨hfr, hall, hb.trans ((ht.below_none).mono hb.size)⟩, ht.wider (fun _ h => h.elim) (fun b hb => .inl hb)⟩
      · refine .inr ⟨it.idx, p.drop it.page.id it.idx, F', F', v', s', r', cs', _, [], rfl, h', ?_, ?_, ?_, fun _ h => h, .inr ⟨pre, it, post, hfr, hsp, hpre, hfi, hp0, rfl, rfl⟩⟩
        · simp [Sp.Pl.drop, hfr]
        · rw [Sp.Pl.find_none] at hf ⊢
          exact fun y hy => hf y (List.mem_filter.1 hy).1
        · have hcb := h'.foot.2.2.1
          refine ⟨ht2.os.trans (hX.os.trans ht1.os), ht2.tape.trans (hX.tape.trans ht1.tape), ht2.output.trans (hX.output.trans ht1.output), Nat.le_trans ht1.size (Nat.le_trans hX.size ht2.size), fun b hb hn => ?_, fun b hb => ?_⟩
          · have hz1 := ht1.size
            have hz2 := hX.size
            rw [ht2.block b (by omega) (fun e => by
              have e : b = cb := e
              rcases hX.foot cb hcb with h | h
              · exact hn (e ▸ h)
              · omega), hX.block b (by omega) hn]
            exact ht1.block b hb (fun e => e)
          · rcases hX.foot b hb with h | h
            · exact .inl h
            · exact .inr (Nat.le_trans ht1.size h)

/-- Pin of a page that is not in, of a pool whose pages are all clean. -/
theorem pool_pin_out' {F D : Foot} {w : World} {gp gd gl at_ base : Nat} {p : Sp.Pl} (h : IsPl F w gp gd gl at_ base p) (hclean : ∀ it ∈ p.items, it.dirty = false) {x : Sp.Pg} (hx : x.wf ∧ x.may) (hf : p.find x.id = none)
    {dk : Sp.Dk} (hdk : IsDk D w gd dk) (hfu : dk.fuse ≠ 0) (hlo : dk.loose = []) (hi : base + x.id * 4 + 4 ≤ dk.sure.length) (hpg : Sp.pageAt dk.sure (base + x.id * 4) = pgBytes x) :
    Calls Tryz.prog 23 #[ptr gp, u32v x.id] w fun e w' =>
      (e = .returned (.tuple #[zeroPgV, .int .i64 4]) ∧ p.free = [] ∧ (∀ it ∈ p.items, 0 < it.pins) ∧ IsPl F w' gp gd gl at_ base p ∧ Turns F F w w') ∨
      ∃ F' A c p' i rest, e = .returned (.tuple #[pgV x A c, .int .i64 0]) ∧ OkAddr A ∧ RowsAt (fun b => w.heap.size ≤ b) w' A x.rows ∧ p'.free = i :: rest ∧ p'.find x.id = none ∧
        IsPl F' w' gp gd gl at_ base ((p'.bring x i rest).pinUp x.id) ∧ Turns F F' w w' ∧
        (p' = p ∨ (p.free = [] ∧ ∃ pre it post, p.items = pre ++ it :: post ∧ (∀ y ∈ pre, 0 < y.pins) ∧ it.pins = 0 ∧ p' = p.drop it.page.id it.idx)) := by
  obtain ⟨R, fb, cb, mb, v, s, r, cs, h⟩ := h
  have hlen : (p.items.map (·.page.id)).length ≤ 64 := by
    have := h.wf.len; have := h.wf.n64
    rw [List.length_map]; omega
  refine (pool_pin_out (H := F) h hx hf hdk hfu hlo hi hpg h.lt (ZClean p (p.items.map (·.page.id))) (Z4Clean w p (p.items.map (·.page.id))) (fun W hb hW => take_clean hclean rfl hf W hb hW) (fun i p' ids' H' w2 hZ => ?_)).mono ?_
  · rcases hZ with ⟨_, rfl⟩ | ⟨pre, it, post, _, _, _, _, _, _, rfl⟩
    · exact hlen
    · exact Nat.le_trans (List.length_filter_le _ _) hlen
  rintro e w' (⟨rfl, w2, g4, ⟨hfr, hall, hb⟩, hg4, ht⟩ | ⟨i, p', F', H', ids', rest, w2, F3, R3, v3, s3, r3, cs3, A, c, rfl, hA, hR, h', hfree, hnone, hZ, hF', ht, G, hG, ht3⟩)
  · have hsz := hb.size
    have hb' : Below w.heap.size w w' := hb.trans (ht.below hsz (fun b e => by have e : b = g4 := e; omega))
    refine .inl ⟨rfl, hfr, fun it hit => ?_, ⟨R, fb, cb, mb, v, s, r, cs, h.keep hb'.size (fun b hF => hb'.block b (h.lt b hF))⟩, Turns.of_below hb' F⟩
    obtain ⟨y, hy, hp⟩ := hall it.page.id (List.mem_map.2 ⟨it, hit, rfl⟩)
    rw [Sp.Pl.find_of h.wf hit] at hy
    injection hy with hy
    rw [hy]; exact hp
  · refine .inr ⟨F3, A, c, p', i, rest, rfl, hA, hR, hfree, hnone, ⟨R3, fb, cb, mb, v3, s3, r3, cs3, ?_⟩, ?_, ?_⟩
    · have hids : ids' = p'.items.map (·.page.id) := by
        rcases hZ with ⟨rfl, rfl⟩ | ⟨pre, it, post, _, _, _, _, _, rfl, rfl⟩
        · rfl
        · simp only [Sp.Pl.drop]
          rw [List.filter_map]
          rfl
      have hnot : ids'.filter (fun y => !(y == x.id)) = ids' := by
        rw [List.filter_eq_self]
        intro a ha
        rw [hids] at ha
        obtain ⟨y, hy, rfl⟩ := List.mem_map.1 ha
        have := Sp.Pl.find_none.1 hnone y hy
        simpa using this
      have e2 : (((p'.bring x i rest).pinUp x.id).items.map (·.page.id)) = ids'.filter (fun y => !(y == x.id)) ++ [x.id] := by
        rw [hnot, hids]
        refine (Sp.Pl.upd_ids (p := p'.bring x i rest) (id := x.id) (f := fun y => { y with pins := y.pins + 1 }) ⟨fun _ => rfl, fun _ => rfl⟩).trans ?_
        simp [Sp.Pl.bring]
      rw [e2]
      exact h'
    · refine ⟨ht3.os.trans ht.os, ht3.tape.trans ht.tape, ht3.output.trans ht.output, Nat.le_trans ht.size ht3.size, fun b hb hn => ?_, fun b hb => ?_⟩
      · have hz := ht.size
        rw [ht3.block b (by omega) (fun hh => by
          rcases hh with hh | hh
          · rcases ht.foot b (hF' b hh) with h1 | h1
            · exact hn h1
            · omega
          · have := (hG b hh).2; omega)]
        exact ht.block b hb hn
      · rcases ht3.foot b hb with hh | hh
        · rcases hh with hh | hh
          · exact ht.foot b (hF' b hh)
          · exact .inr (hG b hh).2
        · exact .inr (Nat.le_trans ht.size hh)
    · rcases hZ with ⟨rfl, _⟩ | ⟨pre, it, post, hfr, hsp, hpre, hfi, hp0, rfl, _⟩
      · exact .inl rfl
      · refine .inr ⟨hfr, ?_⟩
        obtain ⟨l1, l2, e1, e2, e3⟩ := List.map_eq_append_iff.1 hsp
        obtain ⟨y, l3, e4, e5, e6⟩ := List.map_eq_cons_iff.1 e3
        have hy : y ∈ p.items := by rw [e1, e4]; simp
        have hye : y = it := by
          have := Sp.Pl.find_of h.wf hy
          rw [e5, hfi] at this
          injection this with this
          exact this.symm
        subst hye
        refine ⟨l1, y, l3, by rw [e1, e4], fun z hz => ?_, hp0, rfl⟩
        obtain ⟨q, hq, hqp⟩ := hpre z.page.id (by rw [← e2]; exact List.mem_map.2 ⟨z, hz, rfl⟩)
        rw [Sp.Pl.find_of h.wf (by rw [e1]; exact List.mem_append_left _ hz)] at hq
        injection hq with hq
        rw [hq]; exact hqp
end Go.Proofs.YtphkggcdfkcidaaGreat

/- The walks of the law package pentimentolaw15: first. -/
namespace Go.Proofs.YtphkggcdfkcidaaGreat
open Go.RowKit Go.Conc

/-- The page as the law lays it first. -/
def Sp.first (n : Nat) : Sp.Pg := ⟨1, 0, n, 0, 0, [[102, 105, 114, 115, 116]]⟩
theorem Sp.first_ok {n : Nat} (h1 : 1 ≤ n) (h2 : n ≤ 1024) : (Sp.first n).wf ∧ (Sp.first n).may := by
  refine ⟨⟨?_, ?_, ?_, ?_, ?_⟩, ?_, ?_, ?_, ?_, ?_⟩ <;> simp [Sp.first, Sp.total] <;> omega

set_option maxRecDepth 100000 in
set_option maxHeartbeats 1000000 in
theorem law_first (n : Nat) (w : World) : Calls Tryz.prog 36 #[u32v n] w fun e w' =>
    ∃ A c, e = .returned (pgV (Sp.first n) A c) ∧ OkAddr A ∧ RowsAt (fun b => w.heap.size ≤ b) w' A (Sp.first n).rows ∧ Below w.heap.size w w' := by
  go_enter Tryz.func36, Tryz.ntmps36
  go_wp2_with fail
  have hB := (Blk.new w 53 #[.int .u8 1, .int .u8 0, .int .u32 n, .int .u64 0, .int .u32 0, .slice (some ⟨w.heap.size + 1, 0, none⟩) 1 1]).alloc (.cells #[str [102, 105, 114, 115, 116]] 9)
  have hb := ((Below.refl w.heap.size w).alloc (Nat.le_refl _) (.cells #[.int .u8 1, .int .u8 0, .int .u32 n, .int .u64 0, .int .u32 0, .slice (some ⟨w.heap.size + 1, 0, none⟩) 1 1] 53)).alloc (by simp) (.cells #[str [102, 105, 114, 115, 116]] 9)
  have hs := Blk.new (w.alloc (.cells #[.int .u8 1, .int .u8 0, .int .u32 n, .int .u64 0, .int .u32 0, .slice (some ⟨w.heap.size + 1, 0, none⟩) 1 1] 53)) 9 #[str [102, 105, 114, 115, 116]]
  have e1 : (w.alloc (.cells #[.int .u8 1, .int .u8 0, .int .u32 n, .int .u64 0, .int .u32 0, .slice (some ⟨w.heap.size + 1, 0, none⟩) 1 1] 53)).heap.size = w.heap.size + 1 := by simp
  rw [e1] at hs
  refine bodyPost_ret (v := pgV (Sp.first n) (some ⟨w.heap.size + 1, 0, none⟩) 1) (by rw [results_cell_row rfl _ _ w.heap.size 53 _ (0, 0) _ rfl hB Tryz.underlying53 rfl rfl]; rfl) rfl ⟨_, _, rfl, .inr ⟨_, _, rfl⟩, ⟨rfl, fun _ => ⟨w.heap.size + 1, 0, rfl, by omega, hs.lt, fun j u hu => ?_⟩⟩, hb⟩
  rw [Nat.zero_add]
  exact (hs.cell j).trans (by rw [List.getElem?_toArray]; exact hu)
end Go.Proofs.YtphkggcdfkcidaaGreat

/- Plain laws on what twin.Write leaves on a disk. -/
namespace Go.Proofs.YtphkggcdfkcidaaGreat
open Go.RowKit
namespace Sp

def wrs : List TAct → List (Nat × Bs)
  | [] => []
  | .wr k s :: l => (k, s) :: wrs l
  | .sync :: l => wrs l
theorem wrs_app : ∀ (a b : List TAct), wrs (a ++ b) = wrs a ++ wrs b
  | [], _ => rfl
  | .wr k s :: a, b => by simp [wrs, wrs_app a b]
  | .sync :: a, b => by simp [wrs, wrs_app a b]

theorem view_put (d : Dk) (k : Nat) (s : Bs) : (d.put k s).view = lay [(k, s)] d.view := by simp [Dk.put, Dk.view, lay_append]
theorem view_synced (d : Dk) : d.synced.view = d.view := by simp [Dk.synced, Dk.view, lay]
theorem view_acts (d : Dk) : ∀ l, (d.acts l).view = lay (wrs l) d.view := fun l => by
  induction l generalizing d with
  | nil => rfl
  | cons a l ih =>
    show (Dk.acts (d.act a) l).view = _
    rw [ih]
    cases a with
    | wr k s => simp only [Dk.act, view_put, wrs]; rfl
    | sync => simp only [Dk.act, view_synced, wrs]
/-- behind a list that ends with a Sync. -/
theorem acts_synced (d : Dk) (l : List TAct) : (d.acts (l ++ [.sync])).loose = [] ∧ (d.acts (l ++ [.sync])).sure = lay (wrs l) d.view := by
  rw [acts_snoc]
  exact ⟨rfl, view_acts d l⟩

theorem lay_other : ∀ (l : List (Nat × Bs)) (s : List Bs) (k : Nat), (∀ x ∈ l, x.1 ≠ k) → (lay l s)[k]? = s[k]?
  | [], _, _, _ => rfl
  | x :: l, s, k, h => by
    show (lay l (s.set x.1 x.2))[k]? = _
    rw [lay_other l _ k (fun y hy => h y (List.mem_cons_of_mem _ hy)), List.getElem?_set_ne (h x (List.mem_cons_self))]
/-- read where the last that is written there says t. -/
theorem lay_at (a b : List (Nat × Bs)) (s : List Bs) (k : Nat) (t : Bs) (hk : k < s.length) (hb : ∀ x ∈ b, x.1 ≠ k) : (lay (a ++ (k, t) :: b) s)[k]? = some t := by
  rw [lay_append]
  show (lay b ((lay a s).set k t))[k]? = _
  rw [lay_other b _ k hb, List.getElem?_set_self (by simpa using hk)]

theorem wrs_home (base : Nat) (x : Nat × Bs) : wrs (homeActs base x) = (List.range 4).map fun j => (base + x.1 * 4 + j, (x.2.drop (j * 128)).take 128) := rfl
theorem wrs_homes (base : Nat) : ∀ l, wrs (homesActs base l) = (l.map fun x => (List.range 4).map fun j => (base + x.1 * 4 + j, (x.2.drop (j * 128)).take 128)).flatten
  | [] => rfl
  | x :: l => by
    show wrs (homeActs base x ++ homesActs base l) = _
    rw [wrs_app, wrs_home, wrs_homes base l]; rfl
theorem mem_wrs_homes {base : Nat} {l : List (Nat × Bs)} {y : Nat × Bs} (h : y ∈ wrs (homesActs base l)) : ∃ x ∈ l, ∃ j, j < 4 ∧ y.1 = base + x.1 * 4 + j := by
  rw [wrs_homes] at h
  obtain ⟨z, hz, hy⟩ := List.mem_flatten.1 h
  obtain ⟨x, hx, rfl⟩ := List.mem_map.1 hz
  obtain ⟨j, hj, rfl⟩ := List.mem_map.1 hy
  exact ⟨x, hx, j, List.mem_range.1 hj, rfl⟩

theorem range4 {α : Type} (f : Nat → α) : (List.range 4).map f = [f 0, f 1, f 2, f 3] := rfl

/-- One page written: the disk behind it. -/
theorem twin_one (d : Dk) (hlo : d.loose = []) (hf : d.fuse = -1) (at_ base p : Nat) (t : Bs) (ht : t.length = 512) (hin : inside d.sure.length at_ base p) :
    (d.acts (twinActs at_ base [(p, t)])).loose = [] ∧ (d.acts (twinActs at_ base [(p, t)])).fuse = -1 ∧ (d.acts (twinActs at_ base [(p, t)])).sure.length = d.sure.length ∧
    pageAt (d.acts (twinActs at_ base [(p, t)])).sure (base + p * 4) = t ∧
    ∀ q, q ≠ p → at_ + 33 ≤ base + q * 4 → base + q * 4 + 4 ≤ d.sure.length → pageAt (d.acts (twinActs at_ base [(p, t)])).sure (base + q * 4) = pageAt d.sure (base + q * 4) := by
  obtain ⟨hi1, hi2⟩ := hin
  have hview : d.view = d.sure := by simp [Dk.view, hlo, lay]
  have hw : ∃ a c, twinActs at_ base [(p, t)] = (a ++ homesActs base [(p, t)] ++ c) ++ [.sync] ∧ (∀ x ∈ wrs a, x.1 < at_ + 33) ∧ (∀ x ∈ wrs c, x.1 < at_ + 33) := by
    refine ⟨(homesActs (at_ + 1) (areaOf [(p, t)]) ++ [.sync]) ++ [.wr at_ (markBs [(p, t)]), .sync], [.sync, .wr at_ (zeros 128)], by simp [twinActs], fun x hx => ?_, fun x hx => ?_⟩
    · rw [wrs_app, wrs_app] at hx
      simp only [wrs, List.append_nil, List.mem_append, List.mem_singleton] at hx
      rcases hx with hx | rfl
      · obtain ⟨y, hy, j, hj, e⟩ := mem_wrs_homes hx
        have : y.1 = 0 := by
          simp [areaOf] at hy
          rw [hy]
        omega
      · show at_ < at_ + 33; omega
    · simp [wrs] at hx
      rw [hx]; show at_ < at_ + 33; omega
  obtain ⟨a, c, hw, ha, hc⟩ := hw
  have hs := acts_synced d (a ++ homesActs base [(p, t)] ++ c)
  rw [← hw, hview, wrs_app, wrs_app] at hs
  have hlen := acts_sure d (twinActs at_ base [(p, t)])
  have hh : wrs (homesActs base [(p, t)]) = [(base + p * 4 + 0, (t.drop 0).take 128), (base + p * 4 + 1, (t.drop 128).take 128), (base + p * 4 + 2, (t.drop 256).take 128), (base + p * 4 + 3, (t.drop 384).take 128)] := by
    rw [wrs_homes]; rfl
  refine ⟨hs.1, acts_fuse d hf _, hlen, ?_, fun q hq h1 h2 => ?_⟩
  · rw [hs.2, hh]
    generalize hL : lay (wrs a ++ [(base + p * 4 + 0, (t.drop 0).take 128), (base + p * 4 + 1, (t.drop 128).take 128), (base + p * 4 + 2, (t.drop 256).take 128), (base + p * 4 + 3, (t.drop 384).take 128)] ++ wrs c) d.sure = L
    have g0 : L[base + p * 4 + 0]? = some ((t.drop 0).take 128) := by
      rw [← hL]
      have := lay_at (wrs a) ([(base + p * 4 + 1, (t.drop 128).take 128), (base + p * 4 + 2, (t.drop 256).take 128), (base + p * 4 + 3, (t.drop 384).take 128)] ++ wrs c) d.sure (base + p * 4 + 0) ((t.drop 0).take 128) (by omega) (fun x hx => by
        rcases List.mem_append.1 hx with hx | hx
        · simp at hx; rcases hx with rfl | rfl | rfl <;> simp
        · have := hc x hx; omega)
      simpa using this
    have g1 : L[base + p * 4 + 1]? = some ((t.drop 128).take 128) := by
      rw [← hL]
      have := lay_at (wrs a ++ [(base + p * 4 + 0, (t.drop 0).take 128)]) ([(base + p * 4 + 2, (t.drop 256).take 128), (base + p * 4 + 3, (t.drop 384).take 128)] ++ wrs c) d.sure (base + p * 4 + 1) ((t.drop 128).take 128) (by omega) (fun x hx => by
        rcases List.mem_append.1 hx with hx | hx
        · simp at hx; rcases hx with rfl | rfl <;> simp
        · have := hc x hx; omega)
      simpa using this
    have g2 : L[base + p * 4 + 2]? = some ((t.drop 256).take 128) := by
      rw [← hL]
      have := lay_at (wrs a ++ [(base + p * 4 + 0, (t.drop 0).take 128), (base + p * 4 + 1, (t.drop 128).take 128)]) ([(base + p * 4 + 3, (t.drop 384).take 128)] ++ wrs c) d.sure (base + p * 4 + 2) ((t.drop 256).take 128) (by omega) (fun x hx => by
        rcases List.mem_append.1 hx with hx | hx
        · simp at hx; rw [hx]; simp
        · have := hc x hx; omega)
      simpa using this
    have g3 : L[base + p * 4 + 3]? = some ((t.drop 384).take 128) := by
      rw [← hL]
      have := lay_at (wrs a ++ [(base + p * 4 + 0, (t.drop 0).take 128), (base + p * 4 + 1, (t.drop 128).take 128), (base + p * 4 + 2, (t.drop 256).take 128)]) (wrs c) d.sure (base + p * 4 + 3) ((t.drop 384).take 128) (by omega) (fun x hx => by have := hc x hx; omega)
      simpa using this
    have hd : (L.drop (base + p * 4)).take 4 = [(t.drop 0).take 128, (t.drop 128).take 128, (t.drop 256).take 128, (t.drop 384).take 128] := by
      apply List.ext_getElem?
      intro k
      rw [List.getElem?_take]
      match k with
      | 0 => simpa using g0
      | 1 => simpa using g1
      | 2 => simpa using g2
      | 3 => simpa using g3
      | k + 4 =>
        rw [if_neg (by omega)]
        simp
    unfold pageAt
    rw [hd]
    simp only [List.flatten_cons, List.flatten_nil, List.append_nil, List.drop_zero]
    have e3 : (t.drop 384).take 128 = t.drop 384 := List.take_of_length_le (by simp; omega)
    have e2 : (t.drop 256).take 128 ++ t.drop 384 = t.drop 256 := by
      have := List.take_append_drop 128 (t.drop 256); rwa [List.drop_drop] at this
    have e1 : (t.drop 128).take 128 ++ t.drop 256 = t.drop 128 := by
      have := List.take_append_drop 128 (t.drop 128); rwa [List.drop_drop] at this
    rw [e3, e2, e1, List.take_append_drop]
  · rw [hs.2]
    unfold pageAt
    congr 1
    apply List.ext_getElem?
    intro k
    rw [List.getElem?_take, List.getElem?_take]
    split
    · rename_i hk
      rw [List.getElem?_drop, List.getElem?_drop]
      refine lay_other _ _ _ (fun x hx => ?_)
      rw [hh] at hx
      rcases List.mem_append.1 hx with hx | hx
      · rcases List.mem_append.1 hx with hx | hx
        · have := ha x hx; omega
        · simp at hx
          rcases hx with rfl | rfl | rfl | rfl <;> simp <;> omega
      · have := hc x hx; omega
    · rfl
end Sp
end Go.Proofs.YtphkggcdfkcidaaGreat

/- The walks of the law package pentimentolaw15: Begun. -/
namespace Go.Proofs.YtphkggcdfkcidaaGreat
open Go.RowKit Go.Conc

def pgZero : Value := .agg #[.int .u8 0, .int .u8 0, .int .u32 0, .int .u64 0, .int .u32 0, .slice none 0 0]
theorem page_info : (Tryz.prog.info? 53).map (fun i => (i.zero, i.size, i.bytes)) = some (some pgZero, 6, 48) := by kernel_rfl
theorem blk_news {w : World} {g : Nat} {t : TypeId} {cs : List Value} (h : Blk w g t cs.toArray) : ∀ j u, cs[j]? = some u → w.cell? ((⟨g, 0, none⟩ : Addr).add j) = some u := fun j u hu => by
  have e : (⟨g, 0, none⟩ : Addr).add j = ⟨g, j, none⟩ := by cases j <;> simp [Addr.add]
  rw [e, h.cell, List.getElem?_toArray]; exact hu

theorem row_keep' {w w' : World} {base : Nat} {e : TypeId} {sz : Nat} {v : Value} {n : Nat} {xs : List Value} (h : w.ownsRow base e sz v n xs) (hk : ∀ b, v.ownBlock = some b → w'.heap[b]? = w.heap[b]?) : w'.ownsRow base e sz v n xs := by
  refine ⟨h.1, ?_⟩
  rcases h.2 with h' | ⟨b, cap, cur, rfl, hb, hh, rest⟩
  · exact .inl h'
  · exact .inr ⟨b, cap, cur, rfl, hb, (hk b rfl).trans hh, rest⟩

theorem row_mono {w : World} {base base' : Nat} {e : TypeId} {sz : Nat} {v : Value} {n : Nat} {xs : List Value} (h : w.ownsRow base e sz v n xs) (hb : base' ≤ base) : w.ownsRow base' e sz v n xs := by
  refine ⟨h.1, ?_⟩
  rcases h.2 with h' | ⟨b, cap, cur, rfl, hbb, rest⟩
  · exact .inl h'
  · exact .inr ⟨b, cap, cur, rfl, Nat.le_trans hb hbb, rest⟩

theorem row_base {w : World} {base : Nat} {e : TypeId} {sz : Nat} {v : Value} {n : Nat} {xs : List Value} (h : w.ownsRow base e sz v n xs) {b : Nat} (hb : v.ownBlock = some b) : base ≤ b := by
  rcases h.2 with ⟨rfl, _⟩ | ⟨g, cap, cur, rfl, hbb, rest⟩
  · simp [Value.ownBlock] at hb
  · simp only [Value.ownBlock, Option.some.injEq] at hb
    omega

/-- A disk on which the pages below k stand as they are laid first. -/
structure LawDk (dk : Sp.Dk) (k : Nat) : Prop where
  len : dk.sure.length = 72
  loose : dk.loose = []
  fuse : dk.fuse = -1
  page : ∀ q, 1 ≤ q → q < k → Sp.pageAt dk.sure (44 + q * 4) = pgBytes (Sp.first q)
  zero : Sp.pageAt dk.sure (44 + 0 * 4) = Sp.zeros 512

theorem pageAt_new : Sp.pageAt (Sp.newDk 72).sure (44 + 0 * 4) = Sp.zeros 512 := by
  show ((List.drop 44 (List.replicate 72 (Sp.zeros 128))).take 4).flatten = _
  rw [List.drop_replicate, List.take_replicate]
  simp [Sp.zeros]

/-- What holds while the pages are laid. -/
def LayAt (w : World) (n gd gr : Nat) (k : Nat) (wr : World) : Prop :=
  ∃ (v : Value) (xs : List Value) (D : Foot) (dk : Sp.Dk), Blk wr gr 110 #[.int .i64 n, .slice none 0 0, v, .int .u64 110, .int .u64 110] ∧ wr.ownsRow w.heap.size 53 6 v k xs ∧
    IsDk D wr gd dk ∧ LawDk dk k ∧ (∀ b, D b → w.heap.size ≤ b ∧ b ≠ gr ∧ v.ownBlock ≠ some b) ∧ v.ownBlock ≠ some gr ∧ w.heap.size ≤ gr ∧ Below w.heap.size w wr

/-- A pool that has begun, its log and its disk. -/
def BegunPost (w : World) (n : Nat) (e : Ending) (w' : World) : Prop :=
  ∃ (gP gr gd gl gp : Nat) (v : Value) (xs : List Value) (D F : Foot) (dk : Sp.Dk), e = .returned (ptr gP) ∧ Blk w' gP 46 #[ptr gd, ptr gl, ptr gp, ptr gr] ∧
    Blk w' gr 110 #[.int .i64 n, .slice none 0 0, v, .int .u64 110, .int .u64 110] ∧ w'.ownsRow w.heap.size 53 6 v 7 xs ∧
    Blk w' gl 152 (lgCells gd 0 8 1 (.slice none 0 0) (.slice none 0 0) 110 110 110 0) ∧
    IsDk D w' gd dk ∧ LawDk dk 7 ∧ IsPl F w' gp gd gl 8 44 ⟨n, [], List.range n⟩ ∧ (∀ b, D b → ¬ F b) ∧ (∀ b, D b ∨ F b → w.heap.size ≤ b ∧ b ≠ gP ∧ b ≠ gr ∧ b ≠ gl) ∧ Below w.heap.size w w'

set_option maxRecDepth 100000 in
set_option maxHeartbeats 4000000 in
theorem law_begun (n : Nat) (h1 : 1 ≤ n) (h64 : n ≤ 64) (w : World) : Calls Tryz.prog 19 #[.int .i64 n] w (BegunPost w n) := by
  have HDN := Lib.hid fun (W : World) => disk_new 72 W (by omega) (by omega)
  go_enter Tryz.func19, Tryz.ntmps19
  go_wp2_with fail
  refine (HDN.out w).mono ?_
  rintro e w1 ⟨gd, D, rfl, hd, ht⟩
  have hD : ∀ b, D b → w.heap.size ≤ b := fun b hb => (ht.foot b hb).resolve_left (fun h => h)
  have hbw := ht.below_none
  have HD := Lib.hid hd
  have HDF := Lib.hid hD
  clear hd hD ht HDN
  obtain ⟨ip, hip, hp0, hp1, hp2⟩ := info_parts page_info
  go_wp2_with (at_builtin; refine wpList_append_own2 _ rfl _ _ 31 rfl w1.heap.size 53 ip pgZero 6 48 Tryz.underlying31 hip hp0 hp1 hp2 rfl (by decide) _ 0 [] rfl (World.ownsRow_nil _ _ _ _) ⟨w1.heap.size + 1, 0, none⟩ 1 1 [.int .u8 0, .int .u8 0, .int .u32 1048576, .int .u64 0, .int .u32 0, .slice none 0 0] rfl rfl (by have := blk_news (Blk.new (w1.alloc (.cells #[.int .i64 n, .slice none 0 0, .slice none 0 0, .int .u64 110, .int .u64 110] 110)) 53 #[.int .u8 0, .int .u8 0, .int .u32 1048576, .int .u64 0, .int .u32 0, .slice none 0 0]); simpa only [World.size_alloc] using this) (fun x hx => by simp at hx; rcases hx with rfl | rfl | rfl | rfl | rfl | rfl <;> rfl) (by unfold maxLen; omega) (by omega) (by simp; omega) ?_)
  intro v' w2 hrow hg hown
  have hB := ((Blk.new w1 110 #[.int .i64 n, .slice none 0 0, .slice none 0 0, .int .u64 110, .int .u64 110]).alloc (.cells #[.int .u8 0, .int .u8 0, .int .u32 1048576, .int .u64 0, .int .u32 0, .slice none 0 0] 53)).grown hg (fun e => by simp [Value.ownBlock] at e)
  have hb2 := (((Below.refl w1.heap.size w1).alloc (Nat.le_refl _) (.cells #[.int .i64 n, .slice none 0 0, .slice none 0 0, .int .u64 110, .int .u64 110] 110)).alloc (by simp) (.cells #[.int .u8 0, .int .u8 0, .int .u32 1048576, .int .u64 0, .int .u32 0, .slice none 0 0] 53)).grown hg (by simp; omega) (fun r e => by simp [Value.ownBlock] at e)
  have hgl := hB.lt
  obtain ⟨A0, n0, c0, rfl⟩ : ∃ A m c, v' = .slice A m c := by
    rcases hrow.2 with ⟨h0, _⟩ | ⟨g6, c6, _, h0, _⟩
    · exact ⟨_, _, _, h0⟩
    · exact ⟨_, _, _, h0⟩
  have hown2 : (Value.slice A0 n0 c0).ownBlock ≠ some w1.heap.size := fun e => by
    rcases hown _ e with h | h
    · simp [Value.ownBlock] at h
    · omega
  have hownl : ∀ b, (Value.slice A0 n0 c0).ownBlock = some b → w1.heap.size ≤ b := fun b e => by
    rcases hown _ e with h | h
    · simp [Value.ownBlock] at h
    · omega
  have hBs := hB.set_ 2 (.slice A0 n0 c0)
  have hsw : w.heap.size ≤ w1.heap.size := hbw.size
  have hbw2 : Below w.heap.size w (w2.setCell ⟨w1.heap.size, 2, none⟩ (.slice A0 n0 c0)) := (hbw.trans (hb2.mono hsw)).setCell (p := ⟨w1.heap.size, 2, none⟩) hsw _
  have hdl := HD.out.in_
  have hd2 := HD.out.below (hb2.setCell (p := ⟨w1.heap.size, 2, none⟩) (Nat.le_refl _) (.slice A0 n0 c0))
  have hLAY : LayAt w n gd w1.heap.size 1 (w2.setCell ⟨w1.heap.size, 2, none⟩ (.slice A0 n0 c0)) := by
    refine ⟨.slice A0 n0 c0, _, D, _, hBs, (row_mono hrow hsw).kept (grown_set _ ⟨w1.heap.size, 2, none⟩ _) (.inr (fun e => hown2 e)), hd2, ⟨by simp [Sp.newDk], rfl, rfl, fun q h1 h2 => by omega, pageAt_new⟩, fun b hb => ⟨HDF.out b hb, ?_, fun e => ?_⟩, hown2, hsw, hbw2⟩
    · have := hdl b hb; omega
    · have := hdl b hb; have := hownl b e; omega
  have c2 := hB.cell 2
  have f2 := hB.frozen 2
  simp only [List.getElem?_toArray, List.getElem?_cons_succ, List.getElem?_cons_zero] at c2
  have HL := Lib.hid hLAY
  clear hLAY hd2 hdl hbw2 hBs hownl hown2 hrow hg hown hB hb2
  go_wp2_with fail
  obtain ⟨w3, hw3⟩ : ∃ w3, w3 = w2.setCell ⟨w1.heap.size, 2, none⟩ (.slice A0 n0 c0) := ⟨_, rfl⟩
  rw [← hw3] at HL ⊢
  clear hw3 c2 f2 hgl HD HDF hbw
  generalize w1.heap.size = gr at *
  go_loopw [6] (fun i wr => ∃ k : Nat, 1 ≤ k ∧ k ≤ 7 ∧ i = .int .u32 k ∧ LayAt w n gd gr k wr) (fun i _ => 7 - (intOf i).toNat)
  case atStart => exact ⟨1, by omega, by omega, rfl, HL.out⟩
  case round =>
    obtain ⟨k, hk1, hk7, rfl, hL⟩ := hrel
    have HLk := Lib.hid hL
    clear hL HL
    by_cases hlt : k < 7
    · have HF := Lib.hid fun W => law_first k W
      have d7 : decide ((k : Int) < 7) = true := by rw [decide_eq_true_eq]; omega
      go_wp2_with fail
      refine (HF.out wr).mono ?_
      rintro e w4 ⟨A, c, rfl, hA, hR, hb4⟩
      have hfo := Sp.first_ok (n := k) (by omega) (by omega)
      have hb5 := (Below.refl w4.heap.size w4).alloc (Nat.le_refl _) (.cells (pgCs (Sp.first k) A c) 53)
      have hR5 := Reads.below hR hb5
      have HE := Lib.hid (page_encode (c := c) hR5 hfo.1 hfo.2)
      have hX := Blk.new w4 53 (pgCs (Sp.first k) A c)
      have hb45 : Below wr.heap.size wr _ := hb4.trans (hb5.mono hb4.size)
      have hg7 : wr.heap.size ≤ w4.heap.size := hb4.size
      go_wp2_with fail
      change Calls Tryz.prog _ #[pgV (Sp.first k) A c] (w4.alloc (.cells (pgCs (Sp.first k) A c) 53)) _
      have hg4 : w4.heap.size < (w4.alloc (.cells (pgCs (Sp.first k) A c) 53)).heap.size := by simp
      obtain ⟨w5, hw5⟩ : ∃ w5, w5 = w4.alloc (.cells (pgCs (Sp.first k) A c) 53) := ⟨_, rfl⟩
      rw [← hw5] at HE hX hb45 hR5 hg4 ⊢
      clear hw5 hb5 hR hb4 HF
      generalize w4.heap.size = g7 at *
      refine HE.out.mono ?_
      rintro e w6 ⟨rfl, hb6⟩
      have hX6 := hX.below hb6 hg4
      have hb46 : Below wr.heap.size wr w6 := hb45.trans (hb6.mono hb45.size)
      have HX := Lib.hid hX6
      clear hX HE hb45 hX6 hb6 hg4
      obtain ⟨v, xs, DD, dk, hB, hrow, hd, hlk, hDs, hvg, hgr, hbr⟩ := HLk.out
      have hlen := pgBytes_length hfo.2
      have hb7 := hb46.alloc hb46.size (.cells #[.int .u32 k, str (pgBytes (Sp.first k))] 75)
      have hd7 := hd.below hb7
      have hHm := Blk.new w6 75 #[.int .u32 k, str (pgBytes (Sp.first k))]
      have hRd : Reads (fun b => b = w6.heap.size) (w6.alloc (.cells #[.int .u32 k, str (pgBytes (Sp.first k))] 75)) 2 (some ⟨w6.heap.size, 0, none⟩) 1 (hcs [(k, pgBytes (Sp.first k))]) :=
        ⟨rfl, fun _ => ⟨w6.heap.size, 0, rfl, rfl, hHm.lt, fun j u hu => by
          rw [Nat.zero_add]
          exact (hHm.cell j).trans (by rw [List.getElem?_toArray]; exact hu)⟩⟩
      have hins : Sp.inside dk.sure.length 8 44 k := by rw [hlk.len]; unfold Sp.inside; omega
      have HTW := Lib.hid (twin_write hd7 hlk.fuse (by rw [hlk.loose]; simp) 8 44 (l := [(k, pgBytes (Sp.first k))]) (c := 1) hRd (by simp) (by simp) (fun x hx => by
        rw [List.mem_singleton.1 hx]
        exact ⟨by show k < _; omega, hlen, hins⟩) (by simp) (by rw [hlk.len]; omega) (by rw [hlk.len]; omega))
      have hone := Sp.twin_one dk hlk.loose hlk.fuse 8 44 k _ hlen hins
      clear hRd hHm HLk hd7
      go_wp2_with fail
      refine HTW.out.mono ?_
      rintro e w7 ⟨D7, rfl, hd7, ht7⟩
      have hrl : ∀ b, v.ownBlock = some b → b < wr.heap.size := fun b hb => by
        obtain ⟨cur, hc⟩ := ownsRow_heap hrow hb
        exact (Array.getElem?_eq_some_iff.1 hc).1
      have hDl := hd.in_
      have hgrl := hB.lt
      have hgX := HX.out.lt
      have hB7 := (hB.below hb7 hgrl).turns ht7 (fun hh => (hDs gr hh).2.1 rfl)
      have hX7 := (HX.out.alloc (.cells #[.int .u32 k, str (pgBytes (Sp.first k))] 75)).turns ht7 (fun hh => by have := hDl g7 hh; omega)
      have hs67 := ht7.size
      have hszb := hb7.size
      have hrow7 := row_keep' (w' := w7) hrow (fun b hb => (ht7.block b (by have := hrl b hb; omega) (fun hh => (hDs b hh).2.2 hb)).trans (hb7.block b (hrl b hb)))
      have hD7 : ∀ b, D7 b → w.heap.size ≤ b ∧ b ≠ gr ∧ v.ownBlock ≠ some b := fun b hb => by
        have hz := hbr.size
        rcases ht7.foot b hb with h | h
        · exact hDs b h
        · refine ⟨by omega, by omega, fun e => ?_⟩
          have := hrl b e; omega
      have hbw7 : Below w.heap.size w w7 := (hbr.trans (hb7.mono hbr.size)).trans (ht7.below (Nat.le_trans hbr.size hszb) (fun b hb => (hDs b hb).1))
      have hlk7 : LawDk (dk.acts (Sp.twinActs 8 44 [(k, pgBytes (Sp.first k))])) (k + 1) := by
        refine ⟨hone.2.2.1.trans hlk.len, hone.1, hone.2.1, fun q hq1 hq2 => ?_, (hone.2.2.2.2 0 (by omega) (by omega) (by rw [hlk.len]; omega)).trans hlk.zero⟩
        by_cases e : q = k
        · rw [e]; exact hone.2.2.2.1
        · rw [hone.2.2.2.2 q e (by omega) (by rw [hlk.len]; omega)]
          exact hlk.page q hq1 (by omega)
      have hmeas : k + 1 ≤ 7 := hlt
      have hown7 : ∀ b, v.ownBlock = some b → b < w7.heap.size := fun b hb => by have := hrl b hb; omega
      have hd7l := hd7.in_
      obtain ⟨dk7, hdk7⟩ : ∃ d, d = dk.acts (Sp.twinActs 8 44 [(k, pgBytes (Sp.first k))]) := ⟨_, rfl⟩
      rw [← hdk7] at hd7 hlk7
      clear hdk7 hone hDs hlk hins ht7 hb7 hd hrow hB hDl hbr HTW HX
      go_wp2_with fail
      have c2 := hB7.cell 2
      simp only [List.getElem?_toArray, List.getElem?_cons_succ, List.getElem?_cons_zero] at c2
      have hS := Lib.hid (⟨c2, hX7⟩ : w7.drew.cell? ⟨gr, 2, none⟩ = some v ∧ Blk w7.drew g7 53 (pgCs (Sp.first k) A c))
      clear c2
      refine R_begin (fun W => W.cell? ⟨gr, 2, none⟩ = some v ∧ Blk W g7 53 (pgCs (Sp.first k) A c)) (fun j => decide (8 ≤ j)) rfl ?_
      refine R_take 0 59 (v := ?_) rfl rfl (by rfl) (by kernel_rfl) (fun _ _ _ h => h) hS.out ?_ ?_
      rotate_left
      · intro w hSw; (try dsimp only at hSw); go_simp; (try with_reducible rfl)
      simp only [List.setIfInBounds_toArray, List.set_cons_zero, List.set_cons_succ]
      refine R_take 1 60 (v := ?_) rfl rfl (by rfl) (by kernel_rfl) (fun _ _ _ h => h) hS.out ?_ ?_
      rotate_left
      · intro w hSw; (try dsimp only at hSw); go_simp; (try with_reducible rfl)
      simp only [List.setIfInBounds_toArray, List.set_cons_zero, List.set_cons_succ]
      refine R_take 2 61 (v := ?_) rfl rfl (by rfl) (by kernel_rfl) (fun _ _ _ h => h) hS.out ?_ ?_
      rotate_left
      · intro w hSw; (try dsimp only at hSw); go_simp; (try with_reducible rfl)
      simp only [List.setIfInBounds_toArray, List.set_cons_zero, List.set_cons_succ]
      refine R_take 3 62 (v := ?_) rfl rfl (by rfl) (by kernel_rfl) (fun _ _ _ h => h) hS.out ?_ ?_
      rotate_left
      · intro w hSw; (try dsimp only at hSw); go_simp; (try with_reducible rfl)
      simp only [List.setIfInBounds_toArray, List.set_cons_zero, List.set_cons_succ]
      refine R_take 4 63 (v := ?_) rfl rfl (by rfl) (by kernel_rfl) (fun _ _ _ h => h) hS.out ?_ ?_
      rotate_left
      · intro w hSw; (try dsimp only at hSw); go_simp; (try with_reducible rfl)
      simp only [List.setIfInBounds_toArray, List.set_cons_zero, List.set_cons_succ]
      refine R_take 5 64 (v := pgV (Sp.first k) A c) rfl rfl (by rfl) (by kernel_rfl) (fun _ _ _ h => h) hS.out ?_ ?_
      · intro w hSw
        exact run_op_load _ _ _ rfl rfl (run_loadVar_row w g7 _ _ _ _ _ hSw.2 Tryz.underlying53 rfl rfl)
      simp only [List.setIfInBounds_toArray, List.set_cons_zero, List.set_cons_succ]
      have hT8 := (Turns.refl noFoot w7).drew.alloc (.cells (pgCs (Sp.first k) A c) 53)
      refine R_run 6 65 (v := .slice (some ⟨w7.drew.heap.size, 0, none⟩) 1 1) (w' := w7.drew.alloc (.cells (pgCs (Sp.first k) A c) 53)) rfl rfl (by rfl) (by kernel_rfl) ?_ ?_ ?_
      · go_simp
      · exact fun _ => ⟨(((hB7.turns hT8 (fun e => e)).cell 2).trans rfl), hX7.turns hT8 (fun e => e)⟩
      simp only [List.setIfInBounds_toArray, List.set_cons_zero, List.set_cons_succ]
      have hB8 := hB7.turns hT8 (fun e => e)
      have hrow8 := row_keep' (w' := w7.drew.alloc (.cells (pgCs (Sp.first k) A c) 53)) hrow7 (fun b hb => hT8.block b (hown7 b hb) (fun e => e))
      have hN8 := Blk.new w7.drew 53 (pgCs (Sp.first k) A c)
      have hX8 := hX7.turns hT8 (fun e => e)
      have hs8 := hT8.size
      have hgr7 := hB7.lt
      have hg77 := hX7.lt
      have hbw8 : Below w.heap.size w _ := hbw7.trans ((hT8.below_none).mono hbw7.size)
      have hd8 := hd7.below hT8.below_none
      obtain ⟨g8, hg8⟩ : ∃ g, g = w7.drew.heap.size := ⟨_, rfl⟩
      obtain ⟨w8, hw8⟩ : ∃ w8, w8 = w7.drew.alloc (.cells (pgCs (Sp.first k) A c) 53) := ⟨_, rfl⟩
      rw [← hw8, ← hg8] at hN8
      rw [← hw8] at hB8 hrow8 hX8 hs8 hbw8 hd8
      rw [← hw8, ← hg8]
      clear hw8 hg8 hT8 hS hrow7 hX7 hB7 hd7 hbw7
      refine R_step 7 rfl (by rfl) (by kernel_rfl) ?_
      refine wp_append_own2 _ _ _ _ rfl w.heap.size 53 ip pgZero 6 48 Tryz.underlying31 hip hp0 hp1 hp2 rfl (by decide) _ _ _ rfl hrow8 ⟨g8, 0, none⟩ 1 1 (pgCs (Sp.first k) A c).toList rfl rfl (blk_news hN8) (fun x hx => by simp at hx; rcases hx with rfl | rfl | rfl | rfl | rfl | rfl <;> rfl) (by unfold maxLen; omega) (by omega) ?_ ?_
      · exact hbw8.size
      intro v2 w9 q1 q2 q3
      have hB9 := hB8.grown q2 (fun e => hvg e.symm)
      have hX9 := hX8.grown q2 (fun e => by have := hrl g7 e.symm; omega)
      have hSS : w9.cell? ⟨gr, 2, none⟩ = some v ∧ Blk w9 g7 53 (pgCs (Sp.first k) A c) := ⟨(hB9.cell 2).trans rfl, hX9⟩
      have hd8l := hd8.in_
      have hd9 := hd8.keep (fun b hb => q2.block b (hd8l b hb) (fun e => (hD7 b hb).2.2 e.symm))
      have hbw9 := hbw8.grown q2 hbw8.size (fun b e => (row_base hrow8 e))
      obtain ⟨x0, x1, x2, rfl⟩ : ∃ g m c, v2 = .slice (some ⟨g, 0, none⟩) m c := by
        rcases q1.2 with ⟨_, h0⟩ | ⟨g6, c6, _, h0, _⟩
        · omega
        · exact ⟨g6, _, c6, h0⟩
      have c2 := hB9.cell 2
      have f2 := hB9.frozen 2
      simp only [List.getElem?_toArray, List.getElem?_cons_succ, List.getElem?_cons_zero] at c2
      have hv2 : (Value.slice (some ⟨x0, 0, none⟩) x1 x2).ownBlock ≠ some gr := fun e => by
        rcases q3 gr e with h | h
        · exact hvg h
        · omega
      have hLA : LayAt w n gd gr (k + 1) (w9.setCell ⟨gr, 2, none⟩ (.slice (some ⟨x0, 0, none⟩) x1 x2)) := by
        refine ⟨_, _, D7, dk7, hB9.set_ 2 _, q1.kept (grown_set _ ⟨gr, 2, none⟩ _) (.inr (fun e => hv2 e)), hd9.keep (fun b hb => Below.heap_setCell w9 _ _ b (hD7 b hb).2.1), hlk7, fun b hb => ⟨(hD7 b hb).1, (hD7 b hb).2.1, fun e => ?_⟩, hv2, hgr, hbw9.setCell (p := ⟨gr, 2, none⟩) hgr _⟩
        rcases q3 b e with h | h
        · exact (hD7 b hb).2.2 h
        · have := hd7l b hb; omega
      have HLA := Lib.hid hLA
      clear hLA q1 q2 q3 hd8 hd9 hB8 hX8 hrow8 hX9 hN8 hbw8 hbw9
      refine ⟨fun _ => hSS, ?_⟩
      refine R_put 66 rfl ?_
      simp only [List.setIfInBounds_toArray, List.set_cons_zero, List.set_cons_succ]
      refine R_run 8 67 (v := ptr gr) (w' := w9) rfl rfl (by rfl) (by kernel_rfl) (by go_simp) (fun h => nomatch h) ?_
      simp only [List.setIfInBounds_toArray, List.set_cons_zero, List.set_cons_succ]
      refine R_run 9 68 (v := .pointer (some ⟨gr, 2, none⟩)) (w' := w9) rfl rfl (by rfl) (by kernel_rfl) (by go_simp) (fun h => nomatch h) ?_
      simp only [List.setIfInBounds_toArray, List.set_cons_zero, List.set_cons_succ]
      refine R_store 10 (n := .skip) (w' := w9.setCell ⟨gr, 2, none⟩ (.slice (some ⟨x0, 0, none⟩) x1 x2)) rfl rfl (by rfl) (by kernel_rfl) (by go_simp) (.inl rfl) (fun h => nomatch h) ?_
      refine R_done (by kernel_rfl) ?_ _
      rename_i K9 hK9
      refine hK9 _ _ ?_
      go_wp2_with fail
      go_roundw
      case rel => exact ⟨k + 1, by omega, hmeas, by go_num, HLA.out⟩
      case measure => simp [intOf]; omega
    · obtain rfl : k = 7 := by omega
      obtain ⟨v, xs, DD, dk, hB, hrow, hd, hlk, hDs, hvg, hgr, hbr⟩ := HLk.out
      have HLN := Lib.hid (log_new hd 0 8 1 (by omega) (by omega) (by rw [hlk.len]; omega) (by omega))
      have HPN := Lib.hid fun (gl : Nat) (W : World) => pool_new gd gl 8 44 n h1 h64 W
      clear HLk
      go_wp2_with fail
      refine HLN.out.mono ?_
      rintro e w4 ⟨rfl, hw4⟩
      have hLb := Blk.new wr 152 (lgCells gd 0 8 1 (.slice none 0 0) (.slice none 0 0) 110 110 110 0)
      have hb4 := (Below.refl wr.heap.size wr).alloc (Nat.le_refl _) (.cells (lgCells gd 0 8 1 (.slice none 0 0) (.slice none 0 0) 110 110 110 0) 152)
      have hgrl := hB.lt
      have hDl := hd.in_
      have hrl : ∀ b, v.ownBlock = some b → b < wr.heap.size := fun b hb => by
        obtain ⟨cur, hc⟩ := ownsRow_heap hrow hb
        exact (Array.getElem?_eq_some_iff.1 hc).1
      have hwr : w.heap.size ≤ wr.heap.size := hbr.size
      go_wp2_with fail
      refine (HPN.out wr.heap.size _).mono ?_
      rintro e w5 ⟨gp, F, rfl, hpl, hb5, hF⟩
      have hs4 := hb4.size
      have hLl := hLb.lt
      have hb45 : Below wr.heap.size wr w5 := hb4.trans (hb5.mono hs4)
      have hL5 := hLb.below hb5 hLl
      have hB5 := hB.below hb45 hgrl
      have hd5 := hd.below hb45
      have hrow5 := row_keep' (w' := w5) hrow (fun b hb => hb45.block b (hrl b hb))
      have hbw5 : Below w.heap.size w w5 := hbr.trans (hb45.mono hwr)
      have hs45 := hb45.size
      have hFl : ∀ b, F b → wr.heap.size + 1 ≤ b := fun b hb => by have := hF b hb; simpa using this
      have hpll := hpl.lt
      have HPL := Lib.hid hpl
      have hs5 : wr.heap.size < w5.heap.size := hL5.lt
      generalize wr.heap.size = gl at *
      clear hpl hb45 hb5 hb4 hLb hB hd hrow hbr HPN HLN hF
      go_wp2_with fail
      go_ret
      refine ⟨w5.heap.size, gr, gd, gl, gp, v, xs, DD, F, dk, rfl, Blk.new w5 _ _, hB5.alloc _, row_keep' hrow5 (fun b hb => Below.heap_alloc w5 _ b (by have := hrl b hb; omega)), hL5.alloc _, hd5.below ((Below.refl _ w5).alloc (Nat.le_refl _) _), hlk, HPL.out.below ((Below.refl _ w5).alloc (Nat.le_refl _) _), fun b hb hf => ?_, fun b hb => ?_, hbw5.alloc hbw5.size _⟩
      · have := hDl b hb; have := hFl b hf; omega
      · rcases hb with hb | hb
        · have := hDl b hb
          exact ⟨(hDs b hb).1, by omega, (hDs b hb).2.1, by omega⟩
        · have := hpll b hb; have := hFl b hb
          exact ⟨by omega, by omega, by omega, by omega⟩
end Go.Proofs.YtphkggcdfkcidaaGreat

/- append of one element to an owned row. No program is named here. -/
namespace Go.Proofs.YtphkggcdfkcidaaGreat
open Go.RowKit

theorem grownBy_trans' {w w' w'' : World} {row : Option Nat} (h : w.grownBy w' row) (h' : w'.grownBy w'' row) : w.grownBy w'' row :=
  ⟨h'.os.trans h.os, h'.tape.trans h.tape, h'.output.trans h.output, Nat.le_trans h.size h'.size, fun b hb hne => (h'.block b (Nat.lt_of_lt_of_le hb h.size) hne).trans (h.block b hb hne)⟩

theorem wpList_app1 {P : Program} {w : World} {ops : Array Oper} {rest : List Oper} {o : Oper} {a : Act} {Q : Exit → Act → World → Prop} (hgd : o.guard = none) (s x : Operand) (t : TypeId)
    (ho : o.op = .call { callee := .builtin .append, args := #[s, x], argTypes := #[t, t] })
    (base : Nat) (e : TypeId) (i : TypeInfo) (z : Value) (bytes : Nat) (ht : P.underlying t = some (.slice e)) (hi : P.info? e = some i) (hz : i.zero = some z)
    (hsize : i.size = 1) (hby : i.bytes = bytes) (hzs : z.cells.size = 1)
    (v : Value) (n : Nat) (xs : List Value) (hs : a.eval s = v) (hown : w.ownsRow base e 1 v n xs)
    (y : Value) (hx : a.eval x = .slice (some ⟨w.heap.size, 0, none⟩) 1 1) (hy : y.oneCell' = true)
    (h63 : n + 1 ≤ maxLen) (hbytes : (n + 1) * bytes ≤ 140737488355328) (hbase : base ≤ w.heap.size)
    (h : ∀ v' w', w'.ownsRow base e 1 v' (n + 1) (xs ++ [y]) → w.grownBy w' v.ownBlock → (∀ k, v'.ownBlock = some k → v.ownBlock = some k ∨ w.heap.size ≤ k) → wpList P ops Q rest (a.put o.dst v') w') : wpList P ops Q (o :: rest) a (w.alloc (.cells #[y] e)) := by
  refine wpList_append_own2 _ hgd s x t ho base e i z 1 bytes ht hi hz hsize hby hzs (by omega) v n xs hs (hown.alloc _) ⟨w.heap.size, 0, none⟩ 1 1 [y] hx rfl ?_ (fun u hu => by rw [List.mem_singleton.1 hu]; exact hy) h63 hbytes (by simp; omega) fun v' w' h1 h2 h3 => h v' w' h1 (grownBy_trans' (World.grownBy_alloc w _ _) h2) fun k hk => ?_
  · exact blk_news (cs := [y]) (Blk.new w e #[y])
  · rcases h3 k hk with h3 | h3
    · exact .inl h3
    · simp at h3; exact .inr (by omega)
end Go.Proofs.YtphkggcdfkcidaaGreat

/- The walks of the reference's words: pentimentoref01.Put and what stands on it. -/
namespace Go.Proofs.YtphkggcdfkcidaaGreat
open Go.RowKit

/-- The bytes of ref01.Put behind t rounds. -/
def rputCells (n size t : Nat) : Array Value := ((List.range size).map fun j => Value.int .u8 (if size ≤ j + t then ((n / 256 ^ (size - 1 - j) % 256 : Nat) : Int) else 0)).toArray
theorem rputCells_zero (n size : Nat) : rputCells n size 0 = (List.replicate size (Value.int .u8 0)).toArray := by
  unfold rputCells
  congr 1
  apply List.ext_getElem?
  intro j
  rw [List.getElem?_map, List.getElem?_replicate]
  by_cases h : j < size
  · rw [List.getElem?_range h, if_pos h]
    simp; omega
  · rw [List.getElem?_eq_none (by simp; omega), if_neg h]; rfl
theorem rputCells_next (n size t : Nat) (ht : t < size) (v : Int) (hv : v = ((n / 256 ^ t % 256 : Nat) : Int)) : (rputCells n size t).setIfInBounds (size - 1 - t) (.int .u8 v) = rputCells n size (t + 1) := by
  subst hv
  unfold rputCells
  apply Array.ext_getElem?
  intro j
  rw [List.setIfInBounds_toArray, List.getElem?_toArray, List.getElem?_toArray, List.getElem?_set, List.getElem?_map]
  by_cases hj : j < size
  · rw [List.getElem?_map, List.getElem?_range hj, Option.map_some, Option.map_some]
    by_cases e : size - 1 - t = j
    · rw [if_pos e]
      have h2 : size - 1 - j = t := by omega
      rw [if_pos (by simp; omega), if_pos (by omega), h2]
    · rw [if_neg e]
      congr 2
      by_cases h3 : size ≤ j + t
      · rw [if_pos h3, if_pos (by omega)]
      · rw [if_neg h3, if_neg (by omega)]
  · have h1 : (List.range size)[j]? = none := List.getElem?_eq_none (by simp; omega)
    rw [List.getElem?_map, h1, if_neg (by omega)]
    rfl
theorem rputCells_at (n size j : Nat) (hj : j < (Sp.be size n).length) : (rputCells n size size)[j]? = some (Value.int .u8 ((Sp.be size n)[j].toNat : Int)) := by
  have hj' : j < size := by simpa using hj
  have h1 := Sp.be_get size n j hj'
  rw [List.getElem?_eq_getElem hj, Option.some.injEq] at h1
  rw [h1]
  unfold rputCells
  rw [List.getElem?_toArray, List.getElem?_map, List.getElem?_range hj', Option.map_some, if_pos (by omega), UInt8.toNat_ofNat']

set_option maxRecDepth 100000 in
set_option maxHeartbeats 2000000 in
theorem ref_put (n size : Nat) (w : World) (h1 : 1 ≤ size) (h8 : size ≤ 8) (hn : n < 256 ^ size) (hn64 : n < 18446744073709551616) :
    Calls Tryz.prog 59 #[.int .u64 n, .int .i64 size] w fun e w' => e = .returned (.tuple #[str (Sp.be size n), .bool true]) ∧ Below w.heap.size w w' := by
  obtain ⟨i0, hi, hz0, hz1, hz2⟩ := info_parts area_info
  have hmk := fun W => run_make_rowN (P := Tryz.prog) 144 5 i0 (.int .u8 0) Tryz.underlying144 hi hz0 .i64 .i64 size size (Nat.le_refl _) (by rw [hz2]; omega) (by omega) W
  simp only [hz1, Nat.mul_one] at hmk
  have d1 : decide ((size : Int) < 1) = false := by simp; omega
  have d2 : decide ((8 : Int) < (size : Int)) = false := by simp; omega
  have hN := Lib.hid hn
  have hN64 := Lib.hid hn64
  clear hn hn64 hi hz0 hz1 hz2
  go_enter Tryz.func59, Tryz.ntmps59
  go_wp2_with fail
  have hB := (Blk.new w 5 (madeCells #[.int .u8 0] size))
  have hb := (Below.refl w.heap.size w).alloc (Nat.le_refl _) (.cells (madeCells #[.int .u8 0] size) 5)
  obtain ⟨w1, hw1⟩ : ∃ w1, w1 = w.alloc (.cells (madeCells #[.int .u8 0] size) 5) := ⟨_, rfl⟩
  rw [← hw1] at hB hb ⊢
  rw [madeCells_one, ← rputCells_zero n size] at hB
  have HB := Lib.hid hB
  clear hw1 hB hmk
  go_loopw [0, 7] (fun x i wr => ∃ m : Nat, m ≤ size ∧ i = .int .i64 ((m : Int) - 1) ∧ x = .int .u64 (n / 256 ^ (size - m) : Nat) ∧ Blk wr w.heap.size 5 (rputCells n size (size - m)) ∧ Below w.heap.size w wr) (fun _ i _ => (intOf i + 1).toNat)
  case atStart => exact ⟨size, Nat.le_refl _, rfl, by rw [Nat.sub_self]; simp, by rw [Nat.sub_self]; exact HB.out, hb⟩
  case round =>
    obtain ⟨m, hm, rfl, rfl, hblk, hbk⟩ := hrel
    clear HB hb
    by_cases hlt : 1 ≤ m
    · have i0 : (0 : Int) ≤ (m : Int) - 1 := by omega
      have i1 : (1 : Int) ≤ (m : Int) := by omega
      have i2 : ((m : Int) - 1).toNat = m - 1 := by omega
      have i3 : (m : Int) - 1 < (size : Int) := by omega
      have d3 : decide ((0 : Int) ≤ (m : Int) - 1) = true := by rw [decide_eq_true_eq]; omega
      have hx : n / 256 ^ (size - m) < 18446744073709551616 := Nat.lt_of_le_of_lt (Nat.div_le_self _ _) hN64.out
      obtain ⟨v0, hv0⟩ : ∃ v, (rputCells n size (size - m))[m - 1]? = some v := ⟨_, Array.getElem?_eq_getElem (by simp [rputCells]; omega)⟩
      have hcell := (hblk.cell (m - 1)).trans hv0
      have hfz := hblk.frozen (m - 1)
      have hnx := rputCells_next n size (size - m) (by omega) (((n / 256 ^ (size - m) : Nat) : Int) % 256) (by simp)
      have e1 : size - 1 - (size - m) = m - 1 := by omega
      have e2 : size - m + 1 = size - (m - 1) := by omega
      rw [e1, e2] at hnx
      have hdv : n / 256 ^ (size - (m - 1)) = n / 256 ^ (size - m) / 256 := by rw [← e2, Nat.pow_succ, Nat.div_div_eq_div_mul]
      have HNX := Lib.hid hnx
      have HDV := Lib.hid hdv
      have HBL := Lib.hid hblk
      clear hv0 hnx hdv hblk e1 e2
      generalize n / 256 ^ (size - m) = x at *
      go_wp2_with fail
      go_roundw
      case rel =>
        refine ⟨m - 1, by omega, ?_, ?_, ?_, hbk.setCell (p := ⟨w.heap.size, m - 1, none⟩) (Nat.le_refl _) _⟩
        · go_num
        · rw [HDV.out]; go_num
        · rw [← HNX.out]; exact HBL.out.set_ _ _
      case measure => simp [intOf]; omega
    · obtain rfl : m = 0 := by omega
      have hz : n / 256 ^ (size - 0) = 0 := by rw [Nat.sub_zero]; exact Nat.div_eq_of_lt hN.out
      rw [hz]
      rw [Nat.sub_zero] at hblk
      have hc0 : ∀ j (hj : j < (Sp.be size n).length), wr.cell? ⟨w.heap.size, 0 + j, none⟩ = some (.int .u8 ((Sp.be size n)[j].toNat : Int)) := fun j hj => by
        rw [Nat.zero_add, hblk.cell]
        exact rputCells_at n size j hj
      have hcv := run_bytes_back wr 144 9 5 w.heap.size 0 size size (Sp.be size n) Tryz.underlying144 Tryz.underlying5 Tryz.underlying9 (by simp) hc0
      clear hc0 hz hblk
      go_wp2_with fail
      go_ret2
      exact ⟨rfl, hbk⟩

set_option maxRecDepth 100000 in
theorem ref21_put (n size : Nat) (w : World) (h1 : 1 ≤ size) (h8 : size ≤ 8) (hn : n < 256 ^ size) (hn64 : n < 18446744073709551616) :
    Calls Tryz.prog 27 #[.int .u64 n, .int .i64 size] w fun e w' => e = .returned (str (Sp.be size n)) ∧ Below w.heap.size w w' := by
  have HP := Lib.hid (ref_put n size w h1 h8 hn hn64)
  clear hn hn64
  go_enter Tryz.func27, Tryz.ntmps27
  go_wp2_with fail
  refine HP.out.mono ?_
  rintro e w1 ⟨rfl, hb⟩
  go_wp2_with fail
  go_ret
  exact ⟨rfl, hb⟩
set_option maxRecDepth 100000 in
theorem ref07_num (n size : Nat) (w : World) (h1 : 1 ≤ size) (h8 : size ≤ 8) (hn : n < 256 ^ size) (hn64 : n < 18446744073709551616) :
    Calls Tryz.prog 60 #[.int .u64 n, .int .i64 size] w fun e w' => e = .returned (str (Sp.be size n)) ∧ Below w.heap.size w w' := by
  have HP := Lib.hid (ref_put n size w h1 h8 hn hn64)
  clear hn hn64
  go_enter Tryz.func60, Tryz.ntmps60
  go_wp2_with fail
  refine HP.out.mono ?_
  rintro e w1 ⟨rfl, hb⟩
  go_wp2_with fail
  go_ret
  exact ⟨rfl, hb⟩
set_option maxRecDepth 100000 in
theorem row_number (n size : Nat) (w : World) (h1 : 1 ≤ size) (h8 : size ≤ 8) (hn : n < 256 ^ size) (hn64 : n < 18446744073709551616) :
    Calls Tryz.prog 141 #[.int .u64 n, .int .i64 size] w fun e w' => e = .returned (str (Sp.be size n)) ∧ Below w.heap.size w w' := by
  have HP := Lib.hid (word_put n size w h1 h8 hn hn64)
  clear hn hn64
  go_enter Tryz.func141, Tryz.ntmps141
  go_wp2_with fail
  refine HP.out.mono ?_
  rintro e w1 ⟨rfl, hb⟩
  go_wp2_with fail
  go_ret
  exact ⟨rfl, hb⟩
end Go.Proofs.YtphkggcdfkcidaaGreat

/- The walks of rows as bytes: pentimentoref07 and package row, May and Encode. -/
namespace Go.Proofs.YtphkggcdfkcidaaGreat
open Go.RowKit

/-- A row's cells. -/
abbrev rwCs (r : Sp.Rw) : List Value := [str r.key, .bool r.mark, .int .u64 r.tx, .int .u32 r.page, .int .u16 r.slot, str r.value, .int .i64 r.pad]
abbrev rwV (r : Sp.Rw) : Value := .agg #[str r.key, .bool r.mark, .int .u64 r.tx, .int .u32 r.page, .int .u16 r.slot, str r.value, .int .i64 r.pad]

set_option maxRecDepth 100000 in
set_option maxHeartbeats 1000000 in
theorem ref07_may (r : Sp.Rw) (h : r.may) (w : World) : Calls Tryz.prog 58 #[rwV r] w fun e w' => e = .returned (.bool true) ∧ Below w.heap.size w w' := by
  obtain ⟨key, mark, tx, page, slot, value, pad⟩ := r
  obtain ⟨h1, h2, h3, h4, h5⟩ := h
  dsimp only at h1 h2 h3 h4 h5
  have d1 : decide ((key.length : Int) < 1) = false := by rw [decide_eq_false_iff_not]; omega
  have d2 : decide ((48 : Int) < key.length) = false := by rw [decide_eq_false_iff_not]; omega
  have d3 : decide ((pad : Int) < 0) = false := by rw [decide_eq_false_iff_not]; omega
  have d4 : decide ((96 : Int) < pad) = false := by rw [decide_eq_false_iff_not]; omega
  have d5 : decide ((96 : Int) < value.length) = false := by rw [decide_eq_false_iff_not]; omega
  have d6 : decide ((96 : Int) < (value.length : Int) + pad) = false := by rw [decide_eq_false_iff_not]; omega
  have d7 : decide ((page : Int) ≤ 1024) = true := by rw [decide_eq_true_eq]; omega
  by_cases hp : page = 0
  · have hs := h5 hp
    subst hp hs
    clear h5
    go_enter Tryz.func58, Tryz.ntmps58
    go_wp2_with fail
    go_ret
    exact ⟨rfl, (Below.refl _ _).alloc (Nat.le_refl _) _⟩
  · have d8 : decide ((page : Int) = 0) = false := by rw [decide_eq_false_iff_not]; omega
    have d9 : ((page : Int) != 0) = true := by simp; omega
    clear h5
    go_enter Tryz.func58, Tryz.ntmps58
    go_wp2_with fail
    go_ret
    exact ⟨rfl, (Below.refl _ _).alloc (Nat.le_refl _) _⟩
theorem key_may (k : Sp.Bs) (h1 : 1 ≤ k.length) (h2 : k.length ≤ 48) (w : World) : Calls Tryz.prog 126 #[str k] w fun e w' => e = .returned (.bool true) ∧ w' = w := by
  have d1 : decide ((1 : Int) ≤ k.length) = true := by rw [decide_eq_true_eq]; omega
  have d2 : decide ((k.length : Int) ≤ 48) = true := by rw [decide_eq_true_eq]; omega
  go_enter Tryz.func126, Tryz.ntmps126
  go_wp2_with fail
  go_ret
  exact ⟨rfl, rfl⟩
set_option maxRecDepth 100000 in
set_option maxHeartbeats 1000000 in
theorem row_may (r : Sp.Rw) (h : r.may) (w : World) : Calls Tryz.prog 127 #[rwV r] w fun e w' => e = .returned (.bool true) ∧ Below w.heap.size w w' := by
  obtain ⟨key, mark, tx, page, slot, value, pad⟩ := r
  obtain ⟨h1, h2, h3, h4, h5⟩ := h
  dsimp only at h1 h2 h3 h4 h5
  have HK := Lib.hid fun (W : World) => key_may key h1 h2 W
  have d3 : decide ((0 : Int) ≤ pad) = true := by rw [decide_eq_true_eq]; omega
  have d4 : decide ((pad : Int) ≤ 96) = true := by rw [decide_eq_true_eq]; omega
  have d6 : decide ((value.length : Int) ≤ 96 - (pad : Int)) = true := by rw [decide_eq_true_eq]; omega
  have d7 : decide ((page : Int) ≤ 1024) = true := by rw [decide_eq_true_eq]; omega
  by_cases hp : page = 0
  · have hs := h5 hp
    subst hp hs
    clear h5
    go_enter Tryz.func127, Tryz.ntmps127
    go_wp2_with fail
    refine (HK.out _).mono ?_
    rintro e w1 ⟨rfl, hw⟩
    subst w1
    go_wp2_with fail
    go_ret
    exact ⟨rfl, (Below.refl _ _).alloc (Nat.le_refl _) _⟩
  · have d8 : decide ((0 : Int) < page) = true := by rw [decide_eq_true_eq]; omega
    clear h5
    go_enter Tryz.func127, Tryz.ntmps127
    go_wp2_with fail
    refine (HK.out _).mono ?_
    rintro e w1 ⟨rfl, hw⟩
    subst w1
    go_wp2_with fail
    go_ret
    exact ⟨rfl, (Below.refl _ _).alloc (Nat.le_refl _) _⟩
end Go.Proofs.YtphkggcdfkcidaaGreat

/- The walks of undo records: May of the reference and of package undo. -/
namespace Go.Proofs.YtphkggcdfkcidaaGreat
open Go.RowKit

/-- An undo record's cells. -/
abbrev udCs (u : Sp.Ud) : List Value := [.int .u8 u.kind, .int .u64 u.tx, .int .u32 u.ppage, .int .u16 u.pslot, str u.key, str u.was.key, .bool u.was.mark, .int .u64 u.was.tx, .int .u32 u.was.page, .int .u16 u.was.slot, str u.was.value, .int .i64 u.was.pad]
abbrev udV (u : Sp.Ud) : Value := .agg #[.int .u8 u.kind, .int .u64 u.tx, .int .u32 u.ppage, .int .u16 u.pslot, str u.key, str u.was.key, .bool u.was.mark, .int .u64 u.was.tx, .int .u32 u.was.page, .int .u16 u.was.slot, str u.was.value, .int .i64 u.was.pad]

set_option maxRecDepth 100000 in
set_option maxHeartbeats 2000000 in
theorem ref21_may (u : Sp.Ud) (h : u.may) (w : World) : Calls Tryz.prog 26 #[udV u] w fun e w' => e = .returned (.bool true) ∧ Below w.heap.size w w' := by
  obtain ⟨kind, tx, pp, ps, key, was⟩ := u
  obtain ⟨h1, h2, h3, h4, h5, h6⟩ := h
  dsimp only at h1 h2 h3 h4 h5 h6
  have d1 : decide ((tx : Int) = 0) = false := by rw [decide_eq_false_iff_not]; omega
  have d1' : ((tx : Int) == 0) = false := by simp; omega
  have d2 : decide ((1024 : Int) < pp) = false := by rw [decide_eq_false_iff_not]; omega
  have d3 : decide ((key.length : Int) < 1) = false := by rw [decide_eq_false_iff_not]; omega
  have d4 : decide ((48 : Int) < key.length) = false := by rw [decide_eq_false_iff_not]; omega
  rcases h6 with ⟨rfl, hw⟩ | ⟨rfl, hk, hm⟩
  · subst hw
    unfold Sp.Rw.zero
    by_cases hp : pp = 0
    · have hs := h3 hp; subst hp hs; clear h3
      go_enter Tryz.func26, Tryz.ntmps26
      go_wp2_with fail
      go_ret
      exact ⟨rfl, (Below.refl _ _).alloc (Nat.le_refl _) _⟩
    · have d8 : decide ((pp : Int) = 0) = false := by rw [decide_eq_false_iff_not]; omega
      have d9 : ((pp : Int) == 0) = false := by simp; omega
      clear h3
      go_enter Tryz.func26, Tryz.ntmps26
      go_wp2_with fail
      go_ret
      exact ⟨rfl, (Below.refl _ _).alloc (Nat.le_refl _) _⟩
  · obtain ⟨wk, wm, wt, wp, wsl, wv, wpad⟩ := was
    dsimp only at hk
    subst hk
    have HM := Lib.hid fun (W : World) => ref07_may ⟨wk, wm, wt, wp, wsl, wv, wpad⟩ hm W
    clear hm
    by_cases hp : pp = 0
    · have hs := h3 hp; subst hp hs; clear h3
      go_enter Tryz.func26, Tryz.ntmps26
      go_wp2_with fail
      refine (HM.out _).mono ?_
      rintro e w1 ⟨rfl, hb1⟩
      go_wp2_with fail
      go_ret
      exact ⟨rfl, ((Below.refl w.heap.size w).alloc (Nat.le_refl _) _).trans (hb1.mono (by simp))⟩
    · have d8 : decide ((pp : Int) = 0) = false := by rw [decide_eq_false_iff_not]; omega
      have d9 : ((pp : Int) == 0) = false := by simp; omega
      clear h3
      go_enter Tryz.func26, Tryz.ntmps26
      go_wp2_with fail
      refine (HM.out _).mono ?_
      rintro e w1 ⟨rfl, hb1⟩
      go_wp2_with fail
      go_ret
      exact ⟨rfl, ((Below.refl w.heap.size w).alloc (Nat.le_refl _) _).trans (hb1.mono (by simp))⟩

set_option maxRecDepth 100000 in
set_option maxHeartbeats 2000000 in
theorem undo_may (u : Sp.Ud) (h : u.may) (w : World) : Calls Tryz.prog 101 #[udV u] w fun e w' => e = .returned (.bool true) ∧ Below w.heap.size w w' := by
  obtain ⟨kind, tx, pp, ps, key, was⟩ := u
  obtain ⟨h1, h2, h3, h4, h5, h6⟩ := h
  dsimp only at h1 h2 h3 h4 h5 h6
  have d1 : decide ((tx : Int) = 0) = false := by rw [decide_eq_false_iff_not]; omega
  have d1' : ((tx : Int) == 0) = false := by simp; omega
  have d2 : decide ((1024 : Int) < pp) = false := by rw [decide_eq_false_iff_not]; omega
  have HK := Lib.hid fun (W : World) => key_may key h4 h5 W
  rcases h6 with ⟨rfl, hw⟩ | ⟨rfl, hk, hm⟩
  · subst hw
    unfold Sp.Rw.zero
    by_cases hp : pp = 0
    · have hs := h3 hp; subst hp hs; clear h3
      go_enter Tryz.func101, Tryz.ntmps101
      go_wp2_with fail
      refine (HK.out _).mono ?_
      rintro e w1 ⟨rfl, hw⟩; subst w1
      go_wp2_with fail
      go_ret
      exact ⟨rfl, (Below.refl _ _).alloc (Nat.le_refl _) _⟩
    · have d8 : decide ((pp : Int) = 0) = false := by rw [decide_eq_false_iff_not]; omega
      have d9 : ((pp : Int) == 0) = false := by simp; omega
      clear h3
      go_enter Tryz.func101, Tryz.ntmps101
      go_wp2_with fail
      refine (HK.out _).mono ?_
      rintro e w1 ⟨rfl, hw⟩; subst w1
      go_wp2_with fail
      go_ret
      exact ⟨rfl, (Below.refl _ _).alloc (Nat.le_refl _) _⟩
  · obtain ⟨wk, wm, wt, wp, wsl, wv, wpad⟩ := was
    dsimp only at hk
    subst hk
    have HM := Lib.hid fun (W : World) => row_may ⟨wk, wm, wt, wp, wsl, wv, wpad⟩ hm W
    clear hm
    by_cases hp : pp = 0
    · have hs := h3 hp; subst hp hs; clear h3
      go_enter Tryz.func101, Tryz.ntmps101
      go_wp2_with fail
      refine (HK.out _).mono ?_
      rintro e w1 ⟨rfl, hw⟩; subst w1
      go_wp2_with fail
      refine (HM.out _).mono ?_
      rintro e w1 ⟨rfl, hb1⟩
      go_wp2_with fail
      go_ret
      exact ⟨rfl, ((Below.refl w.heap.size w).alloc (Nat.le_refl _) _).trans (hb1.mono (by simp))⟩
    · have d8 : decide ((pp : Int) = 0) = false := by rw [decide_eq_false_iff_not]; omega
      have d9 : ((pp : Int) == 0) = false := by simp; omega
      clear h3
      go_enter Tryz.func101, Tryz.ntmps101
      go_wp2_with fail
      refine (HK.out _).mono ?_
      rintro e w1 ⟨rfl, hw⟩; subst w1
      go_wp2_with fail
      refine (HM.out _).mono ?_
      rintro e w1 ⟨rfl, hb1⟩
      go_wp2_with fail
      go_ret
      exact ⟨rfl, ((Below.refl w.heap.size w).alloc (Nat.le_refl _) _).trans (hb1.mono (by simp))⟩
end Go.Proofs.YtphkggcdfkcidaaGreat

/- What the story of layer 26's laws has in memory while it is told: its rows, and the pages with their rows. No program is walked here. -/
namespace Go.Proofs.YtphkggcdfkcidaaGreat
open Go.RowKit

theorem partRow_get (old : Array Value) (o : Nat) (cs : List Value) (h : o + cs.length ≤ old.size) (i : Nat) : (partRow old o cs)[i]? = if i < o then old[i]? else if i < o + cs.length then cs[i - o]? else old[i]? := by
  unfold partRow
  rw [List.getElem?_toArray]
  have hl : (old.toList.take o).length = o := by rw [List.length_take]; simp; omega
  by_cases h1 : i < o
  · rw [if_pos h1, List.append_assoc, List.getElem?_append_left (by omega), List.getElem?_take, if_pos h1]; simp
  · rw [if_neg h1, List.append_assoc, List.getElem?_append_right (by omega), hl]
    by_cases h2 : i < o + cs.length
    · rw [if_pos h2, List.getElem?_append_left (by omega)]
    · rw [if_neg h2, List.getElem?_append_right (by omega), List.getElem?_drop]
      rw [show o + cs.length + (i - o - cs.length) = i by omega]; simp
theorem partRow_size (old : Array Value) (o : Nat) (cs : List Value) (h : o + cs.length ≤ old.size) : (partRow old o cs).size = old.size := by
  unfold partRow
  simp; omega

theorem flat_length {α : Type} (f : Nat → List α) (k : Nat) (hf : ∀ i, (f i).length = k) : ∀ m, ((List.range m).flatMap f).length = m * k
  | 0 => by simp
  | m + 1 => by rw [List.range_succ, List.flatMap_append, List.length_append, flat_length f k hf m]; simp [hf, Nat.succ_mul]
theorem flat_get {α : Type} (f : Nat → List α) (k : Nat) (hf : ∀ i, (f i).length = k) : ∀ m i j, i < m → j < k → ((List.range m).flatMap f)[i * k + j]? = (f i)[j]?
  | 0, i, j, h, _ => absurd h (by omega)
  | m + 1, i, j, h, hj => by
    rw [List.range_succ, List.flatMap_append]
    have hl := flat_length f k hf m
    by_cases hi : i < m
    · have : i * k + j < m * k := by
        have h1 : (i + 1) * k ≤ m * k := Nat.mul_le_mul_right k hi
        rw [Nat.succ_mul] at h1; omega
      rw [List.getElem?_append_left (by omega)]
      exact flat_get f k hf m i j hi hj
    · obtain rfl : i = m := by omega
      rw [List.getElem?_append_right (by omega), hl, Nat.add_sub_cancel_left]
      simp

/-- The rows' cells. -/
def stC (f : Nat → Sp.Rw) (m : Nat) : List Value := (List.range m).flatMap fun i => rwCs (f i)
theorem stC_succ (f : Nat → Sp.Rw) (m : Nat) : stC f (m + 1) = stC f m ++ rwCs (f m) := by simp [stC, List.range_succ]
theorem stC_length (f : Nat → Sp.Rw) (m : Nat) : (stC f m).length = m * 7 := flat_length _ 7 (fun _ => rfl) m
theorem stC_get (f : Nat → Sp.Rw) {m i j : Nat} (hi : i < m) (hj : j < 7) : (stC f m)[i * 7 + j]? = (rwCs (f i))[j]? := flat_get _ 7 (fun _ => rfl) m i j hi hj

/-- The rows (owned, n of them), the six pages (block bp; pc: their cells), and their rows' slices (A, c; what they hold: R). -/
structure Gen (base : Nat) (vr : Value) (n : Nat) (xs : List Value) (bp : Nat) (pc : Nat → List Value) (A : Nat → Option Addr) (c : Nat → Nat) (R : Nat → List Sp.Bs) (wr : World) : Prop where
  rows : wr.ownsRow base 37 7 vr n xs
  pages : ∃ cur, Blk wr bp 53 cur ∧ 36 ≤ cur.size ∧ ∀ q, q < 6 → ∀ j, j < 6 → cur[q * 6 + j]? = (pc q)[j]?
  bpl : base ≤ bp
  own : ∀ q, q < 6 → wr.ownsRow base 9 1 (.slice (A q) (R q).length (c q)) (R q).length (rcs (R q))
  sep : ∀ q q', q < 6 → q' < 6 → q ≠ q' → ∀ g, (Value.slice (A q) (R q).length (c q)).ownBlock = some g → (Value.slice (A q') (R q').length (c q')).ownBlock ≠ some g
  size : base ≤ wr.heap.size

section
variable {base : Nat} {vr : Value} {n : Nat} {xs : List Value} {bp : Nat} {pc : Nat → List Value} {A : Nat → Option Addr} {c : Nat → Nat} {R : Nat → List Sp.Bs} {w w' : World}

theorem Gen.keep (h : Gen base vr n xs bp pc A c R w) (hs : w.heap.size ≤ w'.heap.size) (hk : ∀ b, b < w.heap.size → w'.heap[b]? = w.heap[b]?) : Gen base vr n xs bp pc A c R w' := by
  obtain ⟨cur, hb, hc⟩ := h.pages
  exact ⟨row_keep' h.rows (fun b hb => hk b (h.rows.lt b hb).2), ⟨cur, hb.keep (hk bp hb.lt), hc⟩, h.bpl, fun q hq => row_keep' (h.own q hq) (fun b hb => hk b ((h.own q hq).lt b hb).2), h.sep, Nat.le_trans h.size hs⟩
theorem Gen.below (h : Gen base vr n xs bp pc A c R w) (hb : Below w.heap.size w w') : Gen base vr n xs bp pc A c R w' := h.keep hb.size hb.block
/-- A block that is none of theirs is turned. -/
theorem Gen.far (h : Gen base vr n xs bp pc A c R w) {g : Nat} (hs : w.heap.size ≤ w'.heap.size) (hk : ∀ b, b ≠ g → w'.heap[b]? = w.heap[b]?) (h1 : vr.ownBlock ≠ some g) (h2 : bp ≠ g) (h3 : ∀ q, q < 6 → (Value.slice (A q) (R q).length (c q)).ownBlock ≠ some g) : Gen base vr n xs bp pc A c R w' := by
  obtain ⟨cur, hb, hc⟩ := h.pages
  exact ⟨row_keep' h.rows (fun b hb => hk b (fun e => h1 (e ▸ hb))), ⟨cur, hb.keep (hk bp h2), hc⟩, h.bpl, fun q hq => row_keep' (h.own q hq) (fun b hb => hk b (fun e => h3 q hq (e ▸ hb))), h.sep, Nat.le_trans h.size hs⟩
/-- A block of another type is turned. -/
theorem Gen.farT (h : Gen base vr n xs bp pc A c R w) {g : Nat} {t : TypeId} {cs : Array Value} (hg : Blk w g t cs) (t1 : t ≠ 37) (t2 : t ≠ 53) (t3 : t ≠ 9) (hs : w.heap.size ≤ w'.heap.size) (hk : ∀ b, b ≠ g → w'.heap[b]? = w.heap[b]?) : Gen base vr n xs bp pc A c R w' := by
  have key : ∀ (b : Nat) (t' : TypeId) (cs' : Array Value), w.heap[b]? = some (.cells cs' t' (0, 0)) → t ≠ t' → b ≠ g := fun b t' cs' hb hne e => by
    subst e
    unfold Blk at hg
    rw [hb] at hg; injection hg with h5; injection h5 with _ h5; exact hne h5.symm
  obtain ⟨cur, hb, _⟩ := h.pages
  refine h.far hs hk (fun e => ?_) (key bp _ _ hb t2) (fun q hq e => ?_)
  · obtain ⟨cs', h5⟩ := ownsRow_heap h.rows e
    exact key g _ _ h5 t1 rfl
  · obtain ⟨cs', h5⟩ := ownsRow_heap (h.own q hq) e
    exact key g _ _ h5 t3 rfl
/-- A page's rows are longer by one. -/
theorem Gen.app (h : Gen base vr n xs bp pc A c R w) {q : Nat} (hq : q < 6) {x : Sp.Bs} {g c' : Nat} (h1 : w'.ownsRow base 9 1 (.slice (some ⟨g, 0, none⟩) ((R q).length + 1) c') ((R q).length + 1) (rcs (R q) ++ [str x]))
    (h2 : w.grownBy w' (Value.slice (A q) (R q).length (c q)).ownBlock) (h3 : ∀ k, (Value.slice (some ⟨g, 0, none⟩) ((R q).length + 1) c').ownBlock = some k → (Value.slice (A q) (R q).length (c q)).ownBlock = some k ∨ w.heap.size ≤ k) :
    Gen base vr n xs bp pc (fun i => if i = q then some ⟨g, 0, none⟩ else A i) (fun i => if i = q then c' else c i) (fun i => if i = q then R q ++ [x] else R i) w' := by
  obtain ⟨cur, hb, hc⟩ := h.pages
  have ne1 : ∀ b, (Value.slice (A q) (R q).length (c q)).ownBlock = some b → ∃ cs, w.heap[b]? = some (.cells cs 9 (0, 0)) := fun b hb => ownsRow_heap (h.own q hq) hb
  have hlen : (R q ++ [x]).length = (R q).length + 1 := by simp
  refine ⟨row_keep' h.rows (fun b hb => ?_), ⟨cur, hb.keep ?_, hc⟩, h.bpl, fun i hi => ?_, fun i i' hi hi' hne k hk hk' => ?_, Nat.le_trans h.size h2.size⟩
  · refine h2.block b (h.rows.lt b hb).2 (fun e => ?_)
    obtain ⟨cs, h4⟩ := ne1 b e.symm
    obtain ⟨cs', h5⟩ := ownsRow_heap h.rows hb
    rw [h4] at h5; injection h5 with h5; injection h5 with _ h5; exact absurd h5 (by decide)
  · refine h2.block bp hb.lt (fun e => ?_)
    obtain ⟨cs, h4⟩ := ne1 bp e.symm
    unfold Blk at hb
    rw [h4] at hb; injection hb with h5; injection h5 with _ h5; exact absurd h5 (by decide)
  · by_cases e : i = q
    · subst e
      simp only [if_true, hlen]
      have : rcs (R i ++ [x]) = rcs (R i) ++ [str x] := by simp [rcs]
      rw [this]; exact h1
    · simp only [if_neg e]
      exact row_keep' (h.own i hi) (fun b hb => h2.block b ((h.own i hi).lt b hb).2 (fun e' => h.sep i q hi hq e b hb e'.symm))
  · by_cases e : i = q
    · subst e
      have e' : ¬ i' = i := fun e => hne e.symm
      simp only [if_true, if_neg e', hlen] at hk hk'
      rcases h3 k hk with h4 | h4
      · exact h.sep i i' hi hi' hne k h4 hk'
      · have := ((h.own i' hi').lt k hk').2; omega
    · by_cases e' : i' = q
      · subst e'
        simp only [if_true, if_neg e, hlen] at hk hk'
        rcases h3 k hk' with h4 | h4
        · exact h.sep i i' hi hi' hne k hk h4
        · have := ((h.own i hi).lt k hk).2; omega
      · simp only [if_neg e, if_neg e'] at hk hk'
        exact h.sep i i' hi hi' hne k hk hk'
/-- A page is stored. -/
theorem Gen.setp (h : Gen base vr n xs bp pc A c R w) {q : Nat} (hq : q < 6) {cs : List Value} (hl : cs.length = 6) :
    ∃ cur, Blk w bp 53 cur ∧ q * 6 + 6 ≤ cur.size ∧ Gen base vr n xs bp (fun i => if i = q then cs else pc i) A c R (w.setRow bp (partRow cur (q * 6) cs)) := by
  obtain ⟨cur, hb, h36, hc⟩ := h.pages
  have hfit : q * 6 + cs.length ≤ cur.size := by omega
  have ne1 : ∀ (b : Nat) (t : TypeId) (cs' : Array Value), w.heap[b]? = some (.cells cs' t (0, 0)) → t ≠ 53 → (w.setRow bp (partRow cur (q * 6) cs)).heap[b]? = w.heap[b]? := fun b t cs' hb' hne => heap_setRow_other _ _ _ _ (fun e => by
    subst e
    unfold Blk at hb
    rw [hb'] at hb; injection hb with h5; injection h5 with _ h5; exact hne h5)
  refine ⟨cur, hb, by omega, row_keep' h.rows (fun b hb => ?_), ⟨_, hb.setRow _, by rw [partRow_size _ _ _ hfit]; exact h36, fun i hi j hj => ?_⟩, h.bpl, fun i hi => row_keep' (h.own i hi) (fun b hb => ?_), h.sep, by simpa using h.size⟩
  · obtain ⟨cs', h5⟩ := ownsRow_heap h.rows hb
    exact ne1 b _ cs' h5 (by decide)
  · rw [partRow_get _ _ _ hfit]
    by_cases e : i = q
    · subst e
      rw [if_neg (by omega), if_pos (by omega)]
      simp
    · simp only [if_neg e]
      rw [← hc i hi j hj]
      by_cases h1 : i < q
      · rw [if_pos (by omega)]
      · rw [if_neg (by omega), if_neg (by omega)]
  · obtain ⟨cs', h5⟩ := ownsRow_heap (h.own i hi) hb
    exact ne1 b _ cs' h5 (by decide)
/-- The rows are more by one. -/
theorem Gen.row (h : Gen base vr n xs bp pc A c R w) {vr' : Value} {n' : Nat} {xs' : List Value} (h1 : w'.ownsRow base 37 7 vr' n' xs') (h2 : w.grownBy w' vr.ownBlock) : Gen base vr' n' xs' bp pc A c R w' := by
  obtain ⟨cur, hb, hc⟩ := h.pages
  have ne1 : ∀ (b : Nat) (t : TypeId) (cs' : Array Value), w.heap[b]? = some (.cells cs' t (0, 0)) → t ≠ 37 → w'.heap[b]? = w.heap[b]? := fun b t cs' hb' hne => h2.block b (Array.getElem?_eq_some_iff.1 hb').1 (fun e => by
    obtain ⟨cs'', h5⟩ := ownsRow_heap h.rows e.symm
    rw [hb'] at h5; injection h5 with h5; injection h5 with _ h5; exact hne h5)
  refine ⟨h1, ⟨cur, hb.keep (ne1 bp _ _ hb (by decide)), hc⟩, h.bpl, fun i hi => row_keep' (h.own i hi) (fun b hb => ?_), h.sep, Nat.le_trans h.size h2.size⟩
  obtain ⟨cs', h5⟩ := ownsRow_heap (h.own i hi) hb
  exact ne1 b _ cs' h5 (by decide)
end
end Go.Proofs.YtphkggcdfkcidaaGreat
