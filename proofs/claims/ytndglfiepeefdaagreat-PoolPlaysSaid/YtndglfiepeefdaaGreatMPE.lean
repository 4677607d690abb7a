/- Fresh of a pool: the cases that are refused. -/
import Derived.Test.YtndglfiepeefdaaGreatMPA
import Derived.Test.YtndglfiepeefdaaGreatMPD
import Derived.Test.YtndglfiepeefdaaGreatMPB
import Derived.Test.YtndglfiepeefdaaGreatMPC
import Derived.RangeFuncGives
import Derived.RangeFuncSeq
import Derived.Sort.MapsRangeIn
import Derived.Maps.AppendAt
import Derived.WalkKit
import Derived.OwnWalkIn
import Derived.TacticsInMore
import Derived.RegionIn
import Derived.LoopNIn
import Derived.LoopIn
import Derived.Shelf.SlIter.Collect

namespace Go.Proofs.YtndglfiepeefdaaGreat
open Go.RowKit Go.Conc

section
variable {F R G : Foot} {w : World} {gp gd gl at_ base fb cb mb s r : Nat} {v : Value} {cs : Array Value} {fl ids : List Nat} {p : Sp.Pl} {x : Sp.Pg} {A : Option Addr} {c : Nat}
set_option maxRecDepth 100000 in
set_option maxHeartbeats 2000000 in
theorem pool_fresh_arg (h : IsPlAt F R w gp gd gl at_ base fb cb mb v s r cs fl ids p) (hR : RowsAt G w A x.rows) (hn : x.rows.length ≤ 1000000000) (ht : Sp.total x.rows ≤ 1000000000000000000) (hm : mayB x = false) :
    Calls Tryz.prog 41 #[ptr gp, pgV x A c] w fun e w' => e = .returned (.int .i64 2) ∧ Below w.heap.size w w' := by
  have hba := (Below.refl w.heap.size w).alloc (Nat.le_refl _) (.cells (pgCs x A c) 32)
  have h1 := h.keep hba.size (fun b hb => hba.block b (h.lt b hb))
  have hB1 := Blk.new w 32 (pgCs x A c)
  have hR1 := Reads.below hR hba
  have HM := Lib.hid (pool_made (w := w.alloc (.cells (pgCs x A c) 32)) h1.cells.2.2.2.2.2.2.1)
  have HMA := Lib.hid (page_mayT (w := w.alloc (.cells (pgCs x A c) 32)) (c := c) hR1 hn ht)
  rw [hm] at HMA
  clear h hR
  go_enter Tryz.func41, Tryz.ntmps41
  go_wp2_with fail
  obtain ⟨w1, hw1⟩ : ∃ w1, w1 = w.alloc (.cells (pgCs x A c) 32) := ⟨_, rfl⟩
  rw [← hw1] at h1 hB1 hR1 HM HMA hba ⊢
  obtain ⟨g3, hg3⟩ : ∃ g, g = w.heap.size := ⟨_, rfl⟩
  rw [← hg3] at hB1 ⊢
  clear hw1 hg3
  have z0 := hB1.cell 0
  have z1 := hB1.cell 1
  have z2 := hB1.cell 2
  have z3 := hB1.cell 3
  have z4 := hB1.cell 4
  have z5 := hB1.cell 5
  simp only [zGA, zGB, zGC] at z0 z1 z2 z3 z4 z5
  refine HM.out.mono ?_
  rintro e w2 ⟨rfl, hw⟩
  subst w2
  go_wp2_with fail
  refine HMA.out.mono ?_
  rintro e w2 ⟨rfl, hb2⟩
  have hb02 := hba.trans (hb2.mono hba.size)
  clear z0 z1 z2 z3 z4 z5 h1 hB1 hR1 HM HMA
  go_wp2_with fail
  go_ret
  exact ⟨rfl, hb02⟩

set_option maxRecDepth 100000 in
set_option maxHeartbeats 2000000 in
theorem pool_fresh_have (h : IsPlAt F R w gp gd gl at_ base fb cb mb v s r cs fl ids p) (hR : RowsAt G w A x.rows) (hn : x.rows.length ≤ 1000000000) (ht : Sp.total x.rows ≤ 1000000000000000000) (hid : x.id < 4294967296) (hm : mayB x = true) {it : Sp.It} (hf : p.find x.id = some it) :
    Calls Tryz.prog 41 #[ptr gp, pgV x A c] w fun e w' => e = .returned (.int .i64 8) ∧ Below w.heap.size w w' := by
  have hba := (Below.refl w.heap.size w).alloc (Nat.le_refl _) (.cells (pgCs x A c) 32)
  have h1 := h.keep hba.size (fun b hb => hba.block b (h.lt b hb))
  have hB1 := Blk.new w 32 (pgCs x A c)
  have hR1 := Reads.below hR hba
  have HM := Lib.hid (pool_made (w := w.alloc (.cells (pgCs x A c) 32)) h1.cells.2.2.2.2.2.2.1)
  have HMA := Lib.hid (page_mayT (w := w.alloc (.cells (pgCs x A c) 32)) (c := c) hR1 hn ht)
  rw [hm] at HMA
  clear h hR
  go_enter Tryz.func41, Tryz.ntmps41
  go_wp2_with fail
  obtain ⟨w1, hw1⟩ : ∃ w1, w1 = w.alloc (.cells (pgCs x A c) 32) := ⟨_, rfl⟩
  rw [← hw1] at h1 hB1 hR1 HM HMA hba ⊢
  obtain ⟨g3, hg3⟩ : ∃ g, g = w.heap.size := ⟨_, rfl⟩
  rw [← hg3] at hB1 ⊢
  clear hw1 hg3
  have z0 := hB1.cell 0
  have z1 := hB1.cell 1
  have z2 := hB1.cell 2
  have z3 := hB1.cell 3
  have z4 := hB1.cell 4
  have z5 := hB1.cell 5
  simp only [zGA, zGB, zGC] at z0 z1 z2 z3 z4 z5
  refine HM.out.mono ?_
  rintro e w2 ⟨rfl, hw⟩
  subst w2
  go_wp2_with fail
  refine HMA.out.mono ?_
  rintro e w2 ⟨rfl, hb2⟩
  have hb02 := hba.trans (hb2.mono hba.size)
  have h2 := h1.keep hb2.size (fun b hb => hb2.block b (h1.lt b hb))
  have hB2 := hB1.below hb2 hB1.lt
  have c6 := h2.cells.2.2.2.2.2.2.1
  have z2 := hB2.cell 2
  simp only [zGA, zGB, zGC] at z2
  have HH2 := Lib.hid h2
  have hS := Lib.hid (show w2.drew.cell? ⟨gp, 6, none⟩ = some (.map (some mb)) ∧ w2.drew.cell? ⟨g3, 2, none⟩ = some (u32v x.id) ∧ (Instr.lookup 106 (.map (some mb)) (u32v x.id) true).run Tryz.prog w2.drew = .ok (.tuple #[.int .i64 it.idx, .bool true]) w2.drew from
    ⟨c6, z2, (HH2.out.keep (w' := w2.drew) (Nat.le_refl _) (fun _ _ => rfl)).look_in hid hf⟩)
  clear z0 z1 z3 z4 z5 h1 hB1 hR1 HM HMA h2 c6 z2
  go_wp2_with fail
  refine R_begin (fun W => W.cell? ⟨gp, 6, none⟩ = some (.map (some mb)) ∧ W.cell? ⟨g3, 2, none⟩ = some (u32v x.id) ∧ (Instr.lookup 106 (.map (some mb)) (u32v x.id) true).run Tryz.prog W = .ok (.tuple #[.int .i64 it.idx, .bool true]) W) (fun _ => false) rfl ?_
  refine R_tk 0 18 hS.out ?_
  simp only [zSA, zSB, zSC]
  refine R_tk 1 19 hS.out ?_
  simp only [zSA, zSB, zSC]
  refine R_tk 2 20 hS.out ?_
  simp only [zSA, zSB, zSC]
  refine R_tk 3 21 hS.out ?_
  simp only [zSA, zSB, zSC]
  refine R_tk 4 22 hS.out ?_
  simp only [zSA, zSB, zSC]
  refine R_tk 5 23 hS.out ?_
  simp only [zSA, zSB, zSC]
  refine R_tk 6 24 hS.out ?_
  simp only [zSA, zSB, zSC]
  refine R_tk 7 17 hS.out ?_
  simp only [zSA, zSB, zSC]
  refine R_tk 8 25 hS.out ?_
  simp only [zSA, zSB, zSC]
  refine R_tk 9 26 hS.out ?_
  simp only [zSA, zSB, zSC]
  refine R_tk 10 5 hS.out ?_
  simp only [zSA, zSB, zSC]
  refine R_tk 11 6 hS.out ?_
  simp only [zSA, zSB, zSC]
  refine R_done (by kernel_rfl) ?_ _
  rename_i K9 hK9
  refine hK9 _ _ ?_
  clear hK9 hS
  go_wp2_with fail
  go_ret
  exact ⟨rfl, ⟨hb02.os, hb02.tape, hb02.output, hb02.size, hb02.block⟩⟩

set_option maxRecDepth 100000 in
set_option maxHeartbeats 2000000 in
theorem pool_fresh_far (h : IsPlAt F R w gp gd gl at_ base fb cb mb v s r cs fl ids p) (hR : RowsAt G w A x.rows) (hn : x.rows.length ≤ 1000000000) (ht : Sp.total x.rows ≤ 1000000000000000000) (hid : x.id < 4294967296) (hm : mayB x = true) (hf : p.find x.id = none)
    (hfar : ∀ W, Below w.heap.size w W → Calls Tryz.prog 49 #[ptr gd, .int .i64 base, u32v x.id] W fun e w' => e = .returned (.tuple #[str [], .int .i64 2]) ∧ Below W.heap.size W w') :
    Calls Tryz.prog 41 #[ptr gp, pgV x A c] w fun e w' => e = .returned (.int .i64 2) ∧ Below w.heap.size w w' := by
  have HFAR := Lib.hid hfar
  have hba := (Below.refl w.heap.size w).alloc (Nat.le_refl _) (.cells (pgCs x A c) 32)
  have h1 := h.keep hba.size (fun b hb => hba.block b (h.lt b hb))
  have hB1 := Blk.new w 32 (pgCs x A c)
  have hR1 := Reads.below hR hba
  have HM := Lib.hid (pool_made (w := w.alloc (.cells (pgCs x A c) 32)) h1.cells.2.2.2.2.2.2.1)
  have HMA := Lib.hid (page_mayT (w := w.alloc (.cells (pgCs x A c) 32)) (c := c) hR1 hn ht)
  rw [hm] at HMA
  clear h hR
  go_enter Tryz.func41, Tryz.ntmps41
  go_wp2_with fail
  obtain ⟨w1, hw1⟩ : ∃ w1, w1 = w.alloc (.cells (pgCs x A c) 32) := ⟨_, rfl⟩
  rw [← hw1] at h1 hB1 hR1 HM HMA hba ⊢
  obtain ⟨g3, hg3⟩ : ∃ g, g = w.heap.size := ⟨_, rfl⟩
  rw [← hg3] at hB1 ⊢
  clear hw1 hg3
  have z0 := hB1.cell 0
  have z1 := hB1.cell 1
  have z2 := hB1.cell 2
  have z3 := hB1.cell 3
  have z4 := hB1.cell 4
  have z5 := hB1.cell 5
  simp only [zGA, zGB, zGC] at z0 z1 z2 z3 z4 z5
  refine HM.out.mono ?_
  rintro e w2 ⟨rfl, hw⟩
  subst w2
  go_wp2_with fail
  refine HMA.out.mono ?_
  rintro e w2 ⟨rfl, hb2⟩
  have hb02 := hba.trans (hb2.mono hba.size)
  have h2 := h1.keep hb2.size (fun b hb => hb2.block b (h1.lt b hb))
  have hB2 := hB1.below hb2 hB1.lt
  have c6 := h2.cells.2.2.2.2.2.2.1
  have z2 := hB2.cell 2
  simp only [zGA, zGB, zGC] at z2
  have HH2 := Lib.hid h2
  have hS := Lib.hid (show w2.drew.cell? ⟨gp, 6, none⟩ = some (.map (some mb)) ∧ w2.drew.cell? ⟨g3, 2, none⟩ = some (u32v x.id) ∧ (Instr.lookup 106 (.map (some mb)) (u32v x.id) true).run Tryz.prog w2.drew = .ok (.tuple #[.int .i64 0, .bool false]) w2.drew from
    ⟨c6, z2, (HH2.out.keep (w' := w2.drew) (Nat.le_refl _) (fun _ _ => rfl)).look_out hid hf⟩)
  clear z0 z1 z3 z4 z5 h1 hB1 hR1 HM HMA h2 c6 z2
  go_wp2_with fail
  refine R_begin (fun W => W.cell? ⟨gp, 6, none⟩ = some (.map (some mb)) ∧ W.cell? ⟨g3, 2, none⟩ = some (u32v x.id) ∧ (Instr.lookup 106 (.map (some mb)) (u32v x.id) true).run Tryz.prog W = .ok (.tuple #[.int .i64 0, .bool false]) W) (fun _ => false) rfl ?_
  refine R_tk 0 18 hS.out ?_
  simp only [zSA, zSB, zSC]
  refine R_tk 1 19 hS.out ?_
  simp only [zSA, zSB, zSC]
  refine R_tk 2 20 hS.out ?_
  simp only [zSA, zSB, zSC]
  refine R_tk 3 21 hS.out ?_
  simp only [zSA, zSB, zSC]
  refine R_tk 4 22 hS.out ?_
  simp only [zSA, zSB, zSC]
  refine R_tk 5 23 hS.out ?_
  simp only [zSA, zSB, zSC]
  refine R_tk 6 24 hS.out ?_
  simp only [zSA, zSB, zSC]
  refine R_tk 7 17 hS.out ?_
  simp only [zSA, zSB, zSC]
  refine R_tk 8 25 hS.out ?_
  simp only [zSA, zSB, zSC]
  refine R_tk 9 26 hS.out ?_
  simp only [zSA, zSB, zSC]
  refine R_tk 10 5 hS.out ?_
  simp only [zSA, zSB, zSC]
  refine R_tk 11 6 hS.out ?_
  simp only [zSA, zSB, zSC]
  refine R_done (by kernel_rfl) ?_ _
  rename_i K9 hK9
  refine hK9 _ _ ?_
  clear hK9 hS
  have h3 := HH2.out.keep (w' := w2.drew) (Nat.le_refl _) (fun _ _ => rfl)
  have hB3 := hB2.drew
  have hb03 : Below w.heap.size w w2.drew := ⟨hb02.os, hb02.tape, hb02.output, hb02.size, hb02.block⟩
  obtain ⟨w3, hw3⟩ : ∃ w3, w3 = w2.drew := ⟨_, rfl⟩
  rw [← hw3] at h3 hB3 hb03 ⊢
  clear hw3 hb02 hB2 HH2 hb2 hba
  go_wp2_with fail
  obtain ⟨c0, c1, c2, c3, c4, c5, c6, c7⟩ := h3.cells
  have z2 := hB3.cell 2
  simp only [zGA, zGB, zGC] at z2
  have hS := Lib.hid (show w3.drew.cell? ⟨gp, 0, none⟩ = some (ptr gd) ∧ w3.drew.cell? ⟨gp, 3, none⟩ = some (.int .i64 base) ∧ w3.drew.cell? ⟨g3, 2, none⟩ = some (u32v x.id) from ⟨c0, c3, z2⟩)
  have HTR := Lib.hid (HFAR.out w3.drew (hb03.trans ((Below.refl w3.heap.size w3).drew.mono hb03.size)))
  clear c0 c1 c2 c3 c4 c5 c6 c7 z2
  refine R_begin (fun W => W.cell? ⟨gp, 0, none⟩ = some (ptr gd) ∧ W.cell? ⟨gp, 3, none⟩ = some (.int .i64 base) ∧ W.cell? ⟨g3, 2, none⟩ = some (u32v x.id)) (fun _ => false) rfl ?_
  refine R_tk 0 29 hS.out ?_
  simp only [zSA, zSB, zSC]
  refine R_tk 1 30 hS.out ?_
  simp only [zSA, zSB, zSC]
  refine R_tk 2 31 hS.out ?_
  simp only [zSA, zSB, zSC]
  refine R_tk 3 32 hS.out ?_
  simp only [zSA, zSB, zSC]
  refine R_tk 4 33 hS.out ?_
  simp only [zSA, zSB, zSC]
  refine R_tk 5 34 hS.out ?_
  simp only [zSA, zSB, zSC]
  refine R_tk 6 35 hS.out ?_
  simp only [zSA, zSB, zSC]
  refine R_tk 7 36 hS.out ?_
  simp only [zSA, zSB, zSC]
  refine R_tk 8 37 hS.out ?_
  simp only [zSA, zSB, zSC]
  refine R_tk 9 38 hS.out ?_
  simp only [zSA, zSB, zSC]
  refine R_call 10 39 (w' := w3.drew) rfl rfl (by rfl) (by kernel_rfl) ?_ HTR.out ?_
  · go_simp
  rintro e w4 ⟨rfl, hb4⟩
  have hbd : Below w3.heap.size w3 w4 := (Below.refl w3.heap.size w3).drew.trans hb4
  have h4 := h3.keep hbd.size (fun b hb => hbd.block b (h3.lt b hb))
  have hB4 := hB3.below hbd hB3.lt
  have hb04 : Below w.heap.size w w4 := hb03.trans (hbd.mono hb03.size)
  have hS3 : w4.cell? ⟨gp, 0, none⟩ = some (ptr gd) ∧ w4.cell? ⟨gp, 3, none⟩ = some (.int .i64 base) ∧ w4.cell? ⟨g3, 2, none⟩ = some (u32v x.id) := ⟨h4.cells.1, h4.cells.2.2.2.1, hB4.cell 2⟩
  clear hS HTR
  have hS := Lib.hid hS3
  refine ⟨_, rfl, fun _ => hS3, ?_⟩
  clear hS3
  simp only [zSA, zSB, zSC]
  refine R_tk 11 28 hS.out ?_
  simp only [zSA, zSB, zSC]
  refine R_tk 12 40 hS.out ?_
  simp only [zSA, zSB, zSC]
  refine R_tk 13 41 hS.out ?_
  simp only [zSA, zSB, zSC]
  refine R_tk 14 7 hS.out ?_
  simp only [zSA, zSB, zSC]
  refine R_tk 15 8 hS.out ?_
  simp only [zSA, zSB, zSC]
  refine R_done (by kernel_rfl) ?_ _
  rename_i K9 hK9
  refine hK9 _ _ ?_
  clear hK9 hS h3 hB3 hb03 hb4 hbd
  go_wp2_with fail
  go_ret
  exact ⟨rfl, hb04⟩
end
end Go.Proofs.YtndglfiepeefdaaGreat

/- Fresh of a pool with its disk and its log: what a law sees. -/
namespace Go.Proofs.YtndglfiepeefdaaGreat
open Go.RowKit Go.Conc

namespace Sp
def R15.fresh (s : R15) (x : Pg) (may : Bool) : Nat × R15 :=
  if may = false then (2, s)
  else if hasR s.L x.id = true then (8, s)
  else if s.top < x.id then (2, s)
  else
    let r := s.room
    if r.1 ≠ 0 then (r.1, r.2) else (0, { r.2 with L := r.2.L ++ [⟨x, 1, true, x.lsn⟩] })
theorem frs_ri {p : Pl} {x : Pg} {i : Nat} {rest : List Nat} (h : p.find x.id = none) : ((((p.bring x i rest).pinUp x.id).upd x.id (It.frs x)).items).map It.ri = p.items.map It.ri ++ [⟨x, 1, true, x.lsn⟩] := by
  have e := pinUp_bring (p := p) (x := x) (i := i) (rest := rest) h
  show (List.map _ ((p.bring x i rest).pinUp x.id).items).map It.ri = _
  rw [e, List.map_append, List.map_append]
  congr 1
  · rw [List.map_map]
    apply List.map_congr_left
    intro y hy
    have := Pl.find_none.1 h y hy
    simp only [Function.comp]
    rw [if_neg this]
  · simp [It.frs, It.ri]
end Sp

theorem pk_fresh {ly : Ly} {K G0 : Foot} {w : World} {gd gl gp : Nat} {l : Sp.Lg} {s : Sp.R15} (h : PkAt ly K w gd gl gp l s) {x : Sp.Pg} (hwf : x.wf) {A : Option Addr} {c : Nat} (hA : OkAddr A) (hR : RowsAt G0 w A x.rows) (hn : x.rows.length ≤ 1000000000) (ht : Sp.total x.rows ≤ 1000000000000000000) :
    Calls Tryz.prog 41 #[ptr gp, pgV x A c] w (CallPk ly K w gd gl gp l (s.fresh x (mayB x))) := by
  have HH := h
  obtain ⟨p, D, F, G, dk, hpl, hd, hg, hFD, hFG, hDG, hr, hK, hKl⟩ := h
  have hwp := hpl.wf
  have hhas : Sp.hasR s.L x.id = (p.find x.id).isSome := by rw [hr.L]; exact Sp.hasR_eq p x.id
  have hkept : ∀ {w' : World} {X : Foot}, Turns (allF F D G) X w w' → Kept K w w' := fun ht => Kept.of_turns ht (fun b hk => ⟨hKl b hk, fun hF => hK b hF hk⟩)
  obtain ⟨R, fb, cb, mb, v, s0, r, cs, hat⟩ := hpl
  cases hm : mayB x with
  | false =>
    have e : s.fresh x false = (2, s) := by unfold Sp.R15.fresh; rw [if_pos rfl]
    rw [e]
    refine (pool_fresh_arg hat hR hn ht hm).mono ?_
    rintro e' w' ⟨rfl, hb⟩
    exact pk_same HH hb 2
  | true =>
    have hmay := (mayB_iff x).1 hm
    cases hf : p.find x.id with
    | some it =>
      have e : s.fresh x true = (8, s) := by
        unfold Sp.R15.fresh
        rw [if_neg (by decide), if_pos (by rw [hhas, hf]; rfl)]
      rw [e]
      refine (pool_fresh_have hat hR hn ht hwf.2.2.1 hm hf).mono ?_
      rintro e' w' ⟨rfl, hb⟩
      exact pk_same HH hb 8
    | none =>
      have hno : ¬ Sp.hasR s.L x.id = true := by rw [hhas, hf]; decide
      by_cases hkt : ly.top < x.id
      · have e : s.fresh x true = (2, s) := by
          unfold Sp.R15.fresh
          rw [if_neg (by decide), if_neg hno, if_pos (by rw [hr.top]; exact hkt)]
        rw [e]
        refine (pool_fresh_far hat hR hn ht hwf.2.2.1 hm hf (fun W hb => ?_)).mono ?_
        · refine (twin_read_out (hd.below hb) ly.base x.id hwf.2.2.1 (by rw [hr.dkt.len]; have := ly.fits; omega) (by rw [hr.dkt.len]; have := hr.tight; omega)).mono ?_
          rintro e' w' ⟨rfl, rfl⟩
          exact ⟨rfl, Below.refl _ _⟩
        · rintro e' w' ⟨rfl, hb⟩
          exact pk_same HH hb 2
      · have hin := hr.inside (n := x.id) hmay.2.1 (by omega)
        have hM : Mem F D G R w gp gd gl ly.at_ ly.base fb cb mb v s0 r cs p.free (p.items.map (·.page.id)) p dk l := ⟨hat, hd, hg, hFD, hFG, hDG⟩
        have hall : ∀ it ∈ p.items, Sp.inside dk.sure.length ly.at_ ly.base it.page.id := fun it hit => hr.inside (hr.in_ it hit).1 (hr.in_ it hit).2
        unfold Sp.inside at hin
        refine (pool_fresh_out (H := allF F D G) hat ⟨hwf, hmay⟩ hA hR hf hd (by rw [hr.dl.fuse]; decide) hr.dl.loose hin.1 hM.lt
          (ZM G gd gl ly.at_ ly.base p dk l (p.items.map (·.page.id))) (Z4M F D G R w gp gd gl ly.at_ ly.base fb cb mb v s0 r (p.items.map (·.page.id)) p dk l)
          (fun W hb hW => take_mem (id := x.id) hM hr.dl rfl hall hf W hb)
          (fun i p' ids' F' H' w2 hZ => by
            obtain ⟨D', d', l', _, _, _, _, _, _, hS⟩ := hZ
            obtain ⟨_, hr', hi⟩ := hr.room_ok hS
            have := hr'.wf.len; have := hr'.wf.n64
            rw [hi, List.length_map]; omega)).mono ?_
        have hfr : s.fresh x true = (if s.room.1 ≠ 0 then (s.room.1, s.room.2) else (0, { s.room.2 with L := s.room.2.L ++ [⟨x, 1, true, x.lsn⟩] })) := by
          unfold Sp.R15.fresh
          rw [if_neg (by decide), if_neg hno, if_neg (by rw [hr.top]; omega)]
        rintro e' w' (⟨c4, hc4, rfl, ⟨hE, cs', hM', ht2⟩⟩ | ⟨i, p', F', H', ids', rest, w2, F3, R3, v3, s3, r3, cs3, rfl, h', hfree, hnone, ⟨D', d', l', rfl, hD', hG', hFD', hFG', hDG', hS⟩, hF', ht, ⟨G0, hG0, ht3⟩⟩)
        · obtain ⟨er, _⟩ := hr.room_err hE
          rw [er, if_pos hc4] at hfr
          rw [hfr]
          refine ⟨hkept ht2, rfl, ?_⟩
          show PkAt ly K w' gd gl gp { l with forced := s.forced } s
          rw [← hr.lgs]
          exact pk_make ⟨R, fb, cb, mb, v, s0, r, cs', hM'.pl⟩ hM'.dk hM'.lg hFD hFG hDG hr hK hKl ht2 (fun b hb => .inl hb)
        · obtain ⟨e1, hr', hids⟩ := hr.room_ok hS
          rw [if_neg (by rw [e1]; simp)] at hfr
          rw [hfr]
          have hz := ht.size
          have hF3n : ∀ b, F3 b → (F' b ∨ G0 b) ∨ w2.heap.size ≤ b := ht3.foot
          have hn : ∀ b, D' b ∨ G b → ¬ F3 b := fun b hb hf3 => by
            rcases hF3n b hf3 with (e | e) | e
            · rcases hb with hb | hb
              · exact hFD' b e hb
              · exact hFG' b e hb
            · exact (hG0 b e).1 (.inr hb)
            · rcases hb with hb | hb
              · have := hD'.in_ b hb; omega
              · have := hG'.in_ b hb; omega
          have hk3 : ∀ b, D' b ∨ G b → b < w2.heap.size → w'.heap[b]? = w2.heap[b]? := fun b hb hlt => ht3.block b hlt (fun e => by
            rcases e with e | e
            · rcases hb with hb | hb
              · exact hFD' b e hb
              · exact hFG' b e hb
            · exact (hG0 b e).1 (.inr hb))
          have htt : Turns (allF F D G) (allF F3 D' G) w w' := by
            refine ⟨ht3.os.trans ht.os, ht3.tape.trans ht.tape, ht3.output.trans ht.output, Nat.le_trans hz ht3.size, fun b hb hn => ?_, fun b hb => ?_⟩
            · rw [ht3.block b (by omega) (fun e => by
                rcases e with e | e
                · rcases ht.foot b (.inl e) with h | h
                  · exact hn h
                  · omega
                · have := (hG0 b e).2; omega)]
              exact ht.block b hb hn
            · rcases hb with hb | hb
              · rcases hF3n b hb with (e | e) | e
                · exact ht.foot b (.inl e)
                · exact .inr (hG0 b e).2
                · exact .inr (Nat.le_trans hz e)
              · exact ht.foot b (.inr hb)
          have e2 : ((((p'.bring x i rest).pinUp x.id).upd x.id (Sp.It.frs x)).items.map (·.page.id)) = ids'.filter (fun y => !(y == x.id)) ++ [x.id] := by
            have hnot : ids'.filter (fun y => !(y == x.id)) = ids' := by
              rw [List.filter_eq_self]
              intro a ha
              rw [hids] at ha
              obtain ⟨y, hy, rfl⟩ := List.mem_map.1 ha
              have := Sp.Pl.find_none.1 hnone y hy
              simpa using this
            rw [hnot, hids]
            refine (Sp.Pl.upd_ids (Sp.It.frs_tame x)).trans ?_
            rw [Sp.pinUp_bring hnone, List.map_append]
            rfl
          have hpl' : IsPl F3 w' gp gd gl ly.at_ ly.base (((p'.bring x i rest).pinUp x.id).upd x.id (Sp.It.frs x)) := ⟨R3, fb, cb, mb, v3, s3, r3, cs3, by rw [e2]; exact h'⟩
          have hr3 : Rep ly (((p'.bring x i rest).pinUp x.id).upd x.id (Sp.It.frs x)) d' l' { s.room.2 with L := s.room.2.L ++ [⟨x, 1, true, x.lsn⟩] } := by
            refine hr'.of h'.wf rfl (by rw [hr'.L]; exact Sp.frs_ri hnone) (fun y hy => ?_)
            obtain ⟨z, hz, rfl⟩ := Sp.Pl.upd_mem hy
            rw [Sp.pinUp_bring hnone] at hz
            have hx' : 1 ≤ z.page.id ∧ z.page.id ≤ ly.top := by
              rcases List.mem_append.1 hz with hz | hz
              · exact hr'.in_ z hz
              · rw [List.mem_singleton.1 hz]
                exact ⟨hmay.2.1, by show x.id ≤ _; omega⟩
            split
            · rw [(Sp.It.frs_tame x).id]; exact hx'
            · exact hx'
          have elg : l' = { l with forced := ({ s.room.2 with L := s.room.2.L ++ [⟨x, 1, true, x.lsn⟩] } : Sp.R15).forced } := hr3.lg (by have := hS.lg; exact this)
          refine ⟨hkept htt, rfl, ?_⟩
          show PkAt ly _ w' gd gl gp { l with forced := _ } _
          rw [← elg]
          exact pk_make hpl' (hD'.keep (fun b hb => hk3 b (.inl hb) (hD'.in_ b hb))) (hG'.keep (fun b hb => hk3 b (.inr hb) (hG'.in_ b hb))) (fun b h1 h2 => hn b (.inl h2) h1) (fun b h1 h2 => hn b (.inr h2) h1) hDG' hr3 hK hKl htt (fun b hb => .inl hb)
end Go.Proofs.YtndglfiepeefdaaGreat

/- The walks of the law package pentimentolaw15: first. -/
namespace Go.Proofs.YtndglfiepeefdaaGreat
open Go.RowKit Go.Conc

/-- The page as the law lays it first. -/
def Sp.first (n : Nat) : Sp.Pg := ⟨1, 0, n, 0, 0, [[102, 105, 114, 115, 116]]⟩
theorem Sp.first_ok {n : Nat} (h1 : 1 ≤ n) (h2 : n ≤ 1024) : (Sp.first n).wf ∧ (Sp.first n).may := by
  refine ⟨⟨?_, ?_, ?_, ?_, ?_⟩, ?_, ?_, ?_, ?_, ?_⟩ <;> simp [Sp.first, Sp.total] <;> omega

set_option maxRecDepth 100000 in
set_option maxHeartbeats 1000000 in
theorem law_first (n : Nat) (w : World) : Calls Tryz.prog 28 #[u32v n] w fun e w' =>
    ∃ A c, e = .returned (pgV (Sp.first n) A c) ∧ OkAddr A ∧ RowsAt (fun b => w.heap.size ≤ b) w' A (Sp.first n).rows ∧ Below w.heap.size w w' := by
  go_enter Tryz.func28, Tryz.ntmps28
  go_wp2_with fail
  have hB := (Blk.new w 32 #[.int .u8 1, .int .u8 0, .int .u32 n, .int .u64 0, .int .u32 0, .slice (some ⟨w.heap.size + 1, 0, none⟩) 1 1]).alloc (.cells #[str [102, 105, 114, 115, 116]] 9)
  have hb := ((Below.refl w.heap.size w).alloc (Nat.le_refl _) (.cells #[.int .u8 1, .int .u8 0, .int .u32 n, .int .u64 0, .int .u32 0, .slice (some ⟨w.heap.size + 1, 0, none⟩) 1 1] 32)).alloc (by simp) (.cells #[str [102, 105, 114, 115, 116]] 9)
  have hs := Blk.new (w.alloc (.cells #[.int .u8 1, .int .u8 0, .int .u32 n, .int .u64 0, .int .u32 0, .slice (some ⟨w.heap.size + 1, 0, none⟩) 1 1] 32)) 9 #[str [102, 105, 114, 115, 116]]
  have e1 : (w.alloc (.cells #[.int .u8 1, .int .u8 0, .int .u32 n, .int .u64 0, .int .u32 0, .slice (some ⟨w.heap.size + 1, 0, none⟩) 1 1] 32)).heap.size = w.heap.size + 1 := by simp
  rw [e1] at hs
  refine bodyPost_ret (v := pgV (Sp.first n) (some ⟨w.heap.size + 1, 0, none⟩) 1) (by rw [results_cell_row rfl _ _ w.heap.size 32 _ (0, 0) _ rfl hB Tryz.underlying32 rfl rfl]; rfl) rfl ⟨_, _, rfl, .inr ⟨_, _, rfl⟩, ⟨rfl, fun _ => ⟨w.heap.size + 1, 0, rfl, by omega, hs.lt, fun j u hu => ?_⟩⟩, hb⟩
  rw [Nat.zero_add]
  exact (hs.cell j).trans (by rw [List.getElem?_toArray]; exact hu)
end Go.Proofs.YtndglfiepeefdaaGreat

/- Rows that are owned, from one world to the next; a page's zero. No law's function is named here. -/
namespace Go.Proofs.YtndglfiepeefdaaGreat
open Go.RowKit

def pgZero : Value := .agg #[.int .u8 0, .int .u8 0, .int .u32 0, .int .u64 0, .int .u32 0, .slice none 0 0]
theorem page_info : (Tryz.prog.info? 32).map (fun i => (i.zero, i.size, i.bytes)) = some (some pgZero, 6, 48) := by kernel_rfl
theorem blk_news {w : World} {g : Nat} {t : TypeId} {cs : List Value} (h : Blk w g t cs.toArray) : ∀ j u, cs[j]? = some u → w.cell? ((⟨g, 0, none⟩ : Addr).add j) = some u := fun j u hu => by
  have e : (⟨g, 0, none⟩ : Addr).add j = ⟨g, j, none⟩ := by cases j <;> simp [Addr.add]
  rw [e, h.cell, List.getElem?_toArray]; exact hu

theorem row_keep' {w w' : World} {base : Nat} {e : TypeId} {sz : Nat} {v : Value} {n : Nat} {xs : List Value} (h : w.ownsRow base e sz v n xs) (hk : ∀ b, v.ownBlock = some b → w'.heap[b]? = w.heap[b]?) : w'.ownsRow base e sz v n xs := by
  refine ⟨h.1, ?_⟩
  rcases h.2 with h' | ⟨b, cap, cur, rfl, hb, hh, rest⟩
  · exact .inl h'
  · exact .inr ⟨b, cap, cur, rfl, hb, (hk b rfl).trans hh, rest⟩

theorem row_mono {w : World} {base base' : Nat} {e : TypeId} {sz : Nat} {v : Value} {n : Nat} {xs : List Value} (h : w.ownsRow base e sz v n xs) (hb : base' ≤ base) : w.ownsRow base' e sz v n xs := by
  refine ⟨h.1, ?_⟩
  rcases h.2 with h' | ⟨b, cap, cur, rfl, hbb, rest⟩
  · exact .inl h'
  · exact .inr ⟨b, cap, cur, rfl, Nat.le_trans hb hbb, rest⟩

theorem row_base {w : World} {base : Nat} {e : TypeId} {sz : Nat} {v : Value} {n : Nat} {xs : List Value} (h : w.ownsRow base e sz v n xs) {b : Nat} (hb : v.ownBlock = some b) : base ≤ b := by
  rcases h.2 with ⟨rfl, _⟩ | ⟨g, cap, cur, rfl, hbb, rest⟩
  · simp [Value.ownBlock] at hb
  · simp only [Value.ownBlock, Option.some.injEq] at hb
    omega

end Go.Proofs.YtndglfiepeefdaaGreat

/- What Begun leaves. No walk. -/
namespace Go.Proofs.YtndglfiepeefdaaGreat
open Go.RowKit Go.Conc

/-- A disk on which the pages below k stand as they are laid first. -/
structure LawDk (dk : Sp.Dk) (k : Nat) : Prop where
  len : dk.sure.length = 72
  loose : dk.loose = []
  fuse : dk.fuse = -1
  page : ∀ q, 1 ≤ q → q < k → Sp.pageAt dk.sure (44 + q * 4) = pgBytes (Sp.first q)
  zero : Sp.pageAt dk.sure (44 + 0 * 4) = Sp.zeros 512

theorem pageAt_new : Sp.pageAt (Sp.newDk 72).sure (44 + 0 * 4) = Sp.zeros 512 := by
  show ((List.drop 44 (List.replicate 72 (Sp.zeros 128))).take 4).flatten = _
  rw [List.drop_replicate, List.take_replicate]
  simp [Sp.zeros]

/-- What holds while the pages are laid. -/
def LayAt (w : World) (n gd gr : Nat) (k : Nat) (wr : World) : Prop :=
  ∃ (v : Value) (xs : List Value) (D : Foot) (dk : Sp.Dk), Blk wr gr 80 #[.int .i64 n, .slice none 0 0, v, .int .u64 110, .int .u64 110] ∧ wr.ownsRow w.heap.size 32 6 v k xs ∧
    IsDk D wr gd dk ∧ LawDk dk k ∧ (∀ b, D b → w.heap.size ≤ b ∧ b ≠ gr ∧ v.ownBlock ≠ some b) ∧ v.ownBlock ≠ some gr ∧ w.heap.size ≤ gr ∧ Below w.heap.size w wr

/-- A pool that has begun, its log and its disk. -/
def BegunPost (w : World) (n : Nat) (e : Ending) (w' : World) : Prop :=
  ∃ (gP gr gd gl gp : Nat) (v : Value) (xs : List Value) (D F : Foot) (dk : Sp.Dk), e = .returned (ptr gP) ∧ Blk w' gP 44 #[ptr gd, ptr gl, ptr gp, ptr gr] ∧
    Blk w' gr 80 #[.int .i64 n, .slice none 0 0, v, .int .u64 110, .int .u64 110] ∧ w'.ownsRow w.heap.size 32 6 v 7 xs ∧
    Blk w' gl 117 (lgCells gd 0 8 1 (.slice none 0 0) (.slice none 0 0) 110 110 110 0) ∧
    IsDk D w' gd dk ∧ LawDk dk 7 ∧ IsPl F w' gp gd gl 8 44 ⟨n, [], List.range n⟩ ∧ (∀ b, D b → ¬ F b) ∧ (∀ b, D b ∨ F b → w.heap.size ≤ b ∧ b ≠ gP ∧ b ≠ gr ∧ b ≠ gl) ∧ Below w.heap.size w w'

/-- The same; the log's block and the play's are new. -/
def BegunNew (w : World) (n : Nat) (e : Ending) (w' : World) : Prop :=
  ∃ (gP gr gd gl gp : Nat) (v : Value) (xs : List Value) (D F : Foot) (dk : Sp.Dk), e = .returned (ptr gP) ∧ Blk w' gP 44 #[ptr gd, ptr gl, ptr gp, ptr gr] ∧
    Blk w' gr 80 #[.int .i64 n, .slice none 0 0, v, .int .u64 110, .int .u64 110] ∧ w'.ownsRow w.heap.size 32 6 v 7 xs ∧
    Blk w' gl 117 (lgCells gd 0 8 1 (.slice none 0 0) (.slice none 0 0) 110 110 110 0) ∧
    IsDk D w' gd dk ∧ LawDk dk 7 ∧ IsPl F w' gp gd gl 8 44 ⟨n, [], List.range n⟩ ∧ (∀ b, D b → ¬ F b) ∧ (∀ b, D b ∨ F b → w.heap.size ≤ b ∧ b ≠ gP ∧ b ≠ gr ∧ b ≠ gl) ∧ Below w.heap.size w w' ∧ w.heap.size ≤ gl ∧ gl < gP
theorem BegunNew.post {w w' : World} {n : Nat} {e : Ending} (h : BegunNew w n e w') : BegunPost w n e w' := by
  obtain ⟨gP, gr, gd, gl, gp, v, xs, D, F, dk, h0, h1, h2, h3, h4, h5, h6, h7, h8, h9, h10, _⟩ := h
  exact ⟨gP, gr, gd, gl, gp, v, xs, D, F, dk, h0, h1, h2, h3, h4, h5, h6, h7, h8, h9, h10⟩
end Go.Proofs.YtndglfiepeefdaaGreat

/- The walk of Begun once more: with what the document's disk has. -/
namespace Go.Proofs.YtndglfiepeefdaaGreat
open Go.RowKit Go.Conc

/-- What the document's disk has at first. -/
def pgK (q : Nat) : Sp.Pg := if q = 0 then ⟨0, 0, 1048576, 0, 0, []⟩ else Sp.first q
def PgRk (Gs : Foot) (W : World) (k : Nat) (xs : List Value) : Prop := ∀ q, q < k → ∃ A c, RowsAt Gs W A (pgK q).rows ∧ ∀ j, j < 6 → xs[q * 6 + j]? = (pgCs (pgK q) A c)[j]?
theorem PgRk.keep {Gs : Foot} {w w' : World} {k : Nat} {xs : List Value} (h : PgRk Gs w k xs) (hs : w.heap.size ≤ w'.heap.size) (hk : ∀ b, Gs b → w'.heap[b]? = w.heap[b]?) : PgRk Gs w' k xs := fun q hq => by
  obtain ⟨A, c, h1, h2⟩ := h q hq
  exact ⟨A, c, h1.keep hs hk, h2⟩
theorem PgRk.snoc {Gs : Foot} {w : World} {k : Nat} {xs : List Value} (h : PgRk Gs w k xs) (hl : xs.length = k * 6) {G' Gn : Foot} {A : Option Addr} {c : Nat} (hk1 : 1 ≤ k) (hR : RowsAt Gn w A (Sp.first k).rows) (hG : ∀ b, Gs b → G' b) (hG' : ∀ b, Gn b → G' b) : PgRk G' w (k + 1) (xs ++ (pgCs (Sp.first k) A c).toList) := fun q hq => by
  by_cases hqk : q < k
  · obtain ⟨A', c', h1, h2⟩ := h q hqk
    exact ⟨A', c', h1.mono hG, fun j hj => by rw [List.getElem?_append_left (by omega)]; exact h2 j hj⟩
  · obtain rfl : q = k := by omega
    have e : pgK q = Sp.first q := by unfold pgK; rw [if_neg (by omega)]
    rw [e]
    exact ⟨A, c, hR.mono hG', fun j hj => by rw [List.getElem?_append_right (by omega), hl, Nat.add_sub_cancel_left]; exact Array.getElem?_toList⟩
/-- What holds while the pages are laid. -/
def LayAtR (w : World) (n gd gr : Nat) (k : Nat) (wr : World) : Prop :=
  ∃ (v : Value) (xs : List Value) (D : Foot) (dk : Sp.Dk), Blk wr gr 80 #[.int .i64 n, .slice none 0 0, v, .int .u64 110, .int .u64 110] ∧ wr.ownsRow w.heap.size 32 6 v k xs ∧
    IsDk D wr gd dk ∧ LawDk dk k ∧ (∀ b, D b → w.heap.size ≤ b ∧ b ≠ gr ∧ v.ownBlock ≠ some b) ∧ v.ownBlock ≠ some gr ∧ w.heap.size ≤ gr ∧ Below w.heap.size w wr ∧
    ∃ Gs : Foot, PgRk Gs wr k xs ∧ ∀ b, Gs b → w.heap.size ≤ b ∧ b < wr.heap.size ∧ b ≠ gr ∧ v.ownBlock ≠ some b ∧ ¬ D b
/-- A pool that has begun, its log, its disk, and the document's. -/
def BegunRows (w : World) (n : Nat) (e : Ending) (w' : World) : Prop :=
  ∃ (gP gr gd gl gp : Nat) (v : Value) (xs : List Value) (D F : Foot) (dk : Sp.Dk), e = .returned (ptr gP) ∧ Blk w' gP 44 #[ptr gd, ptr gl, ptr gp, ptr gr] ∧
    Blk w' gr 80 #[.int .i64 n, .slice none 0 0, v, .int .u64 110, .int .u64 110] ∧ w'.ownsRow w.heap.size 32 6 v 7 xs ∧
    Blk w' gl 117 (lgCells gd 0 8 1 (.slice none 0 0) (.slice none 0 0) 110 110 110 0) ∧
    IsDk D w' gd dk ∧ LawDk dk 7 ∧ IsPl F w' gp gd gl 8 44 ⟨n, [], List.range n⟩ ∧ (∀ b, D b → ¬ F b) ∧ (∀ b, D b ∨ F b → w.heap.size ≤ b ∧ b ≠ gP ∧ b ≠ gr ∧ b ≠ gl) ∧ Below w.heap.size w w' ∧ w.heap.size ≤ gl ∧ gl < gP ∧
    v.ownBlock ≠ some gr ∧ w.heap.size ≤ gr ∧ gr < gl ∧ (∀ b, v.ownBlock = some b → w.heap.size ≤ b ∧ b < gl ∧ ¬ D b ∧ ¬ F b) ∧ ∃ Gs : Foot, PgRk Gs w' 7 xs ∧ ∀ b, Gs b → w.heap.size ≤ b ∧ b < gl ∧ b ≠ gr ∧ v.ownBlock ≠ some b ∧ ¬ D b ∧ ¬ F b
theorem BegunRows.new {w w' : World} {n : Nat} {e : Ending} (h : BegunRows w n e w') : BegunNew w n e w' := by
  obtain ⟨gP, gr, gd, gl, gp, v, xs, D, F, dk, h0, h1, h2, h3, h4, h5, h6, h7, h8, h9, h10, h11, h12, _⟩ := h
  exact ⟨gP, gr, gd, gl, gp, v, xs, D, F, dk, h0, h1, h2, h3, h4, h5, h6, h7, h8, h9, h10, h11, h12⟩

set_option maxRecDepth 100000 in
set_option maxHeartbeats 4000000 in
theorem law_begun_rows (n : Nat) (h1 : 1 ≤ n) (h64 : n ≤ 64) (w : World) : Calls Tryz.prog 8 #[.int .i64 n] w (BegunRows w n) := by
  have HDN := Lib.hid fun (W : World) => disk_new 72 W (by omega) (by omega)
  go_enter Tryz.func8, Tryz.ntmps8
  go_wp2_with fail
  refine (HDN.out w).mono ?_
  rintro e w1 ⟨gd, D, rfl, hd, ht⟩
  have hD : ∀ b, D b → w.heap.size ≤ b := fun b hb => (ht.foot b hb).resolve_left (fun h => h)
  have hbw := ht.below_none
  have HD := Lib.hid hd
  have HDF := Lib.hid hD
  clear hd hD ht HDN
  obtain ⟨ip, hip, hp0, hp1, hp2⟩ := info_parts page_info
  go_wp2_with (at_builtin; refine wpList_append_own2 _ rfl _ _ 78 rfl w1.heap.size 32 ip pgZero 6 48 Tryz.underlying78 hip hp0 hp1 hp2 rfl (by decide) _ 0 [] rfl (World.ownsRow_nil _ _ _ _) ⟨w1.heap.size + 1, 0, none⟩ 1 1 [.int .u8 0, .int .u8 0, .int .u32 1048576, .int .u64 0, .int .u32 0, .slice none 0 0] rfl rfl (by have := blk_news (Blk.new (w1.alloc (.cells #[.int .i64 n, .slice none 0 0, .slice none 0 0, .int .u64 110, .int .u64 110] 80)) 32 #[.int .u8 0, .int .u8 0, .int .u32 1048576, .int .u64 0, .int .u32 0, .slice none 0 0]); simpa only [World.size_alloc] using this) (fun x hx => by simp at hx; rcases hx with rfl | rfl | rfl | rfl | rfl | rfl <;> rfl) (by unfold maxLen; omega) (by omega) (by simp; omega) ?_)
  intro v' w2 hrow hg hown
  have hB := ((Blk.new w1 80 #[.int .i64 n, .slice none 0 0, .slice none 0 0, .int .u64 110, .int .u64 110]).alloc (.cells #[.int .u8 0, .int .u8 0, .int .u32 1048576, .int .u64 0, .int .u32 0, .slice none 0 0] 32)).grown hg (fun e => by simp [Value.ownBlock] at e)
  have hb2 := (((Below.refl w1.heap.size w1).alloc (Nat.le_refl _) (.cells #[.int .i64 n, .slice none 0 0, .slice none 0 0, .int .u64 110, .int .u64 110] 80)).alloc (by simp) (.cells #[.int .u8 0, .int .u8 0, .int .u32 1048576, .int .u64 0, .int .u32 0, .slice none 0 0] 32)).grown hg (by simp; omega) (fun r e => by simp [Value.ownBlock] at e)
  have hgl := hB.lt
  obtain ⟨A0, n0, c0, rfl⟩ : ∃ A m c, v' = .slice A m c := by
    rcases hrow.2 with ⟨h0, _⟩ | ⟨g6, c6, _, h0, _⟩
    · exact ⟨_, _, _, h0⟩
    · exact ⟨_, _, _, h0⟩
  have hown2 : (Value.slice A0 n0 c0).ownBlock ≠ some w1.heap.size := fun e => by
    rcases hown _ e with h | h
    · simp [Value.ownBlock] at h
    · omega
  have hownl : ∀ b, (Value.slice A0 n0 c0).ownBlock = some b → w1.heap.size ≤ b := fun b e => by
    rcases hown _ e with h | h
    · simp [Value.ownBlock] at h
    · omega
  have hBs := hB.set_ 2 (.slice A0 n0 c0)
  have hsw : w.heap.size ≤ w1.heap.size := hbw.size
  have hbw2 : Below w.heap.size w (w2.setCell ⟨w1.heap.size, 2, none⟩ (.slice A0 n0 c0)) := (hbw.trans (hb2.mono hsw)).setCell (p := ⟨w1.heap.size, 2, none⟩) hsw _
  have hdl := HD.out.in_
  have hd2 := HD.out.below (hb2.setCell (p := ⟨w1.heap.size, 2, none⟩) (Nat.le_refl _) (.slice A0 n0 c0))
  have hLAY : LayAtR w n gd w1.heap.size 1 (w2.setCell ⟨w1.heap.size, 2, none⟩ (.slice A0 n0 c0)) := by
    refine ⟨.slice A0 n0 c0, _, D, _, hBs, (row_mono hrow hsw).kept (grown_set _ ⟨w1.heap.size, 2, none⟩ _) (.inr (fun e => hown2 e)), hd2, ⟨by simp [Sp.newDk], rfl, rfl, fun q h1 h2 => by omega, pageAt_new⟩, fun b hb => ⟨HDF.out b hb, ?_, fun e => ?_⟩, hown2, hsw, hbw2, noFoot, ?_, fun b hb => hb.elim⟩
    · have := hdl b hb; omega
    · have := hdl b hb; have := hownl b e; omega
    · intro q hq
      obtain rfl : q = 0 := by omega
      refine ⟨none, 0, Reads.none_, fun j hj => ?_⟩
      match j, hj with
      | 0, _ | 1, _ | 2, _ | 3, _ | 4, _ | 5, _ => rfl
  have c2 := hB.cell 2
  have f2 := hB.frozen 2
  simp only [zGA, zGB, zGC] at c2
  have HL := Lib.hid hLAY
  clear hLAY hd2 hdl hbw2 hBs hownl hown2 hrow hg hown hB hb2
  go_wp2_with fail
  obtain ⟨w3, hw3⟩ : ∃ w3, w3 = w2.setCell ⟨w1.heap.size, 2, none⟩ (.slice A0 n0 c0) := ⟨_, rfl⟩
  rw [← hw3] at HL ⊢
  clear hw3 c2 f2 hgl HD HDF hbw
  generalize w1.heap.size = gr at *
  go_loopw [6] (fun i wr => ∃ k : Nat, 1 ≤ k ∧ k ≤ 7 ∧ i = .int .u32 k ∧ LayAtR w n gd gr k wr) (fun i _ => 7 - (intOf i).toNat)
  case atStart => exact ⟨1, by omega, by omega, rfl, HL.out⟩
  case round =>
    obtain ⟨k, hk1, hk7, rfl, hL⟩ := hrel
    have HLk := Lib.hid hL
    clear hL HL
    by_cases hlt : k < 7
    · have HF := Lib.hid fun W => law_first k W
      have d7 : decide ((k : Int) < 7) = true := by rw [decide_eq_true_eq]; omega
      go_wp2_with fail
      refine (HF.out wr).mono ?_
      rintro e w4 ⟨A, c, rfl, hA, hR, hb4⟩
      have hfo := Sp.first_ok (n := k) (by omega) (by omega)
      have hb5 := (Below.refl w4.heap.size w4).alloc (Nat.le_refl _) (.cells (pgCs (Sp.first k) A c) 32)
      have hR5 := Reads.below hR hb5
      have HE := Lib.hid (page_encode (c := c) hR5 hfo.1 hfo.2)
      have HR4 := Lib.hid hR
      have hrk : Hid (∀ b, rowK A (Sp.first k).rows.length b → wr.heap.size ≤ b ∧ b < w4.heap.size) := fun b hb => rowK_of hR hb
      have hX := Blk.new w4 32 (pgCs (Sp.first k) A c)
      have hb45 : Below wr.heap.size wr _ := hb4.trans (hb5.mono hb4.size)
      have hg7 : wr.heap.size ≤ w4.heap.size := hb4.size
      go_wp2_with fail
      change Calls Tryz.prog _ #[pgV (Sp.first k) A c] (w4.alloc (.cells (pgCs (Sp.first k) A c) 32)) _
      have hg4 : w4.heap.size < (w4.alloc (.cells (pgCs (Sp.first k) A c) 32)).heap.size := by simp
      obtain ⟨w5, hw5⟩ : ∃ w5, w5 = w4.alloc (.cells (pgCs (Sp.first k) A c) 32) := ⟨_, rfl⟩
      rw [← hw5] at HE hX hb45 hR5 hg4 ⊢
      have HR5 := Lib.hid hR5
      clear hw5 hb5 hR hb4 HF HR4
      generalize w4.heap.size = g7 at *
      refine HE.out.mono ?_
      rintro e w6 ⟨rfl, hb6⟩
      have hX6 := hX.below hb6 hg4
      have hb6k : ∀ b, b < w5.heap.size → w6.heap[b]? = w5.heap[b]? := hb6.block
      have hb6z : w5.heap.size ≤ w6.heap.size := hb6.size
      have hb45k : ∀ b, b < wr.heap.size → w5.heap[b]? = wr.heap[b]? := hb45.block
      have hg45 : g7 < w5.heap.size := hg4
      have hb46 : Below wr.heap.size wr w6 := hb45.trans (hb6.mono hb45.size)
      have HX := Lib.hid hX6
      clear hX HE hb45 hX6 hb6 hg4
      obtain ⟨v, xs, DD, dk, hB, hrow, hd, hlk, hDs, hvg, hgr, hbr, Gs, hPR, hGs⟩ := HLk.out
      have hxl : xs.length = k * 6 := hrow.1
      have HPR := Lib.hid hPR
      have HGS := Lib.hid hGs
      clear hPR hGs
      have hlen := pgBytes_length hfo.2
      have hb7 := hb46.alloc hb46.size (.cells #[.int .u32 k, str (pgBytes (Sp.first k))] 86)
      have hd7 := hd.below hb7
      have hHm := Blk.new w6 86 #[.int .u32 k, str (pgBytes (Sp.first k))]
      have hRd : Reads (fun b => b = w6.heap.size) (w6.alloc (.cells #[.int .u32 k, str (pgBytes (Sp.first k))] 86)) 2 (some ⟨w6.heap.size, 0, none⟩) 1 (hcs [(k, pgBytes (Sp.first k))]) :=
        ⟨rfl, fun _ => ⟨w6.heap.size, 0, rfl, rfl, hHm.lt, fun j u hu => by
          rw [Nat.zero_add]
          exact (hHm.cell j).trans (by rw [List.getElem?_toArray]; exact hu)⟩⟩
      have hins : Sp.inside dk.sure.length 8 44 k := by rw [hlk.len]; unfold Sp.inside; omega
      have HTW := Lib.hid (twin_write hd7 hlk.fuse (by rw [hlk.loose]; simp) 8 44 (l := [(k, pgBytes (Sp.first k))]) (c := 1) hRd (by simp) (by simp) (fun x hx => by
        rw [List.mem_singleton.1 hx]
        exact ⟨by show k < _; omega, hlen, hins⟩) (by simp) (by rw [hlk.len]; omega) (by rw [hlk.len]; omega))
      have hone := Sp.twin_one dk hlk.loose hlk.fuse 8 44 k _ hlen hins
      clear hRd hHm HLk hd7
      go_wp2_with fail
      refine HTW.out.mono ?_
      rintro e w7 ⟨D7, rfl, hd7, ht7⟩
      have hrl : ∀ b, v.ownBlock = some b → b < wr.heap.size := fun b hb => by
        obtain ⟨cur, hc⟩ := ownsRow_heap hrow hb
        exact (Array.getElem?_eq_some_iff.1 hc).1
      have hDl := hd.in_
      have hgrl := hB.lt
      have hgX := HX.out.lt
      have hB7 := (hB.below hb7 hgrl).turns ht7 (fun hh => (hDs gr hh).2.1 rfl)
      have hX7 := (HX.out.alloc (.cells #[.int .u32 k, str (pgBytes (Sp.first k))] 86)).turns ht7 (fun hh => by have := hDl g7 hh; omega)
      have hs67 := ht7.size
      have hz6 : w6.heap.size ≤ w7.heap.size := by have := ht7.size; simp only [World.size_alloc] at this; omega
      have hszb := hb7.size
      have hrow7 := row_keep' (w' := w7) hrow (fun b hb => (ht7.block b (by have := hrl b hb; omega) (fun hh => (hDs b hh).2.2 hb)).trans (hb7.block b (hrl b hb)))
      have hD7 : ∀ b, D7 b → w.heap.size ≤ b ∧ b ≠ gr ∧ v.ownBlock ≠ some b := fun b hb => by
        have hz := hbr.size
        rcases ht7.foot b hb with h | h
        · exact hDs b h
        · refine ⟨by omega, by omega, fun e => ?_⟩
          have := hrl b e; omega
      have hbw7 : Below w.heap.size w w7 := (hbr.trans (hb7.mono hbr.size)).trans (ht7.below (Nat.le_trans hbr.size hszb) (fun b hb => (hDs b hb).1))
      have hlk7 : LawDk (dk.acts (Sp.twinActs 8 44 [(k, pgBytes (Sp.first k))])) (k + 1) := by
        refine ⟨hone.2.2.1.trans hlk.len, hone.1, hone.2.1, fun q hq1 hq2 => ?_, (hone.2.2.2.2 0 (by omega) (by omega) (by rw [hlk.len]; omega)).trans hlk.zero⟩
        by_cases e : q = k
        · rw [e]; exact hone.2.2.2.1
        · rw [hone.2.2.2.2 q e (by omega) (by rw [hlk.len]; omega)]
          exact hlk.page q hq1 (by omega)
      have hKp : Hid (∀ b, b < g7 → ¬ DD b → w7.heap[b]? = w5.heap[b]?) := fun b hb hn => (ht7.block b (by simp; omega) hn).trans ((Below.heap_alloc w6 _ b (by omega)).trans (hb6k b (by omega)))
      have hKw : Hid (∀ b, b < wr.heap.size → w5.heap[b]? = wr.heap[b]?) := fun b hb => hb45k b hb
      have hD7o : Hid (∀ b, D7 b → DD b ∨ g7 ≤ b) := fun b hb => (ht7.foot b hb).imp id (fun h => by simp only [World.size_alloc] at h; omega)
      have hDin : Hid (∀ b, DD b → b < wr.heap.size) := hDl
      have hmeas : k + 1 ≤ 7 := hlt
      have hown7 : ∀ b, v.ownBlock = some b → b < w7.heap.size := fun b hb => by have := hrl b hb; omega
      have hd7l := hd7.in_
      obtain ⟨dk7, hdk7⟩ : ∃ d, d = dk.acts (Sp.twinActs 8 44 [(k, pgBytes (Sp.first k))]) := ⟨_, rfl⟩
      rw [← hdk7] at hd7 hlk7
      clear hdk7 hone hDs hlk hins ht7 hb7 hd hrow hB hDl hbr HTW HX
      go_wp2_with fail
      have c2 := hB7.cell 2
      simp only [zGA, zGB, zGC] at c2
      have hS := Lib.hid (⟨c2, hX7⟩ : w7.drew.cell? ⟨gr, 2, none⟩ = some v ∧ Blk w7.drew g7 32 (pgCs (Sp.first k) A c))
      clear c2
      refine R_begin (fun W => W.cell? ⟨gr, 2, none⟩ = some v ∧ Blk W g7 32 (pgCs (Sp.first k) A c)) (fun j => decide (8 ≤ j)) rfl ?_
      refine R_take 0 59 (v := ?_) rfl rfl (by rfl) (by kernel_rfl) (fun _ _ _ h => h) hS.out ?_ ?_
      rotate_left
      · intro w hSw; (try dsimp only at hSw); go_simp; (try with_reducible rfl)
      simp only [zSA, zSB, zSC]
      refine R_take 1 60 (v := ?_) rfl rfl (by rfl) (by kernel_rfl) (fun _ _ _ h => h) hS.out ?_ ?_
      rotate_left
      · intro w hSw; (try dsimp only at hSw); go_simp; (try with_reducible rfl)
      simp only [zSA, zSB, zSC]
      refine R_take 2 61 (v := ?_) rfl rfl (by rfl) (by kernel_rfl) (fun _ _ _ h => h) hS.out ?_ ?_
      rotate_left
      · intro w hSw; (try dsimp only at hSw); go_simp; (try with_reducible rfl)
      simp only [zSA, zSB, zSC]
      refine R_take 3 62 (v := ?_) rfl rfl (by rfl) (by kernel_rfl) (fun _ _ _ h => h) hS.out ?_ ?_
      rotate_left
      · intro w hSw; (try dsimp only at hSw); go_simp; (try with_reducible rfl)
      simp only [zSA, zSB, zSC]
      refine R_take 4 63 (v := ?_) rfl rfl (by rfl) (by kernel_rfl) (fun _ _ _ h => h) hS.out ?_ ?_
      rotate_left
      · intro w hSw; (try dsimp only at hSw); go_simp; (try with_reducible rfl)
      simp only [zSA, zSB, zSC]
      refine R_take 5 64 (v := pgV (Sp.first k) A c) rfl rfl (by rfl) (by kernel_rfl) (fun _ _ _ h => h) hS.out ?_ ?_
      · intro w hSw
        exact run_op_load _ _ _ rfl rfl (run_loadVar_row w g7 _ _ _ _ _ hSw.2 Tryz.underlying32 rfl rfl)
      simp only [zSA, zSB, zSC]
      have hT8 := (Turns.refl noFoot w7).drew.alloc (.cells (pgCs (Sp.first k) A c) 32)
      refine R_run 6 65 (v := .slice (some ⟨w7.drew.heap.size, 0, none⟩) 1 1) (w' := w7.drew.alloc (.cells (pgCs (Sp.first k) A c) 32)) rfl rfl (by rfl) (by kernel_rfl) ?_ ?_ ?_
      · go_simp
      · exact fun _ => ⟨(((hB7.turns hT8 (fun e => e)).cell 2).trans rfl), hX7.turns hT8 (fun e => e)⟩
      simp only [zSA, zSB, zSC]
      have hB8 := hB7.turns hT8 (fun e => e)
      have hrow8 := row_keep' (w' := w7.drew.alloc (.cells (pgCs (Sp.first k) A c) 32)) hrow7 (fun b hb => hT8.block b (hown7 b hb) (fun e => e))
      have hN8 := Blk.new w7.drew 32 (pgCs (Sp.first k) A c)
      have hX8 := hX7.turns hT8 (fun e => e)
      have hs8 := hT8.size
      have hK8 : ∀ b, b < w7.heap.size → (w7.drew.alloc (.cells (pgCs (Sp.first k) A c) 32)).heap[b]? = w7.heap[b]? := fun b hb => hT8.block b hb (fun e => e)
      have hgr7 := hB7.lt
      have hg77 := hX7.lt
      have hbw8 : Below w.heap.size w _ := hbw7.trans ((hT8.below_none).mono hbw7.size)
      have hd8 := hd7.below hT8.below_none
      obtain ⟨g8, hg8⟩ : ∃ g, g = w7.drew.heap.size := ⟨_, rfl⟩
      obtain ⟨w8, hw8⟩ : ∃ w8, w8 = w7.drew.alloc (.cells (pgCs (Sp.first k) A c) 32) := ⟨_, rfl⟩
      rw [← hw8, ← hg8] at hN8
      rw [← hw8] at hB8 hrow8 hX8 hs8 hbw8 hd8 hK8
      have HK8 := Lib.hid hK8
      clear hK8
      rw [← hw8, ← hg8]
      clear hw8 hg8 hT8 hS hrow7 hX7 hB7 hd7 hbw7
      refine R_step 7 rfl (by rfl) (by kernel_rfl) ?_
      refine wp_append_own2 _ _ _ _ rfl w.heap.size 32 ip pgZero 6 48 Tryz.underlying78 hip hp0 hp1 hp2 rfl (by decide) _ _ _ rfl hrow8 ⟨g8, 0, none⟩ 1 1 (pgCs (Sp.first k) A c).toList rfl rfl (blk_news hN8) (fun x hx => by simp at hx; rcases hx with rfl | rfl | rfl | rfl | rfl | rfl <;> rfl) (by unfold maxLen; omega) (by omega) ?_ ?_
      · exact hbw8.size
      intro v2 w9 q1 q2 q3
      have hB9 := hB8.grown q2 (fun e => hvg e.symm)
      have hX9 := hX8.grown q2 (fun e => by have := hrl g7 e.symm; omega)
      have hSS : w9.cell? ⟨gr, 2, none⟩ = some v ∧ Blk w9 g7 32 (pgCs (Sp.first k) A c) := ⟨(hB9.cell 2).trans rfl, hX9⟩
      have hd8l := hd8.in_
      have hd9 := hd8.keep (fun b hb => q2.block b (hd8l b hb) (fun e => (hD7 b hb).2.2 e.symm))
      have hbw9 := hbw8.grown q2 hbw8.size (fun b e => (row_base hrow8 e))
      obtain ⟨x0, x1, x2, rfl⟩ : ∃ g m c, v2 = .slice (some ⟨g, 0, none⟩) m c := by
        rcases q1.2 with ⟨_, h0⟩ | ⟨g6, c6, _, h0, _⟩
        · omega
        · exact ⟨g6, _, c6, h0⟩
      have c2 := hB9.cell 2
      have f2 := hB9.frozen 2
      simp only [zGA, zGB, zGC] at c2
      have hv2 : (Value.slice (some ⟨x0, 0, none⟩) x1 x2).ownBlock ≠ some gr := fun e => by
        rcases q3 gr e with h | h
        · exact hvg h
        · omega
      have hLA : LayAtR w n gd gr (k + 1) (w9.setCell ⟨gr, 2, none⟩ (.slice (some ⟨x0, 0, none⟩) x1 x2)) := by
        refine ⟨_, _, D7, dk7, hB9.set_ 2 _, q1.kept (grown_set _ ⟨gr, 2, none⟩ _) (.inr (fun e => hv2 e)), hd9.keep (fun b hb => Below.heap_setCell w9 _ _ b (hD7 b hb).2.1), hlk7, fun b hb => ⟨(hD7 b hb).1, (hD7 b hb).2.1, fun e => ?_⟩, hv2, hgr, hbw9.setCell (p := ⟨gr, 2, none⟩) hgr _, fun b => Gs b ∨ rowK A (Sp.first k).rows.length b, ?_, ?_⟩
        · rcases q3 b e with h | h
          · exact (hD7 b hb).2.2 h
          · have := hd7l b hb; omega
        · have hsf : w5.heap.size ≤ (w9.setCell ⟨gr, 2, none⟩ (.slice (some ⟨x0, 0, none⟩) x1 x2)).heap.size := by
            have := q2.size
            simp only [World.setCell, Array.size_modify]
            omega
          have hkk : ∀ b, b < g7 → ¬ DD b → v.ownBlock ≠ some b → b ≠ gr → (w9.setCell ⟨gr, 2, none⟩ (.slice (some ⟨x0, 0, none⟩) x1 x2)).heap[b]? = w5.heap[b]? := fun b h1 h2 h3 h4 =>
            (Below.heap_setCell w9 ⟨gr, 2, none⟩ _ b h4).trans ((q2.block b (by omega) (fun e => h3 e.symm)).trans ((HK8.out b (by omega)).trans (hKp.out b h1 h2)))
          refine PgRk.snoc (HPR.out.keep (by omega) (fun b hb => ?_)) hxl hk1 (Gn := rowK A (Sp.first k).rows.length) (Reads.keep (w := w5) ⟨HR5.out.1, fun hn => by
            obtain ⟨b, o, e, _, hlt, hc⟩ := HR5.out.2 hn
            exact ⟨b, o, e, ⟨hn, o, e⟩, hlt, hc⟩⟩ hsf (fun b hb => ?_)) (fun b hb => .inl hb) (fun b hb => .inr hb)
          · obtain ⟨g1, g2, g3, g4, g5⟩ := HGS.out b hb
            exact (hkk b (by omega) g5 g4 g3).trans (hKw.out b g2)
          · have := hrk.out b hb
            exact hkk b this.2 (fun e => by have := hDin.out b e; omega) (fun e => by have := hrl b e; omega) (by omega)
        · intro b hb
          have hsf : w8.heap.size ≤ (w9.setCell ⟨gr, 2, none⟩ (.slice (some ⟨x0, 0, none⟩) x1 x2)).heap.size := by
            have := q2.size
            simp only [World.setCell, Array.size_modify]
            omega
          have hz := hbw9.size
          rcases hb with hb | hb
          · obtain ⟨g1, g2, g3, g4, g5⟩ := HGS.out b hb
            exact ⟨g1, by omega, g3, fun e => (q3 b e).elim (fun h => g4 h) (fun h => by omega), fun e => (hD7o.out b e).elim g5 (fun h => by omega)⟩
          · have hr := hrk.out b hb
            exact ⟨by omega, by omega, by omega, fun e => (q3 b e).elim (fun h => by have := hrl b h; omega) (fun h => by omega), fun e => (hD7o.out b e).elim (fun h => by have := hDin.out b h; omega) (fun h => by omega)⟩
      have HLA := Lib.hid hLA
      clear hLA q1 q2 q3 hd8 hd9 hB8 hX8 hrow8 hX9 hN8 hbw8 hbw9
      refine ⟨fun _ => hSS, ?_⟩
      refine R_put 66 rfl ?_
      simp only [zSA, zSB, zSC]
      refine R_run 8 67 (v := ptr gr) (w' := w9) rfl rfl (by rfl) (by kernel_rfl) (by go_simp) (fun h => nomatch h) ?_
      simp only [zSA, zSB, zSC]
      refine R_run 9 68 (v := .pointer (some ⟨gr, 2, none⟩)) (w' := w9) rfl rfl (by rfl) (by kernel_rfl) (by go_simp) (fun h => nomatch h) ?_
      simp only [zSA, zSB, zSC]
      refine R_store 10 (n := .skip) (w' := w9.setCell ⟨gr, 2, none⟩ (.slice (some ⟨x0, 0, none⟩) x1 x2)) rfl rfl (by rfl) (by kernel_rfl) (by go_simp) (.inl rfl) (fun h => nomatch h) ?_
      refine R_done (by kernel_rfl) ?_ _
      rename_i K9 hK9
      refine hK9 _ _ ?_
      go_wp2_with fail
      go_roundw
      case rel => exact ⟨k + 1, by omega, hmeas, by go_num, HLA.out⟩
      case measure => simp [intOf]; omega
    · obtain rfl : k = 7 := by omega
      obtain ⟨v, xs, DD, dk, hB, hrow, hd, hlk, hDs, hvg, hgr, hbr, Gs, hPR, hGs⟩ := HLk.out
      have HPR := Lib.hid hPR
      have HGS := Lib.hid hGs
      have HOW := Lib.hid (show ∀ b, v.ownBlock = some b → w.heap.size ≤ b from fun b hb => (hrow.lt b hb).1)
      have HVG := Lib.hid hvg
      clear hPR hGs
      have HLN := Lib.hid (log_new hd 0 8 1 (by omega) (by omega) (by rw [hlk.len]; omega) (by omega))
      have HPN := Lib.hid fun (gl : Nat) (W : World) => pool_new gd gl 8 44 n h1 h64 W
      clear HLk
      go_wp2_with fail
      refine HLN.out.mono ?_
      rintro e w4 ⟨rfl, hw4⟩
      have hLb := Blk.new wr 117 (lgCells gd 0 8 1 (.slice none 0 0) (.slice none 0 0) 110 110 110 0)
      have hb4 := (Below.refl wr.heap.size wr).alloc (Nat.le_refl _) (.cells (lgCells gd 0 8 1 (.slice none 0 0) (.slice none 0 0) 110 110 110 0) 117)
      have hgrl := hB.lt
      have hDl := hd.in_
      have hrl : ∀ b, v.ownBlock = some b → b < wr.heap.size := fun b hb => by
        obtain ⟨cur, hc⟩ := ownsRow_heap hrow hb
        exact (Array.getElem?_eq_some_iff.1 hc).1
      have hwr : w.heap.size ≤ wr.heap.size := hbr.size
      go_wp2_with fail
      refine (HPN.out wr.heap.size _).mono ?_
      rintro e w5 ⟨gp, F, rfl, hpl, hb5, hF⟩
      have hs4 := hb4.size
      have hLl := hLb.lt
      have hb45 : Below wr.heap.size wr w5 := hb4.trans (hb5.mono hs4)
      have hL5 := hLb.below hb5 hLl
      have hB5 := hB.below hb45 hgrl
      have hd5 := hd.below hb45
      have hrow5 := row_keep' (w' := w5) hrow (fun b hb => hb45.block b (hrl b hb))
      have hbw5 : Below w.heap.size w w5 := hbr.trans (hb45.mono hwr)
      have hs45 := hb45.size
      have hFl : ∀ b, F b → wr.heap.size + 1 ≤ b := fun b hb => by have := hF b hb; simpa using this
      have hpll := hpl.lt
      have HPL := Lib.hid hpl
      have hs5 : wr.heap.size < w5.heap.size := hL5.lt
      have HPR5 := Lib.hid (HPR.out.keep hs45 (fun b hb => hb45.block b (HGS.out b hb).2.1))
      clear HPR
      generalize wr.heap.size = gl at *
      clear hpl hb45 hb5 hb4 hLb hB hd hrow hbr HPN HLN hF
      go_wp2_with fail
      go_ret
      refine ⟨w5.heap.size, gr, gd, gl, gp, v, xs, DD, F, dk, rfl, Blk.new w5 _ _, hB5.alloc _, row_keep' hrow5 (fun b hb => Below.heap_alloc w5 _ b (by have := hrl b hb; omega)), hL5.alloc _, hd5.below ((Below.refl _ w5).alloc (Nat.le_refl _) _), hlk, HPL.out.below ((Below.refl _ w5).alloc (Nat.le_refl _) _), fun b hb hf => ?_, fun b hb => ?_, hbw5.alloc hbw5.size _, hwr, hs5, HVG.out, hgr, hgrl, fun b hb => ⟨HOW.out b hb, hrl b hb, fun e => (hDs b e).2.2 hb, fun e => by have := hFl b e; have := hrl b hb; omega⟩, Gs, HPR5.out.keep (Nat.le_of_lt (by simp)) (fun b hb => Below.heap_alloc w5 _ b (by have := (HGS.out b hb).2.1; omega)), fun b hb => ?_⟩
      · have := hDl b hb; have := hFl b hf; omega
      · rcases hb with hb | hb
        · have := hDl b hb
          exact ⟨(hDs b hb).1, by omega, (hDs b hb).2.1, by omega⟩
        · have := hpll b hb; have := hFl b hb
          exact ⟨by omega, by omega, by omega, by omega⟩
      · obtain ⟨g1, g2, g3, g4, g5⟩ := HGS.out b hb
        exact ⟨g1, g2, g3, g4, g5, fun e => by have := hFl b e; omega⟩
end Go.Proofs.YtndglfiepeefdaaGreat

/- Begun, without what the document's disk has. No walk. -/
namespace Go.Proofs.YtndglfiepeefdaaGreat
open Go.RowKit Go.Conc

theorem law_begun_new (n : Nat) (h1 : 1 ≤ n) (h64 : n ≤ 64) (w : World) : Calls Tryz.prog 8 #[.int .i64 n] w (BegunNew w n) := (law_begun_rows n h1 h64 w).mono fun _ _ h => h.new
theorem law_begun (n : Nat) (h1 : 1 ≤ n) (h64 : n ≤ 64) (w : World) : Calls Tryz.prog 8 #[.int .i64 n] w (BegunPost w n) := (law_begun_new n h1 h64 w).mono fun _ _ h => h.post
end Go.Proofs.YtndglfiepeefdaaGreat

/- The iterator of maps.Keys at uint32 keys (after the kit's worked proof at string keys): all keys come, each once. -/
namespace Go.Proofs.YtndglfiepeefdaaGreat
open Go.RowKit Go.Maps Go.Sort

theorem keyOf_u32 {P : Program} {k : TypeId} (hk : P.underlying k = some (.int .u32)) {key : Value} {kl : Lit} (h : keyOf P k key = some kl) : ∃ x : Nat, key = u32v x ∧ kl = uKey x ∧ x < 4294967296 := by
  cases key <;> simp [keyOf, hk, mapKey] at h
  rename_i q a
  obtain ⟨⟨rfl, hw⟩, rfl⟩ := h
  have e1 : IntKind.u32.min = 0 := rfl
  have e2 : IntKind.u32.max = 4294967295 := rfl
  simp [Lit.wf, e1, e2] at hw
  obtain ⟨x, rfl⟩ := Int.eq_ofNat_of_zero_le hw.1
  exact ⟨x, rfl, rfl, by omega⟩
theorem u32v_inj {x y : Nat} (h : u32v x = u32v y) : x = y := by
  simp only [u32v, Value.int.injEq, true_and] at h
  omega

/-- the keys that have come. -/
def CollectedU (D0 : DataW Unit) (left : Lit → Bool) (ss : List Nat) : Prop := ss.Nodup ∧ ∀ x, x ∈ ss ↔ (has D0 (uKey x) = true ∧ left (uKey x) = false)
section
variable {D0 : DataW Unit} {left : Lit → Bool} {ss : List Nat}
theorem CollectedU.start (D0 : DataW Unit) : CollectedU D0 (has D0) [] := ⟨List.nodup_nil, fun x => by cases has D0 (uKey x) <;> simp⟩
theorem CollectedU.step (h : CollectedU D0 left ss) {x : Nat} {y : DataW Unit} (hlk : left (uKey x) = true) (hat : ∀ zd, D0.atKey (uKey x) zd = y) : CollectedU D0 (fun z => left z && !z.sameKey (uKey x)) (ss ++ [x]) := by
  have hhas : has D0 (uKey x) = true := has_true_of_atKey hat
  have hnew : x ∉ ss := fun hx => by have := ((h.2 x).1 hx).2; rw [hlk] at this; cases this
  refine ⟨List.nodup_append.2 ⟨h.1, by simp, fun a ha b hb => by simp at hb; subst hb; exact fun e => hnew (e ▸ ha)⟩, fun y => ?_⟩
  by_cases hy : y = x
  · subst hy
    simp [hhas, WideAt.sameKey_self (uKey_lit y)]
  · have hs : (uKey y).sameKey (uKey x) = false := by
      cases he : (uKey y).sameKey (uKey x) with
      | false => rfl
      | true => exact absurd (uKey_inj ((WideAt.sameKey_iff (uKey_lit x)).1 he)) hy
    simp [h.2 y, hy, hs]
end

set_option maxRecDepth 100000 in
set_option maxHeartbeats 1000000 in
theorem keys1_u32 (F : Fence) (n : Nat) (h10 : F.fn 127) (hro : F.round = none) (hn : 1 ≤ n) (l Bm b nn : Nat) (D0 : DataW Unit) (J : List Nat → World → Prop)
    (hY : ∀ pre x W, J pre W → pre.length < Maps.size D0 → YieldAt F (n - 1) Tryz.prog l #[u32v x] W fun e W' => e = .returned (.bool true) ∧ J (pre ++ [x]) W' ∧ KeepsWalks W W')
    (W : World) (hJ : AbidesFrom W.heap.size J) (hm : W.cell? ⟨Bm, 0, none⟩ = some (.map (some b))) (hown : W.ownsMap Tryz.prog 28 (plainElem Tryz.prog 3) b nn D0) (h0 : J [] W) :
    CallsIn F n Tryz.prog 127 #[.func (.yield l) #[] #[], .pointer (some ⟨Bm, 0, none⟩)] W fun e W' => (∃ v, e = .returned v) ∧ ∃ ss : List Nat, (ss.Nodup ∧ ∀ x, x ∈ ss ↔ has D0 (uKey x) = true) ∧ J ss W' := by
  refine callsIn_of_wp Tryz.func127 rfl h10 ?_ hro
  simp only [Tryz.ntmps127, List.size_toArray, List.length_cons, List.length_nil, Nat.reduceAdd, Nat.reduceSub, Array.replicate_succ, Array.replicate_zero, List.push_toArray, List.append_toArray, List.nil_append, List.cons_append]
  gi_wp2_with (first
    | (gi_at_range; refine wpListIn_range_own _ rfl _ 106 rfl 28 3 (int_keyed Tryz.underlying28) Tryz.underlying106 _ b nn _ rfl hown ?_; intro w0 hrg0 hg0 hs0)
    | gi_in)
  go_frame
  gi_loopw [3] (fun _ wr => ∃ (left : Lit → Bool) (cnt : Nat) (ss : List Nat), wr.ranges Tryz.prog 28 (plainElem Tryz.prog 3) b W.heap.size nn D0 left cnt ∧ ss.length + cnt ≤ Maps.size D0 ∧ CollectedU D0 left ss ∧ J ss wr)
    (fun _ wr => wr.rangeLeft b W.heap.size)
  case atStart =>
    exact ⟨_, _, [], hrg0, by simp, CollectedU.start D0, hJ [] W w0 none h0 hg0 (fun r e => by cases e)⟩
  case round =>
    obtain ⟨left, cnt, ss, hrg, hcs, hC, hJs⟩ := hrel
    gi_wp2_with (first
      | (gi_at_next; refine wpListIn_next_ranges _ rfl _ rfl 28 (int_keyed Tryz.underlying28) (plainElem Tryz.prog 3) u32v (Value.int .i64) (fun key kl hk => by obtain ⟨x, hx, _⟩ := keyOf_u32 Tryz.underlying28 hk; exact ⟨x, hx⟩) (fun v y hv => by obtain ⟨c, rfl, _⟩ := plainElem_int_inv Tryz.underlying3 hv; exact ⟨c, rfl⟩) b W.heap.size nn _ _ _ rfl hrg ?_ ?_)
      | gi_in)
    · intro hc0 hl0
      gi_wp2
      go_end0
      exact ⟨⟨_, rfl⟩, ss, ⟨hC.1, fun x => by rw [hC.2 x, hl0]; simp⟩, hJs⟩
    · intro x c kl yd yp w2 cnt2 hkey hlk hv hat hrg2 hlt hg2 hs2 hen
      obtain ⟨x', ex, rfl, _⟩ := keyOf_u32 Tryz.underlying28 hkey
      obtain rfl : x = x' := u32v_inj ex
      have hJ2 : J ss w2 := hJ ss wr w2 (some W.heap.size) hJs hg2 (fun r e => by cases e; exact ⟨Nat.le_refl _, hrg.iter_walk⟩)
      obtain ⟨fn, tmps, assign, body, hy, hR⟩ := hY ss x w2 hJ2 (by omega)
      clear hs2
      gi_wp2
      refine hR.mono ?_
      rintro e W3 ⟨rfl, hJ3, hk3⟩
      gi_wp2
      have hrg3 := hrg2.of_walks hk3
      go_roundw
      case rel => exact ⟨_, cnt2, ss ++ [x], hrg3, by simp; omega, hC.step hlk hat, hJ3⟩
      case measure => rw [hrg3.left_eq, hrg.left_eq]; exact hlt
end Go.Proofs.YtndglfiepeefdaaGreat

/- slices.Collect, slices.Sorted of the keys of a map of uint32 (turned from the kit's worked proof at string keys, GgCollectAtTheDump). -/
namespace Go.Proofs.YtndglfiepeefdaaGreat
open Go.RowKit Go.Maps Go.Sort Go.Shelf


def apAssign : Code := (Code.region 2 #[{ dst := some 5, op := Op.assign (Operand.tmp 7), type := 28, pos := "iter.go:51", after := #[], guard := none }] false)
def apBody : Code := (Code.block 1 (Code.region 3 #[{ dst := some 8, op := Op.load 33 (Operand.tmp 2), type := 33, pos := "iter.go:52", after := #[], guard := none }, { dst := some 9, op := Op.move (Operand.tmp 5), type := 28, pos := "iter.go:52", after := #[], guard := none }, { dst := some 10, op := Op.buildSlice 33 1 #[(0, Operand.tmp 9)], type := 33, pos := "iter.go:52", after := #[{ on := 1, ground := Ground.data }], guard := none }, { dst := some 11, op := Op.call { callee := Callee.builtin Builtin.append, args := #[Operand.tmp 8, Operand.tmp 10], argTypes := #[33, 33] }, type := 33, pos := "iter.go:52", after := #[{ on := 0, ground := Ground.data }, { on := 2, ground := Ground.data }], guard := none }, { dst := none, op := Op.store 33 (Operand.tmp 2) (Operand.tmp 11), type := 0, pos := "iter.go:52", after := #[{ on := 3, ground := Ground.data }, { on := 3, ground := Ground.chain }, { on := 0, ground := Ground.phase }, { on := 1, ground := Ground.phase }, { on := 2, ground := Ground.phase }, { on := 3, ground := Ground.phase }], guard := none }] false))
/-- The loop's record: AppendSeq's temporaries as they stood at the entering: 's' boxed in block Bs; sv: the iterator's value. -/
def apRec (fn : FuncId) (sv : Value) (Bs D : Nat) (st : LoopState) (pend : Option Code) : Loop :=
  { state := st, pending := pend, fn, tmps := #[.slice none 0 0, sv, .pointer (some ⟨Bs, 0, none⟩), undef, .slice none 0 0, undef, sv, undef, undef, undef, undef, undef, undef], params := #[7], assign := apAssign, body := apBody, defers := D }

/-- BETWEEN TWO ROUNDS: the box holds a slice that owns, in a block of the call's own, what has come so far; IT IS nil JUST AS LONG AS NOTHING HAS COME; nothing that lay before the call has turned. -/
structure ApAt (w0 : World) (fn : FuncId) (sv : Value) (Bs l D : Nat) (ss : List Nat) (W : World) : Prop where
  box : ∃ v, W.heap[Bs]? = some (.cells #[v] 33 (0, 0)) ∧ W.ownsRow w0.heap.size 28 1 v ss.length (ss.map u32v) ∧ (v = .slice none 0 0 ↔ ss = [])
  L : W.heap[l]? = some (.loop (apRec fn sv Bs D .ready none))
  K : W.heap[D]? = some (.deferred (some []))
  below : Below w0.heap.size w0 W

theorem ap_abides (w0 : World) (fn : FuncId) (sv : Value) (Bs l D B : Nat) (hB : w0.heap.size ≤ B) : AbidesFrom B (ApAt w0 fn sv Bs l D) := fun s W W' row h hg hrow => by
  have hrow' : ∀ r, row = some r → ∃ o : Obj, W.heap[r]? = some o ∧ o.isWalk = true := fun r e => (hrow r e).2
  obtain ⟨v, hv, hr, hn⟩ := h.box
  exact ⟨⟨v, (grownBy_keeps hg hrow' hv rfl).trans hv, ownsRow_abides_a hr hg hrow', hn⟩, (grownBy_keeps hg hrow' h.L rfl).trans h.L, (grownBy_keeps hg hrow' h.K rfl).trans h.K,
    h.below.grown hg h.below.size (fun k e => Nat.le_trans hB (hrow k e).1)⟩

set_option maxRecDepth 100000 in
set_option maxHeartbeats 2000000 in
theorem apYield (F : Fence) (m : Nat) (w0 : World) (fn : FuncId) (hfn : F.fn fn) (sv : Value) (Bs l D : Nat) (hBl : Bs ≠ l) (hDl : D ≠ l) (hDB : D ≠ Bs) (h0B : w0.heap.size ≤ Bs) (h0l : w0.heap.size ≤ l)
    (N : Nat) (hN : N ≤ maxLen) (hNb : N * 4 ≤ 140737488355328) (ss : List Nat) (x : Nat) (W : World) (h : ApAt w0 fn sv Bs l D ss W) (hlen : ss.length < N) :
    YieldAt F m Tryz.prog l #[u32v x] W fun e W' => e = .returned (.bool true) ∧ ApAt w0 fn sv Bs l D (ss ++ [x]) W' ∧ KeepsWalks W W' := by
  obtain ⟨i0, hi, hz0, hz1, hz2⟩ := info_parts u32_info
  obtain ⟨v, hv, hrow, _⟩ := h.box
  refine ⟨fn, #[.slice none 0 0, sv, .pointer (some ⟨Bs, 0, none⟩), undef, .slice none 0 0, undef, sv, u32v x, undef, undef, undef, undef, undef], apAssign, apBody, by simpa [apRec] using run_yield (P := Tryz.prog) (args := #[u32v x]) h.L rfl, roundIn_of_wpIn hfn ?_⟩
  have hl : l < W.heap.size := (Array.getElem?_eq_some_iff.1 h.L).1
  have hbr := run_beginRound (P := Tryz.prog) h.L rfl
  obtain ⟨W2, hW2⟩ : ∃ W2, W.putObj l (.loop { apRec fn sv Bs D .ready none with state := .busy }) = W2 := ⟨_, rfl⟩
  rw [hW2] at hbr
  have hg2 : W.grownBy W2 (some l) := by rw [← hW2]; exact grownBy_putObj_a _ _ _
  have hk2 : KeepsWalks W W2 := by rw [← hW2]; exact KeepsWalks.putObj _ h.L rfl
  have hv2 : W2.heap[Bs]? = some (.cells #[v] 33 (0, 0)) := by rw [← hW2]; exact (World.putObj_heap_other hBl).trans hv
  have hK2 : W2.heap[D]? = some (.deferred (some [])) := by rw [← hW2]; exact (World.putObj_heap_other hDl).trans h.K
  have hL2 : W2.heap[l]? = some (.loop { apRec fn sv Bs D .ready none with state := .busy }) := by rw [← hW2]; exact World.putObj_heap_same hl
  have hrow2 : W2.ownsRow w0.heap.size 28 1 v ss.length (ss.map u32v) := hrow.kept hg2 (ownsRow_ne_a hrow h.L (fun cur e => by cases e))
  have hb2 : Below w0.heap.size w0 W2 := h.below.grown hg2 h.below.size (fun k e => by cases e; exact h0l)
  obtain ⟨hc2, hf2⟩ := cell_of_box_a hv2
  have hBlt : Bs < W2.heap.size := (Array.getElem?_eq_some_iff.1 hv2).1
  have hl2 : l < W2.heap.size := (Array.getElem?_eq_some_iff.1 hL2).1
  have hDlt : D < W2.heap.size := (Array.getElem?_eq_some_iff.1 hK2).1
  have ne_of : ∀ {j : Nat} {o : Obj}, W2.heap[j]? = some o → (∀ cur, o ≠ .cells cur 28 (0, 0)) → some j ≠ v.ownBlock := fun hj hno => by
    rcases ownsRow_ne_a hrow2 hj hno with e | e
    · rw [e]; simp
    · exact fun e' => e e'.symm
  clear hW2
  unfold apAssign
  gi_wp2_with (rw [Oper.semAt_eq _ _ _ (fun c h => by cases h)]; go_simp; try go_bits)
  unfold apBody
  gi_wp2_with (first
    | (gi_at_builtin; refine wpListIn_append_own _ rfl _ _ 33 rfl w0.heap.size 28 i0 (.int .u32 0) 1 4 Tryz.underlying33 hi hz0 hz1 hz2 rfl (by decide) _ _ _ rfl (hrow2.alloc _) ⟨W2.heap.size, 0, none⟩ 1 1 [u32v x] rfl rfl (cell_one_new _ _ _) (by simp [Value.oneCell', u32v]) (by omega) (by omega) (by have := hb2.size; simp; omega) ?_; intro v' w3 hown' hg3 hnil3
       have hv3 : w3.heap[Bs]? = some (.cells #[v] 33 (0, 0)) := (hg3.block Bs (by simp; omega) (ne_of hv2 (fun cur e => by cases e))).trans ((Below.heap_alloc _ _ Bs hBlt).trans hv2)
       obtain ⟨hc3, hf3⟩ := cell_of_box_a hv3
       obtain ⟨g', cap', cur', rfl, hbase', hgb', hr1, hr2, hr3, hr4⟩ : ∃ g' cap' cur', v' = .slice (some ⟨g', 0, none⟩) (ss.length + 1) cap' ∧ w0.heap.size ≤ g' ∧ w3.heap[g']? = some (.cells cur' 28 (0, 0)) ∧ ss.length + 1 ≤ cap' ∧ cap' ≤ maxLen ∧ cur'.size = cap' * 1 ∧ cur'.toList.take ((ss.length + 1) * 1) = ss.map u32v ++ [u32v x] := by
         rcases hown'.2 with ⟨_, h0⟩ | h'
         · exact absurd h0 (by omega)
         · exact h'
       go_frame)
    | (rw [Oper.semAt_eq _ _ _ (fun c h => by cases h)]; go_simp; try go_bits))
  have hg3' : (W2.alloc (.cells #[u32v x] 28)).grownBy w3 v.ownBlock := hg3
  have hL3 : w3.heap[l]? = some (.loop { apRec fn sv Bs D .ready none with state := .busy }) := (hg3'.block l (by simp; omega) (ne_of hL2 (fun cur e => by cases e))).trans ((Below.heap_alloc _ _ l hl2).trans hL2)
  have hK3 : w3.heap[D]? = some (.deferred (some [])) := (hg3'.block D (by simp; omega) (ne_of hK2 (fun cur e => by cases e))).trans ((Below.heap_alloc _ _ D hDlt).trans hK2)
  obtain ⟨w4, hw4⟩ : ∃ w4, w3.setCell ⟨Bs, 0, none⟩ (.slice (some ⟨g', 0, none⟩) (ss.length + 1) cap') = w4 := ⟨_, rfl⟩
  rw [hw4]
  have hg4 : w3.grownBy w4 (some Bs) := by rw [← hw4]; exact grownBy_setCell0_a _ _ _
  have hv4 : w4.heap[Bs]? = some (.cells #[.slice (some ⟨g', 0, none⟩) (ss.length + 1) cap'] 33 (0, 0)) := by rw [← hw4]; exact heap_setCell_box_a _ hv3
  have hL4 : w4.heap[l]? = some (.loop { apRec fn sv Bs D .ready none with state := .busy }) := (hg4.block l (Array.getElem?_eq_some_iff.1 hL3).1 (fun e => hBl (by cases e; rfl))).trans hL3
  have hK4 : w4.heap[D]? = some (.deferred (some [])) := (hg4.block D (Array.getElem?_eq_some_iff.1 hK3).1 (fun e => hDB (by cases e; rfl))).trans hK3
  have hrow4 := hown'.kept hg4 (ownsRow_ne_a hown' hv3 (fun cur e => by cases e))
  have hl4 : l < w4.heap.size := (Array.getElem?_eq_some_iff.1 hL4).1
  have hb3 : Below w0.heap.size w0 w3 := (hb2.alloc hb2.size _).grown hg3' (by have := hb2.size; simp; omega) (fun k e => (hrow2.lt k e).1)
  have hb4 : Below w0.heap.size w0 w4 := hb3.grown hg4 hb3.size (fun k e => by cases e; exact h0B)
  have hk4 : KeepsWalks W w4 := ((hk2.trans (KeepsWalks.alloc _ _)).trans (KeepsWalks.of_grownBy hg3' (ownsRow_not_walk_a (hrow2.alloc _)))).trans (by rw [← hw4]; exact KeepsWalks.setCell _ _ _)
  clear hw4
  refine ⟨_, _, run_endRound none hL4, rfl, ⟨⟨_, (World.putObj_heap_other hBl).trans hv4, ?_, by simp⟩, World.putObj_heap_same hl4, (World.putObj_heap_other hDl).trans hK4, hb4.grown (grownBy_putObj_a _ _ _) hb4.size (fun k e => by cases e; exact h0l)⟩, hk4.trans (KeepsWalks.putObj _ hL4 rfl)⟩
  have := hrow4.kept (grownBy_putObj_a w4 l (.loop { { apRec fn sv Bs D .ready none with state := .busy } with state := if (none : Option Code).isNone then .ready else .done, pending := none })) (ownsRow_ne_a hrow4 hL4 (fun cur e => by cases e))
  simpa using this

set_option maxRecDepth 100000 in
set_option maxHeartbeats 2000000 in
/-- **slices.AppendSeq(nil, seq), AGAINST WHATEVER ITERATOR VALUE THAT 'SeqGives'**: it hands back a slice that owns, in a block of the call's own, JUST WHAT THE ITERATOR GAVE, IN THAT ORDER; nil JUST WHERE IT GAVE NOTHING (as Go: 'slices.Collect' of nothing is nil); nothing that lay before the call has turned. -/
theorem appendSeq_in (F : Fence) (n : Nat) (h11 : F.fn 164) (hro : F.round = none) (hn : 2 ≤ n) (g : Nat) (lb : Array Value) (hFg : F.fn g) (eg : ∀ args w, (callFunc g args).run Tryz.prog w = .ok (.enter g args) w)
    (S : List Nat → Prop) (N : Nat) (hN : N ≤ maxLen) (hNb : N * 4 ≤ 140737488355328) (w : World) (hseq : SeqGives F (n - 1) Tryz.prog g lb u32v S N w) :
    CallsIn F n Tryz.prog 164 #[.slice none 0 0, .func (.func g) #[] lb] w fun e w' => ∃ (v : Value) (ss : List Nat), e = .returned v ∧ S ss ∧ w'.ownsRow w.heap.size 28 1 v ss.length (ss.map u32v) ∧ (v = .slice none 0 0 ↔ ss = []) ∧ Below w.heap.size w w' := by
  have h1 : 1 ≤ n := by omega
  refine callsIn_of_wp_marks Tryz.func164 rfl h11 ?_ hro
  simp only [Tryz.ntmps164, List.size_toArray, List.length_cons, List.length_nil, Nat.reduceAdd, Nat.reduceSub, Array.replicate_succ, Array.replicate_zero, List.push_toArray, List.append_toArray, List.nil_append, List.cons_append]
  gi_wp2
  refine wpIn_rangeFunc ?_
  intro fn hfn
  rw [hro]
  obtain ⟨W0, hW0⟩ : ∃ W0, w.alloc (.cells #[.slice none 0 0] 33) = W0 := ⟨_, rfl⟩
  have hs0 : W0.heap.size = w.heap.size + 1 := by rw [← hW0]; simp
  have hv0 : W0.heap[w.heap.size]? = some (.cells #[.slice none 0 0] 33 (0, 0)) := by rw [← hW0]; exact World.alloc_heap_new w _
  have hb0 : Below w.heap.size w W0 := by rw [← hW0]; exact (Below.refl _ w).alloc (Nat.le_refl _) _
  rw [hW0]
  obtain ⟨W1, hW1⟩ : ∃ W1, (W0.alloc (.deferred (some []))).alloc (.loop (apRec fn (.func (.func g) #[] lb) w.heap.size W0.heap.size .ready none)) = W1 := ⟨_, rfl⟩
  have hold : ∀ k, k < W0.heap.size → W1.heap[k]? = W0.heap[k]? := fun k hk => by
    rw [← hW1]; exact (Below.heap_alloc _ _ k (by simp; omega)).trans (Below.heap_alloc _ _ k hk)
  have hb1 : Below w.heap.size w W1 := by rw [← hW1]; exact (hb0.alloc hb0.size _).alloc (by have := hb0.size; simp; omega) _
  have hs1 : W1.heap.size = W0.heap.size + 2 := by rw [← hW1]; simp
  have hM : ApAt w fn (.func (.func g) #[] lb) w.heap.size (W0.heap.size + 1) W0.heap.size [] W1 :=
    ⟨⟨_, (hold w.heap.size (by omega)).trans hv0, ⟨rfl, .inl ⟨rfl, rfl⟩⟩, by simp⟩,
     by rw [← hW1]; have := World.alloc_heap_new (W0.alloc (.deferred (some []))) (.loop (apRec fn (.func (.func g) #[] lb) w.heap.size W0.heap.size .ready none)); rwa [World.size_alloc] at this,
     by rw [← hW1]; exact (Below.heap_alloc _ _ _ (by simp)).trans (World.alloc_heap_new W0 _), hb1⟩
  refine ⟨W0.heap.size + 1, [{ target := .collected W0.heap.size, args := #[] }], W1, { target := .fn (.func g) lb, args := #[.func (.yield (W0.heap.size + 1)) #[] #[]] }, W1, g,
    #[.func (.yield (W0.heap.size + 1)) #[] #[]] ++ lb, W1, ?_, ?_, ?_, ?_, fun _ => h1, ?_⟩
  · rw [← hW1]; exact run_enterLoop_outer _ _ _ _ _
  · simp [resolve, go_sem]
  · intro f' hf'; simp [Target.leads] at hf'; subst hf'; exact hFg
  · simp [invoke, go_sem, eg]
  · refine (hseq (W0.heap.size + 1) (ApAt w fn (.func (.func g) #[] lb) w.heap.size (W0.heap.size + 1) W0.heap.size) W1 hb1 (ap_abides _ _ _ _ _ _ _ hb1.size)
      (fun pre x W hJ hl => apYield F (n - 1 - 1) w fn hfn _ w.heap.size (W0.heap.size + 1) W0.heap.size (by omega) (by omega) (by omega) (Nat.le_refl _) (by omega) N hN hNb pre x W hJ hl) hM).mono ?_
    rintro e W2 ⟨⟨v0, rfl⟩, ss, hS, h2⟩
    obtain ⟨v, hv, hrow, hnil⟩ := h2.box
    have hend := run_endLoop (P := Tryz.prog) h2.L (by simp [apRec])
    obtain ⟨W3, hW3⟩ : ∃ W3, W2.putObj (W0.heap.size + 1) (.loop { apRec fn (.func (.func g) #[] lb) w.heap.size W0.heap.size .ready none with state := .exhausted }) = W3 := ⟨_, rfl⟩
    rw [hW3] at hend
    have hg3 : W2.grownBy W3 (some (W0.heap.size + 1)) := by rw [← hW3]; exact grownBy_putObj_a _ _ _
    have hv3 : W3.heap[w.heap.size]? = some (.cells #[v] 33 (0, 0)) := by rw [← hW3]; exact (World.putObj_heap_other (by omega)).trans hv
    have hK3 : W3.heap[W0.heap.size]? = some (.deferred (some [])) := by rw [← hW3]; exact (World.putObj_heap_other (by omega)).trans h2.K
    have hrow3 := hrow.kept hg3 (ownsRow_ne_a hrow h2.L (fun cur e => by cases e))
    have hb3 : Below w.heap.size w W3 := h2.below.grown hg3 h2.below.size (fun k e => by cases e; omega)
    obtain ⟨hc3, hf3⟩ := cell_of_box_a hv3
    clear hW3
    refine ⟨none, W3, hend, ?_⟩
    gi_wp2
    rw [← hs0]
    refine ⟨by simp, .inl ⟨_, _, rfl, run_takeDeferred hK3, ?_⟩⟩
    exact ⟨_, results_tmp rfl _ _ _, v, ss, rfl, hS, hrow3.kept (grownBy_putObj_a _ _ _) (ownsRow_ne_a hrow3 hK3 (fun cur e => by cases e)), hnil, hb3.grown (grownBy_putObj_a _ _ _) hb3.size (fun k e => by cases e; omega)⟩

set_option maxHeartbeats 1000000 in
/-- **slices.Collect(seq), AGAINST WHATEVER ITERATOR VALUE.** -/
theorem collect_in (F : Fence) (n : Nat) (h8 : F.fn 126) (h11 : F.fn 164) (hro : F.round = none) (hn : 3 ≤ n) (g : Nat) (lb : Array Value) (hFg : F.fn g) (eg : ∀ args w, (callFunc g args).run Tryz.prog w = .ok (.enter g args) w)
    (S : List Nat → Prop) (N : Nat) (hN : N ≤ maxLen) (hNb : N * 4 ≤ 140737488355328) (w : World) (hseq : SeqGives F (n - 1 - 1) Tryz.prog g lb u32v S N w) :
    CallsIn F n Tryz.prog 126 #[.func (.func g) #[] lb] w fun e w' => ∃ (v : Value) (ss : List Nat), e = .returned v ∧ S ss ∧ w'.ownsRow w.heap.size 28 1 v ss.length (ss.map u32v) ∧ (v = .slice none 0 0 ↔ ss = []) ∧ Below w.heap.size w w' := by
  have h1 : 1 ≤ n := by omega
  refine callsIn_of_wp Tryz.func126 rfl h8 ?_ hro
  simp only [Tryz.ntmps126, List.size_toArray, List.length_cons, List.length_nil, Nat.reduceAdd, Nat.reduceSub, Array.replicate_succ, Array.replicate_zero, List.push_toArray, List.append_toArray, List.nil_append, List.cons_append]
  gi_wp2_with (gi_at_call 164; refine (appendSeq_in F (n - 1) h11 hro (by omega) g lb hFg eg S N hN hNb _ hseq).mono ?_; rintro e w' ⟨v, ss, rfl, hS, hrow, hnil, hb⟩)
  go_ret
  exact ⟨v, ss, rfl, hS, hrow, hnil, hb⟩

end Go.Proofs.YtndglfiepeefdaaGreat

/- The walk of package pool: Pages. -/
namespace Go.Proofs.YtndglfiepeefdaaGreat
open Go.RowKit Go.Maps Go.Sort

set_option maxRecDepth 100000 in
theorem keys_u32 (F : Fence) (n : Nat) (h7 : F.fn 78) (hro : F.round = none) (mb : Option Nat) (w : World) :
    CallsIn F n Tryz.prog 78 #[.map mb] w fun e w' => e = .returned (.func (.func 127) #[] #[.pointer (some ⟨w.heap.size, 0, none⟩)]) ∧ w' = w.alloc (.cells #[.map mb] 106) := by
  refine callsIn_of_wp Tryz.func78 rfl h7 ?_ hro
  simp only [Tryz.ntmps78, List.size_toArray, List.length_cons, List.length_nil, Nat.reduceAdd, Nat.reduceSub, Array.replicate_succ, Array.replicate_zero, List.push_toArray, List.append_toArray, List.nil_append, List.cons_append]
  gi_wp2
  go_ret
  exact ⟨rfl, rfl⟩

theorem keys_gives (F : Fence) (n : Nat) (h10 : F.fn 127) (hro : F.round = none) (hn : 1 ≤ n) (Bm b nn : Nat) (D0 : DataW Unit) (w : World) (hBm : Bm < w.heap.size)
    (hm : w.cell? ⟨Bm, 0, none⟩ = some (.map (some b))) (hown : w.ownsMap Tryz.prog 28 (plainElem Tryz.prog 3) b nn D0) :
    SeqGives F n Tryz.prog 127 #[.pointer (some ⟨Bm, 0, none⟩)] u32v (fun ss => ss.Nodup ∧ ∀ x, x ∈ ss ↔ has D0 (uKey x) = true) (Maps.size D0) w := fun l J W hW hJ hY h0 => by
  have hown' : W.ownsMap Tryz.prog 28 (plainElem Tryz.prog 3) b nn D0 := by
    have hbl := hown.lt
    obtain ⟨es, clock, hb, Ft, hs, hD⟩ := hown
    exact ⟨es, clock, (hW.block b hbl).trans hb, Ft, hs, hD⟩
  exact keys1_u32 F n h10 hro hn l Bm b nn D0 J hY W hJ ((hW.cell (p := ⟨Bm, 0, none⟩) hBm).trans hm) hown' h0

theorem insertion_nil (p : Option Addr) (cap : Nat) (w : World) :
    Calls Tryz.prog 174 #[.slice p 0 cap, .int .i64 0, .int .i64 0] w fun e w' => e = .returned (.tuple #[]) ∧ w' = w := by
  go_enter Tryz.func174, Tryz.ntmps174
  go_wp2_with fail
  refine wp_loop_rounds 1 ?_
  rw [rounds_succ]
  go_wp2_with fail
  go_end0
  exact ⟨rfl, rfl⟩
set_option maxRecDepth 100000 in
theorem pdq_nil (p : Option Addr) (cap : Nat) (w : World) (lim : Int) :
    Calls Tryz.prog 156 #[.slice p 0 cap, .int .i64 0, .int .i64 0, .int .i64 lim] w fun e w' => e = .returned (.tuple #[]) ∧ w' = w := by
  have HI := Lib.hid (insertion_nil p cap w)
  go_enter Tryz.func156, Tryz.ntmps156
  go_wp2_with fail
  refine wp_loop_rounds 1 ?_
  rw [rounds_succ]
  go_wp2_with fail
  refine HI.out.mono ?_
  rintro e w1 ⟨rfl, hw⟩
  subst w1
  go_wp2_with fail
  refine bodyPost_ret (results_none rfl _ _ _) rfl ?_
  exact ⟨rfl, rfl⟩
set_option maxRecDepth 100000 in
theorem sort_nil (p : Option Addr) (cap : Nat) (w : World) :
    Calls Tryz.prog 118 #[.slice p 0 cap] w fun e w' => e = .returned (.tuple #[]) ∧ w' = w := by
  have HP := Lib.hid (pdq_nil p cap w)
  have HL := Lib.hid fun (x : Int) (W : World) (h0 : 0 ≤ x) (h1 : x ≤ 18446744073709551615) => Tryz.bits_Len x W h0 h1
  go_enter Tryz.func118, Tryz.ntmps118
  go_wp2_with fail
  refine (HL.out _ _ (by omega) (by omega)).mono ?_
  rintro e w1 ⟨rfl, hw⟩
  subst w1
  go_wp2_with fail
  refine (HP.out _).mono ?_
  rintro e w1 ⟨rfl, hw⟩
  subst w1
  go_wp2_with fail
  go_end0
  exact ⟨rfl, rfl⟩

set_option maxRecDepth 100000 in
/-- slices.Sorted(maps.Keys(m)). -/
theorem sorted_u32 {w : World} {Bm b m : Nat} {lk : Nat → Option Nat} (hm : w.cell? ⟨Bm, 0, none⟩ = some (.map (some b))) (hBm : Bm < w.heap.size) (hM : UMap Tryz.prog 28 3 w b m lk) (h12 : m ≤ 12) :
    Calls Tryz.prog 77 #[.func (.func 127) #[] #[.pointer (some ⟨Bm, 0, none⟩)]] w fun e w' =>
      ∃ v ss, e = .returned v ∧ ss.Nodup ∧ (∀ x, x ∈ ss ↔ (lk x).isSome) ∧ w'.ownsRow w.heap.size 28 1 v ss.length ((Sp.sorted ss).map u32v) ∧ Below w.heap.size w w' := by
  obtain ⟨D, hown, hsz, hlk⟩ := hM
  have hseq := keys_gives Fence.wide (5 - 1 - 1) trivial rfl (by omega) Bm b m D w hBm hm hown
  have HC := Lib.hid (callsIn_wide.1 (collect_in Fence.wide 5 trivial trivial rfl (by omega) 127 _ trivial (enters_of Tryz.func127 (by kernel_rfl) rfl) _ (Maps.size D) (by unfold maxLen; omega) (by omega) w hseq.bounded))
  go_enter Tryz.func77, Tryz.ntmps77
  go_wp2_with fail
  refine HC.out.mono ?_
  rintro e w1 ⟨v, ss, rfl, ⟨⟨hnd, hS⟩, hlen⟩, hrow, hnil, hb⟩
  have hS' : ∀ x, x ∈ ss ↔ (lk x).isSome := fun x => by
    rw [hS x]
    cases hl : lk x with
    | none => simp [(hlk x).2 hl]
    | some i => simp [((hlk x).1 i hl).1]
  rcases hrow.2 with ⟨rfl, h0⟩ | ⟨g, cap, cur, rfl, hbg, hh, r1, r2, r3, r4⟩
  · have he : ss = [] := List.eq_nil_of_length_eq_zero h0
    subst he
    have HN := Lib.hid (sort_nil none 0 w1)
    go_wp2_with fail
    refine HN.out.mono ?_
    rintro e w2 ⟨rfl, hw⟩
    subst w2
    go_wp2_with fail
    go_ret
    have e0 : Sp.sorted [] = [] := List.eq_nil_of_length_eq_zero (by rw [(Sp.sorted_spec []).1.length_eq]; rfl)
    exact ⟨.slice none 0 0, [], rfl, hnd, hS', by rw [e0]; exact World.ownsRow_nil _ _ _ _, hb⟩
  · have hcj : ∀ j, j < ss.length → cur[j]? = some (u32v ss[j]!) := fun j hj => by
      have := congrArg (fun l => l[j]?) r4
      simp only [Nat.mul_one, List.getElem?_take, hj, if_true] at this
      rw [Array.getElem?_toList] at this
      rw [this]
      simp [hj]
    have HS := Lib.hid (sort_row (cap := cap) (show Blk w1 g 28 cur from hh) (by omega) hcj)
    have hlen2 : (Sp.sorted ss).length = ss.length := (Sp.sorted_spec ss).1.length_eq
    go_wp2_with fail
    refine HS.out.mono ?_
    rintro e w2 ⟨rfl, cs', hB', hsz', hc', hg'⟩
    go_wp2_with fail
    go_ret
    refine ⟨.slice (some ⟨g, 0, none⟩) ss.length cap, ss, rfl, hnd, hS', ⟨by simp [hlen2], .inr ⟨g, cap, cs', rfl, hbg, hB', r1, r2, by rw [hsz']; exact r3, ?_⟩⟩, hb.grown hg' hb.size (fun k e => by injection e with e; omega)⟩
    apply List.ext_getElem?
    intro j
    rw [Nat.mul_one, List.getElem?_take]
    split
    · rename_i hj
      rw [Array.getElem?_toList, hc' j hj, List.getElem?_map, List.getElem?_eq_getElem (by omega), getElem!_pos _ j (by omega)]
      rfl
    · rename_i hj
      rw [List.getElem?_eq_none (by simp; omega)]

theorem row_mono2 {w : World} {base base' : Nat} {e : TypeId} {sz : Nat} {v : Value} {n : Nat} {xs : List Value} (h : w.ownsRow base e sz v n xs) (hb : base' ≤ base) : w.ownsRow base' e sz v n xs := by
  refine ⟨h.1, ?_⟩
  rcases h.2 with h' | ⟨b, cap, cur, rfl, hbb, rest⟩
  · exact .inl h'
  · exact .inr ⟨b, cap, cur, rfl, Nat.le_trans hb hbb, rest⟩
theorem Sp.sorted_perm {l l' : List Nat} (h : l.Perm l') : Sp.sorted l = Sp.sorted l' :=
  List.Perm.eq_of_pairwise (le := fun a b => a ≤ b) (fun _ _ _ _ h1 h2 => Nat.le_antisymm h1 h2) (Sp.sorted_spec l).2 (Sp.sorted_spec l').2 (((Sp.sorted_spec l).1.trans h).trans (Sp.sorted_spec l').1.symm)

set_option maxRecDepth 100000 in
set_option maxHeartbeats 1000000 in
theorem pool_pages {F : Foot} {w : World} {gp gd gl at_ base : Nat} {p : Sp.Pl} (h : IsPl F w gp gd gl at_ base p) (h12 : p.n ≤ 12) :
    Calls Tryz.prog 26 #[ptr gp] w fun e w' => ∃ v, e = .returned v ∧ w'.ownsRow w.heap.size 28 1 v p.items.length ((Sp.sorted (p.items.map (·.page.id))).map u32v) ∧ Below w.heap.size w w' := by
  obtain ⟨R, fb, cb, mb, v, s, r, cs, h⟩ := h
  obtain ⟨c0, c1, c2, c3, c4, c5, c6, c7⟩ := h.cells
  have HM := Lib.hid (pool_made c6)
  have hlen := h.wf.len
  have HK := Lib.hid (callsIn_wide.1 (keys_u32 Fence.wide 5 trivial rfl (some mb) w))
  have hb0 := (Below.refl w.heap.size w).alloc (Nat.le_refl _) (.cells #[.map (some mb)] 106)
  have HS := Lib.hid (sorted_u32 (w := w.alloc (.cells #[.map (some mb)] 106)) (Bm := w.heap.size) (((Blk.new w 106 #[.map (some mb)]).cell 0).trans rfl) (by simp) (h.map.alloc (.cells #[.map (some mb)] 106)) (by omega))
  have hwf := h.wf
  clear h c0 c1 c2 c3 c4 c5 c7
  go_enter Tryz.func26, Tryz.ntmps26
  go_wp2_with fail
  refine HM.out.mono ?_
  rintro e w1 ⟨rfl, hw⟩
  subst w1
  go_wp2_with fail
  refine HK.out.mono ?_
  rintro e w1 ⟨rfl, hw⟩
  subst w1
  go_wp2_with fail
  refine HS.out.mono ?_
  rintro e w2 ⟨v2, ss, rfl, hnd, hS, hrow, hb⟩
  have hperm : ss.Perm (p.items.map (·.page.id)) := (List.perm_ext_iff_of_nodup hnd hwf.ids).2 fun x => by
    rw [hS x]
    unfold Sp.Pl.lk
    rw [Option.isSome_map, List.mem_map]
    constructor
    · intro hx
      obtain ⟨it, hit⟩ := Option.isSome_iff_exists.1 hx
      obtain ⟨h1, h2⟩ := Sp.Pl.find_mem hit
      exact ⟨it, h1, h2⟩
    · rintro ⟨it, hit, rfl⟩
      rw [Sp.Pl.find_of hwf hit]; rfl
  have hl2 : ss.length = p.items.length := by rw [hperm.length_eq, List.length_map]
  rw [Sp.sorted_perm hperm, hl2] at hrow
  go_wp2_with fail
  go_ret
  exact ⟨v2, rfl, row_mono2 hrow (by simp), hb0.trans (hb.mono (by simp))⟩
end Go.Proofs.YtndglfiepeefdaaGreat

/- A pool of the law pentimentolaw15 whose pages stand as they were laid first: its rows as a plain list of (page, how often pinned). -/
namespace Go.Proofs.YtndglfiepeefdaaGreat
open Go.RowKit

namespace Sp
/-- all pages clean, and as they were laid first. -/
def Pl.fresh (p : Pl) : Prop := ∀ it ∈ p.items, it.dirty = false ∧ it.page = first it.page.id ∧ 1 ≤ it.page.id ∧ it.page.id ≤ 6
end Sp
end Go.Proofs.YtndglfiepeefdaaGreat

/- The walks of package pool: Pins. -/
namespace Go.Proofs.YtndglfiepeefdaaGreat
open Go.RowKit Go.Conc

set_option maxRecDepth 100000 in
set_option maxHeartbeats 1000000 in
theorem pool_pins_in {F : Foot} {w : World} {gp gd gl at_ base : Nat} {p : Sp.Pl} (h : IsPl F w gp gd gl at_ base p) {id : Nat} (hid : id < 4294967296) {it : Sp.It} (hf : p.find id = some it) :
    Calls Tryz.prog 24 #[ptr gp, u32v id] w fun e w' => e = .returned (.int .i64 it.pins) ∧ w' = w := by
  obtain ⟨R, fb, cb, mb, v, s, r, cs, h⟩ := h
  obtain ⟨c0, c1, c2, c3, c4, c5, c6, c7⟩ := h.cells
  have HM := Lib.hid (pool_made c6)
  have hl := h.look_in hid hf
  have hit := (Sp.Pl.find_mem hf).1
  have hlt := h.wf.idx_lt hit
  have cp := h.pins hit
  have hn := h.wf.n64
  clear h c0 c1 c2 c3 c5 c7 hf hit
  go_enter Tryz.func24, Tryz.ntmps24
  go_wp2_with fail
  refine HM.out.mono ?_
  rintro e w1 ⟨rfl, hw⟩
  subst w1
  go_wp2_with fail
  go_ret
  exact ⟨rfl, rfl⟩

set_option maxRecDepth 100000 in
set_option maxHeartbeats 1000000 in
theorem pool_pins_out {F : Foot} {w : World} {gp gd gl at_ base : Nat} {p : Sp.Pl} (h : IsPl F w gp gd gl at_ base p) {id : Nat} (hid : id < 4294967296) (hf : p.find id = none) :
    Calls Tryz.prog 24 #[ptr gp, u32v id] w fun e w' => e = .returned (.int .i64 0) ∧ w' = w := by
  obtain ⟨R, fb, cb, mb, v, s, r, cs, h⟩ := h
  obtain ⟨c0, c1, c2, c3, c4, c5, c6, c7⟩ := h.cells
  have HM := Lib.hid (pool_made c6)
  have hl := h.look_out hid hf
  clear h c0 c1 c2 c3 c5 c7 hf
  go_enter Tryz.func24, Tryz.ntmps24
  go_wp2_with fail
  refine HM.out.mono ?_
  rintro e w1 ⟨rfl, hw⟩
  subst w1
  go_wp2_with fail
  go_ret
  exact ⟨rfl, rfl⟩
end Go.Proofs.YtndglfiepeefdaaGreat

/- A pool of the law pentimentolaw15 in memory, and what its calls do to the plain list. -/
namespace Go.Proofs.YtndglfiepeefdaaGreat
open Go.RowKit

/-- A pool (block gp), its disk (block gd); the blocks of K are none of theirs. -/
def LpAt (K : Foot) (w : World) (gd gl gp n : Nat) (L : List (Nat × Nat)) : Prop :=
  ∃ (p : Sp.Pl) (D F : Foot) (dk : Sp.Dk), IsDk D w gd dk ∧ LawDk dk 7 ∧ IsPl F w gp gd gl 8 44 p ∧ p.n = n ∧ p.fresh ∧ p.abs = L ∧ (∀ b, D b → ¬ F b) ∧ (∀ b, D b ∨ F b → ¬ K b) ∧ (∀ b, K b → b < w.heap.size)

theorem lp_make {K : Foot} {w w' : World} {gd gl gp n : Nat} {p' : Sp.Pl} {D F F' : Foot} {dk : Sp.Dk} (hd : IsDk D w gd dk) (hlk : LawDk dk 7) (hpl : IsPl F' w' gp gd gl 8 44 p') (hn : p'.n = n) (hfr : p'.fresh) (hDF : ∀ b, D b → ¬ F b) (hK : ∀ b, D b ∨ F b → ¬ K b)
    (hb : ∀ b, K b → b < w.heap.size) (ht : Turns F F' w w') : LpAt K w' gd gl gp n p'.abs := by
  have hin := hd.in_
  refine ⟨p', D, F', dk, hd.keep (fun b hD => ht.block b (hin b hD) (hDF b hD)), hlk, hpl, hn, hfr, rfl, fun b hD hF => ?_, fun b h hk => ?_, fun b h => Nat.lt_of_lt_of_le (hb b h) ht.size⟩
  · rcases ht.foot b hF with h | h
    · exact hDF b hD h
    · have := hin b hD; omega
  · rcases h with h | h
    · exact hK b (.inl h) hk
    · rcases ht.foot b h with h | h
      · exact hK b (.inr h) hk
      · have := hb b hk; omega

theorem lp_len {K : Foot} {w : World} {gd gl gp n : Nat} {L : List (Nat × Nat)} (h : LpAt K w gd gl gp n L) : L.length ≤ n ∧ (L.map (·.1)).Nodup ∧ ∀ x ∈ L, 1 ≤ x.1 ∧ x.1 ≤ 6 := by
  obtain ⟨p, D, F, dk, hd, hlk, hpl, rfl, hfr, rfl, hDF, hb0⟩ := h
  have hl := hpl.wf.len
  have hids := hpl.wf.ids
  refine ⟨by simp [Sp.Pl.abs]; omega, ?_, fun x hx => ?_⟩
  · have e1 : p.abs.map (·.1) = p.items.map (·.page.id) := by simp [Sp.Pl.abs, Function.comp]
    rw [e1]; exact hids
  · obtain ⟨it, hit, rfl⟩ := List.mem_map.1 hx
    exact ⟨(hfr it hit).2.2.1, (hfr it hit).2.2.2⟩

/-- The blocks made meanwhile are none of theirs. -/
theorem LpAt.more {K K' : Foot} {w w' : World} {gd gl gp n : Nat} {L : List (Nat × Nat)} (h : LpAt K w gd gl gp n L) (hb : Below w.heap.size w w') (hK : ∀ b, K' b → K b ∨ (w.heap.size ≤ b ∧ b < w'.heap.size)) : LpAt K' w' gd gl gp n L := by
  obtain ⟨p, D, F, dk, hd, hlk, hpl, hn, hfr, hL, hDF, hb0, hKl⟩ := h
  have hin := hd.in_
  have hlt := hpl.lt
  refine ⟨p, D, F, dk, hd.below hb, hlk, hpl.below hb, hn, hfr, hL, hDF, fun b h hk => ?_, fun b hk => ?_⟩
  · rcases hK b hk with h' | h'
    · exact hb0 b h h'
    · rcases h with h | h
      · have := hin b h; omega
      · have := hlt b h; omega
  · rcases hK b hk with h' | h'
    · exact Nat.lt_of_lt_of_le (hKl b h') hb.size
    · exact h'.2
theorem LpAt.below {K : Foot} {w w' : World} {gd gl gp n : Nat} {L : List (Nat × Nat)} (h : LpAt K w gd gl gp n L) (hb : Below w.heap.size w w') : LpAt K w' gd gl gp n L := h.more hb (fun _ h => .inl h)
theorem LpAt.lt {K : Foot} {w : World} {gd gl gp n : Nat} {L : List (Nat × Nat)} (h : LpAt K w gd gl gp n L) : ∀ b, K b → b < w.heap.size := by
  obtain ⟨p, D, F, dk, _, _, _, _, _, _, _, _, h⟩ := h
  exact h

/-- What Pin answers, and leaves. -/
def PinLp (K : Foot) (w : World) (gd gl gp n : Nat) (L : List (Nat × Nat)) (k : Nat) (e : Ending) (w' : World) : Prop :=
  Kept K w w' ∧ ((Sp.aPin n L k = none ∧ e = .returned (.tuple #[zeroPgV, .int .i64 4]) ∧ LpAt K w' gd gl gp n L) ∨
    ∃ L' A c, Sp.aPin n L k = some L' ∧ e = .returned (.tuple #[pgV (Sp.first k) A c, .int .i64 0]) ∧ OkAddr A ∧ RowsAt (fun b => w.heap.size ≤ b) w' A (Sp.first k).rows ∧ LpAt K w' gd gl gp n L')

theorem lp_pin {K : Foot} {w : World} {gd gl gp n : Nat} {L : List (Nat × Nat)} (h : LpAt K w gd gl gp n L) {k : Nat} (h1 : 1 ≤ k) (h6 : k ≤ 6) (hs : ∀ x ∈ L, x.2 < 1000000) :
    Calls Tryz.prog 11 #[ptr gp, u32v k] w (PinLp K w gd gl gp n L k) := by
  obtain ⟨p, D, F, dk, hd, hlk, hpl, rfl, hfr, rfl, hDF, hb0, hKl⟩ := h
  have hwf := hpl.wf
  cases hf : p.find k with
  | some it =>
    obtain ⟨hit, hk⟩ := Sp.Pl.find_mem hf
    have hpg : it.page = Sp.first k := by rw [← hk]; exact (hfr it hit).2.1
    have hsm := hs (it.page.id, it.pins) (List.mem_map.2 ⟨it, hit, rfl⟩)
    have hsm : it.pins < 1000000 := hsm
    refine (pool_pin_in' hpl (by omega) hf (by omega)).mono ?_
    rintro e w' ⟨F', A, c, rfl, hA, hR, h', ht⟩
    rw [hpg] at hR ⊢
    have hfr' : ((p.pinUp k).last k).fresh := fun y hy => by
      have hy' := (Sp.Pl.last_perm (p.pinUp k) k).mem_iff.1 hy
      obtain ⟨x, hx, rfl⟩ := Sp.Pl.upd_mem hy'
      split <;> exact hfr x hx
    refine ⟨Kept.of_turns ht (fun b hk => ⟨hKl b hk, fun hF => hb0 b (.inr hF) hk⟩), .inr ⟨Sp.aUp p.abs k, A, c, ?_, rfl, hA, hR.mono (fun b hb => hb.1), ?_⟩⟩
    · unfold Sp.aPin
      rw [if_pos (Sp.aHas_iff.2 (by rw [hf]; rfl))]
    · rw [← Sp.abs_last]
      exact lp_make hd hlk h' rfl hfr' hDF hb0 hKl ht
  | none =>
    have hno : Sp.aHas p.abs k = false := by
      cases ha : Sp.aHas p.abs k with
      | false => rfl
      | true => rw [Sp.aHas_iff, hf] at ha; cases ha
    have hlen : p.abs.length = p.items.length := by simp [Sp.Pl.abs]
    have hwl := hwf.len
    refine (pool_pin_out' (x := Sp.first k) hpl (fun it hit => (hfr it hit).1) (Sp.first_ok h1 (by omega)) hf hd (by rw [hlk.fuse]; decide) hlk.loose (by rw [hlk.len]; show 44 + k * 4 + 4 ≤ 72; omega) (hlk.page k h1 (by omega))).mono ?_
    rintro e w' (⟨rfl, hfree, hall, h', ht⟩ | ⟨F', A, c, p', i, rest, rfl, hA, hR, hfree, hnone, h', ht, hp'⟩)
    · refine ⟨Kept.of_turns ht (fun b hk => ⟨hKl b hk, fun hF => hb0 b (.inr hF) hk⟩), .inl ⟨?_, rfl, lp_make hd hlk h' rfl hfr hDF hb0 hKl ht⟩⟩
      unfold Sp.aPin
      rw [hfree, List.length_nil] at hwl
      rw [hno, if_neg (by simp), if_neg (by omega), Sp.aDrop_none _ (fun y hy => by
        obtain ⟨it, hit, rfl⟩ := List.mem_map.1 hy
        exact hall it hit)]
      rfl
    · have hsub : ∀ y ∈ p'.items, y ∈ p.items := by
        rcases hp' with rfl | ⟨_, pre, it, post, _, _, _, rfl⟩
        · exact fun y hy => hy
        · exact fun y hy => (List.mem_filter.1 hy).1
      have hfr' : ((p'.bring (Sp.first k) i rest).pinUp k).fresh := fun y hy => by
        obtain ⟨x, hx, rfl⟩ := Sp.Pl.upd_mem hy
        have hx' : x.dirty = false ∧ x.page = Sp.first x.page.id ∧ 1 ≤ x.page.id ∧ x.page.id ≤ 6 := by
          rcases List.mem_append.1 hx with hx | hx
          · exact hfr x (hsub x hx)
          · rw [List.mem_singleton.1 hx]
            exact ⟨rfl, rfl, h1, h6⟩
        split <;> exact hx'
      have hpn : p'.n = p.n := by
        rcases hp' with rfl | ⟨_, pre, it, post, _, _, _, rfl⟩ <;> rfl
      have habs : Sp.aPin p.n p.abs k = some (p'.abs ++ [(k, 1)]) := by
        unfold Sp.aPin
        rw [hno, if_neg (by simp)]
        rcases hp' with rfl | ⟨hf0, pre, it, post, hsp, hpre, hp0, rfl⟩
        · rw [hfree, List.length_cons] at hwl
          rw [if_pos (by omega)]
        · rw [hf0, List.length_nil] at hwl
          rw [if_neg (by omega), Sp.abs_drop hwf hsp]
          unfold Sp.Pl.abs
          rw [hsp, List.map_append, List.map_cons, Sp.aDrop_split _ _ _ (fun y hy => by
            obtain ⟨z, hz, rfl⟩ := List.mem_map.1 hy
            exact hpre z hz) hp0, List.map_append]
          rfl
      refine ⟨Kept.of_turns ht (fun b hk => ⟨hKl b hk, fun hF => hb0 b (.inr hF) hk⟩), .inr ⟨_, A, c, habs, rfl, hA, hR.mono (fun b hb => hb.1), ?_⟩⟩
      have ha := Sp.abs_bring (x := Sp.first k) (i := i) (rest := rest) hnone
      have ha' : ((p'.bring (Sp.first k) i rest).pinUp k).abs = p'.abs ++ [(k, 1)] := ha
      rw [← ha']
      exact lp_make hd hlk h' hpn hfr' hDF hb0 hKl ht

theorem lp_unpin {K : Foot} {w : World} {gd gl gp n : Nat} {L : List (Nat × Nat)} (h : LpAt K w gd gl gp n L) {k m : Nat} (hk : k < 4294967296) (hm : (k, m) ∈ L) (h0 : 1 ≤ m) :
    Calls Tryz.prog 17 #[ptr gp, u32v k] w fun e w' => e = .returned (.int .i64 0) ∧ Kept K w w' ∧ LpAt K w' gd gl gp n (Sp.aUnpin L k) := by
  obtain ⟨p, D, F, dk, hd, hlk, hpl, rfl, hfr, rfl, hDF, hb0, hKl⟩ := h
  obtain ⟨it, hit, e⟩ := List.mem_map.1 hm
  injection e with e1 e2
  have hf := Sp.Pl.find_of hpl.wf hit
  rw [e1] at hf
  refine (pool_unpin hpl hk hf (by omega)).mono ?_
  rintro e w' ⟨rfl, h', ht⟩
  refine ⟨rfl, Kept.of_turns ht (fun b hk => ⟨hKl b hk, fun hF => hb0 b (.inr hF) hk⟩), ?_⟩
  rw [← Sp.abs_unpin]
  refine lp_make hd hlk h' rfl (fun y hy => ?_) hDF hb0 hKl ht
  obtain ⟨x, hx, rfl⟩ := Sp.Pl.upd_mem hy
  split <;> exact hfr x hx

theorem lp_pins {K : Foot} {w : World} {gd gl gp n : Nat} {L : List (Nat × Nat)} (h : LpAt K w gd gl gp n L) {k m : Nat} (hk : k < 4294967296) (hm : (k, m) ∈ L) :
    Calls Tryz.prog 24 #[ptr gp, u32v k] w fun e w' => e = .returned (.int .i64 m) ∧ w' = w := by
  obtain ⟨p, D, F, dk, hd, hlk, hpl, rfl, hfr, rfl, hDF, hb0, hKl⟩ := h
  obtain ⟨it, hit, e⟩ := List.mem_map.1 hm
  injection e with e1 e2
  have hf := Sp.Pl.find_of hpl.wf hit
  rw [e1] at hf
  rw [← e2]
  exact pool_pins_in hpl hk hf

theorem lp_pages {K : Foot} {w : World} {gd gl gp n : Nat} {L : List (Nat × Nat)} (h : LpAt K w gd gl gp n L) (h12 : n ≤ 12) :
    Calls Tryz.prog 26 #[ptr gp] w fun e w' => ∃ v, e = .returned v ∧ w'.ownsRow w.heap.size 28 1 v L.length ((Sp.sorted (L.map (·.1))).map u32v) ∧ Below w.heap.size w w' ∧ LpAt K w' gd gl gp n L := by
  have h' := h
  obtain ⟨p, D, F, dk, hd, hlk, hpl, rfl, hfr, rfl, hDF, hb0, hKl⟩ := h
  refine (pool_pages hpl h12).mono ?_
  rintro e w' ⟨v, rfl, hrow, hb⟩
  have e1 : p.abs.map (·.1) = p.items.map (·.page.id) := by simp [Sp.Pl.abs, Function.comp]
  have e2 : p.abs.length = p.items.length := by simp [Sp.Pl.abs]
  rw [e1, e2]
  exact ⟨v, rfl, hrow, hb, h'.below hb⟩

/-- A pool that has begun. -/
theorem begun_lp {w w' : World} {n : Nat} {e : Ending} (h : BegunPost w n e w') :
    ∃ gP gr gd gl gp, e = .returned (ptr gP) ∧ Blk w' gP 44 #[ptr gd, ptr gl, ptr gp, ptr gr] ∧ Below w.heap.size w w' ∧ LpAt (fun b => b < w.heap.size ∨ b = gP) w' gd gl gp n [] := by
  obtain ⟨gP, gr, gd, gl, gp, v, xs, D, F, dk, rfl, hP, _, _, _, hd, hlk, hpl, hDF, hb0, hb⟩ := h
  have hs := hb.size
  have hg := hP.lt
  refine ⟨gP, gr, gd, gl, gp, rfl, hP, hb, _, D, F, dk, hd, hlk, hpl, rfl, fun it h => by simp at h, rfl, hDF, fun b h hk => ?_, fun b hk => ?_⟩
  · obtain ⟨h1, h2, _⟩ := hb0 b h
    rcases hk with hk | hk <;> omega
  · rcases hk with hk | hk <;> omega
end Go.Proofs.YtndglfiepeefdaaGreat

/- The walk of package pool: Free; what it answers of a pool of the law packages. -/
namespace Go.Proofs.YtndglfiepeefdaaGreat
open Go.RowKit Go.Conc

set_option maxRecDepth 100000 in
set_option maxHeartbeats 1000000 in
theorem pool_free {F : Foot} {w : World} {gp gd gl at_ base : Nat} {p : Sp.Pl} (h : IsPl F w gp gd gl at_ base p) :
    Calls Tryz.prog 46 #[ptr gp] w fun e w' => e = .returned (.int .i64 p.free.length) ∧ w' = w := by
  obtain ⟨R, fb, cb, mb, v, s, r, cs, h⟩ := h
  obtain ⟨c0, c1, c2, c3, c4, c5, c6, c7⟩ := h.cells
  have HM := Lib.hid (pool_made c6)
  have hlen := fun ty => run_len_chan (P := Tryz.prog) 105 ty Tryz.underlying105 h.chan
  simp only [List.size_toArray, List.length_map] at hlen
  clear h c0 c1 c2 c3 c4 c6 c7
  go_enter Tryz.func46, Tryz.ntmps46
  go_wp2_with fail
  refine HM.out.mono ?_
  rintro e w1 ⟨rfl, hw⟩
  subst w1
  go_wp2_with fail
  go_ret
  exact ⟨rfl, rfl⟩


theorem lp_free {K : Foot} {w : World} {gd gl gp n : Nat} {L : List (Nat × Nat)} (h : LpAt K w gd gl gp n L) :
    Calls Tryz.prog 46 #[ptr gp] w fun e w' => e = .returned (.int .i64 ((n : Int) - L.length)) ∧ w' = w := by
  obtain ⟨p, D, F, dk, hd, hlk, hpl, rfl, hfr, rfl, hDF, hb0, hKl⟩ := h
  have hl := hpl.wf.len
  have hlen : p.abs.length = p.items.length := by simp [Sp.Pl.abs]
  refine (pool_free hpl).mono ?_
  rintro e w' ⟨rfl, rfl⟩
  have e1 : (p.free.length : Int) = (p.n : Int) - p.abs.length := by omega
  rw [e1]
  exact ⟨rfl, rfl⟩


end Go.Proofs.YtndglfiepeefdaaGreat

/- The walk of package pool: Dirty. -/
namespace Go.Proofs.YtndglfiepeefdaaGreat
open Go.RowKit Go.Conc

/-- Dirty pages as cells. -/
def drs (l : List (Nat × Nat)) : List Value := (l.map fun x => [.int .u32 (x.1 : Nat), .int .u64 (x.2 : Nat)]).flatten
theorem drs_length (l : List (Nat × Nat)) : (drs l).length = l.length * 2 := flatten_length_all _ 2 l (fun _ _ => rfl)
theorem drs_app (a b : List (Nat × Nat)) : drs (a ++ b) = drs a ++ drs b := by simp [drs]
theorem dirty_info : (Tryz.prog.info? 100).map (fun i => (i.zero, i.size, i.bytes)) = some (some (.agg #[.int .u32 0, .int .u64 0]), 2, 16) := by kernel_rfl
namespace Sp
def Pl.fromAt (p : Pl) (n : Nat) : Nat := match p.find n with
  | some it => it.from_
  | none => 0
/-- Those of some pages that are dirty, each with the LSN from which on. -/
def Pl.drt (p : Pl) (q : List Nat) : List (Nat × Nat) := (q.filter p.isD).map fun n => (n, p.fromAt n)
theorem Pl.drt_snoc (p : Pl) (q : List Nat) (n : Nat) : p.drt (q ++ [n]) = if p.isD n = true then p.drt q ++ [(n, p.fromAt n)] else p.drt q := by
  unfold Pl.drt
  rw [List.filter_append]
  by_cases h : p.isD n = true
  · rw [if_pos h, List.filter_cons_of_pos h]; simp
  · rw [if_neg h, List.filter_cons_of_neg h]; simp
theorem Pl.drt_take {p : Pl} {q : List Nat} {k : Nat} (h : k < q.length) : p.drt (q.take (k + 1)) = if p.isD q[k]! = true then p.drt (q.take k) ++ [(q[k]!, p.fromAt q[k]!)] else p.drt (q.take k) := by
  rw [List.take_succ_eq_append_getElem h, getElem!_pos _ k h, Pl.drt_snoc]
theorem Pl.drt_len (p : Pl) (q : List Nat) : (p.drt q).length ≤ q.length := by
  unfold Pl.drt
  rw [List.length_map]
  exact List.length_filter_le _ _
end Sp

def DirPost (w : World) (p : Sp.Pl) (e : Ending) (w' : World) : Prop :=
  ∃ v, e = .returned v ∧ w'.ownsRow w.heap.size 100 2 v (p.drt (Sp.sorted (p.items.map (·.page.id)))).length (drs (p.drt (Sp.sorted (p.items.map (·.page.id))))) ∧ Below w.heap.size w w'

set_option maxRecDepth 100000 in
set_option maxHeartbeats 8000000 in
theorem pool_dirty {F : Foot} {w : World} {gp gd gl at_ base : Nat} {p : Sp.Pl} (h : IsPl F w gp gd gl at_ base p) (h12 : p.n ≤ 12) :
    Calls Tryz.prog 44 #[ptr gp] w (DirPost w p) := by
  have HPG := Lib.hid (pool_pages h h12)
  have hlen := h.wf.len
  have hn64 := h.wf.n64
  have hperm := (Sp.sorted_spec (p.items.map (·.page.id))).1
  obtain ⟨R, fb, cb, mb, v, s, r, cs, hat⟩ := h
  have HIN : Hid (∀ n ∈ Sp.sorted (p.items.map (·.page.id)), n < 4294967296 ∧ ∃ it, p.find n = some it) := fun n hn => by
    obtain ⟨it, hit, rfl⟩ := List.mem_map.1 (hperm.mem_iff.1 hn)
    exact ⟨(hat.wf.pg it hit).1.2.2.1, it, Sp.Pl.find_of hat.wf hit⟩
  have hql : (Sp.sorted (p.items.map (·.page.id))).length = p.items.length := by rw [hperm.length_eq, List.length_map]
  have H0 := Lib.hid hat
  obtain ⟨i9, hi9, hz9, hz91, hz92⟩ := info_parts fr_info
  obtain ⟨iH, hiH0, hyH00, hyH10, hyH20⟩ := info_parts dirty_info
  have hiH := Lib.hid hiH0
  have hyH0 := Lib.hid hyH00
  have hyH1 := Lib.hid hyH10
  have hyH2 := Lib.hid hyH20
  unfold DirPost
  rw [← hql] at HPG
  generalize Sp.sorted (p.items.map (·.page.id)) = q at *
  clear hiH0 hyH00 hyH10 hyH20 hat hperm
  have hq12 : q.length ≤ 12 := by omega
  clear hql
  go_enter Tryz.func44, Tryz.ntmps44
  go_wp2_with fail
  refine HPG.out.mono ?_
  rintro e w1 ⟨v1, rfl, hv1, hb1⟩
  have HV := Lib.hid hv1
  have H1 := Lib.hid (H0.out.keep hb1.size (fun b hb => hb1.block b (H0.out.lt b hb)))
  have hb01 := hb1
  obtain ⟨A1, c1, rfl, hR1⟩ : ∃ A c, v1 = .slice A q.length c ∧ Reads (fun b => w.heap.size ≤ b) w1 1 A q.length (q.map u32v) := by
    rcases hv1.2 with ⟨h0, h1⟩ | ⟨g, cap, cur, h0, _⟩
    · have : q = [] := List.eq_nil_of_length_eq_zero h1
      subst this
      exact ⟨none, 0, h0, Reads.none_⟩
    · refine ⟨some ⟨g, 0, none⟩, cap, h0, ?_⟩
      subst h0
      exact own_reads hv1
  have HR1 := Lib.hid hR1
  clear hv1 hR1 HPG hb1
  go_wp2_with fail
  go_loopw [2, 9] (fun v5 i wr => ∃ (k : Nat) (A5 : Option Addr) (n5 c5 : Nat), k ≤ q.length ∧ v5 = .slice A5 n5 c5 ∧ n5 = (p.drt (q.take k)).length ∧ wr.ownsRow w1.heap.size 100 2 (.slice A5 n5 c5) (p.drt (q.take k)).length (drs (p.drt (q.take k))) ∧ i = .int .i64 k ∧ Turns noFoot noFoot w1 wr) (fun _ i _ => q.length - (intOf i).toNat)
  case atStart => exact ⟨0, none, 0, 0, by omega, rfl, rfl, World.ownsRow_nil _ _ _ _, rfl, Turns.refl _ _⟩
  case round =>
    obtain ⟨k, A5, n5, c5, hk, rfl, hn5, hown, rfl, htr⟩ := hrel
    have H2 := Lib.hid (H1.out.keep htr.size (fun b hb => htr.block b (H1.out.lt b hb) (fun e => e)))
    have HO := Lib.hid hown
    have HN5 := Lib.hid hn5
    clear hown hn5
    by_cases hlt : k < q.length
    · obtain ⟨b, o, u, rfl, _, _, hu, hcell⟩ := (Reads.below HR1.out htr.below_none).at_ hlt
      have hqk : q[k]? = some q[k]! := by rw [getElem!_pos q k hlt]; exact List.getElem?_eq_getElem hlt
      rw [List.getElem?_map, hqk] at hu
      injection hu with hu
      subst hu
      obtain ⟨hid, it, hf⟩ := HIN.out q[k]! (by rw [getElem!_pos q k hlt]; exact List.getElem_mem hlt)
      have hDT := Lib.hid (Sp.Pl.drt_take (p := p) hlt)
      have hmeas : k + 1 ≤ q.length := hlt
      have hdlen := Sp.Pl.drt_len p (q.take k)
      have htkl : (q.take k).length ≤ k := by simp; omega
      clear hqk
      generalize q[k]! = id at *
      obtain ⟨hit, rfl⟩ := Sp.Pl.find_mem hf
      have hisd : Hid (p.isD it.page.id = it.dirty ∧ p.fromAt it.page.id = it.from_) := Lib.hid (by unfold Sp.Pl.isD Sp.Pl.fromAt; rw [hf]; exact ⟨rfl, rfl⟩)
      obtain ⟨A, c, hA, hR, hc⟩ := H2.out.fr.item it hit
      have hlt9 := H2.out.wf.idx_lt hit
      have hload := fun (W : World) (hb : Blk W fb 110 cs) => load_frame hb rfl hc
      have HSS : ∀ W, IsPlAt F R W gp gd gl at_ base fb cb mb v s r cs p.free (p.items.map (·.page.id)) p → W.cell? ⟨gp, 4, none⟩ = some (.slice (some ⟨fb, 0, none⟩) p.n p.n) ∧ W.cell? ⟨gp, 6, none⟩ = some (.map (some mb)) ∧
          (Instr.lookup 106 (.map (some mb)) (u32v it.page.id) false).run Tryz.prog W = .ok (.int .i64 it.idx) W ∧ Blk W fb 110 cs := fun W h => by
        obtain ⟨c0, c1, c2, c3, c4, c5, c6, c7⟩ := h.cells
        exact ⟨c4, c6, h.look hid hf, h.fr.blk⟩
      have HSSH := Lib.hid HSS
      have HL := Lib.hid hload
      clear HSS hload hc hA hR hf
      go_wp2_with fail
      refine R_begin (fun W => W.cell? ⟨gp, 4, none⟩ = some (.slice (some ⟨fb, 0, none⟩) p.n p.n) ∧ W.cell? ⟨gp, 6, none⟩ = some (.map (some mb)) ∧
          (Instr.lookup 106 (.map (some mb)) (u32v it.page.id) false).run Tryz.prog W = .ok (.int .i64 it.idx) W ∧ Blk W fb 110 cs) (fun j => j == 13) rfl ?_
      have hS := Lib.hid (HSSH.out wr.drew (H2.out.keep (Nat.le_refl _) (fun _ _ => rfl)))
      refine R_take 0 13 (v := ?_) rfl rfl (by rfl) (by kernel_rfl) (fun _ _ _ h => h) hS.out ?_ ?_
      rotate_left
      · intro w hSw; (try dsimp only at hSw); go_simp; (try with_reducible rfl)
      simp only [zSA, zSB, zSC]
      refine R_take 1 14 (v := ?_) rfl rfl (by rfl) (by kernel_rfl) (fun _ _ _ h => h) hS.out ?_ ?_
      rotate_left
      · intro w hSw; (try dsimp only at hSw); go_simp; (try with_reducible rfl)
      simp only [zSA, zSB, zSC]
      refine R_take 2 15 (v := ?_) rfl rfl (by rfl) (by kernel_rfl) (fun _ _ _ h => h) hS.out ?_ ?_
      rotate_left
      · intro w hSw; (try dsimp only at hSw); go_simp; (try with_reducible rfl)
      simp only [zSA, zSB, zSC]
      refine R_take 3 16 (v := ?_) rfl rfl (by rfl) (by kernel_rfl) (fun _ _ _ h => h) hS.out ?_ ?_
      rotate_left
      · intro w hSw; (try dsimp only at hSw); go_simp; (try with_reducible rfl)
      simp only [zSA, zSB, zSC]
      refine R_take 4 17 (v := ?_) rfl rfl (by rfl) (by kernel_rfl) (fun _ _ _ h => h) hS.out ?_ ?_
      rotate_left
      · intro w hSw; (try dsimp only at hSw); go_simp; (try with_reducible rfl)
      simp only [zSA, zSB, zSC]
      refine R_take 5 18 (v := ?_) rfl rfl (by rfl) (by kernel_rfl) (fun _ _ _ h => h) hS.out ?_ ?_
      rotate_left
      · intro w hSw; (try dsimp only at hSw); go_simp; (try with_reducible rfl)
      simp only [zSA, zSB, zSC]
      refine R_take 6 19 (v := ?_) rfl rfl (by rfl) (by kernel_rfl) (fun _ _ _ h => h) hS.out ?_ ?_
      rotate_left
      · intro w hSw; (try dsimp only at hSw); go_simp; (try with_reducible rfl)
      simp only [zSA, zSB, zSC]
      refine R_take 7 20 (v := ?_) rfl rfl (by rfl) (by kernel_rfl) (fun _ _ _ h => h) hS.out ?_ ?_
      rotate_left
      · intro w hSw; (try dsimp only at hSw); go_simp; (try with_reducible rfl)
      simp only [zSA, zSB, zSC]
      refine R_take 8 21 (v := ?_) rfl rfl (by rfl) (by kernel_rfl) (fun _ _ _ h => h) hS.out ?_ ?_
      rotate_left
      · intro w hSw; (try dsimp only at hSw); go_simp; (try with_reducible rfl)
      simp only [zSA, zSB, zSC]
      refine R_take 9 22 (v := ?_) rfl rfl (by rfl) (by kernel_rfl) (fun _ _ _ h => h) hS.out ?_ ?_
      rotate_left
      · intro w hSw; (try dsimp only at hSw); go_simp; (try with_reducible rfl)
      simp only [zSA, zSB, zSC]
      refine R_take 10 23 (v := ?_) rfl rfl (by rfl) (by kernel_rfl) (fun _ _ _ h => h) hS.out ?_ ?_
      rotate_left
      · intro w hSw; (try dsimp only at hSw); go_simp; (try with_reducible rfl)
      simp only [zSA, zSB, zSC]
      refine R_take 11 24 (v := .agg (frCells it A c).toArray) rfl rfl (by rfl) (by kernel_rfl) (fun _ _ _ h => h) hS.out ?_ ?_
      · intro w hSw
        exact run_op_load _ _ _ rfl rfl (HL.out w hSw.2.2.2)
      simp only [zSA, zSB, zSC]
      have hk3 := H2.out.keep (w' := wr.drew.alloc (.cells zeroFr.toArray 110)) (by simp) (fun b hb => Below.heap_alloc wr.drew _ b (H2.out.lt b hb))
      refine R_run 12 5 (v := .pointer (some ⟨wr.drew.heap.size, 0, none⟩)) (w' := wr.drew.alloc (.cells zeroFr.toArray 110)) rfl rfl (by rfl) (by kernel_rfl) (run_op_alloc _ i9 _ _ rfl hi9 hz9 rfl) (fun _ => HSSH.out _ hk3) ?_
      simp only [zSA, zSB, zSC]
      have hB9 := Blk.new wr.drew 110 zeroFr.toArray
      have ht9 := htr.drew.alloc (.cells zeroFr.toArray 110)
      have hl9 : w1.heap.size ≤ wr.drew.heap.size := htr.size
      have htw9 := (Turns.refl noFoot wr).drew.alloc (.cells zeroFr.toArray 110)
      have hlw9 : wr.heap.size ≤ wr.drew.heap.size := Nat.le_refl _
      obtain ⟨g9, hg9⟩ : ∃ g, g = wr.drew.heap.size := ⟨_, rfl⟩
      obtain ⟨w3, hw3⟩ : ∃ w3, w3 = wr.drew.alloc (.cells zeroFr.toArray 110) := ⟨_, rfl⟩
      rw [← hw3, ← hg9] at hB9 ⊢
      rw [← hw3] at ht9 htw9
      rw [← hg9] at hl9 hlw9
      clear hw3 hg9 hk3 hS HL HSSH
      refine R_store 13 (n := .skip) (w' := w3.setRow g9 (frCells it A c).toArray) rfl rfl (by rfl) (by kernel_rfl) (run_op_store _ _ _ _ _ rfl rfl rfl (run_storeVar_part w3 g9 0 _ _ _ (frCells it A c).toArray hB9 fr_size (by show 0 + 9 ≤ 9; omega) (frCells_one it A c))) (.inl rfl) (fun h => nomatch h) ?_
      refine R_done (by kernel_rfl) ?_ _
      rename_i K9 hK9
      refine hK9 _ _ ?_
      have hB9 := hB9.setRow (frCells it A c).toArray
      have ht9 := ht9.setRow (g := g9) (.inr hl9) (frCells it A c).toArray
      have htw9 := htw9.setRow (g := g9) (.inr hlw9) (frCells it A c).toArray
      obtain ⟨w4, hw4⟩ : ∃ w4, w4 = w3.setRow g9 (frCells it A c).toArray := ⟨_, rfl⟩
      rw [← hw4] at hB9 ht9 htw9 ⊢
      clear hw4
      have hOw4 := own_keep HO.out (w' := w4) (fun b hb => htw9.block b (HO.out.lt b hb).2 (fun e => e))
      have f7 := hB9.cell 7
      have f8 := hB9.cell 8
      simp only [frCells, zGA, zGB, zGC] at f7 f8
      obtain ⟨hisd, hfro⟩ := hisd.out
      rw [hisd, hfro] at hDT
      have hsw4 := htw9.size
      have hsr1 := htr.size
      cases hd : it.dirty with
      | false =>
        rw [hd] at f7 hDT
        rw [if_neg (by decide)] at hDT
        have HO4 := Lib.hid hOw4
        clear hB9 hcell hOw4 htw9 hisd hd hfro
        go_wp2_with fail
        go_roundw
        case rel => exact ⟨k + 1, A5, n5, c5, hmeas, rfl, by rw [hDT.out]; exact HN5.out, by rw [hDT.out]; exact HO4.out, by go_num, ht9⟩
        case measure => simp [intOf]; omega
      | true =>
        rw [hd] at f7 hDT
        rw [if_pos rfl] at hDT
        have hba := (Below.refl w4.heap.size w4).alloc (Nat.le_refl _) (.cells #[u32v it.page.id, .int .u64 it.from_] 100)
        have hOa := Lib.hid (own_below hOw4 hba)
        have hn13 : (p.drt (q.take k)).length ≤ 12 := by omega
        have hcl : Hid (∀ (j : Nat) (u : Value), ([u32v it.page.id, .int .u64 it.from_] : List Value)[j]? = some u → (w4.alloc (.cells #[u32v it.page.id, .int .u64 it.from_] 100)).cell? ((⟨w4.heap.size, 0, none⟩ : Addr).add j) = some u) := by
          intro j u hu
          match j, hu with
          | 0, hu => exact ((Blk.new w4 _ _).cell 0).trans hu
          | 1, hu => exact ((Blk.new w4 _ _).cell 1).trans hu
          | j + 2, hu => simp at hu
        have hon : Hid (∀ u ∈ ([u32v it.page.id, .int .u64 it.from_] : List Value), u.oneCell' = true) := by
          intro u hu
          simp only [List.mem_cons, List.not_mem_nil, or_false] at hu
          rcases hu with rfl | rfl <;> rfl
        rw [HN5.out] at *
        clear hB9 hcell hOw4 htw9 hisd hd hfro
        go_wp2_with (at_builtin; refine wpList_append_own2 _ rfl _ _ 66 rfl w1.heap.size 100 iH _ 2 16 Tryz.underlying66 hiH.out hyH0.out hyH1.out hyH2.out rfl (by decide) _ _ _ rfl hOa.out ⟨w4.heap.size, 0, none⟩ 1 1 [u32v it.page.id, .int .u64 it.from_] rfl rfl hcl.out hon.out (by unfold maxLen; omega) (by omega) (by simp; omega) ?next)
        case next =>
          intro v6 w6 hown6 hgrow6 _
          have ht6 : Turns noFoot noFoot w1 w6 := (ht9.next hba).grown hgrow6 (fun b hb => .inr (hOa.out.lt b hb).1)
          obtain ⟨g6, c6, rfl⟩ := own_form' hown6 (by omega)
          have HO6 := Lib.hid hown6
          clear hown6 hgrow6 hOa hba
          go_wp2_with fail
          go_roundw
          case rel =>
            refine ⟨k + 1, _, _, c6, hmeas, rfl, by rw [hDT.out]; simp, ?_, by go_num, ht6⟩
            rw [hDT.out, List.length_append, drs_app]
            exact HO6.out
          case measure => simp [intOf]; omega
    · obtain rfl : k = q.length := by omega
      rw [List.take_length] at HO HN5
      have hsw := htr.size
      have HB := Lib.hid (hb01.trans ((htr.below_none).mono hb01.size))
      have hs01 := hb01.size
      clear htr H2
      go_wp2_with fail
      go_ret
      refine ⟨_, rfl, ?_, HB.out⟩
      refine ⟨HO.out.1, ?_⟩
      rcases HO.out.2 with h | ⟨g', cap, cur, e, hb, rest⟩
      · exact .inl h
      · exact .inr ⟨g', cap, cur, e, Nat.le_trans hs01 hb, rest⟩
end Go.Proofs.YtndglfiepeefdaaGreat

/- What a pool with its disk and its log answers that is asked: Pages, Pins, Free, Dirty. No walk. -/
namespace Go.Proofs.YtndglfiepeefdaaGreat
open Go.RowKit Go.Conc

namespace Sp
def R15.pages (s : R15) : List Nat := sorted (s.L.map (·.page.id))
def R15.pinsOf (s : R15) (id : Nat) : Nat := ((getR? s.L id).map (·.pins)).getD 0
def R15.dirt (s : R15) : List (Nat × Nat) := (s.pages.filter (isDirty s.L)).map fun n => (n, ((getR? s.L n).map (·.from_)).getD 0)
end Sp

section
variable {ly : Ly} {K : Foot} {w : World} {gd gl gp : Nat} {l : Sp.Lg} {s : Sp.R15}
theorem pk_pages (h : PkAt ly K w gd gl gp l s) (h12 : s.frames ≤ 12) :
    Calls Tryz.prog 26 #[ptr gp] w fun e w' => ∃ A c, e = .returned (.slice A s.pages.length c) ∧ Reads (fun b => w.heap.size ≤ b) w' 1 A s.pages.length (s.pages.map u32v) ∧ Below w.heap.size w w' := by
  obtain ⟨p, D, F, G, dk, hpl, hd, hg, hFD, hFG, hDG, hr, hK, hKl⟩ := h
  refine (pool_pages hpl (by have := hr.frames; omega)).mono ?_
  rintro e w' ⟨v, rfl, hv, hb⟩
  have e1 : s.pages = Sp.sorted (p.items.map (·.page.id)) := by
    unfold Sp.R15.pages
    rw [hr.L, List.map_map]
    rfl
  have e2 : p.items.length = s.pages.length := by
    rw [e1, (Sp.sorted_spec _).1.length_eq, List.length_map]
  rw [e2, ← e1] at hv
  rcases hv.2 with ⟨h0, h1⟩ | ⟨g, cap, cur, h0, _⟩
  · have h3 : s.pages = [] := List.eq_nil_of_length_eq_zero h1
    rw [h3]
    exact ⟨none, 0, by rw [h0]; rfl, Reads.none_, hb⟩
  · subst h0
    exact ⟨some ⟨g, 0, none⟩, cap, rfl, own_reads hv, hb⟩
theorem pk_pins (h : PkAt ly K w gd gl gp l s) {id : Nat} (hid : id < 4294967296) :
    Calls Tryz.prog 24 #[ptr gp, u32v id] w fun e w' => e = .returned (.int .i64 (s.pinsOf id : Nat)) ∧ w' = w := by
  obtain ⟨p, D, F, G, dk, hpl, hd, hg, hFD, hFG, hDG, hr, hK, hKl⟩ := h
  unfold Sp.R15.pinsOf
  rw [hr.L, Sp.getR_eq]
  cases hf : p.find id with
  | some it => exact pool_pins_in hpl hid hf
  | none => exact pool_pins_out hpl hid hf
theorem pk_free (h : PkAt ly K w gd gl gp l s) :
    Calls Tryz.prog 46 #[ptr gp] w fun e w' => e = .returned (.int .i64 ((s.frames : Int) - s.L.length)) ∧ w' = w := by
  obtain ⟨p, D, F, G, dk, hpl, hd, hg, hFD, hFG, hDG, hr, hK, hKl⟩ := h
  have hlen := hr.wf.len
  refine (pool_free hpl).mono ?_
  rintro e w' ⟨rfl, hw⟩
  refine ⟨?_, hw⟩
  have : (p.free.length : Int) = (s.frames : Int) - s.L.length := by
    rw [hr.L, List.length_map]
    have := hr.frames
    omega
  rw [this]
theorem pk_dirty (h : PkAt ly K w gd gl gp l s) (h12 : s.frames ≤ 12) :
    Calls Tryz.prog 44 #[ptr gp] w fun e w' => ∃ A c, e = .returned (.slice A s.dirt.length c) ∧ Reads (fun b => w.heap.size ≤ b) w' 2 A s.dirt.length (drs s.dirt) ∧ Below w.heap.size w w' := by
  obtain ⟨p, D, F, G, dk, hpl, hd, hg, hFD, hFG, hDG, hr, hK, hKl⟩ := h
  refine (pool_dirty hpl (by have := hr.frames; omega)).mono ?_
  rintro e w' ⟨v, rfl, hv, hb⟩
  have e1 : s.dirt = p.drt (Sp.sorted (p.items.map (·.page.id))) := by
    unfold Sp.R15.dirt Sp.R15.pages Sp.Pl.drt
    rw [hr.L, List.map_map, show Sp.isDirty (p.items.map Sp.It.ri) = p.isD from funext (Sp.isDirty_eq p)]
    refine congrArg (fun f => List.map f _) (funext fun n => ?_)
    rw [Sp.getR_eq]
    unfold Sp.Pl.fromAt
    cases p.find n <;> rfl
  rw [← e1] at hv
  rcases hv.2 with ⟨h0, h1⟩ | ⟨g, cap, cur, h0, _⟩
  · have h3 : s.dirt = [] := List.eq_nil_of_length_eq_zero h1
    rw [h3]
    exact ⟨none, 0, by rw [h0]; rfl, Reads.none_, hb⟩
  · subst h0
    exact ⟨some ⟨g, 0, none⟩, cap, rfl, own_reads hv, hb⟩
end
end Go.Proofs.YtndglfiepeefdaaGreat

/- The document's pool (pentimentoref15) in memory; At. -/
namespace Go.Proofs.YtndglfiepeefdaaGreat
open Go.RowKit Go.Conc

/-- The address of a page's rows: any (a row of none may lie anywhere). -/
def OkR (_ : Option Addr) : Prop := True

/-- An item's cells. -/
def riCells (x : Sp.RI) (A : Option Addr) (c : Nat) : List Value := [.int .u8 x.page.kind, .int .u8 x.page.level, .int .u32 x.page.id, .int .u64 x.page.lsn, .int .u32 x.page.next, .slice A x.page.rows.length c, .int .i64 x.pins, .bool x.dirty, .int .u64 x.from_]
def RiRow (G : Foot) (w : World) (L : List Sp.RI) (xs : List Value) : Prop :=
  xs.length = L.length * 9 ∧ ∀ i x, L[i]? = some x → ∃ A c, OkR A ∧ RowsAt G w A x.page.rows ∧ ∀ j, j < 9 → xs[i * 9 + j]? = (riCells x A c)[j]?
/-- What the document's disk has; page 0 is none. -/
def Sp.R15.home (s : Sp.R15) (q : Nat) : Sp.Pg := if q = 0 then ⟨0, 0, 1048576, 0, 0, []⟩ else s.disk q
def PgRow (G : Foot) (w : World) (s : Sp.R15) (ys : List Value) : Prop :=
  ys.length = (s.top + 1) * 6 ∧ ∀ q, q ≤ s.top → ∃ A c, OkR A ∧ RowsAt G w A (s.home q).rows ∧ ∀ j, j < 6 → ys[q * 6 + j]? = (pgCs (s.home q) A c)[j]?
/-- The document's pool in memory: its block gr, its two rows; rows of pages in blocks of G, which it never writes. -/
structure RfAt (B : Nat) (G : Foot) (w : World) (gr : Nat) (vL vD : Value) (s : Sp.R15) : Prop where
  blk : Blk w gr 80 #[.int .i64 s.frames, vL, vD, .int .u64 s.forced, .int .u64 s.next]
  L : ∃ xs, w.ownsRow B 98 9 vL s.L.length xs ∧ RiRow G w s.L xs
  D : ∃ ys, w.ownsRow B 32 6 vD (s.top + 1) ys ∧ PgRow G w s ys
  few : s.L.length ≤ 64
  ids : ∀ x ∈ s.L, x.page.id < 4294967296
  nd : (s.L.map (·.page.id)).Nodup
  Lr : vL.ownBlock ≠ some gr
  Dr : vD.ownBlock ≠ some gr
  LD : ∀ b, vL.ownBlock = some b → vD.ownBlock ≠ some b
  g : ∀ b, G b → b < w.heap.size ∧ b ≠ gr ∧ vL.ownBlock ≠ some b ∧ vD.ownBlock ≠ some b
  lo : B ≤ gr

/-- Where a page stands. -/
def Sp.R15.at_ (s : Sp.R15) (id : Nat) : Int := match s.L.findIdx? (fun x => x.page.id == id) with
  | some i => (i : Int)
  | none => -1

section
variable {B gr : Nat} {G : Foot} {w : World} {vL vD : Value} {s : Sp.R15}
theorem RfAt.slice (h : RfAt B G w gr vL vD s) : ∃ A c, vL = .slice A s.L.length c ∧ (0 < s.L.length → ∃ g, A = some ⟨g, 0, none⟩ ∧ ∀ i x, s.L[i]? = some x → w.cell? ⟨g, i * 9 + 2, none⟩ = some (.int .u32 x.page.id)) := by
  obtain ⟨xs, hrow, hR⟩ := h.L
  rcases hrow.2 with ⟨h0, h1⟩ | ⟨g, cap, cur, h0, _⟩
  · exact ⟨none, 0, by rw [h0, h1], fun h => by omega⟩
  · subst h0
    refine ⟨some ⟨g, 0, none⟩, cap, rfl, fun _ => ⟨g, rfl, fun i x hx => ?_⟩⟩
    obtain ⟨A, c, _, _, hc⟩ := hR.2 i x hx
    have := hrow.cells (g := g) rfl (i * 9 + 2) _ (hc 2 (by omega))
    rw [show (⟨g, 0, none⟩ : Addr).add (i * 9 + 2) = ⟨g, 0 + (i * 9 + 2), none⟩ by unfold Addr.add; split <;> simp_all, Nat.zero_add] at this
    exact this
set_option maxRecDepth 100000 in
set_option maxHeartbeats 1000000 in
theorem ref_at (h : RfAt B G w gr vL vD s) (id : Nat) :
    Calls Tryz.prog 48 #[ptr gr, u32v id] w fun e w' => e = .returned (.int .i64 (s.at_ id)) ∧ Below w.heap.size w w' := by
  obtain ⟨A, c, rfl, hcell⟩ := h.slice
  have hfew := h.few
  have H := Lib.hid h.blk
  have HC := Lib.hid hcell
  have hgl := h.blk.lt
  clear h hcell
  go_enter Tryz.func48, Tryz.ntmps48
  go_wp2_with fail
  go_loopw [5] (fun i wr => ∃ k : Nat, k ≤ s.L.length ∧ i = .int .i64 k ∧ (∀ x ∈ s.L.take k, x.page.id ≠ id) ∧ w = wr) (fun i _ => s.L.length - (intOf i).toNat)
  case atStart => exact ⟨0, by omega, rfl, by simp, rfl⟩
  case round =>
    obtain ⟨k, hk, rfl, hno, rfl⟩ := hrel
    have c1 := H.out.cell 1
    simp only [zGA, zGB, zGC] at c1
    by_cases hlt : k < s.L.length
    · obtain ⟨g, rfl, hg⟩ := HC.out (by omega)
      have hx : s.L[k]? = some s.L[k] := List.getElem?_eq_getElem hlt
      have cid := hg k _ hx
      have htk : s.L.take (k + 1) = s.L.take k ++ [s.L[k]] := List.take_succ_eq_append_getElem hlt
      have hmeas : k + 1 ≤ s.L.length := hlt
      clear hg
      by_cases he : s.L[k].page.id = id
      · have hat : s.at_ id = (k : Int) := by
          unfold Sp.R15.at_
          have : s.L.findIdx? (fun x => x.page.id == id) = some k := by
            rw [List.findIdx?_eq_some_iff_getElem]
            refine ⟨hlt, by simpa using he, fun j hj => ?_⟩
            have := hno s.L[j] (List.mem_take_iff_getElem.2 ⟨j, by omega, rfl⟩)
            simpa using this
          rw [this]
        rw [he] at cid
        clear he htk hno hx
        go_wp2_with fail
        go_ret
        exact ⟨by rw [hat]; rfl, Below.refl _ _⟩
      · have hno' : ∀ x ∈ s.L.take (k + 1), x.page.id ≠ id := fun x hx => by
          rw [htk] at hx
          rcases List.mem_append.1 hx with hx | hx
          · exact hno x hx
          · rw [List.mem_singleton.1 hx]; exact he
        generalize s.L[k].page.id = z at *
        have hd : ((z : Int) == (id : Int)) = false := by
          rw [beq_eq_false_iff_ne]; omega
        have hd2 : ¬ ((z : Int) = (id : Int)) := by omega
        clear htk hno hx
        go_wp2_with fail
        go_roundw
        case rel => exact ⟨k + 1, hmeas, by go_num, hno', trivial⟩
        case measure => simp [intOf]; omega
    · obtain rfl : k = s.L.length := by omega
      have hat : s.at_ id = -1 := by
        unfold Sp.R15.at_
        have : s.L.findIdx? (fun x => x.page.id == id) = none := by
          rw [List.findIdx?_eq_none_iff]
          intro x hx
          have := hno x (by rw [List.take_length]; exact hx)
          simpa using this
        rw [this]
      go_wp2_with fail
      go_ret
      exact ⟨by rw [hat]; rfl, Below.refl _ _⟩

theorem RfAt.disk (h : RfAt B G w gr vL vD s) : ∃ g c, vD = .slice (some ⟨g, 0, none⟩) (s.top + 1) c ∧ ∀ q, q ≤ s.top → ∃ A c', OkR A ∧ RowsAt G w A (s.home q).rows ∧ ∀ j, j < 6 → w.cell? ⟨g, q * 6 + j, none⟩ = (pgCs (s.home q) A c')[j]? := by
  obtain ⟨ys, hrow, hR⟩ := h.D
  rcases hrow.2 with ⟨h0, h1⟩ | ⟨g, cap, cur, h0, _⟩
  · omega
  · subst h0
    refine ⟨g, cap, rfl, fun q hq => ?_⟩
    obtain ⟨A, c, hA, hR, hc⟩ := hR.2 q hq
    refine ⟨A, c, hA, hR, fun j hj => ?_⟩
    have hy : ys[q * 6 + j]? = some ((pgCs (s.home q) A c)[j]!) := by
      rw [hc j hj, getElem!_pos _ j (by simpa using hj)]
      exact Array.getElem?_eq_getElem (by simpa using hj)
    have := hrow.cells (g := g) rfl (q * 6 + j) _ hy
    rw [show (⟨g, 0, none⟩ : Addr).add (q * 6 + j) = ⟨g, 0 + (q * 6 + j), none⟩ by unfold Addr.add; split <;> simp_all, Nat.zero_add] at this
    rw [this, ← hy, hc j hj]
end
end Go.Proofs.YtndglfiepeefdaaGreat

/- The document's pool: Home. -/
namespace Go.Proofs.YtndglfiepeefdaaGreat
open Go.RowKit Go.Conc

section
variable {B gr : Nat} {G : Foot} {w : World} {vL vD : Value} {s : Sp.R15}
set_option maxRecDepth 100000 in
set_option maxHeartbeats 2000000 in
theorem ref_home_out (h : RfAt B G w gr vL vD s) {id : Nat} (hid : id < 4294967296) (ht : s.top < id) (h32 : s.top < 1000000) :
    Calls Tryz.prog 92 #[ptr gr, u32v id] w fun e w' => e = .returned (.tuple #[zeroPgV, .bool false]) ∧ Below w.heap.size w w' := by
  obtain ⟨g, c, rfl, hc⟩ := h.disk
  have hb2 := Blk.new w 32 #[.int .u8 0, .int .u8 0, .int .u32 0, .int .u64 0, .int .u32 0, .slice none 0 0]
  have hbw := (Below.refl w.heap.size w).alloc (Nat.le_refl _) (.cells #[.int .u8 0, .int .u8 0, .int .u32 0, .int .u64 0, .int .u32 0, .slice none 0 0] 32)
  have c2 := (h.blk.below hbw h.blk.lt).cell 2
  simp only [zGA, zGB, zGC] at c2
  have hz0 : ∀ W, (Instr.build 32 #[]).run Tryz.prog W = .ok zeroPgV W := fun W => by kernel_rfl
  have d1 : decide (((s.top : Int) + 1) ≤ (id : Int)) = true := by rw [decide_eq_true_iff]; omega
  have d2 : decide (((s.top + 1 : Nat) : Int) ≤ (id : Int)) = true := by rw [decide_eq_true_iff]; omega
  have d3 : (s.top : Int) + 1 ≤ (id : Int) := by omega
  have hgl := h.blk.lt
  clear h hc
  go_enter Tryz.func92, Tryz.ntmps92
  go_wp2_with fail
  have z0 := hb2.cell 0
  have z1 := hb2.cell 1
  have z2 := hb2.cell 2
  have z3 := hb2.cell 3
  have z4 := hb2.cell 4
  have z5 := hb2.cell 5
  simp only [zGA, zGB, zGC] at z0 z1 z2 z3 z4 z5
  exact bodyPost_ret (v := .tuple #[zeroPgV, .bool false]) (by rw [results_cell_tmp rfl]; go_simp) rfl ⟨rfl, hbw⟩

set_option maxRecDepth 100000 in
set_option maxHeartbeats 2000000 in
theorem ref_home_in (h : RfAt B G w gr vL vD s) {id : Nat} (hid : id < 4294967296) (ht : id ≤ s.top) (h32 : s.top < 1000000) :
    Calls Tryz.prog 92 #[ptr gr, u32v id] w fun e w' => ∃ A c, e = .returned (.tuple #[pgV (s.home id) A c, .bool true]) ∧ OkR A ∧ RowsAt G w' A (s.home id).rows ∧ Below w.heap.size w w' := by
  obtain ⟨g, c, rfl, hc⟩ := h.disk
  obtain ⟨A, c', hA, hR, hcell⟩ := hc id ht
  have hb2 := Blk.new w 32 #[.int .u8 0, .int .u8 0, .int .u32 0, .int .u64 0, .int .u32 0, .slice none 0 0]
  have hbw := (Below.refl w.heap.size w).alloc (Nat.le_refl _) (.cells #[.int .u8 0, .int .u8 0, .int .u32 0, .int .u64 0, .int .u32 0, .slice none 0 0] 32)
  have c2 := (h.blk.below hbw h.blk.lt).cell 2
  simp only [zGA, zGB, zGC] at c2
  have hgg : g < w.heap.size := by
    have := hcell 0 (by omega)
    exact World.block_lt_of_cell? w _ (this.trans rfl)
  have hk : ∀ j, j < 6 → (w.alloc (.cells #[.int .u8 0, .int .u8 0, .int .u32 0, .int .u64 0, .int .u32 0, .slice none 0 0] 32)).cell? ⟨g, id * 6 + j, none⟩ = (pgCs (s.home id) A c')[j]? := fun j hj => (hbw.cell (p := ⟨g, id * 6 + j, none⟩) hgg).trans (hcell j hj)
  have k0 := hk 0 (by omega)
  have k1 := hk 1 (by omega)
  have k2 := hk 2 (by omega)
  have k3 := hk 3 (by omega)
  have k4 := hk 4 (by omega)
  have k5 := hk 5 (by omega)
  simp only [zGA, zGB, zGC, Nat.add_zero] at k0 k1 k2 k3 k4 k5
  have d1 : decide (((s.top : Int) + 1) ≤ (id : Int)) = false := by rw [decide_eq_false_iff_not]; omega
  have d3 : ¬ (s.top : Int) + 1 ≤ (id : Int) := by omega
  have hgl := h.blk.lt
  have hRr0 := hR
  clear h hc hcell hk hR
  generalize s.home id = x at *
  have z0 := hb2.cell 0
  have z1 := hb2.cell 1
  have z2 := hb2.cell 2
  have z3 := hb2.cell 3
  have z4 := hb2.cell 4
  have z5 := hb2.cell 5
  simp only [zGA, zGB, zGC] at z0 z1 z2 z3 z4 z5
  have f0 := hb2.frozen 0
  have f1 := hb2.frozen 1
  have f2 := hb2.frozen 2
  have f3 := hb2.frozen 3
  have f4 := hb2.frozen 4
  have f5 := hb2.frozen 5
  have hne : g ≠ w.heap.size := by omega
  go_enter Tryz.func92, Tryz.ntmps92
  go_wp2_with fail
  clear z0 z1 z2 z3 z4 z5 f0 f1 f2 f3 f4 f5
  have hb3 := Blk.new w 32 #[.int .u8 x.kind, .int .u8 x.level, .int .u32 x.id, .int .u64 x.lsn, .int .u32 x.next, .slice A x.rows.length c']
  have hbw3 := (Below.refl w.heap.size w).alloc (Nat.le_refl _) (.cells #[.int .u8 x.kind, .int .u8 x.level, .int .u32 x.id, .int .u64 x.lsn, .int .u32 x.next, .slice A x.rows.length c'] 32)
  have z0 := hb3.cell 0
  have z1 := hb3.cell 1
  have z2 := hb3.cell 2
  have z3 := hb3.cell 3
  have z4 := hb3.cell 4
  have z5 := hb3.cell 5
  simp only [zGA, zGB, zGC] at z0 z1 z2 z3 z4 z5
  exact bodyPost_ret (v := .tuple #[pgV x A c', .bool true]) (by rw [results_cell_tmp rfl]; go_simp) rfl ⟨A, ⟨c', rfl⟩, hA, Reads.below hRr0 hbw3, hbw3⟩
end
end Go.Proofs.YtndglfiepeefdaaGreat

/- The document's pool: an item of its row is written. -/
namespace Go.Proofs.YtndglfiepeefdaaGreat
open Go.RowKit Go.Conc

theorem take_part (cur cells : List Value) (o s N : Nat) (hs : cells.length = s) (h1 : o + s ≤ N) (h2 : N ≤ cur.length) : (cur.take o ++ cells ++ cur.drop (o + s)).take N = (cur.take N).take o ++ cells ++ (cur.take N).drop (o + s) := by
  have e1 : (cur.take o ++ cells).length = o + s := by simp; omega
  rw [List.take_append, List.take_of_length_le (by omega), e1, List.take_take, Nat.min_eq_left (by omega), List.drop_take]
theorem row_item_set {w : World} {base n k size g c : Nat} {e : TypeId} {xs : List Value} (h : w.ownsRow base e size (.slice (some ⟨g, 0, none⟩) n c) n xs) (hk : k < n) (cells : List Value) (hs : cells.length = size) :
    ∃ cur, Blk w g e cur ∧ k * size + size ≤ cur.size ∧ (w.setRow g (partRow cur (k * size) cells)).ownsRow base e size (.slice (some ⟨g, 0, none⟩) n c) n (xs.take (k * size) ++ cells ++ xs.drop (k * size + size)) := by
  have hN : k * size + size ≤ n * size := by
    have : (k + 1) * size ≤ n * size := Nat.mul_le_mul_right _ hk
    rw [Nat.succ_mul] at this
    exact this
  rcases h.2 with ⟨h0, h1⟩ | ⟨g', cap, cur, h0, hb, hh, hnc, hcm, hsz, htk⟩
  · omega
  · injection h0 with h0 _ h2
    injection h0 with h0
    injection h0 with h0
    subst h0 h2
    have hl : n * size ≤ cur.size := by rw [hsz]; exact Nat.mul_le_mul_right _ hnc
    have hB : Blk w g e cur := hh
    refine ⟨cur, hB, by omega, ?_, .inr ⟨g, c, partRow cur (k * size) cells, rfl, hb, hB.setRow _, hnc, hcm, ?_, ?_⟩⟩
    · have := h.1
      simp
      omega
    · rw [← hsz]; exact part_size (by rw [hs]; omega)
    · rw [← htk]
      unfold partRow
      rw [List.toList_toArray]
      have := take_part cur.toList cells (k * size) size (n * size) hs hN (by simpa using hl)
      rw [hs]
      exact this

theorem listPart_in {xs l : List Value} {o j : Nat} (hi : o + l.length ≤ xs.length) (hj : j < l.length) : (xs.take o ++ l ++ xs.drop (o + l.length))[o + j]? = l[j]? := by
  have := part_in (cs := xs.toArray) (o := o) (l := l) (by simpa using hi) hj
  unfold partRow at this
  rw [List.getElem?_toArray] at this
  exact this
theorem listPart_out {xs l : List Value} {o k : Nat} (hi : o + l.length ≤ xs.length) (hk : k < o ∨ o + l.length ≤ k) : (xs.take o ++ l ++ xs.drop (o + l.length))[k]? = xs[k]? := by
  have := part_out (cs := xs.toArray) (o := o) (l := l) (by simpa using hi) hk
  unfold partRow at this
  rw [List.getElem?_toArray, List.getElem?_toArray] at this
  exact this

/-- An item of the row is written. -/
theorem RfAt.setL {B gr g c n k : Nat} {G : Foot} {w : World} {vD : Value} {s : Sp.R15} (h : RfAt B G w gr (.slice (some ⟨g, 0, none⟩) n c) vD s) (hn : n = s.L.length) (hk : k < s.L.length) {x' : Sp.RI} {A' : Option Addr} {c' : Nat} (hA : OkR A') (hR : RowsAt G w A' x'.page.rows) (hid : x'.page.id = s.L[k].page.id) :
    ∃ cur, Blk w g 98 cur ∧ k * 9 + 9 ≤ cur.size ∧ RfAt B G (w.setRow g (partRow cur (k * 9) (riCells x' A' c'))) gr (.slice (some ⟨g, 0, none⟩) n c) vD { s with L := s.L.set k x' } := by
  obtain ⟨xs, hrow, hRi⟩ := h.L
  obtain ⟨ys, hD, hP⟩ := h.D
  subst hn
  obtain ⟨cur, hB, hsz, hrow'⟩ := row_item_set (k := k) hrow hk (riCells x' A' c') rfl
  have hsr : (w.setRow g (partRow cur (k * 9) (riCells x' A' c'))).heap.size = w.heap.size := by simp [World.setRow]
  have hoth : ∀ b, b ≠ g → (w.setRow g (partRow cur (k * 9) (riCells x' A' c'))).heap[b]? = w.heap[b]? := fun b hb => heap_setRow_other w g b _ hb
  have hgG : ∀ b, G b → b ≠ g := fun b hb e => (h.g b hb).2.2.1 (by rw [e]; rfl)
  have hgr : gr ≠ g := fun e => h.Lr (by rw [e]; rfl)
  have hxl : xs.length = s.L.length * 9 := hRi.1
  have hpos : k * 9 + (riCells x' A' c').length ≤ xs.length := by
    rw [hxl]; show k * 9 + 9 ≤ _; omega
  have hids : (s.L.set k x').map (·.page.id) = s.L.map (·.page.id) := by
    rw [List.map_set]
    apply List.ext_getElem?
    intro i
    by_cases hi : i = k
    · subst hi
      rw [List.getElem?_set_self (by simpa using hk), List.getElem?_map, List.getElem?_eq_getElem hk]
      simp [hid]
    · rw [List.getElem?_set_ne (fun e => hi e.symm)]
  refine ⟨cur, hB, hsz, ?_⟩
  exact {
    blk := h.blk.keep (hoth gr hgr)
    L := ⟨_, by
      show World.ownsRow _ _ _ _ _ (s.L.set k x').length _
      rw [List.length_set]
      exact hrow', by
      refine ⟨?_, fun i x hx => ?_⟩
      · show _ = (s.L.set k x').length * 9
        rw [List.length_set]
        exact hrow'.1
      · have hx : (s.L.set k x')[i]? = some x := hx
        by_cases hi : i = k
        · subst hi
          rw [List.getElem?_set_self hk] at hx
          injection hx with hx
          subst hx
          exact ⟨A', c', hA, hR.keep (by rw [hsr]; exact Nat.le_refl _) (fun b hb => hoth b (hgG b hb)), fun j hj => listPart_in hpos hj⟩
        · rw [List.getElem?_set_ne (fun e => hi e.symm)] at hx
          obtain ⟨A, c2, h1, h2, h3⟩ := hRi.2 i x hx
          refine ⟨A, c2, h1, h2.keep (by rw [hsr]; exact Nat.le_refl _) (fun b hb => hoth b (hgG b hb)), fun j hj => ?_⟩
          have := listPart_out (xs := xs) (l := riCells x' A' c') (o := k * 9) (k := i * 9 + j) hpos (by show i * 9 + j < k * 9 ∨ k * 9 + 9 ≤ i * 9 + j; omega)
          exact this.trans (h3 j hj)⟩
    D := ⟨ys, row_keep' hD (fun b hb => hoth b (fun e => h.LD g rfl (by rw [← e]; exact hb))), hP.1, fun q hq => by
      obtain ⟨A, c2, h1, h2, h3⟩ := hP.2 q hq
      exact ⟨A, c2, h1, h2.keep (by rw [hsr]; exact Nat.le_refl _) (fun b hb => hoth b (hgG b hb)), h3⟩⟩
    few := by show (s.L.set k x').length ≤ 64; rw [List.length_set]; exact h.few
    ids := fun x hx => by
      have hm : x.page.id ∈ (s.L.set k x').map (·.page.id) := List.mem_map.2 ⟨x, hx, rfl⟩
      rw [hids] at hm
      obtain ⟨y, hy, e⟩ := List.mem_map.1 hm
      rw [← e]; exact h.ids y hy
    nd := by show ((s.L.set k x').map _).Nodup; rw [hids]; exact h.nd
    Lr := h.Lr
    Dr := h.Dr
    LD := h.LD
    g := fun b hb => ⟨by rw [hsr]; exact (h.g b hb).1, (h.g b hb).2⟩
    lo := h.lo }
end Go.Proofs.YtndglfiepeefdaaGreat

/- The document's pool: words on where a page stands; Unpin. -/
namespace Go.Proofs.YtndglfiepeefdaaGreat
open Go.RowKit Go.Conc

namespace Sp
theorem at_cases (s : R15) (id : Nat) : (s.at_ id = -1 ∧ getR? s.L id = none ∧ hasR s.L id = false) ∨ ∃ (k : Nat) (hk : k < s.L.length), s.at_ id = (k : Int) ∧ s.L[k].page.id = id ∧ getR? s.L id = some s.L[k] ∧ hasR s.L id = true := by
  unfold R15.at_
  cases hf : s.L.findIdx? (fun x => x.page.id == id) with
  | none =>
    rw [List.findIdx?_eq_none_iff] at hf
    refine .inl ⟨rfl, ?_, ?_⟩
    · unfold getR?
      rw [List.find?_eq_none]
      intro x hx
      simpa using hf x hx
    · unfold hasR
      rw [List.any_eq_false]
      intro x hx
      simpa using hf x hx
  | some k =>
    rw [List.findIdx?_eq_some_iff_getElem] at hf
    obtain ⟨hk, h1, h2⟩ := hf
    have hid : s.L[k].page.id = id := by simpa using h1
    refine .inr ⟨k, hk, rfl, hid, ?_, ?_⟩
    · unfold getR?
      rw [List.find?_eq_some_iff_getElem]
      exact ⟨h1, k, hk, rfl, fun j hj => by have := h2 j hj; simpa using this⟩
    · unfold hasR
      rw [List.any_eq_true]
      exact ⟨s.L[k], List.getElem_mem hk, h1⟩
theorem upR_set {L : List RI} (hn : (L.map (·.page.id)).Nodup) {k : Nat} (hk : k < L.length) {f : RI → RI} : upR L (L[k].page.id) f = L.set k (f L[k]) := by
  unfold upR
  apply List.ext_getElem?
  intro i
  rw [List.getElem?_map]
  by_cases hi : i = k
  · subst hi
    rw [List.getElem?_set_self hk, List.getElem?_eq_getElem hk]
    simp
  · rw [List.getElem?_set_ne (fun e => hi e.symm)]
    cases hx : L[i]? with
    | none => rfl
    | some x =>
      simp only [Option.map_some]
      rw [if_neg]
      intro e
      obtain ⟨hil, rfl⟩ := List.getElem?_eq_some_iff.1 hx
      have hp := List.pairwise_iff_getElem.1 hn
      rcases Nat.lt_or_gt_of_ne hi with h | h
      · have := hp i k (by simpa using hil) (by simpa using hk) h
        exact this (by simpa using e)
      · have := hp k i (by simpa using hk) (by simpa using hil) h
        exact this (by simpa using e.symm)
end Sp

theorem RfAt.below {B gr : Nat} {G : Foot} {w w' : World} {vL vD : Value} {s : Sp.R15} (h : RfAt B G w gr vL vD s) (hb : Below w.heap.size w w') : RfAt B G w' gr vL vD s := by
  obtain ⟨xs, hrow, hRi⟩ := h.L
  obtain ⟨ys, hD, hP⟩ := h.D
  have hl : ∀ {e k n : Nat} {v : Value} {zs : List Value}, w.ownsRow B e k v n zs → ∀ b, v.ownBlock = some b → b < w.heap.size := fun hr b hb => by
    obtain ⟨cur, hc⟩ := ownsRow_heap hr hb
    exact (Array.getElem?_eq_some_iff.1 hc).1
  exact {
    blk := h.blk.below hb h.blk.lt
    L := ⟨xs, row_keep' hrow (fun b hb' => hb.block b (hl hrow b hb')), hRi.1, fun i x hx => by
      obtain ⟨A, c, h1, h2, h3⟩ := hRi.2 i x hx
      exact ⟨A, c, h1, Reads.below h2 hb, h3⟩⟩
    D := ⟨ys, row_keep' hD (fun b hb' => hb.block b (hl hD b hb')), hP.1, fun q hq => by
      obtain ⟨A, c, h1, h2, h3⟩ := hP.2 q hq
      exact ⟨A, c, h1, Reads.below h2 hb, h3⟩⟩
    few := h.few, ids := h.ids, nd := h.nd, Lr := h.Lr, Dr := h.Dr, LD := h.LD, lo := h.lo
    g := fun b hG => ⟨Nat.lt_of_lt_of_le (h.g b hG).1 hb.size, (h.g b hG).2⟩ }
end Go.Proofs.YtndglfiepeefdaaGreat

/- The document's pool: Unpin. -/
namespace Go.Proofs.YtndglfiepeefdaaGreat
open Go.RowKit Go.Conc

/-- The blocks that the document's pool writes. -/
def rfO (gr : Nat) (vL vD : Value) : Foot := fun b => b = gr ∨ vL.ownBlock = some b ∨ vD.ownBlock = some b
/-- What a call of it leaves. -/
def RfPost (B : Nat) (G : Foot) (w : World) (gr : Nat) (vL vD : Value) (s' : Sp.R15) (w' : World) : Prop :=
  ∃ vL', RfAt B G w' gr vL' vD s' ∧ Turns (rfO gr vL vD) (rfO gr vL' vD) w w'
theorem RfPost.same {B gr : Nat} {G : Foot} {w w' : World} {vL vD : Value} {s : Sp.R15} (h : RfAt B G w gr vL vD s) (hb : Below w.heap.size w w') : RfPost B G w gr vL vD s w' := ⟨vL, h.below hb, Turns.of_below hb _⟩

theorem addr_add0 (g j : Nat) : (⟨g, 0, none⟩ : Addr).add j = ⟨g, j, none⟩ := by unfold Addr.add; split <;> simp_all
theorem RfAt.item {B gr : Nat} {G : Foot} {w : World} {vL vD : Value} {s : Sp.R15} (h : RfAt B G w gr vL vD s) {k : Nat} (hk : k < s.L.length) : ∃ g c A c', vL = .slice (some ⟨g, 0, none⟩) s.L.length c ∧ OkR A ∧ RowsAt G w A s.L[k].page.rows ∧ ∀ j, j < 9 → w.cell? ⟨g, k * 9 + j, none⟩ = (riCells s.L[k] A c')[j]? := by
  obtain ⟨xs, hrow, hR⟩ := h.L
  rcases hrow.2 with ⟨h0, h1⟩ | ⟨g, cap, cur, h0, _⟩
  · omega
  · subst h0
    obtain ⟨A, c, hA, hRr, hc⟩ := hR.2 k _ (List.getElem?_eq_getElem hk)
    refine ⟨g, cap, A, c, rfl, hA, hRr, fun j hj => ?_⟩
    have hy : xs[k * 9 + j]? = some ((riCells s.L[k] A c)[j]!) := by
      rw [hc j hj, getElem!_pos _ j (by exact hj)]
      exact List.getElem?_eq_getElem (by exact hj)
    have := hrow.cells (g := g) rfl (k * 9 + j) _ hy
    rw [addr_add0] at this
    rw [this, ← hy, hc j hj]

theorem item_size : (Tryz.prog.info? 98).map (·.size) = some 9 := by kernel_rfl

section
variable {B gr : Nat} {G : Foot} {w : World} {vL vD : Value} {s : Sp.R15}
set_option maxRecDepth 100000 in
set_option maxHeartbeats 4000000 in
theorem ref_unpin (h : RfAt B G w gr vL vD s) {id : Nat} (hp : ∀ x ∈ s.L, x.pins < 1000000000) :
    Calls Tryz.prog 38 #[ptr gr, u32v id] w fun e w' => e = .returned (.int .i64 (s.unpin id).1) ∧ RfPost B G w gr vL vD (s.unpin id).2 w' := by
  have HAT := Lib.hid (ref_at h id)
  have H := Lib.hid h
  obtain ⟨r, hr⟩ : ∃ r, r = s.unpin id := ⟨_, rfl⟩
  rw [← hr]
  have HE := Lib.hid hr
  clear hr h
  go_enter Tryz.func38, Tryz.ntmps38
  go_wp2_with fail
  refine HAT.out.mono ?_
  rintro e w1 ⟨rfl, hb1⟩
  clear HAT
  have h1 := H.out.below hb1
  rcases Sp.at_cases s id with ⟨hat, hget, _⟩ | ⟨k, hk, hat, hid, hget, _⟩
  · have e1 : s.unpin id = (3, s) := by unfold Sp.R15.unpin; rw [hget]
    rw [hat]
    clear hat hget h1
    go_wp2_with fail
    go_ret
    rw [HE.out, e1]
    exact ⟨rfl, RfPost.same H.out hb1⟩
  · rw [hat]
    obtain ⟨g, c, A, c', rfl, hA, hR, hc⟩ := h1.item hk
    have c1 := h1.blk.cell 1
    simp only [zGA, zGB, zGC] at c1
    have hpk := hp s.L[k] (List.getElem_mem hk)
    have H1 := Lib.hid h1
    have HR := Lib.hid hR
    have k0 := hc 0 (by omega)
    have k1 := hc 1 (by omega)
    have k2 := hc 2 (by omega)
    have k3 := hc 3 (by omega)
    have k4 := hc 4 (by omega)
    have k5 := hc 5 (by omega)
    have k6 := hc 6 (by omega)
    have k7 := hc 7 (by omega)
    have k8 := hc 8 (by omega)
    simp only [riCells, List.getElem?_cons_succ, List.getElem?_cons_zero, Nat.add_zero] at k0 k1 k2 k3 k4 k5 k6 k7 k8
    have hds : decide ((k : Int) < 0) = false := by rw [decide_eq_false_iff_not]; omega
    clear hat hc h1 hR
    by_cases h0 : s.L[k].pins = 0
    · have e1 : s.unpin id = (3, s) := by unfold Sp.R15.unpin; rw [hget]; simp only; rw [if_pos h0]
      rw [h0] at k6
      go_wp2_with fail
      go_ret
      rw [HE.out, e1]
      exact ⟨rfl, RfPost.same H.out hb1⟩
    · have e1 : s.unpin id = (0, { s with L := Sp.upR s.L id (fun y => { y with pins := y.pins - 1 }) }) := by unfold Sp.R15.unpin; rw [hget]; simp only; rw [if_neg h0]
      have hset := Sp.upR_set H.out.nd hk (f := fun y => { y with pins := y.pins - 1 })
      rw [hid] at hset
      have HE2 : Hid (r = (0, { s with L := s.L.set k { s.L[k] with pins := s.L[k].pins - 1 } })) := by
        show r = _
        rw [HE.out, e1, hset]
      have hq : ((s.L[k].pins : Int) == 0) = false := by simp; omega
      have hq2 : ¬ (s.L[k].pins : Int) = 0 := by omega
      clear hget e1 hset
      go_wp2_with fail
      have hcast : ((s.L[k].pins - 1 : Nat) : Int) = (s.L[k].pins : Int) - 1 := by omega
      obtain ⟨x', hx'⟩ : ∃ x' : Sp.RI, x' = { s.L[k] with pins := s.L[k].pins - 1 } := ⟨_, rfl⟩
      have hpg : x'.page = s.L[k].page := by rw [hx']
      have ecs : (riCells x' A c').toArray = #[.int .u8 s.L[k].page.kind, .int .u8 s.L[k].page.level, .int .u32 id, .int .u64 s.L[k].page.lsn, .int .u32 s.L[k].page.next, .slice A s.L[k].page.rows.length c', .int .i64 ((s.L[k].pins : Int) - 1), .bool s.L[k].dirty, .int .u64 s.L[k].from_] := by
        rw [hx']; simp only [riCells, hid, hcast]
      generalize hw2 : World.alloc w1 _ = w2
      have hb12 : Below w1.heap.size w1 w2 := by rw [← hw2]; exact (Below.refl _ _).alloc (Nat.le_refl _) _
      have hX : Blk w2 w1.heap.size 98 (riCells x' A c').toArray := by rw [ecs, ← hw2]; exact Blk.new _ _ _
      have hbd : Below w1.heap.size w1 w2.drew := hb12.trans ((Below.refl w2.heap.size w2).drew.mono hb12.size)
      have h3 := H1.out.below hbd
      have hRx : RowsAt G w2.drew A x'.page.rows := by rw [hpg]; exact Reads.below HR.out hbd
      have hb03 : Below w.heap.size w w2.drew := hb1.trans (hbd.mono hb1.size)
      obtain ⟨cur, hB, hsz, hset⟩ := h3.setL rfl hk hA hRx (by rw [hpg])
      have c1 := h3.blk.cell 1
      simp only [zGA, zGB, zGC] at c1
      have hS := Lib.hid (show w2.drew.cell? ⟨gr, 1, none⟩ = some (.slice (some ⟨g, 0, none⟩) s.L.length c) ∧ Blk w2.drew w1.heap.size 98 (riCells x' A c').toArray from ⟨c1, hX.drew⟩)
      have HSET : Hid (RfAt B G (w2.drew.setRow g (partRow cur (k * 9) (riCells x' A c'))) gr (.slice (some ⟨g, 0, none⟩) s.L.length c) vD { s with L := s.L.set k x' }) := hset
      have HB := Lib.hid hB
      have HB03 := Lib.hid hb03
      rw [← hx'] at HE2
      clear k0 k1 k2 k3 k4 k5 k6 k7 k8 c1 hw2 hX hset hB ecs hcast hx'
      generalize w1.heap.size = gx at *
      refine R_begin (fun (W : World) => W.cell? ⟨gr, 1, none⟩ = some (.slice (some ⟨g, 0, none⟩) s.L.length c) ∧ Blk W gx 98 (riCells x' A c').toArray) (fun j => decide (7 ≤ j)) rfl ?_
      refine R_tk 0 34 hS.out ?_
      simp only [zSA, zSB, zSC]
      refine R_tk 1 35 hS.out ?_
      simp only [zSA, zSB, zSC]
      refine R_tk 2 36 hS.out ?_
      simp only [zSA, zSB, zSC]
      refine R_tk 3 37 hS.out ?_
      simp only [zSA, zSB, zSC]
      refine R_tk 4 38 hS.out ?_
      simp only [zSA, zSB, zSC]
      refine R_take 5 39 (v := .agg (riCells x' A c').toArray) rfl rfl (by rfl) (by kernel_rfl) (fun _ _ _ h => h) hS.out ?_ ?_
      · intro w hSw
        exact run_op_load _ _ _ rfl rfl (run_loadVar_row w gx _ _ _ _ _ hSw.2 Tryz.underlying98 rfl rfl)
      simp only [zSA, zSB, zSC]
      refine R_tk 6 40 hS.out ?_
      simp only [zSA, zSB, zSC]
      refine R_store 7 (n := .skip) (w' := w2.drew.setRow g (partRow cur (k * 9) (riCells x' A c'))) rfl rfl (by rfl) (by kernel_rfl) (run_op_store _ _ _ ⟨g, k * 9, none⟩ _ rfl rfl rfl (run_storeVar_part w2.drew g (k * 9) _ _ cur (riCells x' A c').toArray HB.out item_size (by show k * 9 + 9 ≤ _; omega) (by simp [riCells, Value.oneCell']))) (.inl rfl) (fun h => nomatch h) ?_
      have ht := (Turns.of_below hb03 (rfO gr (.slice (some ⟨g, 0, none⟩) s.L.length c) vD)).setRow (g := g) (.inl (.inr (.inl rfl))) (partRow cur (k * 9) (riCells x' A c'))
      have HT := Lib.hid ht
      clear ht hS HB HB03 hb03 hbd hb12 HR H1 H hRx h3
      generalize w2.drew.setRow g (partRow cur (k * 9) (riCells x' A c')) = w4 at *
      refine R_done (by kernel_rfl) ?_ _
      rename_i K9 hK9
      refine hK9 _ _ ?_
      clear hK9
      go_wp2_with fail
      go_ret
      rw [HE2.out]
      exact ⟨rfl, _, HSET.out, HT.out⟩
end
end Go.Proofs.YtndglfiepeefdaaGreat

/- The walks of pentimentoref06: left and May. -/
namespace Go.Proofs.YtndglfiepeefdaaGreat
open Go.RowKit

/-- What rows leave of a page's area. -/
def leftI (rows : List Sp.Bs) (k : Nat) : Int := (484 : Int) - 4 * k - Sp.total (rows.take k)
set_option maxRecDepth 100000 in
set_option maxHeartbeats 1000000 in
theorem ref06_left {w : World} {G : Foot} {p : Sp.Pg} {A : Option Addr} {c : Nat} (hR : RowsAt G w A p.rows) (hn : p.rows.length ≤ 1000000000) (ht : Sp.total p.rows ≤ 1000000000000000000) :
    Calls Tryz.prog 146 #[pgV p A c] w fun e w' => e = .returned (.int .i64 (leftI p.rows p.rows.length)) ∧ Below w.heap.size w w' := by
  have hb1 := (Below.refl w.heap.size w).alloc (Nat.le_refl _) (.cells (pgCs p A c) 32)
  have hB1 := Blk.new w 32 (pgCs p A c)
  have HR1 := Lib.hid (Reads.below hR hb1)
  have c5 := hB1.cell 5
  simp only [zGA, zGB, zGC] at c5
  clear hR
  go_enter Tryz.func146, Tryz.ntmps146
  go_wp2_with fail
  change Code.wp _ _ _ _ (w.alloc (.cells (pgCs p A c) 32))
  generalize hw1 : World.alloc w _ = w1 at hb1 hB1 HR1 c5 ⊢
  clear hw1
  go_loopw [3, 4] (fun v i wr => ∃ k : Nat, k ≤ p.rows.length ∧ i = .int .i64 k ∧ v = .int .i64 (leftI p.rows k) ∧ wr = w1) (fun _ i _ => p.rows.length - (intOf i).toNat)
  case atStart => exact ⟨0, by omega, rfl, by simp [leftI], rfl⟩
  case round =>
    obtain ⟨k, hk, rfl, rfl, rfl⟩ := hrel
    by_cases hlt : k < p.rows.length
    · obtain ⟨b, o, rfl, _, hb, hc⟩ := RowsAt.row HR1.out hlt
      have htk := Sp.total_take_succ p.rows k hlt
      have hle := Sp.total_take_le p.rows (k + 1)
      have hle2 := Sp.total_take_le p.rows k
      have HE := Lib.hid (show leftI p.rows (k + 1) = leftI p.rows k - 4 - (p.rows[k].length : Int) by unfold leftI; omega)
      have hl1 : leftI p.rows k ≤ 484 := by unfold leftI; omega
      have hl2 : -2000000000000000000 ≤ leftI p.rows k := by unfold leftI; omega
      have hl3 : p.rows[k].length ≤ 1000000000000000000 := by omega
      generalize leftI p.rows k = L at *
      generalize p.rows[k] = r at *
      clear htk hle hle2
      go_wp2_with fail
      go_roundw
      case rel => exact ⟨k + 1, hlt, by go_num, by rw [HE.out], trivial⟩
      case measure => simp [intOf]; omega
    · obtain rfl : k = p.rows.length := by omega
      go_wp2_with fail
      go_ret
      exact ⟨rfl, hb1⟩

set_option maxRecDepth 100000 in
set_option maxHeartbeats 4000000 in
theorem ref06_may {w : World} {G : Foot} {p : Sp.Pg} {A : Option Addr} {c : Nat} (hR : RowsAt G w A p.rows) (hn : p.rows.length ≤ 1000000000) (ht : Sp.total p.rows ≤ 1000000000000000000) :
    Calls Tryz.prog 95 #[pgV p A c] w fun e w' => e = .returned (.bool (mayB p)) ∧ Below w.heap.size w w' := by
  have key : (decide ((p.kind : Int) ≤ 5) = false ∧ mayB p = false) ∨ (decide ((p.kind : Int) ≤ 5) = true ∧ decide (0 < (p.id : Int)) = false ∧ mayB p = false) ∨
      (decide ((p.kind : Int) ≤ 5) = true ∧ decide (0 < (p.id : Int)) = true ∧ decide ((p.id : Int) ≤ 1024) = false ∧ mayB p = false) ∨
      (decide ((p.kind : Int) ≤ 5) = true ∧ decide (0 < (p.id : Int)) = true ∧ decide ((p.id : Int) ≤ 1024) = true ∧ decide ((p.next : Int) ≤ 1024) = false ∧ mayB p = false) ∨
      (decide ((p.kind : Int) ≤ 5) = true ∧ decide (0 < (p.id : Int)) = true ∧ decide ((p.id : Int) ≤ 1024) = true ∧ decide ((p.next : Int) ≤ 1024) = true ∧ decide (0 ≤ leftI p.rows p.rows.length) = false ∧ mayB p = false) ∨
      (decide ((p.kind : Int) ≤ 5) = true ∧ decide (0 < (p.id : Int)) = true ∧ decide ((p.id : Int) ≤ 1024) = true ∧ decide ((p.next : Int) ≤ 1024) = true ∧ decide (0 ≤ leftI p.rows p.rows.length) = true ∧ mayB p = true) := by
    have e5 : leftI p.rows p.rows.length = (484 : Int) - 4 * p.rows.length - Sp.total p.rows := by unfold leftI; rw [List.take_length]
    rw [e5]
    by_cases a1 : p.kind ≤ 5
    · by_cases a2 : 1 ≤ p.id
      · by_cases a3 : p.id ≤ 1024
        · by_cases a4 : p.next ≤ 1024
          · by_cases a5 : 4 * p.rows.length + Sp.total p.rows ≤ 484
            · refine .inr (.inr (.inr (.inr (.inr ⟨?_, ?_, ?_, ?_, ?_, by simp [mayB, a1, a2, a3, a4, a5]⟩)))) <;> rw [decide_eq_true_eq] <;> omega
            · refine .inr (.inr (.inr (.inr (.inl ⟨?_, ?_, ?_, ?_, ?_, by simp [mayB, a5]⟩)))) <;> first | (rw [decide_eq_true_eq]; omega) | (rw [decide_eq_false_iff_not]; omega)
          · refine .inr (.inr (.inr (.inl ⟨?_, ?_, ?_, ?_, by simp [mayB, a4]⟩))) <;> first | (rw [decide_eq_true_eq]; omega) | (rw [decide_eq_false_iff_not]; omega)
        · refine .inr (.inr (.inl ⟨?_, ?_, ?_, by simp [mayB, a3]⟩)) <;> first | (rw [decide_eq_true_eq]; omega) | (rw [decide_eq_false_iff_not]; omega)
      · refine .inr (.inl ⟨?_, ?_, by simp [mayB, a2]⟩) <;> first | (rw [decide_eq_true_eq]; omega) | (rw [decide_eq_false_iff_not]; omega)
    · refine .inl ⟨?_, by simp [mayB, a1]⟩; rw [decide_eq_false_iff_not]; omega
  have hb1 := (Below.refl w.heap.size w).alloc (Nat.le_refl _) (.cells (pgCs p A c) 32)
  have hB1 := Blk.new w 32 (pgCs p A c)
  have HL := Lib.hid (ref06_left (c := c) (Reads.below hR hb1) hn ht)
  have c0 := hB1.cell 0
  have c1 := hB1.cell 1
  have c2 := hB1.cell 2
  have c3 := hB1.cell 3
  have c4 := hB1.cell 4
  have c5 := hB1.cell 5
  simp only [zGA, zGB, zGC] at c0 c1 c2 c3 c4 c5
  have HM : Hid (∃ mb, mayB p = mb) := ⟨_, rfl⟩
  generalize mayB p = mb at *
  generalize leftI p.rows p.rows.length = L at *
  clear hR HM
  rcases key with ⟨d1, hmb⟩ | ⟨d1, d2, hmb⟩ | ⟨d1, d2, d3, hmb⟩ | ⟨d1, d2, d3, d4, hmb⟩ | ⟨d1, d2, d3, d4, d5, hmb⟩ | ⟨d1, d2, d3, d4, d5, hmb⟩
  · subst hmb
    go_enter Tryz.func95, Tryz.ntmps95
    go_wp2_with fail
    go_ret
    exact ⟨rfl, hb1⟩
  · subst hmb
    have d2' : ¬ (0 < p.id) := by have := of_decide_eq_false d2; omega
    go_enter Tryz.func95, Tryz.ntmps95
    go_wp2_with fail
    go_ret
    exact ⟨rfl, hb1⟩
  · subst hmb
    have d2' : 0 < p.id := by have := of_decide_eq_true d2; omega
    go_enter Tryz.func95, Tryz.ntmps95
    go_wp2_with fail
    go_ret
    exact ⟨rfl, hb1⟩
  · subst hmb
    have d2' : 0 < p.id := by have := of_decide_eq_true d2; omega
    go_enter Tryz.func95, Tryz.ntmps95
    go_wp2_with fail
    go_ret
    exact ⟨rfl, hb1⟩
  all_goals
    subst hmb
    have d2' : 0 < p.id := by have := of_decide_eq_true d2; omega
    go_enter Tryz.func95, Tryz.ntmps95
    go_wp2_with fail
    refine HL.out.mono ?_
    rintro e w2 ⟨rfl, hb2⟩
    have hb3 := hb1.trans (hb2.mono hb1.size)
    clear HL c0 c1 c2 c3 c4 c5
    go_wp2_with fail
    go_ret
    exact ⟨rfl, hb3⟩
end Go.Proofs.YtndglfiepeefdaaGreat

/- The document's pool: Put. -/
namespace Go.Proofs.YtndglfiepeefdaaGreat
open Go.RowKit Go.Conc

section
variable {B gr : Nat} {G : Foot} {w : World} {vL vD : Value} {s : Sp.R15}
set_option maxRecDepth 100000 in
set_option maxHeartbeats 4000000 in
theorem ref_put (h : RfAt B G w gr vL vD s) {x : Sp.Pg} {A0 : Option Addr} {c0 : Nat} (hA0 : OkR A0) (hR0 : RowsAt G w A0 x.rows) (hn : x.rows.length ≤ 1000000000) (ht : Sp.total x.rows ≤ 1000000000000000000) :
    Calls Tryz.prog 37 #[ptr gr, pgV x A0 c0] w fun e w' => e = .returned (.int .i64 (s.put x (mayB x)).1) ∧ RfPost B G w gr vL vD (s.put x (mayB x)).2 w' := by
  obtain ⟨r, hr⟩ : ∃ r, r = s.put x (mayB x) := ⟨_, rfl⟩
  rw [← hr]
  have HE := Lib.hid hr
  have H := Lib.hid h
  have hba := (Below.refl w.heap.size w).alloc (Nat.le_refl _) (.cells (pgCs x A0 c0) 32)
  have hB1 := Blk.new w 32 (pgCs x A0 c0)
  have HMA := Lib.hid (ref06_may (w := w.alloc (.cells (pgCs x A0 c0) 32)) (c := c0) (Reads.below hR0 hba) hn ht)
  clear hr h
  go_enter Tryz.func37, Tryz.ntmps37
  go_wp2_with fail
  obtain ⟨w1, hw1⟩ : ∃ w1, w1 = w.alloc (.cells (pgCs x A0 c0) 32) := ⟨_, rfl⟩
  rw [← hw1] at hB1 HMA hba ⊢
  obtain ⟨g3, hg3⟩ : ∃ g, g = w.heap.size := ⟨_, rfl⟩
  rw [← hg3] at hB1 ⊢
  have hg3l : w.heap.size ≤ g3 := by omega
  clear hw1 hg3
  refine HMA.out.mono ?_
  rintro e w2 ⟨rfl, hb2⟩
  have hB2 := hB1.below hb2 hB1.lt
  have hb02 : Below w.heap.size w w2 := hba.trans (hb2.mono hba.size)
  clear HMA hB1 hb2 hba
  cases hm : mayB x with
  | false =>
    have e1 : s.put x false = (2, s) := by unfold Sp.R15.put; rw [if_pos rfl]
    rw [hm] at HE
    clear hB2
    go_wp2_with fail
    go_ret
    rw [HE.out, e1]
    exact ⟨rfl, RfPost.same H.out hb02⟩
  | true =>
    rw [hm] at HE
    have z0 := hB2.cell 0
    have z1 := hB2.cell 1
    have z2 := hB2.cell 2
    have z3 := hB2.cell 3
    have z4 := hB2.cell 4
    have z5 := hB2.cell 5
    simp only [zGA, zGB, zGC] at z0 z1 z2 z3 z4 z5
    have HAT := Lib.hid (ref_at (H.out.below hb02) x.id)
    have HB2 := Lib.hid hB2
    clear hB2
    go_wp2_with fail
    refine HAT.out.mono ?_
    rintro e w3 ⟨rfl, hb3⟩
    have hb03 : Below w.heap.size w w3 := hb02.trans (hb3.mono hb02.size)
    have hB3 := HB2.out.below hb3 HB2.out.lt
    clear HAT z0 z1 z2 z3 z4 z5 HB2 hb3 hb02
    have h3 := H.out.below hb03
    rcases Sp.at_cases s x.id with ⟨hat, hget, _⟩ | ⟨k, hk, hat, hid, hget, _⟩
    · have e1 : s.put x true = (3, s) := by unfold Sp.R15.put; rw [if_neg (by decide), hget]
      rw [hat]
      clear hat hget h3 hB3
      go_wp2_with fail
      go_ret
      rw [HE.out, e1]
      exact ⟨rfl, RfPost.same H.out hb03⟩
    · rw [hat]
      obtain ⟨g, c, A, c', rfl, hA, hR, hc⟩ := h3.item hk
      have c1 := h3.blk.cell 1
      simp only [zGA, zGB, zGC] at c1
      have H3 := Lib.hid h3
      have k0 := hc 0 (by omega)
      have k1 := hc 1 (by omega)
      have k2 := hc 2 (by omega)
      have k3 := hc 3 (by omega)
      have k4 := hc 4 (by omega)
      have k5 := hc 5 (by omega)
      have k6 := hc 6 (by omega)
      have k7 := hc 7 (by omega)
      have k8 := hc 8 (by omega)
      simp only [riCells, List.getElem?_cons_succ, List.getElem?_cons_zero, Nat.add_zero] at k0 k1 k2 k3 k4 k5 k6 k7 k8
      have hds : decide ((k : Int) < 0) = false := by rw [decide_eq_false_iff_not]; omega
      have z0 := hB3.cell 0
      have z1 := hB3.cell 1
      have z2 := hB3.cell 2
      have z3 := hB3.cell 3
      have z4 := hB3.cell 4
      have z5 := hB3.cell 5
      simp only [zGA, zGB, zGC] at z0 z1 z2 z3 z4 z5
      have hg3w := hB3.lt
      have hggw : g < w3.heap.size := World.block_lt_of_cell? w3 _ k0
      clear hat hc h3 hR hB3
      by_cases h0 : s.L[k].pins = 0
      · have e1 : s.put x true = (3, s) := by unfold Sp.R15.put; rw [if_neg (by decide), hget]; simp only; rw [if_pos h0]
        rw [h0] at k6
        go_wp2_with fail
        go_ret
        rw [HE.out, e1]
        exact ⟨rfl, RfPost.same H.out hb03⟩
      · have hq : ((s.L[k].pins : Int) == 0) = false := by simp; omega
        have hq2 : ¬ (s.L[k].pins : Int) = 0 := by omega
        cases hd : s.L[k].dirty with
        | true =>
          rw [hd] at k7
          go_wp2_with fail
          have HE2 : Hid (r = (0, { s with L := s.L.set k { s.L[k] with page := x } })) := by
            show r = _
            rw [HE.out]
            unfold Sp.R15.put
            rw [if_neg (by decide), hget]
            simp only
            rw [if_neg h0]
            have hset := Sp.upR_set H.out.nd hk (f := fun y => if y.dirty then { y with page := x } else { y with page := x, dirty := true, from_ := x.lsn })
            rw [hid] at hset
            rw [hset, hd]
            rfl
          obtain ⟨x', hx'⟩ : ∃ x' : Sp.RI, x' = { s.L[k] with page := x } := ⟨_, rfl⟩
          have ecs : (riCells x' A0 c0).toArray = #[.int .u8 x.kind, .int .u8 x.level, .int .u32 x.id, .int .u64 x.lsn, .int .u32 x.next, .slice A0 x.rows.length c0, .int .i64 s.L[k].pins, .bool true, .int .u64 s.L[k].from_] := by rw [hx']; simp only [riCells, hd]
          generalize hw2 : World.alloc w3 _ = w5
          have hb12 : Below w3.heap.size w3 w5 := by rw [← hw2]; exact (Below.refl _ _).alloc (Nat.le_refl _) _
          have hX : Blk w5 w3.heap.size 98 (riCells x' A0 c0).toArray := by rw [ecs, ← hw2]; exact Blk.new _ _ _
          have hbd : Below w3.heap.size w3 w5.drew := hb12.trans ((Below.refl w5.heap.size w5).drew.mono hb12.size)
          have h6 := H3.out.below hbd
          have hRx : RowsAt G w5.drew A0 x'.page.rows := by rw [show x'.page = x by rw [hx']]; exact Reads.below (Reads.below hR0 hb03) hbd
          have hb05 : Below w.heap.size w w5.drew := hb03.trans (hbd.mono hb03.size)
          obtain ⟨cur, hB, hsz, hset⟩ := h6.setL rfl hk hA0 hRx (by rw [show x'.page = x by rw [hx']]; exact hid.symm)
          have c1 := h6.blk.cell 1
          simp only [zGA, zGB, zGC] at c1
          have hS : Hid (w5.drew.cell? ⟨gr, 1, none⟩ = some (.slice (some ⟨g, 0, none⟩) s.L.length c) ∧ Blk w5.drew w3.heap.size 98 (riCells x' A0 c0).toArray) := ⟨c1, hX.drew⟩
          have HSET : Hid (RfAt B G (w5.drew.setRow g (partRow cur (k * 9) (riCells x' A0 c0))) gr (.slice (some ⟨g, 0, none⟩) s.L.length c) vD { s with L := s.L.set k x' }) := hset
          have HB : Hid (Blk w5.drew g 98 cur) := hB
          have HT : Hid (Turns (rfO gr (.slice (some ⟨g, 0, none⟩) s.L.length c) vD) (rfO gr (.slice (some ⟨g, 0, none⟩) s.L.length c) vD) w (w5.drew.setRow g (partRow cur (k * 9) (riCells x' A0 c0)))) := (Turns.of_below hb05 _).setRow (g := g) (.inl (.inr (.inl rfl))) _
          rw [← hx'] at HE2
          clear k0 k1 k2 k3 k4 k5 k6 k7 k8 c1 hw2 hX hset hB ecs hx'
          generalize w3.heap.size = gx at *
          refine R_begin (fun (W : World) => W.cell? ⟨gr, 1, none⟩ = some (.slice (some ⟨g, 0, none⟩) s.L.length c) ∧ Blk W gx 98 (riCells x' A0 c0).toArray) (fun j => decide (7 ≤ j)) rfl ?_
          refine R_tk 0 43 hS.out ?_
          simp only [zSA, zSB, zSC]
          refine R_tk 1 44 hS.out ?_
          simp only [zSA, zSB, zSC]
          refine R_tk 2 45 hS.out ?_
          simp only [zSA, zSB, zSC]
          refine R_tk 3 46 hS.out ?_
          simp only [zSA, zSB, zSC]
          refine R_tk 4 47 hS.out ?_
          simp only [zSA, zSB, zSC]
          refine R_take 5 48 (v := .agg (riCells x' A0 c0).toArray) rfl rfl (by rfl) (by kernel_rfl) (fun _ _ _ h => h) hS.out ?_ ?_
          · intro w hSw
            exact run_op_load _ _ _ rfl rfl (run_loadVar_row w gx _ _ _ _ _ hSw.2 Tryz.underlying98 rfl rfl)
          simp only [zSA, zSB, zSC]
          refine R_tk 6 49 hS.out ?_
          simp only [zSA, zSB, zSC]
          refine R_store 7 (n := .skip) (w' := w5.drew.setRow g (partRow cur (k * 9) (riCells x' A0 c0))) rfl rfl (by rfl) (by kernel_rfl) (run_op_store _ _ _ ⟨g, k * 9, none⟩ _ rfl rfl rfl (run_storeVar_part w5.drew g (k * 9) _ _ cur (riCells x' A0 c0).toArray HB.out item_size (by show k * 9 + 9 ≤ _; omega) (by simp [riCells, Value.oneCell']))) (.inl rfl) (fun h => nomatch h) ?_
          clear hS HB hb05 hbd hb12 hRx h6
          generalize w5.drew.setRow g (partRow cur (k * 9) (riCells x' A0 c0)) = w6 at *
          refine R_done (by kernel_rfl) ?_ _
          rename_i K9 hK9
          refine hK9 _ _ ?_
          clear hK9
          go_wp2_with fail
          go_ret
          rw [HE2.out]
          exact ⟨rfl, _, HSET.out, HT.out⟩
        | false =>
          rw [hd] at k7
          go_wp2_with fail
          have HE2 : Hid (r = (0, { s with L := s.L.set k { s.L[k] with page := x, dirty := true, from_ := x.lsn } })) := by
            show r = _
            rw [HE.out]
            unfold Sp.R15.put
            rw [if_neg (by decide), hget]
            simp only
            rw [if_neg h0]
            have hset := Sp.upR_set H.out.nd hk (f := fun y => if y.dirty then { y with page := x } else { y with page := x, dirty := true, from_ := x.lsn })
            rw [hid] at hset
            rw [hset, hd]
            rfl
          obtain ⟨x', hx'⟩ : ∃ x' : Sp.RI, x' = { s.L[k] with page := x, dirty := true, from_ := x.lsn } := ⟨_, rfl⟩
          have ecs : (riCells x' A0 c0).toArray = #[.int .u8 x.kind, .int .u8 x.level, .int .u32 x.id, .int .u64 x.lsn, .int .u32 x.next, .slice A0 x.rows.length c0, .int .i64 s.L[k].pins, .bool true, .int .u64 x.lsn] := by rw [hx']; rfl
          generalize hw2 : World.alloc w3 _ = w5
          have hb12 : Below w3.heap.size w3 w5 := by rw [← hw2]; exact (Below.refl _ _).alloc (Nat.le_refl _) _
          have hX : Blk w5 w3.heap.size 98 (riCells x' A0 c0).toArray := by rw [ecs, ← hw2]; exact Blk.new _ _ _
          have hbd : Below w3.heap.size w3 w5.drew := hb12.trans ((Below.refl w5.heap.size w5).drew.mono hb12.size)
          have h6 := H3.out.below hbd
          have hRx : RowsAt G w5.drew A0 x'.page.rows := by rw [show x'.page = x by rw [hx']]; exact Reads.below (Reads.below hR0 hb03) hbd
          have hb05 : Below w.heap.size w w5.drew := hb03.trans (hbd.mono hb03.size)
          obtain ⟨cur, hB, hsz, hset⟩ := h6.setL rfl hk hA0 hRx (by rw [show x'.page = x by rw [hx']]; exact hid.symm)
          have c1 := h6.blk.cell 1
          simp only [zGA, zGB, zGC] at c1
          have hS : Hid (w5.drew.cell? ⟨gr, 1, none⟩ = some (.slice (some ⟨g, 0, none⟩) s.L.length c) ∧ Blk w5.drew w3.heap.size 98 (riCells x' A0 c0).toArray) := ⟨c1, hX.drew⟩
          have HSET : Hid (RfAt B G (w5.drew.setRow g (partRow cur (k * 9) (riCells x' A0 c0))) gr (.slice (some ⟨g, 0, none⟩) s.L.length c) vD { s with L := s.L.set k x' }) := hset
          have HB : Hid (Blk w5.drew g 98 cur) := hB
          have HT : Hid (Turns (rfO gr (.slice (some ⟨g, 0, none⟩) s.L.length c) vD) (rfO gr (.slice (some ⟨g, 0, none⟩) s.L.length c) vD) w (w5.drew.setRow g (partRow cur (k * 9) (riCells x' A0 c0)))) := (Turns.of_below hb05 _).setRow (g := g) (.inl (.inr (.inl rfl))) _
          rw [← hx'] at HE2
          clear k0 k1 k2 k3 k4 k5 k6 k7 k8 c1 hw2 hX hset hB ecs hx'
          generalize w3.heap.size = gx at *
          refine R_begin (fun (W : World) => W.cell? ⟨gr, 1, none⟩ = some (.slice (some ⟨g, 0, none⟩) s.L.length c) ∧ Blk W gx 98 (riCells x' A0 c0).toArray) (fun j => decide (7 ≤ j)) rfl ?_
          refine R_tk 0 43 hS.out ?_
          simp only [zSA, zSB, zSC]
          refine R_tk 1 44 hS.out ?_
          simp only [zSA, zSB, zSC]
          refine R_tk 2 45 hS.out ?_
          simp only [zSA, zSB, zSC]
          refine R_tk 3 46 hS.out ?_
          simp only [zSA, zSB, zSC]
          refine R_tk 4 47 hS.out ?_
          simp only [zSA, zSB, zSC]
          refine R_take 5 48 (v := .agg (riCells x' A0 c0).toArray) rfl rfl (by rfl) (by kernel_rfl) (fun _ _ _ h => h) hS.out ?_ ?_
          · intro w hSw
            exact run_op_load _ _ _ rfl rfl (run_loadVar_row w gx _ _ _ _ _ hSw.2 Tryz.underlying98 rfl rfl)
          simp only [zSA, zSB, zSC]
          refine R_tk 6 49 hS.out ?_
          simp only [zSA, zSB, zSC]
          refine R_store 7 (n := .skip) (w' := w5.drew.setRow g (partRow cur (k * 9) (riCells x' A0 c0))) rfl rfl (by rfl) (by kernel_rfl) (run_op_store _ _ _ ⟨g, k * 9, none⟩ _ rfl rfl rfl (run_storeVar_part w5.drew g (k * 9) _ _ cur (riCells x' A0 c0).toArray HB.out item_size (by show k * 9 + 9 ≤ _; omega) (by simp [riCells, Value.oneCell']))) (.inl rfl) (fun h => nomatch h) ?_
          clear hS HB hb05 hbd hb12 hRx h6
          generalize w5.drew.setRow g (partRow cur (k * 9) (riCells x' A0 c0)) = w6 at *
          refine R_done (by kernel_rfl) ?_ _
          rename_i K9 hK9
          refine hK9 _ _ ?_
          clear hK9
          go_wp2_with fail
          go_ret
          rw [HE2.out]
          exact ⟨rfl, _, HSET.out, HT.out⟩
end
end Go.Proofs.YtndglfiepeefdaaGreat

/- The document's pool: a page of its disk is written. -/
namespace Go.Proofs.YtndglfiepeefdaaGreat
open Go.RowKit Go.Conc

/-- A page of the disk is written. -/
theorem RfAt.setD {B gr g c q : Nat} {G : Foot} {w : World} {vL : Value} {s : Sp.R15} (h : RfAt B G w gr vL (.slice (some ⟨g, 0, none⟩) (s.top + 1) c) s) (h1 : 1 ≤ q) (hq : q ≤ s.top) {x : Sp.Pg} {A' : Option Addr} {c' : Nat} (hA : OkR A') (hR : RowsAt G w A' x.rows) :
    ∃ cur, Blk w g 32 cur ∧ q * 6 + 6 ≤ cur.size ∧ RfAt B G (w.setRow g (partRow cur (q * 6) (pgCs x A' c').toList)) gr vL (.slice (some ⟨g, 0, none⟩) (s.top + 1) c) { s with disk := fun n => if n = q then x else s.disk n } := by
  obtain ⟨xs, hrow, hRi⟩ := h.L
  obtain ⟨ys, hD, hP⟩ := h.D
  obtain ⟨cur, hB, hsz, hD'⟩ := row_item_set (k := q) hD (by omega) (pgCs x A' c').toList rfl
  have hsr : (w.setRow g (partRow cur (q * 6) (pgCs x A' c').toList)).heap.size = w.heap.size := by simp [World.setRow]
  have hoth : ∀ b, b ≠ g → (w.setRow g (partRow cur (q * 6) (pgCs x A' c').toList)).heap[b]? = w.heap[b]? := fun b hb => heap_setRow_other w g b _ hb
  have hgG : ∀ b, G b → b ≠ g := fun b hb e => (h.g b hb).2.2.2 (by rw [e]; rfl)
  have hgr : gr ≠ g := fun e => h.Dr (by rw [e]; rfl)
  have hyl : ys.length = (s.top + 1) * 6 := hP.1
  have hpos : q * 6 + (pgCs x A' c').toList.length ≤ ys.length := by
    rw [hyl]; show q * 6 + 6 ≤ _; omega
  refine ⟨cur, hB, hsz, ?_⟩
  exact {
    blk := h.blk.keep (hoth gr hgr)
    L := ⟨xs, row_keep' hrow (fun b hb => hoth b (fun e => h.LD b hb (by rw [e]; rfl))), hRi.1, fun i x hx => by
      obtain ⟨A, c2, q1, q2, q3⟩ := hRi.2 i x hx
      exact ⟨A, c2, q1, q2.keep (by rw [hsr]; exact Nat.le_refl _) (fun b hb => hoth b (hgG b hb)), q3⟩⟩
    D := ⟨_, hD', hD'.1, fun n hn => by
      by_cases e : n = q
      · subst e
        have eh : ({ s with disk := fun m => if m = n then x else s.disk m } : Sp.R15).home n = x := by
          unfold Sp.R15.home
          rw [if_neg (by omega)]
          show (if n = n then x else _) = x
          rw [if_pos rfl]
        rw [eh]
        refine ⟨A', c', hA, hR.keep (by rw [hsr]; exact Nat.le_refl _) (fun b hb => hoth b (hgG b hb)), fun j hj => ?_⟩
        have := listPart_in (xs := ys) (l := (pgCs x A' c').toList) (o := n * 6) (j := j) hpos hj
        exact this.trans Array.getElem?_toList
      · have eh : ({ s with disk := fun m => if m = q then x else s.disk m } : Sp.R15).home n = s.home n := by
          unfold Sp.R15.home
          by_cases e0 : n = 0
          · rw [if_pos e0, if_pos e0]
          · rw [if_neg e0, if_neg e0]
            show (if n = q then x else _) = _
            rw [if_neg e]
        rw [eh]
        obtain ⟨A, c2, q1, q2, q3⟩ := hP.2 n hn
        refine ⟨A, c2, q1, q2.keep (by rw [hsr]; exact Nat.le_refl _) (fun b hb => hoth b (hgG b hb)), fun j hj => ?_⟩
        have := listPart_out (xs := ys) (l := (pgCs x A' c').toList) (o := q * 6) (k := n * 6 + j) hpos (by show n * 6 + j < q * 6 ∨ q * 6 + 6 ≤ n * 6 + j; omega)
        exact this.trans (q3 j hj)⟩
    few := h.few, ids := h.ids, nd := h.nd, Lr := h.Lr, Dr := h.Dr, LD := h.LD, lo := h.lo
    g := fun b hb => ⟨by rw [hsr]; exact (h.g b hb).1, (h.g b hb).2⟩ }
end Go.Proofs.YtndglfiepeefdaaGreat

/- The document's pool: what Write leaves, page by page; fields written. -/
namespace Go.Proofs.YtndglfiepeefdaaGreat
open Go.RowKit Go.Conc

namespace Sp
/-- Behind so many of the pages, of those that are dirty. -/
def R15.wrt (s : R15) (F : Nat) (ids : List Nat) : R15 := { s with forced := F, L := s.L.map (cleaned ids), disk := fun q => if q ∈ ids ∧ isDirty s.L q = true then ((getR? s.L q).map (·.page)).getD (s.disk q) else s.disk q }
/-- One more. -/
def R15.w1 (s : R15) (n : Nat) : R15 := match getR? s.L n with
  | some x => if x.dirty = true then { s with L := upR s.L n (fun y => { y with dirty := false, from_ := 0 }), disk := fun m => if m = n then x.page else s.disk m } else s
  | none => s
theorem cleaned_id (ids : List Nat) (x : RI) : (cleaned ids x).page = x.page := by unfold cleaned; split <;> rfl
theorem cleaned_nil (x : RI) : cleaned [] x = x := by unfold cleaned; rw [if_neg (by simp)]
theorem getR_map (L : List RI) (ids : List Nat) (n : Nat) : getR? (L.map (cleaned ids)) n = (getR? L n).map (cleaned ids) := by
  unfold getR?
  rw [List.find?_map]
  congr 1
  apply congrArg (fun f => List.find? f L)
  funext x
  simp only [Function.comp, cleaned_id]
theorem getR_mem {L : List RI} {n : Nat} {x : RI} (h : getR? L n = some x) : x ∈ L ∧ x.page.id = n := by
  unfold getR? at h
  exact ⟨List.mem_of_find?_eq_some h, by simpa using List.find?_some h⟩
theorem nd_eq {L : List RI} (hn : (L.map (·.page.id)).Nodup) {x y : RI} (hx : x ∈ L) (hy : y ∈ L) (h : x.page.id = y.page.id) : x = y := by
  obtain ⟨i, hi, rfl⟩ := List.mem_iff_getElem.1 hx
  obtain ⟨j, hj, rfl⟩ := List.mem_iff_getElem.1 hy
  have hp := List.pairwise_iff_getElem.1 hn
  rcases Nat.lt_trichotomy i j with hlt | rfl | hlt
  · exact absurd (by rw [List.getElem_map, List.getElem_map]; exact h) (hp i j (by simpa using hi) (by simpa using hj) hlt)
  · rfl
  · exact absurd (by rw [List.getElem_map, List.getElem_map]; exact h.symm) (hp j i (by simpa using hj) (by simpa using hi) hlt)
theorem wrt_nil' (s : R15) (F : Nat) : s.wrt F [] = { s with forced := F } := by
  have e : s.L.map (cleaned []) = s.L := by
    rw [List.map_congr_left (g := id) (fun x _ => cleaned_nil x), List.map_id]
  simp [R15.wrt, e]
theorem wrt_snoc {s : R15} (hn : (s.L.map (·.page.id)).Nodup) (F : Nat) (ids : List Nat) (n : Nat) : s.wrt F (ids ++ [n]) = (s.wrt F ids).w1 n := by
  have hL : (s.wrt F ids).L = s.L.map (cleaned ids) := rfl
  unfold R15.w1
  rw [hL, getR_map]
  cases hg : getR? s.L n with
  | none =>
    have hno : ∀ y ∈ s.L, y.page.id ≠ n := fun y hy e => by
      unfold getR? at hg
      have := List.find?_eq_none.1 hg y hy
      simp [e] at this
    have hd : isDirty s.L n = false := by unfold isDirty; rw [hg]
    simp only [Option.map_none]
    unfold R15.wrt
    congr 1
    · apply List.map_congr_left
      intro y hy
      have := hno y hy
      unfold cleaned
      simp [this]
    · funext m
      by_cases hm : m = n
      · subst hm; simp [hd]
      · simp [hm]
  | some x =>
    obtain ⟨hx, hxi⟩ := getR_mem hg
    have hd : isDirty s.L n = x.dirty := by unfold isDirty; rw [hg]
    simp only [Option.map_some]
    cases hxd : x.dirty with
    | false =>
      have e1 : (cleaned ids x).dirty = false := by unfold cleaned; simp [hxd]
      rw [if_neg (by rw [e1]; decide)]
      unfold R15.wrt
      congr 1
      · apply List.map_congr_left
        intro y hy
        by_cases hyn : y.page.id = n
        · obtain rfl := nd_eq hn hy hx (hyn.trans hxi.symm)
          unfold cleaned
          simp [hxd]
        · unfold cleaned
          simp [hyn]
      · funext m
        by_cases hm : m = n
        · subst hm; simp [hd, hxd]
        · simp [hm]
    | true =>
      by_cases hmem : n ∈ ids
      · have e1 : (cleaned ids x).dirty = false := by unfold cleaned; simp [hxd, hxi, hmem]
        rw [if_neg (by rw [e1]; decide)]
        unfold R15.wrt
        congr 1
        · apply List.map_congr_left
          intro y hy
          unfold cleaned
          by_cases hyn : y.page.id = n
          · simp [hyn, hmem]
          · simp [hyn]
        · funext m
          by_cases hm : m = n
          · subst hm; simp [hmem]
          · simp [hm]
      · have e1 : cleaned ids x = x := by unfold cleaned; simp [hxi, hmem]
        rw [e1, if_pos hxd]
        unfold R15.wrt
        congr 1
        · show _ = upR (s.L.map (cleaned ids)) n _
          unfold upR
          rw [List.map_map]
          apply List.map_congr_left
          intro y hy
          simp only [Function.comp, cleaned_id]
          by_cases hyn : y.page.id = n
          · obtain rfl := nd_eq hn hy hx (hyn.trans hxi.symm)
            rw [if_pos hyn, e1]
            unfold cleaned
            simp [hxd, hyn]
          · rw [if_neg hyn]
            unfold cleaned
            simp [hyn]
        · funext m
          show _ = if m = n then x.page else _
          by_cases hm : m = n
          · subst hm; rw [if_pos rfl, if_pos ⟨by simp, by rw [hd, hxd]⟩, hg]; rfl
          · rw [if_neg hm]
            simp [hm]
theorem wrt_ids (s : R15) (F : Nat) (ids : List Nat) : (s.wrt F ids).L.map (·.page.id) = s.L.map (·.page.id) := by
  show (s.L.map (cleaned ids)).map _ = _
  rw [List.map_map]
  apply List.map_congr_left
  intro x _
  simp only [Function.comp, cleaned_id]
theorem wrt_has (s : R15) (F : Nat) (ids : List Nat) (n : Nat) : hasR (s.wrt F ids).L n = hasR s.L n := by
  show (s.L.map (cleaned ids)).any _ = _
  unfold hasR
  rw [List.any_map]
  congr 1
  funext x
  simp only [Function.comp, cleaned_id]
theorem write_wrt {s : R15} {q : List Nat} (h0 : q.all (fun id => !isDirty s.L id) = false) (h1 : lsnOf s.L q ≤ s.next) : s.write q = (0, s.wrt (if s.forced ≤ lsnOf s.L q then s.next else s.forced) q) := by
  unfold R15.write
  rw [if_neg (by rw [h0]; decide), if_neg (by omega)]
  rfl
end Sp

section
variable {B gr : Nat} {G : Foot} {w : World} {vL vD : Value} {s : Sp.R15}
/-- A number of it is written. -/
theorem RfAt.setNum (h : RfAt B G w gr vL vD s) (i : Nat) (v : Value) {s' : Sp.R15} (hs : s'.L = s.L ∧ s'.disk = s.disk ∧ s'.top = s.top)
    (hc : (#[.int .i64 s.frames, vL, vD, .int .u64 s.forced, .int .u64 s.next] : Array Value).setIfInBounds i v = #[.int .i64 s'.frames, vL, vD, .int .u64 s'.forced, .int .u64 s'.next]) :
    RfAt B G (w.setCell ⟨gr, i, none⟩ v) gr vL vD s' := by
  obtain ⟨eL, eD, eT⟩ := hs
  have hsz : (w.setCell ⟨gr, i, none⟩ v).heap.size = w.heap.size := by simp [World.setCell]
  have hoth : ∀ b, b ≠ gr → (w.setCell ⟨gr, i, none⟩ v).heap[b]? = w.heap[b]? := fun b hb => Below.heap_setCell w ⟨gr, i, none⟩ v b hb
  obtain ⟨xs, hrow, hRi⟩ := h.L
  obtain ⟨ys, hD, hP⟩ := h.D
  have eh : s'.home = s.home := by funext q; unfold Sp.R15.home; rw [eD]
  exact {
    blk := by have := h.blk.set_ i v; rw [hc] at this; exact this
    L := ⟨xs, by rw [eL]; exact row_keep' hrow (fun b hb => hoth b (fun e => h.Lr (by rw [← e]; exact hb))), by rw [eL]; exact hRi.1, fun j x hx => by
      rw [eL] at hx
      obtain ⟨A, c, h1, h2, h3⟩ := hRi.2 j x hx
      exact ⟨A, c, h1, h2.keep (by rw [hsz]; exact Nat.le_refl _) (fun b hb => hoth b (h.g b hb).2.1), h3⟩⟩
    D := ⟨ys, by rw [eT]; exact row_keep' hD (fun b hb => hoth b (fun e => h.Dr (by rw [← e]; exact hb))), by rw [eT]; exact hP.1, fun q hq => by
      rw [eT] at hq
      rw [eh]
      obtain ⟨A, c, h1, h2, h3⟩ := hP.2 q hq
      exact ⟨A, c, h1, h2.keep (by rw [hsz]; exact Nat.le_refl _) (fun b hb => hoth b (h.g b hb).2.1), h3⟩⟩
    few := by rw [eL]; exact h.few
    ids := by rw [eL]; exact h.ids
    nd := by rw [eL]; exact h.nd
    Lr := h.Lr, Dr := h.Dr, LD := h.LD, lo := h.lo
    g := fun b hb => ⟨by rw [hsz]; exact (h.g b hb).1, (h.g b hb).2⟩ }
/-- The world turned in none of its blocks. -/
theorem RfAt.keep {w' : World} (h : RfAt B G w gr vL vD s) (hs : w.heap.size ≤ w'.heap.size) (hk : ∀ b, rfO gr vL vD b ∨ G b → w'.heap[b]? = w.heap[b]?) : RfAt B G w' gr vL vD s := by
  obtain ⟨xs, hrow, hRi⟩ := h.L
  obtain ⟨ys, hD, hP⟩ := h.D
  exact {
    blk := h.blk.keep (hk gr (.inl (.inl rfl)))
    L := ⟨xs, row_keep' hrow (fun b hb => hk b (.inl (.inr (.inl hb)))), hRi.1, fun i x hx => by
      obtain ⟨A, c, h1, h2, h3⟩ := hRi.2 i x hx
      exact ⟨A, c, h1, h2.keep hs (fun b hb => hk b (.inr hb)), h3⟩⟩
    D := ⟨ys, row_keep' hD (fun b hb => hk b (.inl (.inr (.inr hb)))), hP.1, fun q hq => by
      obtain ⟨A, c, h1, h2, h3⟩ := hP.2 q hq
      exact ⟨A, c, h1, h2.keep hs (fun b hb => hk b (.inr hb)), h3⟩⟩
    few := h.few, ids := h.ids, nd := h.nd, Lr := h.Lr, Dr := h.Dr, LD := h.LD, lo := h.lo
    g := fun b hG => ⟨Nat.lt_of_lt_of_le (h.g b hG).1 hs, (h.g b hG).2⟩ }
theorem RfAt.lt (h : RfAt B G w gr vL vD s) {b : Nat} (hb : rfO gr vL vD b ∨ G b) : b < w.heap.size := by
  obtain ⟨xs, hrow, _⟩ := h.L
  obtain ⟨ys, hD, _⟩ := h.D
  have hl : ∀ {e k n : Nat} {v : Value} {zs : List Value}, w.ownsRow B e k v n zs → ∀ b, v.ownBlock = some b → b < w.heap.size := fun hr b hb => by
    obtain ⟨cur, hc⟩ := ownsRow_heap hr hb
    exact (Array.getElem?_eq_some_iff.1 hc).1
  rcases hb with (rfl | hb | hb) | hb
  · exact h.blk.lt
  · exact hl hrow b hb
  · exact hl hD b hb
  · exact (h.g b hb).1
/-- A block of another's is written. -/
theorem RfAt.far (h : RfAt B G w gr vL vD s) {g : Nat} (hg : ¬ (rfO gr vL vD g ∨ G g)) (i : Nat) (v : Value) : RfAt B G (w.setCell ⟨g, i, none⟩ v) gr vL vD s :=
  h.keep (by simp [World.setCell]) (fun b hb => Below.heap_setCell w ⟨g, i, none⟩ v b (fun e => hg (by have e : b = g := e; rw [← e]; exact hb)))
theorem RfAt.setForced (h : RfAt B G w gr vL vD s) (F : Nat) : RfAt B G (w.setCell ⟨gr, 3, none⟩ (.int .u64 F)) gr vL vD { s with forced := F } := h.setNum 3 _ ⟨rfl, rfl, rfl⟩ rfl
theorem RfAt.setNext (h : RfAt B G w gr vL vD s) (F : Nat) : RfAt B G (w.setCell ⟨gr, 4, none⟩ (.int .u64 F)) gr vL vD { s with next := F } := h.setNum 4 _ ⟨rfl, rfl, rfl⟩ rfl
end
end Go.Proofs.YtndglfiepeefdaaGreat

/- The document's pool: its row of items, taken apart and put together. -/
namespace Go.Proofs.YtndglfiepeefdaaGreat
open Go.RowKit Go.Conc

namespace Sp
theorem dropR_erase {L : List RI} (hn : (L.map (·.page.id)).Nodup) {k : Nat} (hk : k < L.length) : dropR L L[k].page.id = L.eraseIdx k := by
  induction L generalizing k with
  | nil => simp at hk
  | cons y L ih =>
    rw [List.map_cons, List.nodup_cons] at hn
    unfold dropR
    cases k with
    | zero =>
      rw [List.getElem_cons_zero, List.filter_cons_of_neg (by simp), List.eraseIdx_cons_zero, List.filter_eq_self]
      intro x hx
      have : x.page.id ≠ y.page.id := fun e => hn.1 (e ▸ List.mem_map.2 ⟨x, hx, rfl⟩)
      simpa using this
    | succ k =>
      have hk' : k < L.length := by simpa using hk
      rw [List.getElem_cons_succ, List.filter_cons_of_pos, List.eraseIdx_cons_succ]
      · congr 1
        exact ih hn.2 hk'
      · have : y.page.id ≠ L[k].page.id := fun e => hn.1 (e ▸ List.mem_map.2 ⟨L[k], List.getElem_mem hk', rfl⟩)
        simpa using this
theorem filt_one {L : List RI} (hn : (L.map (·.page.id)).Nodup) {k : Nat} (hk : k < L.length) : L.filter (fun x => x.page.id == L[k].page.id) = [L[k]] := by
  induction L generalizing k with
  | nil => simp at hk
  | cons y L ih =>
    rw [List.map_cons, List.nodup_cons] at hn
    cases k with
    | zero =>
      rw [List.getElem_cons_zero, List.filter_cons_of_pos (by simp)]
      congr 1
      rw [List.filter_eq_nil_iff]
      intro x hx
      have : x.page.id ≠ y.page.id := fun e => hn.1 (e ▸ List.mem_map.2 ⟨x, hx, rfl⟩)
      simpa using this
    | succ k =>
      have hk' : k < L.length := by simpa using hk
      rw [List.getElem_cons_succ, List.filter_cons_of_neg]
      · exact ih hn.2 hk'
      · have : y.page.id ≠ L[k].page.id := fun e => hn.1 (e ▸ List.mem_map.2 ⟨L[k], List.getElem_mem hk', rfl⟩)
        simpa using this
theorem pinR_erase {L : List RI} (hn : (L.map (·.page.id)).Nodup) {k : Nat} (hk : k < L.length) : pinR L L[k].page.id = L.eraseIdx k ++ [{ L[k] with pins := L[k].pins + 1 }] := by
  unfold pinR
  rw [dropR_erase hn hk, filt_one hn hk]
  rfl
theorem nd_erase {L : List RI} (hn : (L.map (·.page.id)).Nodup) (k : Nat) : ((L.eraseIdx k).map (·.page.id)).Nodup :=
  List.Nodup.sublist ((List.eraseIdx_sublist L k).map _) hn
theorem nd_pin {L : List RI} (hn : (L.map (·.page.id)).Nodup) {k : Nat} (hk : k < L.length) {x : RI} (hx : x.page.id = L[k].page.id) : ((L.eraseIdx k ++ [x]).map (·.page.id)).Nodup := by
  rw [List.map_append, List.nodup_append]
  refine ⟨nd_erase hn k, by simp, fun a ha b hb => ?_⟩
  simp only [List.map_cons, List.map_nil, List.mem_singleton] at hb
  subst hb
  obtain ⟨y, hy, rfl⟩ := List.mem_map.1 ha
  rw [← dropR_erase hn hk] at hy
  have := (List.mem_filter.1 hy).2
  rw [hx]
  simpa using this
end Sp

section
variable {B gr : Nat} {G : Foot} {w w' : World} {vL vD : Value} {s : Sp.R15} {L : List Sp.RI} {xs : List Value}
theorem RiRow.keep (h : RiRow G w L xs) (hs : w.heap.size ≤ w'.heap.size) (hk : ∀ b, G b → w'.heap[b]? = w.heap[b]?) : RiRow G w' L xs :=
  ⟨h.1, fun i x hx => by
    obtain ⟨A, c, h1, h2, h3⟩ := h.2 i x hx
    exact ⟨A, c, h1, h2.keep hs hk, h3⟩⟩
theorem RiRow.take (h : RiRow G w L xs) {k : Nat} (hk : k ≤ L.length) : RiRow G w (L.take k) (xs.take (k * 9)) := by
  have hl := h.1
  refine ⟨by simp; omega, fun i x hx => ?_⟩
  have hi : i < k := by
    have := (List.getElem?_eq_some_iff.1 hx).1
    simp at this; omega
  rw [List.getElem?_take_of_lt hi] at hx
  obtain ⟨A, c, h1, h2, h3⟩ := h.2 i x hx
  exact ⟨A, c, h1, h2, fun j hj => by rw [List.getElem?_take_of_lt (by omega)]; exact h3 j hj⟩
theorem RiRow.drop (h : RiRow G w L xs) (k : Nat) : RiRow G w (L.drop k) (xs.drop (k * 9)) := by
  have hl := h.1
  refine ⟨by simp; omega, fun i x hx => ?_⟩
  rw [List.getElem?_drop] at hx
  obtain ⟨A, c, h1, h2, h3⟩ := h.2 _ x hx
  refine ⟨A, c, h1, h2, fun j hj => ?_⟩
  rw [List.getElem?_drop, ← h3 j hj]
  congr 1
  omega
theorem RiRow.append {L2 : List Sp.RI} {ys : List Value} (h : RiRow G w L xs) (h2 : RiRow G w L2 ys) : RiRow G w (L ++ L2) (xs ++ ys) := by
  have hl := h.1
  have hl2 := h2.1
  refine ⟨by simp; omega, fun i x hx => ?_⟩
  by_cases hi : i < L.length
  · rw [List.getElem?_append_left hi] at hx
    obtain ⟨A, c, q1, q2, q3⟩ := h.2 i x hx
    exact ⟨A, c, q1, q2, fun j hj => by rw [List.getElem?_append_left (by omega)]; exact q3 j hj⟩
  · rw [List.getElem?_append_right (by omega)] at hx
    obtain ⟨A, c, q1, q2, q3⟩ := h2.2 _ x hx
    refine ⟨A, c, q1, q2, fun j hj => ?_⟩
    rw [List.getElem?_append_right (by omega), ← q3 j hj]
    congr 1
    omega
theorem RiRow.one {x : Sp.RI} {A : Option Addr} {c : Nat} (hA : OkR A) (hR : RowsAt G w A x.page.rows) : RiRow G w [x] (riCells x A c) := by
  refine ⟨rfl, fun i y hy => ?_⟩
  match i, hy with
  | 0, hy =>
    injection hy with hy
    subst hy
    exact ⟨A, c, hA, hR, fun j _ => by rw [Nat.zero_mul, Nat.zero_add]⟩
theorem RiRow.erase (h : RiRow G w L xs) {k : Nat} (hk : k < L.length) : RiRow G w (L.eraseIdx k) (xs.take (k * 9) ++ xs.drop ((k + 1) * 9)) := by
  rw [List.eraseIdx_eq_take_drop_succ]
  exact (h.take (by omega)).append (h.drop (k + 1))
theorem RfAt.farRow (h : RfAt B G w gr vL vD s) {g : Nat} (hg : ¬ (rfO gr vL vD g ∨ G g)) (cs : Array Value) : RfAt B G (w.setRow g cs) gr vL vD s :=
  h.keep (Nat.le_of_eq (by simp [World.setRow])) (fun b hb => heap_setRow_other w g b cs (fun e => hg (by rw [← e]; exact hb)))
/-- It has a row of its own anew. -/
theorem RfAt.newL {v : Value} {L' : List Sp.RI} (h : RfAt B G w gr vL vD s) (hs : w.heap.size ≤ w'.heap.size) (hk : ∀ b, (b = gr ∨ vD.ownBlock = some b) ∨ G b → w'.heap[b]? = w.heap[b]?)
    (hrow : w'.ownsRow B 98 9 v L'.length xs) (hR : RiRow G w' L' xs) (hv : ∀ b, v.ownBlock = some b → vL.ownBlock = some b ∨ w.heap.size ≤ b) (hf : L'.length ≤ 64) (hid : ∀ x ∈ L', x.page.id < 4294967296) (hn : (L'.map (·.page.id)).Nodup) :
    RfAt B G (w'.setCell ⟨gr, 1, none⟩ v) gr v vD { s with L := L' } := by
  obtain ⟨ys, hD, hP⟩ := h.D
  have hsz : (w'.setCell ⟨gr, 1, none⟩ v).heap.size = w'.heap.size := by simp [World.setCell]
  have hoth : ∀ b, b ≠ gr → (w'.setCell ⟨gr, 1, none⟩ v).heap[b]? = w'.heap[b]? := fun b hb => Below.heap_setCell w' ⟨gr, 1, none⟩ v b hb
  have hvr : v.ownBlock ≠ some gr := fun e => by
    rcases hv gr e with h1 | h1
    · exact h.Lr h1
    · have := h.blk.lt; omega
  have hGr : ∀ b, G b → b ≠ gr := fun b hb => (h.g b hb).2.1
  have hDl : ∀ b, vD.ownBlock = some b → b < w.heap.size := fun b hb => h.lt (.inl (.inr (.inr hb)))
  exact {
    blk := by
      have := (h.blk.keep (hk gr (.inl (.inl rfl)))).set_ 1 v
      exact this
    L := ⟨xs, row_keep' hrow (fun b hb => hoth b (fun e => hvr (by rw [← e]; exact hb))), hR.keep (by rw [hsz]; exact Nat.le_refl _) (fun b hb => hoth b (hGr b hb))⟩
    D := ⟨ys, row_keep' hD (fun b hb => (hoth b (fun e => h.Dr (by rw [← e]; exact hb))).trans (hk b (.inl (.inr hb)))), hP.1, fun q hq => by
      obtain ⟨A, c, h1, h2, h3⟩ := hP.2 q hq
      exact ⟨A, c, h1, h2.keep (by rw [hsz]; exact hs) (fun b hb => (hoth b (hGr b hb)).trans (hk b (.inr hb))), h3⟩⟩
    few := hf, ids := hid, nd := hn, Lr := hvr, Dr := h.Dr, lo := h.lo
    LD := fun b hb hb2 => by
      rcases hv b hb with h1 | h1
      · exact h.LD b h1 hb2
      · have := hDl b hb2; omega
    g := fun b hb => ⟨by rw [hsz]; exact Nat.lt_of_lt_of_le (h.g b hb).1 hs, hGr b hb, fun e => by
      rcases hv b e with h1 | h1
      · exact (h.g b hb).2.2.1 h1
      · have := (h.g b hb).1; omega, (h.g b hb).2.2.2⟩ }
end
end Go.Proofs.YtndglfiepeefdaaGreat
