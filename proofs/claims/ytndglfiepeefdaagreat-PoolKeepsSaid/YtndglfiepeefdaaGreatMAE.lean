/- Put of a pool with its disk and its log. -/
import Derived.Test.YtndglfiepeefdaaGreatMAD
import Derived.Test.YtndglfiepeefdaaGreatMAA
import Derived.BigQuiet
import Derived.Ground.SlgnProg
import Derived.Shelf.SlicesE.Clone
import Derived.Test.YtndglfiepeefdaaGreatProg
import Derived.Test.YtndglfiepeefdaaGreatMAB
import Derived.Ground.SlgfProg
import Derived.Shelf.SlicesE.IndexFunc
import Derived.Shelf.SlicesE.DeleteFunc
import Derived.Test.YtndglfiepeefdaaGreatMAC
import Derived.Deep.CutBlock

namespace Go.Proofs.YtndglfiepeefdaaGreat
open Go.RowKit Go.Conc

theorem pg_size : (Tryz.prog.info? 32).map (·.size) = some 6 := by kernel_rfl
theorem part_in {cs : Array Value} {o : Nat} {l : List Value} (hi : o + l.length ≤ cs.size) {j : Nat} (hj : j < l.length) : (partRow cs o l)[o + j]? = l[j]? := by
  unfold partRow
  rw [List.getElem?_toArray, List.append_assoc, List.getElem?_append_right (by simp; omega), List.getElem?_append_left (by simp; omega)]
  congr 1
  simp
  omega
theorem part_out {cs : Array Value} {o : Nat} {l : List Value} (hi : o + l.length ≤ cs.size) {k : Nat} (hk : k < o ∨ o + l.length ≤ k) : (partRow cs o l)[k]? = cs[k]? := by
  unfold partRow
  rw [List.getElem?_toArray, List.append_assoc]
  rcases hk with hk | hk
  · rw [List.getElem?_append_left (by simp; omega), List.getElem?_take, if_pos hk, Array.getElem?_toList]
  · rw [List.getElem?_append_right (by simp; omega), List.getElem?_append_right (by simp; omega), List.getElem?_drop, Array.getElem?_toList]
    congr 1
    simp
    omega
theorem part_size {cs : Array Value} {o : Nat} {l : List Value} (hi : o + l.length ≤ cs.size) : (partRow cs o l).size = cs.size := by simp [partRow]; omega

/-- More blocks, that are new. -/
theorem IsPlAt.more {F R G0 : Foot} {w : World} {gp gd gl at_ base fb cb mb s r : Nat} {v : Value} {cs : Array Value} {fl ids : List Nat} {p : Sp.Pl} (h : IsPlAt F R w gp gd gl at_ base fb cb mb v s r cs fl ids p) (hG : ∀ b, G0 b → ¬ F b ∧ b < w.heap.size) :
    IsPlAt (fun b => F b ∨ G0 b) (fun b => R b ∨ G0 b) w gp gd gl at_ base fb cb mb v s r cs fl ids p := by
  obtain ⟨f1, f2, f3, f4, f5⟩ := h.foot
  refine ⟨h.wf, h.blk, ⟨h.fr.blk, h.fr.size, fun it hit => ?_, h.fr.free⟩, h.chan, h.map, h.row, ⟨.inl f1, .inl f2, .inl f3, .inl f4, fun b hb => .inl (f5 b hb)⟩, fun b hb => ?_, fun b hb => ?_⟩
  · obtain ⟨A, c, hA, hR, hc⟩ := h.fr.item it hit
    exact ⟨A, c, hA, hR.mono (fun b hb => .inl hb), hc⟩
  · rcases hb with hb | hb
    · obtain ⟨a1, rest⟩ := h.rows b hb
      exact ⟨.inl a1, rest⟩
    · have hn := (hG b hb).1
      exact ⟨.inr hb, fun e => hn (e ▸ f1), fun e => hn (e ▸ f2), fun e => hn (e ▸ f3), fun e => hn (e ▸ f4), fun e => hn (f5 b e)⟩
  · exact hb.elim (h.lt b) (fun hb => (hG b hb).2)

namespace Sp
/-- What Put makes of a frame. -/
def It.put (x : Pg) (y : It) : It := if y.page.id = x.id then (if y.dirty then { y with page := x } else { y with page := x, dirty := true, from_ := x.lsn }) else y
theorem It.put_tame (x : Pg) : Tame (It.put x) := by
  constructor
  · intro y
    unfold It.put
    split
    · rename_i h
      split <;> exact h.symm
    · rfl
  · intro y
    unfold It.put
    split
    · split <;> rfl
    · rfl
end Sp

def PutPost (F : Foot) (w : World) (gp gd gl at_ base fb cb mb : Nat) (v : Value) (s r : Nat) (fl ids : List Nat) (p : Sp.Pl) (x : Sp.Pg) (e : Ending) (w' : World) : Prop :=
  e = .returned (.int .i64 0) ∧ ∃ (F' R' : Foot) (cs' : Array Value), IsPlAt F' R' w' gp gd gl at_ base fb cb mb v s r cs' fl ids (p.upd x.id (Sp.It.put x)) ∧ Turns F F' w w'

set_option maxRecDepth 100000 in
set_option maxHeartbeats 4000000 in
theorem pool_put {F R G : Foot} {w : World} {gp gd gl at_ base fb cb mb s r : Nat} {v : Value} {cs : Array Value} {fl ids : List Nat} {p : Sp.Pl} (h : IsPlAt F R w gp gd gl at_ base fb cb mb v s r cs fl ids p)
    {x : Sp.Pg} (hx : x.wf ∧ x.may) {A : Option Addr} {c : Nat} (hA : OkAddr A) (hR : RowsAt G w A x.rows) {it : Sp.It} (hf : p.find x.id = some it) (hp : 1 ≤ it.pins) :
    Calls Tryz.prog 16 #[ptr gp, pgV x A c] w (PutPost F w gp gd gl at_ base fb cb mb v s r fl ids p x) := by
  have hfit := hx.2.2.2.2.2
  have hid : x.id < 4294967296 := hx.1.2.2.1
  obtain ⟨hit, hide⟩ := Sp.Pl.find_mem hf
  have hba := (Below.refl w.heap.size w).alloc (Nat.le_refl _) (.cells (pgCs x A c) 32)
  have h1 := h.keep hba.size (fun b hb => hba.block b (h.lt b hb))
  have hB1 := Blk.new w 32 (pgCs x A c)
  have hR1 := Reads.below hR hba
  have HM := Lib.hid (pool_made (w := w.alloc (.cells (pgCs x A c) 32)) h1.cells.2.2.2.2.2.2.1)
  have HMA := Lib.hid (page_may (w := w.alloc (.cells (pgCs x A c) 32)) (c := c) hR1 (by omega) (by omega))
  rw [(mayB_iff x).2 hx.2] at HMA
  have HF := Lib.hid h.lt
  have hFl := h.lt
  have hH := Lib.hid h
  clear h hR
  go_enter Tryz.func16, Tryz.ntmps16
  go_wp2_with fail
  obtain ⟨w1, hw1⟩ : ∃ w1, w1 = w.alloc (.cells (pgCs x A c) 32) := ⟨_, rfl⟩
  rw [← hw1] at h1 hB1 hR1 HM HMA hba ⊢
  obtain ⟨g3, hg3⟩ : ∃ g, g = w.heap.size := ⟨_, rfl⟩
  rw [← hg3] at hB1 ⊢
  have hg3l : w.heap.size ≤ g3 := by omega
  clear hw1 hg3
  have z0 := hB1.cell 0
  have z1 := hB1.cell 1
  have z2 := hB1.cell 2
  have z3 := hB1.cell 3
  have z4 := hB1.cell 4
  have z5 := hB1.cell 5
  simp only [List.getElem?_toArray, List.getElem?_cons_succ, List.getElem?_cons_zero] at z0 z1 z2 z3 z4 z5
  refine HM.out.mono ?_
  rintro e w2 ⟨rfl, hw⟩
  subst w2
  go_wp2_with fail
  refine HMA.out.mono ?_
  rintro e w2 ⟨rfl, hb2⟩
  have hb02 := hba.trans (hb2.mono hba.size)
  have h2 := h1.keep hb2.size (fun b hb => hb2.block b (h1.lt b hb))
  have hB2 := hB1.below hb2 hB1.lt
  have hR2 := Reads.below hR1 hb2
  have hl2 := h2.look_in hid hf
  have c6 := h2.cells.2.2.2.2.2.2.1
  have z2 := hB2.cell 2
  simp only [List.getElem?_toArray, List.getElem?_cons_succ, List.getElem?_cons_zero] at z2
  have HH2 := Lib.hid h2
  clear z0 z1 z3 z4 z5 h1 hB1 hR1 HM HMA h2
  have hS := Lib.hid (show w2.drew.cell? ⟨gp, 6, none⟩ = some (.map (some mb)) ∧ w2.drew.cell? ⟨g3, 2, none⟩ = some (u32v x.id) ∧ (Instr.lookup 106 (.map (some mb)) (u32v x.id) true).run Tryz.prog w2.drew = .ok (.tuple #[.int .i64 it.idx, .bool true]) w2.drew from
    ⟨c6, z2, (HH2.out.keep (w' := w2.drew) (Nat.le_refl _) (fun _ _ => rfl)).look_in hid hf⟩)
  clear hl2 c6 z2
  go_wp2_with fail
  refine R_begin (fun W => W.cell? ⟨gp, 6, none⟩ = some (.map (some mb)) ∧ W.cell? ⟨g3, 2, none⟩ = some (u32v x.id) ∧ (Instr.lookup 106 (.map (some mb)) (u32v x.id) true).run Tryz.prog W = .ok (.tuple #[.int .i64 it.idx, .bool true]) W) (fun _ => false) rfl ?_
  refine R_tk 0 15 hS.out ?_
  refine R_tk 1 16 hS.out ?_
  refine R_tk 2 17 hS.out ?_
  refine R_tk 3 18 hS.out ?_
  simp only [List.setIfInBounds_toArray, List.set_cons_zero, List.set_cons_succ]
  refine R_tk 4 19 hS.out ?_
  refine R_tk 5 20 hS.out ?_
  simp only [List.setIfInBounds_toArray, List.set_cons_zero, List.set_cons_succ]
  refine R_tk 6 21 hS.out ?_
  simp only [List.setIfInBounds_toArray, List.set_cons_zero, List.set_cons_succ]
  refine R_tk 7 14 hS.out ?_
  simp only [List.setIfInBounds_toArray, List.set_cons_zero, List.set_cons_succ]
  refine R_tk 8 22 hS.out ?_
  simp only [List.setIfInBounds_toArray, List.set_cons_zero, List.set_cons_succ]
  refine R_tk 9 23 hS.out ?_
  simp only [List.setIfInBounds_toArray, List.set_cons_zero, List.set_cons_succ]
  refine R_tk 10 5 hS.out ?_
  simp only [List.setIfInBounds_toArray, List.set_cons_zero, List.set_cons_succ]
  refine R_tk 11 6 hS.out ?_
  simp only [List.setIfInBounds_toArray, List.set_cons_zero, List.set_cons_succ]
  refine R_done (by kernel_rfl) ?_ _
  rename_i K9 hK9
  refine hK9 _ _ ?_
  clear hK9 hS
  have h3 := HH2.out.keep (w' := w2.drew) (Nat.le_refl _) (fun _ _ => rfl)
  have hB3 := hB2.drew
  have hb03 : Below w.heap.size w w2.drew := ⟨hb02.os, hb02.tape, hb02.output, hb02.size, hb02.block⟩
  have hR3 : RowsAt G w2.drew A x.rows := Reads.below hR2 (Below.refl _ w2).drew
  obtain ⟨w3, hw3⟩ : ∃ w3, w3 = w2.drew := ⟨_, rfl⟩
  rw [← hw3] at h3 hB3 hb03 hR3 ⊢
  clear hw3 hb02 hB2 hR2 HH2 hb2 hba
  obtain ⟨c0, c1, c2, c3, c4, c5, c6, c7⟩ := h3.cells
  have cp := h3.pins hit
  have hlt9 := h3.wf.idx_lt hit
  have hn64 := h3.wf.n64
  have hcs := h3.fr.size
  have hp0 : ((it.pins : Int) == 0) = false := by simp; omega
  have hp1 : (it.pins == 0) = false := by simp; omega
  have hp2 : ¬ it.pins = 0 := by omega
  have z0 := hB3.cell 0
  have z1 := hB3.cell 1
  have z2 := hB3.cell 2
  have z3 := hB3.cell 3
  have z4 := hB3.cell 4
  have z5 := hB3.cell 5
  simp only [List.getElem?_toArray, List.getElem?_cons_succ, List.getElem?_cons_zero] at z0 z1 z2 z3 z4 z5
  have HCP := Lib.hid (pool_copied (c := c) hA hR3 (by omega))
  have H3 := Lib.hid h3
  clear c0 c1 c2 c3 c5 c6 c7 h3 hR3
  go_wp2_with fail
  refine HCP.out.mono ?_
  rintro e w4 ⟨A', c', rfl, hA', hR', hb4⟩
  have hA'A := Lib.hid hA'
  have hA'R := Lib.hid hR'
  clear hA' hR'
  have h4 := H3.out.keep hb4.size (fun b hb => hb4.block b (H3.out.lt b hb))
  have hB4 := hB3.below hb4 hB3.lt
  have hb04 := hb03.trans (hb4.mono hb03.size)
  have hFB := h4.fr.blk
  have hST := run_storeVar_part (P := Tryz.prog) w4 fb (it.idx * 9) 110 32 cs (pgCs x A' c') hFB pg_size (by rw [hcs]; show it.idx * 9 + 6 ≤ p.n * 9; omega) (by simp [pgCs, Value.oneCell'])
  obtain ⟨A0, c0, _, _, hc0⟩ := h4.fr.item it hit
  have hfit6 : it.idx * 9 + ([.int .u8 x.kind, .int .u8 x.level, .int .u32 x.id, .int .u64 x.lsn, .int .u32 x.next, .slice A' x.rows.length c'] : List Value).length ≤ cs.size := by rw [hcs]; show it.idx * 9 + 6 ≤ p.n * 9; omega
  have hB5 := hFB.setRow (partRow cs (it.idx * 9) [.int .u8 x.kind, .int .u8 x.level, .int .u32 x.id, .int .u64 x.lsn, .int .u32 x.next, .slice A' x.rows.length c'])
  have k7 := (hB5.cell (it.idx * 9 + 7)).trans ((part_out hfit6 (.inr (by show it.idx * 9 + 6 ≤ _; omega))).trans (hc0 7 (by omega)))
  have k8 := (hB5.cell (it.idx * 9 + 8)).trans ((part_out hfit6 (.inr (by show it.idx * 9 + 6 ≤ _; omega))).trans (hc0 8 (by omega)))
  have k6 := (hB5.cell (it.idx * 9 + 6)).trans ((part_out hfit6 (.inr (by show it.idx * 9 + 6 ≤ _; omega))).trans (hc0 6 (by omega)))
  simp only [frCells, List.getElem?_cons_succ, List.getElem?_cons_zero] at k6 k7 k8
  have hFfb := h4.foot.2.1
  have hg3fb : g3 ≠ fb := fun e => by have := hFl fb hFfb; omega
  have y7 := hB5.frozen (it.idx * 9 + 7)
  have y8 := hB5.frozen (it.idx * 9 + 8)
  have z3 := (hB4.keep (heap_setRow_other w4 fb g3 (partRow cs (it.idx * 9) [.int .u8 x.kind, .int .u8 x.level, .int .u32 x.id, .int .u64 x.lsn, .int .u32 x.next, .slice A' x.rows.length c']) hg3fb)).cell 3
  simp only [List.getElem?_toArray, List.getElem?_cons_succ, List.getElem?_cons_zero] at z3
  have hk5 : ∀ b, b ≠ fb → (w4.setRow fb (partRow cs (it.idx * 9) [.int .u8 x.kind, .int .u8 x.level, .int .u32 x.id, .int .u64 x.lsn, .int .u32 x.next, .slice A' x.rows.length c'])).heap[b]? = w4.heap[b]? := fun b hb => heap_setRow_other w4 fb b _ hb
  have ht5 := (Turns.of_below hb04 F).setRow (g := fb) (.inl hFfb) (partRow cs (it.idx * 9) [.int .u8 x.kind, .int .u8 x.level, .int .u32 x.id, .int .u64 x.lsn, .int .u32 x.next, .slice A' x.rows.length c'])
  have hs5 : w4.heap.size ≤ (w4.setRow fb (partRow cs (it.idx * 9) [.int .u8 x.kind, .int .u8 x.level, .int .u32 x.id, .int .u64 x.lsn, .int .u32 x.next, .slice A' x.rows.length c'])).heap.size := by simp [World.setRow]
  clear z0 z1 z2 z4 z5 HCP cp c4
  change (storeVar 32 ⟨fb, it.idx * 9, none⟩ (.agg (pgCs x A' c'))).run Tryz.prog w4 = .ok () (w4.setRow fb (partRow cs (it.idx * 9) [.int .u8 x.kind, .int .u8 x.level, .int .u32 x.id, .int .u64 x.lsn, .int .u32 x.next, .slice A' x.rows.length c'])) at hST
  generalize hW5 : w4.setRow fb (partRow cs (it.idx * 9) [.int .u8 x.kind, .int .u8 x.level, .int .u32 x.id, .int .u64 x.lsn, .int .u32 x.next, .slice A' x.rows.length c']) = w5 at *
  have hpost : Hid (∀ (cs' : Array Value) (w' : World) (it' : Sp.It), it' = Sp.It.put x it → cs'.size = cs.size → (∀ j, j < 9 → cs'[it.idx * 9 + j]? = (frCells it' A' c')[j]?) → (∀ k, (k < it.idx * 9 ∨ it.idx * 9 + 9 ≤ k) → cs'[k]? = cs[k]?) → Blk w' fb 110 cs' → (∀ b, b ≠ fb → w'.heap[b]? = w4.heap[b]?) → w4.heap.size ≤ w'.heap.size → Turns F F w w' →
      PutPost F w gp gd gl at_ base fb cb mb v s r fl ids p x (.returned (.int .i64 0)) w') := by
    intro cs' w' it' hit' hsz hcs' hrest hblk hkk hss htt
    have hG0 : ∀ b, (w3.heap.size ≤ b ∧ rowK A' x.rows.length b) → ¬ F b ∧ b < w4.heap.size := fun b hb => by
      obtain ⟨h1, h2⟩ := rowK_of hA'R.out hb.2
      exact ⟨fun e => by have := hFl b e; have := hb03.size; omega, h2⟩
    have hm := h4.more (G0 := fun b => w3.heap.size ≤ b ∧ rowK A' x.rows.length b) hG0
    have hpgx : (Sp.It.put x it).page = x := by
      unfold Sp.It.put
      rw [if_pos hide]
      split <;> rfl
    have hFw3 : ∀ b, F b → b < w3.heap.size := fun b hb => Nat.lt_of_lt_of_le (hFl b hb) hb03.size
    refine ⟨rfl, fun b => F b ∨ (w3.heap.size ≤ b ∧ rowK A' x.rows.length b), fun b => R b ∨ (w3.heap.size ≤ b ∧ rowK A' x.rows.length b), cs', ?_, ?_⟩
    · have := hm.upd (f := Sp.It.put x) (w' := w') (cs' := cs') (Sp.It.put_tame x) hit ?_ hss (fun b _ hb => hkk b hb) hblk ⟨hsz, hrest⟩ ⟨A', c', hA'A.out, ?_, ?_⟩
      · rw [hide] at this
        exact this
      · have hsm := h4.wf.small it hit
        refine ⟨by rw [hpgx]; exact hx.1, by rw [hpgx]; exact hx.2, ?_, ?_⟩
        · unfold Sp.It.put
          rw [if_pos hide]
          split <;> exact hsm.1
        · unfold Sp.It.put
          rw [if_pos hide]
          split
          · exact hsm.2
          · exact hx.1.2.2.2.1
      · rw [hpgx]
        exact ((rowK_at hA'R.out).keep hss (fun b hb => hkk b (fun e => by
          have := hFw3 fb hFfb
          have h2 : w3.heap.size ≤ b := hb.1
          omega))).mono (fun b hb => .inr hb)
      · rw [← hit']
        exact hcs'
    · exact ⟨htt.os, htt.tape, htt.output, htt.size, htt.block, fun b hb => hb.elim .inl (fun hb => .inr (Nat.le_trans hb03.size hb.1))⟩
  have hin6 : ∀ j, j < 6 → (partRow cs (it.idx * 9) [.int .u8 x.kind, .int .u8 x.level, .int .u32 x.id, .int .u64 x.lsn, .int .u32 x.next, .slice A' x.rows.length c'])[it.idx * 9 + j]? = ([.int .u8 x.kind, .int .u8 x.level, .int .u32 x.id, .int .u64 x.lsn, .int .u32 x.next, .slice A' x.rows.length c'] : List Value)[j]? := fun j hj => part_in hfit6 hj
  have hout6 : ∀ k, (k < it.idx * 9 ∨ it.idx * 9 + 6 ≤ k) → (partRow cs (it.idx * 9) [.int .u8 x.kind, .int .u8 x.level, .int .u32 x.id, .int .u64 x.lsn, .int .u32 x.next, .slice A' x.rows.length c'])[k]? = cs[k]? := fun k hk => part_out hfit6 hk
  have hsz6 := part_size hfit6
  have hc6 := hc0 6 (by omega)
  have hc7 := hc0 7 (by omega)
  have hc8 := hc0 8 (by omega)
  simp only [frCells, List.getElem?_cons_succ, List.getElem?_cons_zero] at hc6 hc7 hc8
  generalize hP6 : partRow cs (it.idx * 9) [.int .u8 x.kind, .int .u8 x.level, .int .u32 x.id, .int .u64 x.lsn, .int .u32 x.next, .slice A' x.rows.length c'] = cs6 at *
  have HIN := Lib.hid hin6
  have HOUT := Lib.hid hout6
  have HB5 := Lib.hid hB5
  have HK5 := Lib.hid hk5
  have HT5 := Lib.hid ht5
  have HS5 := Lib.hid hs5
  clear hin6 hout6 hB5 hk5 ht5 hs5 hFB hP6 hfit6 hc0 h4 hW5
  cases hd : it.dirty with
  | true =>
    rw [hd] at k7
    go_wp2_with (first | ((with_reducible refine wpList_skip (w' := w5) rfl rfl ?_ ?_); exact run_op_store _ _ _ ⟨fb, it.idx * 9, none⟩ (.agg (pgCs x A' c')) rfl rfl rfl hST))
    go_ret
    refine hpost.out cs6 w5 { it with page := x } (by unfold Sp.It.put; rw [if_pos hide, if_pos hd]) hsz6 (fun j hj => ?_) (fun k hk => HOUT.out k (by omega)) HB5.out HK5.out HS5.out HT5.out
    match j, hj with
    | 0, _ => exact HIN.out 0 (by omega)
    | 1, _ => exact HIN.out 1 (by omega)
    | 2, _ => exact HIN.out 2 (by omega)
    | 3, _ => exact HIN.out 3 (by omega)
    | 4, _ => exact HIN.out 4 (by omega)
    | 5, _ => exact HIN.out 5 (by omega)
    | 6, _ => exact (HOUT.out _ (by omega)).trans hc6
    | 7, _ => exact (HOUT.out _ (by omega)).trans hc7
    | 8, _ => exact (HOUT.out _ (by omega)).trans hc8
  | false =>
    rw [hd] at k7
    go_wp2_with (first | ((with_reducible refine wpList_skip (w' := w5) rfl rfl ?_ ?_); exact run_op_store _ _ _ ⟨fb, it.idx * 9, none⟩ (.agg (pgCs x A' c')) rfl rfl rfl hST))
    have hS := Lib.hid (show w5.drew.cell? ⟨g3, 3, none⟩ = some (.int .u64 x.lsn) from z3)
    have hd7 : w5.drew.cell? ⟨fb, it.idx * 9 + 7, none⟩ = some (.bool false) := k7
    have hd8 : w5.drew.cell? ⟨fb, it.idx * 9 + 8, none⟩ = some (.int .u64 it.from_) := k8
    have hy7 : w5.drew.frozen? ⟨fb, it.idx * 9 + 7, none⟩ = false := y7
    have hy8 : w5.drew.frozen? ⟨fb, it.idx * 9 + 8, none⟩ = false := y8
    have hBd := HB5.out.drew
    have htd := HT5.out.drew
    have hkd : ∀ b, b ≠ fb → w5.drew.heap[b]? = w4.heap[b]? := HK5.out
    have hsd : w4.heap.size ≤ w5.drew.heap.size := HS5.out
    obtain ⟨w6, hw6⟩ : ∃ w6, w6 = w5.drew := ⟨_, rfl⟩
    refine R_begin (fun W => W.cell? ⟨g3, 3, none⟩ = some (.int .u64 x.lsn)) (fun _ => false) rfl ?_
    rw [← hw6] at hS hd7 hd8 hy7 hy8 hBd htd hkd hsd ⊢
    clear hw6 k6 k7 k8 y7 y8 z3 hST HB5 HK5 HT5 HS5
    refine R_tk 0 53 hS.out ?_
    refine R_tk 1 54 hS.out ?_
    refine R_tk 2 55 hS.out ?_
    simp only [List.setIfInBounds_toArray, List.set_cons_zero, List.set_cons_succ]
    refine R_tk 3 56 hS.out ?_
    refine R_tk 4 57 hS.out ?_
    simp only [List.setIfInBounds_toArray, List.set_cons_zero, List.set_cons_succ]
    refine R_tk 5 58 hS.out ?_
    simp only [List.setIfInBounds_toArray, List.set_cons_zero, List.set_cons_succ]
    have hS7 := Lib.hid ((show (w6.setCell ⟨fb, it.idx * 9 + 7, none⟩ (.bool true)).cell? ⟨g3, 3, none⟩ = some (.int .u64 x.lsn) from (World.cell?_of_block (a := ⟨g3, 3, none⟩) (Below.heap_setCell w6 ⟨fb, it.idx * 9 + 7, none⟩ (.bool true) g3 hg3fb)).trans hS.out))
    refine R_store 6 (n := .skip) (w' := w6.setCell ⟨fb, it.idx * 9 + 7, none⟩ (.bool true)) rfl rfl (by rfl) (by kernel_rfl) (by go_simp) (.inl rfl) (fun _ => hS7.out) ?_
    have hB7 := hBd.set_ (it.idx * 9 + 7) (.bool true)
    have ht7 := htd.setCell (p := ⟨fb, it.idx * 9 + 7, none⟩) (.inl hFfb) (.bool true)
    have hk7 : ∀ b, b ≠ fb → (w6.setCell ⟨fb, it.idx * 9 + 7, none⟩ (.bool true)).heap[b]? = w4.heap[b]? := fun b hb => (Below.heap_setCell w6 _ _ b hb).trans (hkd b hb)
    have hs7 : w4.heap.size ≤ (w6.setCell ⟨fb, it.idx * 9 + 7, none⟩ (.bool true)).heap.size := by simpa [World.setCell] using hsd
    have hf8 := hB7.frozen (it.idx * 9 + 8)
    have hlt8 : it.idx * 9 + 8 < cs6.size := by omega
    have hb8 : (w6.setCell ⟨fb, it.idx * 9 + 7, none⟩ (.bool true)).cell? ⟨fb, it.idx * 9 + 8, none⟩ = some (.int .u64 it.from_) := by
      rw [hB7.cell, Array.getElem?_setIfInBounds_ne (by omega), ← hBd.cell]; exact hd8
    obtain ⟨w7, hw7⟩ : ∃ w7, w7 = w6.setCell ⟨fb, it.idx * 9 + 7, none⟩ (.bool true) := ⟨_, rfl⟩
    rw [← hw7] at hS7 hB7 ht7 hk7 hs7 hf8 hb8 ⊢
    clear hw7 hd7 hd8 hy7 hy8 hBd htd hkd hsd hS
    refine R_tk 7 59 hS7.out ?_
    refine R_tk 8 60 hS7.out ?_
    simp only [List.setIfInBounds_toArray, List.set_cons_zero, List.set_cons_succ]
    have hS8 := Lib.hid ((show (w7.setCell ⟨fb, it.idx * 9 + 8, none⟩ (.int .u64 x.lsn)).cell? ⟨g3, 3, none⟩ = some (.int .u64 x.lsn) from (World.cell?_of_block (a := ⟨g3, 3, none⟩) (Below.heap_setCell w7 ⟨fb, it.idx * 9 + 8, none⟩ (.int .u64 x.lsn) g3 hg3fb)).trans hS7.out))
    refine R_store 9 (n := .skip) (w' := w7.setCell ⟨fb, it.idx * 9 + 8, none⟩ (.int .u64 x.lsn)) rfl rfl (by rfl) (by kernel_rfl) (by go_simp) (.inl rfl) (fun _ => hS8.out) ?_
    have hB8 := Lib.hid (hB7.set_ (it.idx * 9 + 8) (.int .u64 x.lsn))
    have ht8 := Lib.hid (ht7.setCell (p := ⟨fb, it.idx * 9 + 8, none⟩) (.inl hFfb) (.int .u64 x.lsn))
    have hk8 : Hid (∀ b, b ≠ fb → (w7.setCell ⟨fb, it.idx * 9 + 8, none⟩ (.int .u64 x.lsn)).heap[b]? = w4.heap[b]?) := fun b hb => (Below.heap_setCell w7 _ _ b hb).trans (hk7 b hb)
    have hs8 : Hid (w4.heap.size ≤ (w7.setCell ⟨fb, it.idx * 9 + 8, none⟩ (.int .u64 x.lsn)).heap.size) := by show _ ≤ _; simpa [World.setCell] using hs7
    refine R_done (by kernel_rfl) ?_ _
    rename_i K9 hK9
    refine hK9 _ _ ?_
    clear hK9 hB7 ht7 hk7 hs7 hS7 hS8 hf8 hb8
    generalize w7.setCell ⟨fb, it.idx * 9 + 8, none⟩ (.int .u64 x.lsn) = w8 at *
    go_wp2_with fail
    go_ret
    refine hpost.out ((cs6.setIfInBounds (it.idx * 9 + 7) (.bool true)).setIfInBounds (it.idx * 9 + 8) (.int .u64 x.lsn)) w8 { it with page := x, dirty := true, from_ := x.lsn } (by unfold Sp.It.put; rw [if_pos hide, if_neg (by rw [hd]; decide)]) (by simp; exact hsz6) (fun j hj => ?_) (fun k hk => ?_) hB8.out hk8.out hs8.out ht8.out
    · by_cases j8 : j = 8
      · subst j8
        rw [Array.getElem?_setIfInBounds_self_of_lt (by simp; omega)]
        rfl
      · rw [Array.getElem?_setIfInBounds_ne (by omega)]
        by_cases j7 : j = 7
        · subst j7
          rw [Array.getElem?_setIfInBounds_self_of_lt (by omega)]
          rfl
        · rw [Array.getElem?_setIfInBounds_ne (by omega)]
          have hj7 : j < 7 := by omega
          clear hj j8 j7
          match j, hj7 with
          | 0, _ => exact HIN.out 0 (by omega)
          | 1, _ => exact HIN.out 1 (by omega)
          | 2, _ => exact HIN.out 2 (by omega)
          | 3, _ => exact HIN.out 3 (by omega)
          | 4, _ => exact HIN.out 4 (by omega)
          | 5, _ => exact HIN.out 5 (by omega)
          | 6, _ => exact (HOUT.out _ (by omega)).trans hc6
    · rw [Array.getElem?_setIfInBounds_ne (by omega), Array.getElem?_setIfInBounds_ne (by omega)]
      exact HOUT.out k (by omega)
end Go.Proofs.YtndglfiepeefdaaGreat

/- Put of a pool: the cases that are refused; what a law sees. -/
namespace Go.Proofs.YtndglfiepeefdaaGreat
open Go.RowKit Go.Conc

section
variable {F R G : Foot} {w : World} {gp gd gl at_ base fb cb mb s r : Nat} {v : Value} {cs : Array Value} {fl ids : List Nat} {p : Sp.Pl} {x : Sp.Pg} {A : Option Addr} {c : Nat}
set_option maxRecDepth 100000 in
set_option maxHeartbeats 2000000 in
theorem pool_put_arg (h : IsPlAt F R w gp gd gl at_ base fb cb mb v s r cs fl ids p) (hR : RowsAt G w A x.rows) (hn : x.rows.length ≤ 1000000000) (ht : Sp.total x.rows ≤ 1000000000) (hm : mayB x = false) :
    Calls Tryz.prog 16 #[ptr gp, pgV x A c] w fun e w' => e = .returned (.int .i64 2) ∧ Below w.heap.size w w' := by
  have hba := (Below.refl w.heap.size w).alloc (Nat.le_refl _) (.cells (pgCs x A c) 32)
  have h1 := h.keep hba.size (fun b hb => hba.block b (h.lt b hb))
  have hB1 := Blk.new w 32 (pgCs x A c)
  have hR1 := Reads.below hR hba
  have HM := Lib.hid (pool_made (w := w.alloc (.cells (pgCs x A c) 32)) h1.cells.2.2.2.2.2.2.1)
  have HMA := Lib.hid (page_may (w := w.alloc (.cells (pgCs x A c) 32)) (c := c) hR1 hn ht)
  rw [hm] at HMA
  clear h hR
  go_enter Tryz.func16, Tryz.ntmps16
  go_wp2_with fail
  obtain ⟨w1, hw1⟩ : ∃ w1, w1 = w.alloc (.cells (pgCs x A c) 32) := ⟨_, rfl⟩
  rw [← hw1] at h1 hB1 hR1 HM HMA hba ⊢
  obtain ⟨g3, hg3⟩ : ∃ g, g = w.heap.size := ⟨_, rfl⟩
  rw [← hg3] at hB1 ⊢
  clear hw1 hg3
  have z0 := hB1.cell 0
  have z1 := hB1.cell 1
  have z2 := hB1.cell 2
  have z3 := hB1.cell 3
  have z4 := hB1.cell 4
  have z5 := hB1.cell 5
  simp only [List.getElem?_toArray, List.getElem?_cons_succ, List.getElem?_cons_zero] at z0 z1 z2 z3 z4 z5
  refine HM.out.mono ?_
  rintro e w2 ⟨rfl, hw⟩
  subst w2
  go_wp2_with fail
  refine HMA.out.mono ?_
  rintro e w2 ⟨rfl, hb2⟩
  have hb02 := hba.trans (hb2.mono hba.size)
  clear z0 z1 z2 z3 z4 z5 h1 hB1 hR1 HM HMA
  go_wp2_with fail
  go_ret
  exact ⟨rfl, hb02⟩

set_option maxRecDepth 100000 in
set_option maxHeartbeats 2000000 in
theorem pool_put_none (h : IsPlAt F R w gp gd gl at_ base fb cb mb v s r cs fl ids p) (hid : x.id < 4294967296) (hR : RowsAt G w A x.rows) (hn : x.rows.length ≤ 1000000000) (ht : Sp.total x.rows ≤ 1000000000) (hm : mayB x = true) (hf : ∀ it, p.find x.id = some it → it.pins = 0) :
    Calls Tryz.prog 16 #[ptr gp, pgV x A c] w fun e w' => e = .returned (.int .i64 3) ∧ Below w.heap.size w w' := by
  have hba := (Below.refl w.heap.size w).alloc (Nat.le_refl _) (.cells (pgCs x A c) 32)
  have h1 := h.keep hba.size (fun b hb => hba.block b (h.lt b hb))
  have hB1 := Blk.new w 32 (pgCs x A c)
  have hR1 := Reads.below hR hba
  have HM := Lib.hid (pool_made (w := w.alloc (.cells (pgCs x A c) 32)) h1.cells.2.2.2.2.2.2.1)
  have HMA := Lib.hid (page_may (w := w.alloc (.cells (pgCs x A c) 32)) (c := c) hR1 hn ht)
  rw [hm] at HMA
  clear h hR
  go_enter Tryz.func16, Tryz.ntmps16
  go_wp2_with fail
  obtain ⟨w1, hw1⟩ : ∃ w1, w1 = w.alloc (.cells (pgCs x A c) 32) := ⟨_, rfl⟩
  rw [← hw1] at h1 hB1 hR1 HM HMA hba ⊢
  obtain ⟨g3, hg3⟩ : ∃ g, g = w.heap.size := ⟨_, rfl⟩
  rw [← hg3] at hB1 ⊢
  clear hw1 hg3
  have z0 := hB1.cell 0
  have z1 := hB1.cell 1
  have z2 := hB1.cell 2
  have z3 := hB1.cell 3
  have z4 := hB1.cell 4
  have z5 := hB1.cell 5
  simp only [List.getElem?_toArray, List.getElem?_cons_succ, List.getElem?_cons_zero] at z0 z1 z2 z3 z4 z5
  refine HM.out.mono ?_
  rintro e w2 ⟨rfl, hw⟩
  subst w2
  go_wp2_with fail
  refine HMA.out.mono ?_
  rintro e w2 ⟨rfl, hb2⟩
  have hb02 := hba.trans (hb2.mono hba.size)
  have h2 := h1.keep hb2.size (fun b hb => hb2.block b (h1.lt b hb))
  have hB2 := hB1.below hb2 hB1.lt
  have c6 := h2.cells.2.2.2.2.2.2.1
  have z2 := hB2.cell 2
  simp only [List.getElem?_toArray, List.getElem?_cons_succ, List.getElem?_cons_zero] at z2
  have HH2 := Lib.hid h2
  clear z0 z1 z3 z4 z5 h1 hB1 hR1 HM HMA h2
  cases hfi : p.find x.id with
  | none =>
    have hS := Lib.hid (show w2.drew.cell? ⟨gp, 6, none⟩ = some (.map (some mb)) ∧ w2.drew.cell? ⟨g3, 2, none⟩ = some (u32v x.id) ∧ (Instr.lookup 106 (.map (some mb)) (u32v x.id) true).run Tryz.prog w2.drew = .ok (.tuple #[.int .i64 0, .bool false]) w2.drew from
      ⟨c6, z2, (HH2.out.keep (w' := w2.drew) (Nat.le_refl _) (fun _ _ => rfl)).look_out hid hfi⟩)
    clear c6 z2
    go_wp2_with fail
    refine R_begin (fun W => W.cell? ⟨gp, 6, none⟩ = some (.map (some mb)) ∧ W.cell? ⟨g3, 2, none⟩ = some (u32v x.id) ∧ (Instr.lookup 106 (.map (some mb)) (u32v x.id) true).run Tryz.prog W = .ok (.tuple #[.int .i64 0, .bool false]) W) (fun _ => false) rfl ?_
    refine R_tk 0 15 hS.out ?_
    refine R_tk 1 16 hS.out ?_
    refine R_tk 2 17 hS.out ?_
    refine R_tk 3 18 hS.out ?_
    simp only [List.setIfInBounds_toArray, List.set_cons_zero, List.set_cons_succ]
    refine R_tk 4 19 hS.out ?_
    refine R_tk 5 20 hS.out ?_
    simp only [List.setIfInBounds_toArray, List.set_cons_zero, List.set_cons_succ]
    refine R_tk 6 21 hS.out ?_
    simp only [List.setIfInBounds_toArray, List.set_cons_zero, List.set_cons_succ]
    refine R_tk 7 14 hS.out ?_
    simp only [List.setIfInBounds_toArray, List.set_cons_zero, List.set_cons_succ]
    refine R_tk 8 22 hS.out ?_
    simp only [List.setIfInBounds_toArray, List.set_cons_zero, List.set_cons_succ]
    refine R_tk 9 23 hS.out ?_
    simp only [List.setIfInBounds_toArray, List.set_cons_zero, List.set_cons_succ]
    refine R_tk 10 5 hS.out ?_
    simp only [List.setIfInBounds_toArray, List.set_cons_zero, List.set_cons_succ]
    refine R_tk 11 6 hS.out ?_
    simp only [List.setIfInBounds_toArray, List.set_cons_zero, List.set_cons_succ]
    refine R_done (by kernel_rfl) ?_ _
    rename_i K9 hK9
    refine hK9 _ _ ?_
    clear hK9 hS
    go_wp2_with fail
    go_ret
    exact ⟨rfl, ⟨hb02.os, hb02.tape, hb02.output, hb02.size, hb02.block⟩⟩
  | some it =>
    have hp0 := hf it hfi
    have hit := (Sp.Pl.find_mem hfi).1
    have hS := Lib.hid (show w2.drew.cell? ⟨gp, 6, none⟩ = some (.map (some mb)) ∧ w2.drew.cell? ⟨g3, 2, none⟩ = some (u32v x.id) ∧ (Instr.lookup 106 (.map (some mb)) (u32v x.id) true).run Tryz.prog w2.drew = .ok (.tuple #[.int .i64 it.idx, .bool true]) w2.drew from
      ⟨c6, z2, (HH2.out.keep (w' := w2.drew) (Nat.le_refl _) (fun _ _ => rfl)).look_in hid hfi⟩)
    clear c6 z2
    go_wp2_with fail
    refine R_begin (fun W => W.cell? ⟨gp, 6, none⟩ = some (.map (some mb)) ∧ W.cell? ⟨g3, 2, none⟩ = some (u32v x.id) ∧ (Instr.lookup 106 (.map (some mb)) (u32v x.id) true).run Tryz.prog W = .ok (.tuple #[.int .i64 it.idx, .bool true]) W) (fun _ => false) rfl ?_
    refine R_tk 0 15 hS.out ?_
    refine R_tk 1 16 hS.out ?_
    refine R_tk 2 17 hS.out ?_
    refine R_tk 3 18 hS.out ?_
    simp only [List.setIfInBounds_toArray, List.set_cons_zero, List.set_cons_succ]
    refine R_tk 4 19 hS.out ?_
    refine R_tk 5 20 hS.out ?_
    simp only [List.setIfInBounds_toArray, List.set_cons_zero, List.set_cons_succ]
    refine R_tk 6 21 hS.out ?_
    simp only [List.setIfInBounds_toArray, List.set_cons_zero, List.set_cons_succ]
    refine R_tk 7 14 hS.out ?_
    simp only [List.setIfInBounds_toArray, List.set_cons_zero, List.set_cons_succ]
    refine R_tk 8 22 hS.out ?_
    simp only [List.setIfInBounds_toArray, List.set_cons_zero, List.set_cons_succ]
    refine R_tk 9 23 hS.out ?_
    simp only [List.setIfInBounds_toArray, List.set_cons_zero, List.set_cons_succ]
    refine R_tk 10 5 hS.out ?_
    simp only [List.setIfInBounds_toArray, List.set_cons_zero, List.set_cons_succ]
    refine R_tk 11 6 hS.out ?_
    simp only [List.setIfInBounds_toArray, List.set_cons_zero, List.set_cons_succ]
    refine R_done (by kernel_rfl) ?_ _
    rename_i K9 hK9
    refine hK9 _ _ ?_
    clear hK9 hS
    have h3 := HH2.out.keep (w' := w2.drew) (Nat.le_refl _) (fun _ _ => rfl)
    obtain ⟨c0, c1, c2, c3, c4, c5, c6, c7⟩ := h3.cells
    have cp := h3.pins hit
    rw [hp0] at cp
    have hlt9 := h3.wf.idx_lt hit
    have hn64 := h3.wf.n64
    have hb03 : Below w.heap.size w w2.drew := ⟨hb02.os, hb02.tape, hb02.output, hb02.size, hb02.block⟩
    obtain ⟨w3, hw3⟩ : ∃ w3, w3 = w2.drew := ⟨_, rfl⟩
    rw [← hw3] at c4 cp hb03 ⊢
    clear hw3 c0 c1 c2 c3 c5 c6 c7 h3 HH2 hb02 hb2 hba hB2
    go_wp2_with fail
    go_ret
    exact ⟨rfl, hb03⟩
end

theorem Sp.put_ri (p : Sp.Pl) (x : Sp.Pg) : (p.upd x.id (Sp.It.put x)).items.map Sp.It.ri = Sp.upR (p.items.map Sp.It.ri) x.id (fun y => if y.dirty then { y with page := x } else { y with page := x, dirty := true, from_ := x.lsn }) := by
  unfold Sp.Pl.upd Sp.upR
  rw [List.map_map, List.map_map]
  apply List.map_congr_left
  intro y _
  simp only [Function.comp]
  by_cases hy : y.page.id = x.id
  · rw [if_pos hy, if_pos (show y.ri.page.id = x.id from hy)]
    unfold Sp.It.put
    rw [if_pos hy]
    cases hd : y.dirty with
    | true => simp [Sp.It.ri, hd]
    | false => simp [Sp.It.ri, hd]
  · rw [if_neg hy, if_neg (show ¬ y.ri.page.id = x.id from hy)]

theorem pk_put {ly : Ly} {K G : Foot} {w : World} {gd gl gp : Nat} {l : Sp.Lg} {s : Sp.R15} (h : PkAt ly K w gd gl gp l s) {x : Sp.Pg} (hwf : x.wf) {A : Option Addr} {c : Nat} (hA : OkAddr A) (hR : RowsAt G w A x.rows) (hn : x.rows.length ≤ 1000000000) (ht : Sp.total x.rows ≤ 1000000000) :
    Calls Tryz.prog 16 #[ptr gp, pgV x A c] w (CallPk ly K w gd gl gp l (s.put x (mayB x))) := by
  have H := h
  obtain ⟨p, D, F, G1, dk, hpl, hd, hg, hFD, hFG, hDG, hr, hK, hKl⟩ := h
  have hget : Sp.getR? s.L x.id = (p.find x.id).map Sp.It.ri := by rw [hr.L]; exact Sp.getR_eq p x.id
  obtain ⟨R, fb, cb, mb, v, s0, r, cs, hat⟩ := hpl
  cases hm : mayB x with
  | false =>
    have e : s.put x false = (2, s) := by unfold Sp.R15.put; rw [if_pos rfl]
    rw [e]
    refine (pool_put_arg hat hR hn ht hm).mono ?_
    rintro e' w' ⟨rfl, hb⟩
    exact pk_same H hb 2
  | true =>
    by_cases hno : ∀ it, p.find x.id = some it → it.pins = 0
    · have e : s.put x true = (3, s) := by
        unfold Sp.R15.put
        rw [if_neg (by decide), hget]
        cases hf : p.find x.id with
        | none => rfl
        | some it => simp [Sp.It.ri, hno it hf]
      rw [e]
      refine (pool_put_none hat hwf.2.2.1 hR hn ht hm hno).mono ?_
      rintro e' w' ⟨rfl, hb⟩
      exact pk_same H hb 3
    · cases hf : p.find x.id with
      | none => exact absurd (fun it h => by rw [hf] at h; cases h) hno
      | some it =>
        have hp : 1 ≤ it.pins := by
          rcases Nat.eq_zero_or_pos it.pins with e | e
          · exact absurd (fun it' h => by rw [hf] at h; injection h with h; rw [← h]; exact e) hno
          · exact e
        have e : s.put x true = (0, { s with L := Sp.upR s.L x.id (fun y => if y.dirty then { y with page := x } else { y with page := x, dirty := true, from_ := x.lsn }) }) := by
          unfold Sp.R15.put
          rw [if_neg (by decide), hget, hf]
          simp only [Option.map_some]
          rw [if_neg (by show ¬ it.pins = 0; omega)]
        rw [e]
        refine (pool_put hat ⟨hwf, (mayB_iff x).1 hm⟩ hA hR hf hp).mono ?_
        rintro e' w' ⟨rfl, F', R', cs', h', ht'⟩
        have e2 : (p.upd x.id (Sp.It.put x)).items.map (·.page.id) = p.items.map (·.page.id) := Sp.Pl.upd_ids (Sp.It.put_tame x)
        have hpl' : IsPl F' w' gp gd gl ly.at_ ly.base (p.upd x.id (Sp.It.put x)) := ⟨R', fb, cb, mb, v, s0, r, cs', by rw [e2]; exact h'⟩
        refine pk_pool hd hg hFD hFG hDG hK hKl hpl' ht' (hr.of h'.wf rfl ?_ (fun y hy => ?_)) 0
        · rw [hr.L]
          exact Sp.put_ri p x
        · obtain ⟨z, hz, rfl⟩ := Sp.Pl.upd_mem hy
          have := hr.in_ z hz
          split
          · rw [(Sp.It.put_tame x).id]; exact this
          · exact this
end Go.Proofs.YtndglfiepeefdaaGreat

/-
  DERIVED: the shelf's contract of slices.Clone at []uint32, in plain words (as the text Shelf, with other numbers).
-/
namespace Go.Proofs
open Go.Shelf
def Tryz.laysSlE041_f66_ren : Go.Shelf.Ren := ⟨fun | 41 => 66 | n => n, fun | 22 => 33 | 23 => 28 | 4 => 4 | n => n, fun | n => n⟩
theorem Tryz.laysSlE041_f66 : Go.Proofs.SlLaysE0.n41 Tryz.prog Tryz.laysSlE041_f66_ren := {
  mixed := by kernel_rfl
  f41 := ⟨Tryz.f66.name, by decide, Tryz.func66.trans (congrArg some (by kernel_rfl))⟩
  t4 := Tryz.underlying4
  a4 := Tryz.isAgg4
  z4 := Tryz.sizeOf4
  v4 := Tryz.zeroValue4
  t22 := Tryz.underlying33
  a22 := Tryz.isAgg33
  z22 := Tryz.sizeOf33
  v22 := Tryz.zeroValue33 }
open Go.RowKit Go.Lib in
/-- slices.Clone: "Clone returns a copy of the slice. The elements are copied using assignment, so this is a shallow clone. The result may have additional unused capacity. The result preserves the nilness of s.": OF A SLICE THAT IS NOT nil IT RETURNS A SLICE THAT IS NOT nil, OF THE SAME CELLS, IN MEMORY OF THE CALL's OWN ('ownsRow': the how-to's 6f); below the heap's size at the call all is as it was. (LAID AT THE INSTANCE 'slices.Clone[[]uint32,uint32]': no walk: one application.) -/
theorem Tryz.slices_Clone_f66 (i0 : TypeInfo) (z : Value) (size bytes : Nat) (hi : Tryz.prog.info? 28 = some i0) (hz0 : i0.zero = some z) (hz1 : i0.size = size) (hz2 : i0.bytes = bytes) (hzs : z.cells.size = size) (hsz : 0 < size) (z23 : ∀ w, (Go.sizeOf 28).run Tryz.prog w = .ok size w) (b off n c : Nat) (news : List Value) (w : World) (hl : news.length = n * size) (hn : n ≤ maxLen) (hbig : n * bytes ≤ 140737488355328) (hc : ∀ j u, news[j]? = some u → w.cell? ⟨b, off + j, none⟩ = some u) (h1 : ∀ u ∈ news, u.oneCell' = true) :
    Calls Tryz.prog 66 #[.slice (some ⟨b, off, none⟩) n c] w fun e w' => ∃ v', e = .returned v' ∧ w'.ownsRow w.heap.size 28 size v' n news ∧ v' ≠ .slice none 0 0 ∧ Below w.heap.size w w' := AnyE.slices_Clone Tryz.laysSlE041_f66 i0 z size bytes hi hz0 hz1 hz2 hzs hsz z23 b off n c news w hl hn hbig hc h1
open Go.RowKit Go.Lib in
/-- The same at nil: nil comes back; the world is as it was; nothing is asked of the element's type. (LAID AT THE INSTANCE 'slices.Clone[[]uint32,uint32]': no walk: one application.) -/
theorem Tryz.slices_Clone_nil_f66 (n c : Nat) (w : World) :
    Calls Tryz.prog 66 #[.slice none n c] w fun e w' => e = .returned (.slice none 0 0) ∧ w' = w := AnyE.slices_Clone_nil Tryz.laysSlE041_f66 n c w
end Go.Proofs

/- The walks of package pool: Flush. -/
namespace Go.Proofs.YtndglfiepeefdaaGreat
open Go.RowKit Go.Conc Go.Maps

section
variable {P : Program} {k e t : TypeId} {w : World} {b n : Nat} {l : List Nat}
theorem USet.atKey_in (z : DataW Unit) {p : Nat} (l : List Nat) (h : p ∈ l) : (setOf (H := Unit) (.lit (.bool true)) (l.map uKey)).atKey (uKey p) z = .lit (.bool true) := by
  have key : ∀ r : List Nat, p ∈ r.reverse → (setOf (H := Unit) (.lit (.bool true)) (r.reverse.map uKey)).atKey (uKey p) z = .lit (.bool true) := by
    intro r
    induction r with
    | nil => intro h; cases h
    | cons q r ih =>
      intro h
      rw [List.reverse_cons] at h ⊢
      rw [List.map_append, List.map_singleton, setOf_snoc]
      by_cases hq : p = q
      · subst hq
        exact atKey_put_same (tidy_setOf _ _ (fun x hx => by obtain ⟨y, _, rfl⟩ := List.mem_map.1 hx; exact uKey_lit y)).isMap (uKey_lit p) _ _
      · rw [atKey_put_other (fun e => hq (uKey_inj e))]
        refine ih ?_
        rcases List.mem_append.1 h with h | h
        · exact h
        · exact absurd (List.mem_singleton.1 h) hq
  have := key l.reverse (by simpa using h)
  simpa using this
theorem USet.look_in (h : USet P k e w b n l) (hk : P.underlying k = some (.int .u32)) (he : P.underlying e = some .bool) (ht : P.underlying t = some (.map k e)) (hz : (zeroValue e).run P w = .ok (.bool false) w) {p : Nat} (hp : p < 4294967296) (hn : p ∈ l) :
    (Instr.lookup t (.map (some b)) (.int .u32 (p : Int)) false).run P w = .ok (.bool true) w := by
  obtain ⟨v, ps, hrun, hv⟩ := World.ownsMap.lookup h (int_keyed hk) ht hz (plainElem_bool he false) (keyOf_int_mk hk (uKey_wf hp))
  rw [USet.atKey_in _ l hn] at hv
  rw [hrun, bool_inv he hv]
end

/-- slices.Clone of numbers. -/
theorem clone_u32 {G : Foot} {w : World} {A : Option Addr} {c : Nat} {q : List Nat} (hR : Reads G w 1 A q.length (q.map u32v)) (hA : OkAddr A) (hl : q.length ≤ 1000000) (hpos : 0 < q.length) :
    Calls Tryz.prog 66 #[.slice A q.length c] w fun e w' => ∃ g c', e = .returned (.slice (some ⟨g, 0, none⟩) q.length c') ∧ w.heap.size ≤ g ∧ w'.ownsRow w.heap.size 28 1 (.slice (some ⟨g, 0, none⟩) q.length c') q.length (q.map u32v) ∧ Below w.heap.size w w' := by
  obtain ⟨i0, hi, hz0, hz1, hz2⟩ := info_parts u32_info
  have hz23 : ∀ w, (Go.sizeOf 28).run Tryz.prog w = .ok 1 w := fun w => by kernel_rfl
  obtain ⟨b, o, rfl, _, _, hc⟩ := hR.2 hpos
  refine (Tryz.slices_Clone_f66 i0 _ 1 4 hi hz0 hz1 hz2 rfl (by decide) hz23 b o q.length c (q.map u32v) w (by simp) (by unfold maxLen; omega) (by omega) hc (fun u hu => by
    obtain ⟨x, _, rfl⟩ := List.mem_map.1 hu; rfl)).mono ?_
  rintro e w1 ⟨v, rfl, hO, hnn, hb⟩
  obtain ⟨g, c', rfl⟩ := own_form' hO hpos
  exact ⟨g, c', rfl, (hO.lt g rfl).1, hO, hb⟩

namespace Sp
/-- Pages of a row are written. -/
def R15.flush (s : R15) (q : List Nat) : Nat × R15 :=
  if ¬ q.Nodup then (2, s)
  else if 8 < (q.filter (isDirty s.L)).length then (2, s)
  else if q.all (hasR s.L) = false then (3, s)
  else s.write q
theorem nodup_take_bad {q : List Nat} {k : Nat} (hk : k < q.length) (h : q[k]! ∈ q.take k) : ¬ q.Nodup := fun hn => by
  have e : q = q.take k ++ q[k]! :: q.drop (k + 1) := by rw [getElem!_pos _ k hk, ← List.drop_eq_getElem_cons hk, List.take_append_drop]
  rw [e, List.nodup_append] at hn
  exact hn.2.2 _ h _ List.mem_cons_self rfl
theorem nodup_take_succ {q : List Nat} {k : Nat} (hk : k < q.length) (hn : (q.take k).Nodup) (h : q[k]! ∉ q.take k) : (q.take (k + 1)).Nodup := by
  rw [List.take_succ_eq_append_getElem hk, ← getElem!_pos q k hk, List.nodup_append]
  exact ⟨hn, by simp, fun a ha b hb e => h (by rw [← List.mem_singleton.1 hb, ← e]; exact ha)⟩
end Sp

/-- What Flush answers where writes is not reached. -/
def FluBad (p : Sp.Pl) (q : List Nat) (c : Nat) : Prop := (c = 2 ∧ (¬ q.Nodup ∨ 8 < (q.filter p.isD).length)) ∨ (c = 3 ∧ q.Nodup ∧ (q.filter p.isD).length ≤ 8 ∧ q.all (fun n => (p.find n).isSome) = false)

set_option maxRecDepth 100000 in
set_option maxHeartbeats 4000000 in
theorem pool_flush {F R G : Foot} {w : World} {gp gd gl at_ base fb cb mb s r : Nat} {v : Value} {cs : Array Value} {fl ids : List Nat} {p : Sp.Pl} (h : IsPlAt F R w gp gd gl at_ base fb cb mb v s r cs fl ids p)
    {A : Option Addr} {c : Nat} {q : List Nat} (hA : OkAddr A) (hA0 : q.length = 0 → A = none) (hR : Reads G w 1 A q.length (q.map u32v)) (hq : ∀ n ∈ q, n < 4294967296) (hl : q.length ≤ 100000) {X : Nat → World → Prop}
    (hX : q.Nodup → (q.filter p.isD).length ≤ 8 → (∀ n ∈ q, ∃ it, p.find n = some it) → 0 < q.length → ∀ W, Below w.heap.size w W → ∀ g c', w.heap.size ≤ g → W.ownsRow w.heap.size 28 1 (.slice (some ⟨g, 0, none⟩) q.length c') q.length (q.map u32v) →
      Calls Tryz.prog 65 #[ptr gp, .slice (some ⟨g, 0, none⟩) q.length c'] W fun e w' => ∃ c : Nat, e = .returned (.int .i64 c) ∧ X c w')
    (hX0 : q.length = 0 → ∀ W, Below w.heap.size w W → Calls Tryz.prog 65 #[ptr gp, .slice none 0 0] W fun e w' => ∃ c : Nat, e = .returned (.int .i64 c) ∧ X c w') :
    Calls Tryz.prog 18 #[ptr gp, .slice A q.length c] w fun e w' => ∃ c : Nat, e = .returned (.int .i64 c) ∧ ((FluBad p q c ∧ Below w.heap.size w w') ∨ X c w') := by
  have HM := Lib.hid (pool_made (w := w) h.cells.2.2.2.2.2.2.1)
  have HH := Lib.hid h
  have HRR := Lib.hid hR
  have HQ := Lib.hid hq
  have HX := Lib.hid hX
  have hmm := @run_makeMap Tryz.prog
  have hn64 := h.wf.n64
  clear h hR hq hX
  go_enter Tryz.func18, Tryz.ntmps18
  go_wp2_with fail
  refine HM.out.mono ?_
  rintro e w1 ⟨rfl, hw⟩
  subst w1
  go_wp2_with fail
  have hU0 : USet Tryz.prog 28 4 (w.alloc (.map #[] 0)) w.heap.size 0 [] := USet.made w
  have hb0 := (Below.refl _ w).alloc (Nat.le_refl _) (.map #[] 0)
  have HU0 := Lib.hid hU0
  clear hU0 hmm HM
  generalize w.alloc (.map #[] 0) = w1 at *
  have hmb : w.heap.size < w1.heap.size := HU0.out.lt
  obtain ⟨mbs, hmbs⟩ : ∃ g, g = w.heap.size := ⟨_, rfl⟩
  rw [← hmbs] at HU0 ⊢
  have hmbl : w.heap.size ≤ mbs := by omega
  clear hmbs
  go_loopw [6, 7, 18] (fun v6 v7 i wr => ∃ k : Nat, k ≤ q.length ∧ v6 = .int .i64 ((q.take k).filter p.isD).length ∧ v7 = .bool ((q.take k).all (fun n => (p.find n).isSome)) ∧ i = .int .i64 k ∧ USet Tryz.prog 28 4 wr mbs k (q.take k) ∧ (q.take k).Nodup ∧ Below w.heap.size w wr) (fun _ _ i _ => q.length - (intOf i).toNat)
  case atStart => exact ⟨0, by omega, rfl, rfl, rfl, HU0.out, by simp, hb0⟩
  case round =>
    obtain ⟨k, hk, rfl, rfl, rfl, hU, hnd, hbr⟩ := hrel
    have hflen : ((q.take k).filter p.isD).length ≤ k := Nat.le_trans (List.length_filter_le _ _) (by simp; omega)
    by_cases hlt : k < q.length
    · obtain ⟨b, o, u, rfl, _, _, hu, hcell⟩ := (Reads.below HRR.out hbr).at_ hlt
      have hqk : q[k]? = some q[k]! := by rw [getElem!_pos q k hlt]; exact List.getElem?_eq_getElem hlt
      rw [List.getElem?_map, hqk] at hu
      injection hu with hu
      subst hu
      have hid := HQ.out q[k]! (by rw [getElem!_pos q k hlt]; exact List.getElem_mem hlt)
      have hbad := Lib.hid (Sp.nodup_take_bad (q := q) (k := k) hlt)
      have hgood := Lib.hid (Sp.nodup_take_succ (q := q) (k := k) hlt hnd)
      have hfi : Hid ((q.take (k + 1)).filter p.isD = (q.take k).filter p.isD ++ (if p.isD q[k]! = true then [q[k]!] else [])) := by
        show _ = _
        rw [List.take_succ_eq_append_getElem hlt, ← getElem!_pos q k hlt, List.filter_append]
        congr 1
        by_cases h : p.isD q[k]! = true
        · rw [if_pos h, List.filter_cons_of_pos h, List.filter_nil]
        · rw [if_neg h, List.filter_cons_of_neg h, List.filter_nil]
      have hal : Hid ((q.take (k + 1)).all (fun n => (p.find n).isSome) = ((q.take k).all (fun n => (p.find n).isSome) && (p.find q[k]!).isSome)) := by
        show _ = _
        rw [List.take_succ_eq_append_getElem hlt, ← getElem!_pos q k hlt, List.all_append]
        simp
      have htk : Hid (q.take (k + 1) = q.take k ++ [q[k]!]) := by
        show _ = _
        rw [List.take_succ_eq_append_getElem hlt, ← getElem!_pos q k hlt]
      have hmeas : k + 1 ≤ q.length := hlt
      clear hqk
      generalize q[k]! = id at *
      have hr := HH.out.keep hbr.size (fun b hb => hbr.block b (HH.out.lt b hb))
      have c6 := hr.cells.2.2.2.2.2.2.1
      by_cases hin : id ∈ q.take k
      · have hlk := hU.look_in Tryz.underlying28 Tryz.underlying4 Tryz.underlying123 (Tryz.zb _) hid hin
        have HB := Lib.hid hbr
        cases hf : p.find id with
        | none =>
          have hlo := hr.look_out hid hf
          clear hU hr hbr
          go_wp2_with fail
          go_ret
          exact ⟨2, rfl, .inl ⟨.inl ⟨rfl, .inl (hbad.out hin)⟩, HB.out⟩⟩
        | some it =>
          have hlo := hr.look_in hid hf
          clear hU hr hbr
          go_wp2_with fail
          go_ret
          exact ⟨2, rfl, .inl ⟨.inl ⟨rfl, .inl (hbad.out hin)⟩, HB.out⟩⟩
      · have hlk := hU.look_not Tryz.underlying28 Tryz.underlying4 Tryz.underlying123 (Tryz.zb _) hid hin
        obtain ⟨w3, hrun3, hU3, hg3⟩ := hU.put Tryz.underlying28 Tryz.underlying4 Tryz.underlying123 (by unfold maxLen; omega) hid
        rw [← htk.out] at hU3
        have hb3 : Below w.heap.size w w3 := hbr.grown hg3 hbr.size (fun r e => by injection e with e; omega)
        have h3 := HH.out.keep hb3.size (fun b hb => hb3.block b (HH.out.lt b hb))
        have hnd3 := hgood.out hin
        have HU3 := Lib.hid hU3
        have HB3 := Lib.hid hb3
        cases hf : p.find id with
        | none =>
          have hlo := hr.look_out hid hf
          have hd : p.isD id = false := by unfold Sp.Pl.isD; rw [hf]
          rw [hd, if_neg (by decide), List.append_nil] at hfi
          rw [hf, Option.isSome_none, Bool.and_false] at hal
          clear hU hr hbr h3 hU3 hb3 hg3
          generalize hall : (q.take k).all (fun n => (p.find n).isSome) = bb
          cases bb with
          | true =>
            go_wp2_with fail
            go_roundw
            case rel => exact ⟨k + 1, hmeas, by rw [hfi.out], by rw [hal.out], by go_num, HU3.out, hnd3, HB3.out⟩
            case measure => simp [intOf]; omega
          | false =>
            go_wp2_with fail
            go_roundw
            case rel => exact ⟨k + 1, hmeas, by rw [hfi.out], by rw [hal.out], by go_num, HU3.out, hnd3, HB3.out⟩
            case measure => simp [intOf]; omega
        | some it =>
          have hlo := hr.look_in hid hf
          have hit := (Sp.Pl.find_mem hf).1
          have hd : p.isD id = it.dirty := by unfold Sp.Pl.isD; rw [hf]
          rw [hf, Option.isSome_some, Bool.and_true] at hal
          obtain ⟨A0, c0', _, _, hc0⟩ := h3.fr.item it hit
          have k7 := (h3.fr.blk.cell (it.idx * 9 + 7)).trans (hc0 7 (by omega))
          simp only [frCells, List.getElem?_cons_succ, List.getElem?_cons_zero] at k7
          have c4 := h3.cells.2.2.2.2.1
          have hlt9 := h3.wf.idx_lt hit
          clear hU hr hbr h3 hU3 hb3 hg3 hc0
          generalize hall : (q.take k).all (fun n => (p.find n).isSome) = bb at *
          cases hdd : it.dirty with
          | false =>
            rw [hdd] at k7 hd
            rw [hd, if_neg (by decide), List.append_nil] at hfi
            cases bb with
            | true =>
              go_wp2_with fail
              go_roundw
              case rel => exact ⟨k + 1, hmeas, by rw [hfi.out], by rw [hal.out], by go_num, HU3.out, hnd3, HB3.out⟩
              case measure => simp [intOf]; omega
            | false =>
              go_wp2_with fail
              go_roundw
              case rel => exact ⟨k + 1, hmeas, by rw [hfi.out], by rw [hal.out], by go_num, HU3.out, hnd3, HB3.out⟩
              case measure => simp [intOf]; omega
          | true =>
            rw [hdd] at k7 hd
            rw [hd, if_pos rfl] at hfi
            cases bb with
            | true =>
              go_wp2_with fail
              go_roundw
              case rel => exact ⟨k + 1, hmeas, by rw [hfi.out, List.length_append]; go_num, by rw [hal.out], by go_num, HU3.out, hnd3, HB3.out⟩
              case measure => simp [intOf]; omega
            | false =>
              go_wp2_with fail
              go_roundw
              case rel => exact ⟨k + 1, hmeas, by rw [hfi.out, List.length_append]; go_num, by rw [hal.out], by go_num, HU3.out, hnd3, HB3.out⟩
              case measure => simp [intOf]; omega
    · obtain rfl : k = q.length := by omega
      rw [List.take_length] at hnd hflen ⊢
      have HB := Lib.hid hbr
      have hsz := hbr.size
      by_cases h8 : 8 < (q.filter p.isD).length
      · have d8 : decide (8 < (q.filter p.isD).length) = true := by rw [decide_eq_true_iff]; exact h8
        clear hU hbr
        go_wp2_with fail
        go_ret
        exact ⟨2, rfl, .inl ⟨.inl ⟨rfl, .inr h8⟩, HB.out⟩⟩
      · have d8 : decide (8 < (q.filter p.isD).length) = false := by rw [decide_eq_false_iff_not]; exact h8
        generalize hall : q.all (fun n => (p.find n).isSome) = bb
        cases bb with
        | false =>
          clear hU hbr
          go_wp2_with fail
          go_ret
          exact ⟨3, rfl, .inl ⟨.inr ⟨rfl, hnd, by omega, hall⟩, HB.out⟩⟩
        | true =>
          have hAll : ∀ n ∈ q, ∃ it, p.find n = some it := fun n hn => Option.isSome_iff_exists.1 (by simpa using List.all_eq_true.1 hall n hn)
          clear hU
          rcases Nat.eq_zero_or_pos q.length with h0 | hpos
          · obtain rfl := hA0 h0
            have hcn := Lib.hid (Tryz.slices_Clone_nil_f66 0 c wr)
            have hw0 := Lib.hid (hX0 h0 wr hbr)
            clear hbr
            go_wp2_with fail
            refine hcn.out.mono ?_
            rintro e w5 ⟨rfl, hw5⟩
            subst w5
            go_wp2_with fail
            refine hw0.out.mono ?_
            rintro e w5 ⟨cc, rfl, hx⟩
            have hxh := Lib.hid hx
            clear hx
            go_wp2_with fail
            go_ret
            exact ⟨cc, rfl, .inr hxh.out⟩
          · have hcn := Lib.hid (clone_u32 (c := c) (Reads.below HRR.out hbr) hA (by omega) hpos)
            go_wp2_with fail
            refine hcn.out.mono ?_
            rintro e w5 ⟨g, c', rfl, hg, hO, hb5⟩
            have hb05 := hbr.trans (hb5.mono hbr.size)
            have hO' : w5.ownsRow w.heap.size 28 1 (.slice (some ⟨g, 0, none⟩) q.length c') q.length (q.map u32v) := by
              refine ⟨hO.1, ?_⟩
              rcases hO.2 with h | ⟨g', cap, cur, e, hb, rest⟩
              · exact .inl h
              · exact .inr ⟨g', cap, cur, e, Nat.le_trans hsz hb, rest⟩
            have hw0 := Lib.hid (HX.out hnd (by omega) hAll hpos w5 hb05 g c' (Nat.le_trans hsz hg) hO')
            clear hbr hO hO' hb5
            go_wp2_with fail
            refine hw0.out.mono ?_
            rintro e w6 ⟨cc, rfl, hx⟩
            have hxh := Lib.hid hx
            clear hx
            go_wp2_with fail
            go_ret
            exact ⟨cc, rfl, .inr hxh.out⟩
end Go.Proofs.YtndglfiepeefdaaGreat

/- PoolKeeps' own law on plain words: what was put is there, whatever was evicted; the log ahead of the disk. No program is named here. -/
namespace Go.Proofs.YtndglfiepeefdaaGreat.Sp

/-- How the pool stands: each page has the row that was put last; page m is pinned once (0: none is). -/
structure KI (now : Nat → Bs) (m : Nat) (s : R15) : Prop where
  fr : 1 ≤ s.frames
  top : s.top = 6
  ids : (s.L.map (·.page.id)).Nodup
  inr : ∀ x ∈ s.L, 1 ≤ x.page.id ∧ x.page.id ≤ 6
  free : ∀ x ∈ s.L, x.pins = if x.page.id = m then 1 else 0
  rows : ∀ x ∈ s.L, x.page.rows = [now x.page.id]
  low : ∀ x ∈ s.L, x.page.lsn < s.next
  cln : ∀ x ∈ s.L, x.dirty = false → x.page = s.disk x.page.id
  did : ∀ q, 1 ≤ q → q ≤ 6 → (s.disk q).id = q
  drow : ∀ q, 1 ≤ q → q ≤ 6 → (s.disk q).rows.length = 1
  dnow : ∀ q, 1 ≤ q → q ≤ 6 → isDirty s.L q = false → (s.disk q).rows = [now q]
  dlsn : ∀ q, 1 ≤ q → q ≤ 6 → (s.disk q).lsn < s.forced
  ff : s.forced ≤ s.next
  f1 : 110 ≤ s.forced

theorem getR_of {L : List RI} (hn : (L.map (·.page.id)).Nodup) {x : RI} (hx : x ∈ L) : getR? L x.page.id = some x := by
  unfold getR?
  cases hf : L.find? (fun y => y.page.id == x.page.id) with
  | none =>
    have := List.find?_eq_none.1 hf x hx
    simp at this
  | some y =>
    have h1 := List.mem_of_find?_eq_some hf
    have h2 : y.page.id = x.page.id := by simpa using List.find?_some hf
    rw [nodup_map_eq hn h1 hx h2]
theorem getR_mem {L : List RI} {n : Nat} {x : RI} (h : getR? L n = some x) : x ∈ L ∧ x.page.id = n := ⟨List.mem_of_find?_eq_some h, by simpa using List.find?_some h⟩
theorem isDirty_of {L : List RI} (hn : (L.map (·.page.id)).Nodup) {x : RI} (hx : x ∈ L) : isDirty L x.page.id = x.dirty := by unfold isDirty; rw [getR_of hn hx]
theorem isDirty_in {L : List RI} {n : Nat} (h : isDirty L n = true) : ∃ x ∈ L, x.page.id = n ∧ x.dirty = true ∧ getR? L n = some x := by
  unfold isDirty at h
  cases hg : getR? L n with
  | none => rw [hg] at h; cases h
  | some x =>
    rw [hg] at h
    exact ⟨x, (getR_mem hg).1, (getR_mem hg).2, h, rfl⟩
theorem lsnOf_lt {L : List RI} {b : Nat} (hb : 0 < b) (h : ∀ x ∈ L, x.page.lsn < b) : ∀ (q : List Nat), lsnOf L q < b := by
  have key : ∀ (q : List Nat) (m : Nat), m < b → q.foldl (fun m id => match getR? L id with
      | some x => if x.dirty then max m x.page.lsn else m
      | none => m) m < b := by
    intro q
    induction q with
    | nil => exact fun _ h => h
    | cons n q ih =>
      intro m hm
      rw [List.foldl_cons]
      refine ih _ ?_
      cases hg : getR? L n with
      | none => exact hm
      | some x =>
        have := h x (getR_mem hg).1
        simp only
        split
        · omega
        · exact hm
  exact fun q => key q 0 hb
theorem lsnOf_ge {L : List RI} {x : RI} {n : Nat} (hg : getR? L n = some x) (hd : x.dirty = true) : ∀ {q : List Nat}, n ∈ q → x.page.lsn ≤ lsnOf L q := by
  have mono : ∀ (q : List Nat) (m : Nat), m ≤ q.foldl (fun m id => match getR? L id with
      | some x => if x.dirty then max m x.page.lsn else m
      | none => m) m := by
    intro q
    induction q with
    | nil => exact fun m => Nat.le_refl _
    | cons n q ih =>
      intro m
      rw [List.foldl_cons]
      refine Nat.le_trans ?_ (ih _)
      cases getR? L n with
      | none => exact Nat.le_refl _
      | some x =>
        simp only
        split
        · omega
        · exact Nat.le_refl _
  have key : ∀ (q : List Nat) (m : Nat), n ∈ q → x.page.lsn ≤ q.foldl (fun m id => match getR? L id with
      | some x => if x.dirty then max m x.page.lsn else m
      | none => m) m := by
    intro q
    induction q with
    | nil => exact fun m h => (by cases h)
    | cons k q ih =>
      intro m h
      rw [List.foldl_cons]
      rcases List.mem_cons.1 h with rfl | h
      · refine Nat.le_trans ?_ (mono q _)
        rw [hg]
        simp only [hd, if_true]
        omega
      · exact ih _ h
  intro q h
  exact key q 0 h

theorem cleaned_page (q : List Nat) (x : RI) : (cleaned q x).page = x.page ∧ (cleaned q x).pins = x.pins := by unfold cleaned; split <;> exact ⟨rfl, rfl⟩
theorem cleaned_ids (q : List Nat) (L : List RI) : (L.map (cleaned q)).map (·.page.id) = L.map (·.page.id) := by
  rw [List.map_map]
  apply List.map_congr_left
  intro x _
  simp only [Function.comp, (cleaned_page q x).1]

/-- Pages are written. -/
theorem KI.write {now : Nat → Bs} {m : Nat} {s : R15} (h : KI now m s) (q : List Nat) : (s.write q).1 = 0 ∧ KI now m (s.write q).2 ∧ (s.write q).2.L.map (·.page.id) = s.L.map (·.page.id) ∧ (s.write q).2.frames = s.frames ∧ (s.write q).2.next = s.next := by
  by_cases hall : q.all (fun id => !isDirty s.L id) = true
  · have e : s.write q = (0, s) := by unfold R15.write; rw [if_pos hall]
    rw [e]; exact ⟨rfl, h, rfl, rfl, rfl⟩
  · have hlt : lsnOf s.L q < s.next := lsnOf_lt (by have := h.f1; have := h.ff; omega) h.low q
    have e : s.write q = (0, { s with forced := if s.forced ≤ lsnOf s.L q then s.next else s.forced, L := s.L.map (cleaned q), disk := fun n => if n ∈ q ∧ isDirty s.L n = true then ((getR? s.L n).map (·.page)).getD (s.disk n) else s.disk n }) := by
      unfold R15.write; rw [if_neg hall, if_neg (by omega)]
    rw [e]
    have hfo : s.forced ≤ (if s.forced ≤ lsnOf s.L q then s.next else s.forced) ∧ (if s.forced ≤ lsnOf s.L q then s.next else s.forced) ≤ s.next ∧ lsnOf s.L q < (if s.forced ≤ lsnOf s.L q then s.next else s.forced) := by
      have := h.ff
      split <;> omega
    have hdk : ∀ n, n ∈ q ∧ isDirty s.L n = true → ∃ x ∈ s.L, x.page.id = n ∧ x.dirty = true ∧ (((getR? s.L n).map (·.page)).getD (s.disk n)) = x.page ∧ x.page.lsn ≤ lsnOf s.L q := fun n hn => by
      obtain ⟨x, hx, hid, hd, hg⟩ := isDirty_in hn.2
      exact ⟨x, hx, hid, hd, by rw [hg]; rfl, lsnOf_ge hg hd hn.1⟩
    have hids' : ((s.L.map (cleaned q)).map (·.page.id)).Nodup := by rw [cleaned_ids]; exact h.ids
    refine ⟨rfl, ⟨h.fr, h.top, hids', fun y hy => ?_, fun y hy => ?_, fun y hy => ?_, fun y hy => ?_, fun y hy hd => ?_, fun n h1 h2 => ?_, fun n h1 h2 => ?_, fun n h1 h2 hd => ?_, fun n h1 h2 => ?_, hfo.2.1, Nat.le_trans h.f1 hfo.1⟩, cleaned_ids q s.L, rfl, rfl⟩
    · obtain ⟨x, hx, rfl⟩ := List.mem_map.1 hy
      rw [(cleaned_page q x).1]; exact h.inr x hx
    · obtain ⟨x, hx, rfl⟩ := List.mem_map.1 hy
      rw [(cleaned_page q x).1, (cleaned_page q x).2]; exact h.free x hx
    · obtain ⟨x, hx, rfl⟩ := List.mem_map.1 hy
      rw [(cleaned_page q x).1]; exact h.rows x hx
    · obtain ⟨x, hx, rfl⟩ := List.mem_map.1 hy
      rw [(cleaned_page q x).1]; exact h.low x hx
    · obtain ⟨x, hx, rfl⟩ := List.mem_map.1 hy
      rw [(cleaned_page q x).1]
      show x.page = if _ then _ else _
      by_cases hc : x.page.id ∈ q ∧ isDirty s.L x.page.id = true
      · rw [if_pos hc]
        obtain ⟨z, hz, hzi, _, he, _⟩ := hdk _ hc
        rw [he, nodup_map_eq h.ids hz hx hzi]
      · rw [if_neg hc]
        refine h.cln x hx ?_
        cases hxd : x.dirty with
        | false => rfl
        | true =>
          have hnq : x.page.id ∉ q := fun hq => hc ⟨hq, by rw [isDirty_of h.ids hx, hxd]⟩
          have e2 : cleaned q x = x := by unfold cleaned; rw [if_neg (fun e => hnq e.2)]
          rw [e2, hxd] at hd
          cases hd
    · show Pg.id (if _ then _ else _) = n
      by_cases hc : n ∈ q ∧ isDirty s.L n = true
      · rw [if_pos hc]
        obtain ⟨z, hz, hzi, _, he, _⟩ := hdk _ hc
        rw [he]; exact hzi
      · rw [if_neg hc]; exact h.did n h1 h2
    · show (Pg.rows (if _ then _ else _)).length = 1
      by_cases hc : n ∈ q ∧ isDirty s.L n = true
      · rw [if_pos hc]
        obtain ⟨z, hz, hzi, _, he, _⟩ := hdk _ hc
        rw [he, h.rows z hz]; rfl
      · rw [if_neg hc]; exact h.drow n h1 h2
    · show Pg.rows (if _ then _ else _) = [now n]
      by_cases hc : n ∈ q ∧ isDirty s.L n = true
      · rw [if_pos hc]
        obtain ⟨z, hz, hzi, _, he, _⟩ := hdk _ hc
        rw [he, h.rows z hz, hzi]
      · rw [if_neg hc]
        refine h.dnow n h1 h2 ?_
        cases hdn : isDirty s.L n with
        | false => rfl
        | true =>
          have hnq : n ∉ q := fun hq => hc ⟨hq, hdn⟩
          obtain ⟨x, hx, hxi, hxd, _⟩ := isDirty_in hdn
          have e2 : cleaned q x = x := by unfold cleaned; rw [if_neg (fun e => hnq (by rw [← hxi]; exact e.2))]
          have h3 : isDirty (s.L.map (cleaned q)) n = x.dirty := by
            have := isDirty_of hids' (x := cleaned q x) (List.mem_map.2 ⟨x, hx, rfl⟩)
            rw [e2, hxi] at this
            exact this
          have hd' : isDirty (s.L.map (cleaned q)) n = false := hd
          rw [hd', hxd] at h3
          cases h3
    · show Pg.lsn (if _ then _ else _) < _
      by_cases hc : n ∈ q ∧ isDirty s.L n = true
      · rw [if_pos hc]
        obtain ⟨z, hz, hzi, _, he, hle⟩ := hdk _ hc
        rw [he]
        exact Nat.lt_of_le_of_lt hle hfo.2.2
      · rw [if_neg hc]; exact Nat.lt_of_lt_of_le (h.dlsn n h1 h2) hfo.1

theorem dropR_mem {L : List RI} {n : Nat} {x : RI} : x ∈ dropR L n ↔ x ∈ L ∧ x.page.id ≠ n := by
  unfold dropR
  rw [List.mem_filter]
  simp
theorem dropR_ids (L : List RI) (n : Nat) : (dropR L n).map (·.page.id) = (L.map (·.page.id)).filter (fun y => y != n) := by
  unfold dropR
  rw [List.filter_map]
  rfl

/-- A page is written and goes. -/
theorem KI.drop {now : Nat → Bs} {m : Nat} {s : R15} (h : KI now m s) (n : Nat) (hn : ∃ x ∈ s.L, x.page.id = n) :
    (s.drop n).1 = 0 ∧ KI now m (s.drop n).2 ∧ (s.drop n).2.L.map (·.page.id) = (s.L.map (·.page.id)).filter (fun y => y != n) ∧ (s.drop n).2.frames = s.frames ∧ (s.drop n).2.next = s.next := by
  obtain ⟨e1, hw, e2, e3, e4⟩ := h.write [n]
  have ed : s.drop n = (0, { (s.write [n]).2 with L := dropR (s.write [n]).2.L n }) := by
    unfold R15.drop
    simp only [e1]
    rw [if_neg (by simp)]
  rw [ed]
  have hcl : isDirty (s.write [n]).2.L n = false := by
    obtain ⟨x, hx, hxi⟩ := hn
    by_cases hall : [n].all (fun id => !isDirty s.L id) = true
    · have e : s.write [n] = (0, s) := by unfold R15.write; rw [if_pos hall]
      rw [e]
      simpa using hall
    · have hlt : lsnOf s.L [n] < s.next := lsnOf_lt (by have := h.f1; have := h.ff; omega) h.low [n]
      have e : s.write [n] = (0, { s with forced := if s.forced ≤ lsnOf s.L [n] then s.next else s.forced, L := s.L.map (cleaned [n]), disk := fun q => if q ∈ [n] ∧ isDirty s.L q = true then ((getR? s.L q).map (·.page)).getD (s.disk q) else s.disk q }) := by
        unfold R15.write; rw [if_neg hall, if_neg (by omega)]
      have hids' : ((s.write [n]).2.L.map (·.page.id)).Nodup := hw.ids
      have hy : cleaned [n] x ∈ (s.write [n]).2.L := by rw [e]; exact List.mem_map.2 ⟨x, hx, rfl⟩
      have := isDirty_of hids' hy
      rw [(cleaned_page [n] x).1, hxi] at this
      rw [this]
      unfold cleaned
      split
      · rfl
      · rename_i hc
        cases hxd : x.dirty with
        | false => rfl
        | true => exact absurd ⟨hxd, by rw [hxi]; simp⟩ hc
  generalize (s.write [n]).2 = s2 at *
  have hids' : ((dropR s2.L n).map (·.page.id)).Nodup := by rw [dropR_ids]; exact hw.ids.filter _
  have hkeep : ∀ q, isDirty (dropR s2.L n) q = false → isDirty s2.L q = false := fun q hd => by
    cases hq : isDirty s2.L q with
    | false => rfl
    | true =>
      obtain ⟨x, hx, hxi, hxd, _⟩ := isDirty_in hq
      by_cases hqn : x.page.id = n
      · rw [← hxi, hqn] at hq
        rw [hq] at hcl
        cases hcl
      · have := isDirty_of hids' (dropR_mem.2 ⟨hx, hqn⟩)
        rw [hxi, hd, hxd] at this
        cases this
  refine ⟨rfl, ⟨hw.fr, hw.top, hids', fun x hx => hw.inr x (dropR_mem.1 hx).1, fun x hx => hw.free x (dropR_mem.1 hx).1, fun x hx => hw.rows x (dropR_mem.1 hx).1, fun x hx => hw.low x (dropR_mem.1 hx).1, fun x hx => hw.cln x (dropR_mem.1 hx).1, hw.did, hw.drow, fun q h1 h2 hd => hw.dnow q h1 h2 (hkeep q hd), hw.dlsn, hw.ff, hw.f1⟩, ?_, e3, e4⟩
  show (dropR s2.L n).map (·.page.id) = _
  rw [dropR_ids, e2]

/-- There is room. -/
theorem KI.room {now : Nat → Bs} {s : R15} (h : KI now 0 s) : s.room.1 = 0 ∧ KI now 0 s.room.2 ∧ (∀ x ∈ s.room.2.L, x.page.id ∈ s.L.map (·.page.id)) ∧ s.room.2.frames = s.frames ∧ s.room.2.next = s.next := by
  unfold R15.room
  split
  · exact ⟨rfl, h, fun x hx => List.mem_map.2 ⟨x, hx, rfl⟩, rfl, rfl⟩
  · rename_i hlt
    cases hf : s.L.find? (fun x => x.pins == 0) with
    | none =>
      have hne : s.L ≠ [] := fun e => by rw [e] at hlt; have := h.fr; simp at hlt; omega
      obtain ⟨x, hx⟩ := List.exists_mem_of_ne_nil _ hne
      have h1 := List.find?_eq_none.1 hf x hx
      have h2 := h.free x hx
      rw [if_neg (by have := (h.inr x hx).1; omega)] at h2
      simp [h2] at h1
    | some x =>
      have hx := List.mem_of_find?_eq_some hf
      obtain ⟨d1, d2, d3, d4, d5⟩ := h.drop x.page.id ⟨x, hx, rfl⟩
      refine ⟨d1, d2, fun y hy => ?_, d4, d5⟩
      have : y.page.id ∈ (s.drop x.page.id).2.L.map (·.page.id) := List.mem_map.2 ⟨y, hy, rfl⟩
      rw [d3] at this
      exact (List.mem_filter.1 this).1

/-- A page is pinned. -/
theorem KI.pin {now : Nat → Bs} {s : R15} (h : KI now 0 s) {n : Nat} (h1 : 1 ≤ n) (h6 : n ≤ 6) :
    ∃ x s', s.pin n = (0, some x, s') ∧ x.id = n ∧ x.rows = [now n] ∧ KI now n s' ∧ s'.next = s.next ∧ s'.frames = s.frames ∧ ∃ y ∈ s'.L, y.page.id = n ∧ y.page = x ∧ y.pins = 1 := by
  have hfr0 : ∀ x ∈ s.L, x.pins = 0 := fun x hx => by
    have := h.free x hx
    rwa [if_neg (by have := (h.inr x hx).1; omega)] at this
  by_cases hh : hasR s.L n = true
  · obtain ⟨x, hx, hxi⟩ := List.any_eq_true.1 hh
    have hxi : x.page.id = n := by simpa using hxi
    have hg := getR_of h.ids hx
    rw [hxi] at hg
    have e : s.pin n = (0, some x.page, { s with L := pinR s.L n }) := by unfold R15.pin; rw [if_pos hh, hg]; rfl
    have hmem : ∀ y, y ∈ pinR s.L n ↔ (y ∈ s.L ∧ y.page.id ≠ n) ∨ y = { x with pins := x.pins + 1 } := fun y => by
      unfold pinR
      rw [List.mem_append, dropR_mem, List.mem_map]
      refine or_congr Iff.rfl ⟨?_, ?_⟩
      · rintro ⟨z, hz, rfl⟩
        have hz2 := List.mem_filter.1 hz
        rw [nodup_map_eq h.ids hz2.1 hx (by have := hz2.2; simp at this; rw [this, hxi])]
      · rintro rfl
        exact ⟨x, List.mem_filter.2 ⟨hx, by simp [hxi]⟩, rfl⟩
    have hidsp : ((pinR s.L n).map (·.page.id)).Nodup := by
      unfold pinR
      rw [List.map_append, dropR_ids, List.map_map]
      have e2 : (s.L.filter (fun z => z.page.id == n)).map ((fun z : RI => z.page.id) ∘ fun z => { z with pins := z.pins + 1 }) = (s.L.map (·.page.id)).filter (fun z => z == n) := by
        rw [List.filter_map]
        rfl
      rw [e2]
      refine List.nodup_append.2 ⟨h.ids.filter _, h.ids.filter _, fun a ha b hb e => ?_⟩
      have h1 := (List.mem_filter.1 ha).2
      have h2 := (List.mem_filter.1 hb).2
      simp at h1 h2
      exact h1 (e.trans h2)
    have hdirty : ∀ q, isDirty (pinR s.L n) q = isDirty s.L q := fun q => by
      by_cases hq : q = n
      · subst hq
        have a1 := isDirty_of hidsp ((hmem _).2 (.inr rfl))
        have a2 := isDirty_of h.ids hx
        rw [hxi] at a2
        have a1' : isDirty (pinR s.L q) x.page.id = x.dirty := a1
        rw [hxi] at a1'
        rw [a1', a2]
      · cases hd : isDirty s.L q with
        | true =>
          obtain ⟨z, hz, hzi, hzd, _⟩ := isDirty_in hd
          have := isDirty_of hidsp ((hmem z).2 (.inl ⟨hz, by rw [hzi]; exact hq⟩))
          rw [hzi, hzd] at this
          exact this
        | false =>
          cases hd2 : isDirty (pinR s.L n) q with
          | false => rfl
          | true =>
            obtain ⟨z, hz, hzi, hzd, _⟩ := isDirty_in hd2
            rcases (hmem z).1 hz with ⟨hz1, _⟩ | rfl
            · have := isDirty_of h.ids hz1
              rw [hzi, hd, hzd] at this
              cases this
            · exact absurd (hzi.symm.trans hxi) hq
    refine ⟨x.page, _, e, hxi, by rw [h.rows x hx, hxi], ⟨h.fr, h.top, hidsp, fun y hy => ?_, fun y hy => ?_, fun y hy => ?_, fun y hy => ?_, fun y hy hd => ?_, h.did, h.drow, fun q a b c => h.dnow q a b (by rw [← hdirty]; exact c), h.dlsn, h.ff, h.f1⟩, rfl, rfl, { x with pins := x.pins + 1 }, (hmem _).2 (.inr rfl), hxi, rfl, by show x.pins + 1 = 1; rw [hfr0 x hx]⟩
    · rcases (hmem y).1 hy with ⟨hy, _⟩ | rfl
      · exact h.inr y hy
      · exact h.inr x hx
    · rcases (hmem y).1 hy with ⟨hy, hne⟩ | rfl
      · rw [if_neg hne]; exact hfr0 y hy
      · rw [if_pos (show x.page.id = n from hxi)]
        show x.pins + 1 = 1
        rw [hfr0 x hx]
    · rcases (hmem y).1 hy with ⟨hy, _⟩ | rfl
      · exact h.rows y hy
      · exact h.rows x hx
    · rcases (hmem y).1 hy with ⟨hy, _⟩ | rfl
      · exact h.low y hy
      · exact h.low x hx
    · rcases (hmem y).1 hy with ⟨hy, _⟩ | rfl
      · exact h.cln y hy hd
      · exact h.cln x hx hd
  · have hh' : hasR s.L n = false := by simpa using hh
    obtain ⟨r1, r2, r3, r4, r5⟩ := h.room
    have hnin : ∀ y ∈ s.room.2.L, y.page.id ≠ n := fun y hy e => by
      obtain ⟨z, hz, hzi⟩ := List.mem_map.1 (r3 y hy)
      have := List.any_eq_false.1 hh' z hz
      simp at this
      exact this (hzi.trans e)
    have hnd : isDirty s.room.2.L n = false := by
      cases hd : isDirty s.room.2.L n with
      | false => rfl
      | true =>
        obtain ⟨z, hz, hzi, _⟩ := isDirty_in hd
        exact absurd hzi (hnin z hz)
    have hdisk : s.disk n = s.room.2.disk n := by
      unfold R15.room
      split
      · rfl
      · cases hf : s.L.find? (fun x => x.pins == 0) with
        | none => rfl
        | some z =>
          have hz := List.mem_of_find?_eq_some hf
          have hzn : z.page.id ≠ n := fun e => by
            have := List.any_eq_false.1 hh' z hz
            simp at this
            exact this e
          show s.disk n = (s.drop z.page.id).2.disk n
          have hw := (h.write [z.page.id]).1
          have ed : s.drop z.page.id = (0, { (s.write [z.page.id]).2 with L := dropR (s.write [z.page.id]).2.L z.page.id }) := by
            unfold R15.drop
            simp only [hw]
            rw [if_neg (by simp)]
          rw [ed]
          show s.disk n = (s.write [z.page.id]).2.disk n
          unfold R15.write
          split
          · rfl
          · split
            · rfl
            · show s.disk n = if _ then _ else _
              rw [if_neg (fun e => hzn (List.mem_singleton.1 e.1).symm)]
    have e : s.pin n = (0, some (s.disk n), { s.room.2 with L := s.room.2.L ++ [⟨s.disk n, 1, false, 0⟩] }) := by
      unfold R15.pin
      rw [if_neg (by rw [hh']; decide), if_neg (by rw [h.top]; omega), if_neg (by omega)]
      simp only [r1]
      rw [if_neg (by simp)]
      have hp := pinR_new (L := s.room.2.L) (x := s.disk n) (fun y hy => by rw [h.did n h1 h6]; exact hnin y hy)
      rw [h.did n h1 h6] at hp
      rw [hp]
    have hid := h.did n h1 h6
    have hrows : (s.disk n).rows = [now n] := by rw [hdisk]; exact r2.dnow n h1 h6 hnd
    have hfr0' : ∀ x ∈ s.room.2.L, x.pins = 0 := fun x hx => by
      have := r2.free x hx
      rwa [if_neg (by have := (r2.inr x hx).1; omega)] at this
    have hids2 : ((s.room.2.L ++ [(⟨s.disk n, 1, false, 0⟩ : RI)]).map (fun x : RI => x.page.id)).Nodup := by
      rw [List.map_append]
      refine List.nodup_append.2 ⟨r2.ids, by simp, fun a ha b hb e => ?_⟩
      obtain ⟨z, hz, rfl⟩ := List.mem_map.1 ha
      simp at hb
      exact hnin z hz (by rw [e, hb, hid])
    refine ⟨s.disk n, _, e, hid, hrows, ⟨by rw [show ({ s.room.2 with L := s.room.2.L ++ [⟨s.disk n, 1, false, 0⟩] } : R15).frames = s.room.2.frames from rfl, r4]; exact h.fr, r2.top, hids2, fun y hy => ?_, fun y hy => ?_, fun y hy => ?_, fun y hy => ?_, fun y hy hd => ?_, r2.did, r2.drow, fun q a b c => ?_, r2.dlsn, r2.ff, r2.f1⟩, r5, r4, ⟨s.disk n, 1, false, 0⟩, by simp, hid, rfl, rfl⟩
    · rcases List.mem_append.1 hy with hy | hy
      · exact r2.inr y hy
      · rw [List.mem_singleton.1 hy]
        show 1 ≤ (s.disk n).id ∧ (s.disk n).id ≤ 6
        rw [hid]; exact ⟨h1, h6⟩
    · rcases List.mem_append.1 hy with hy | hy
      · rw [if_neg (hnin y hy)]; exact hfr0' y hy
      · rw [List.mem_singleton.1 hy, if_pos hid]
    · rcases List.mem_append.1 hy with hy | hy
      · exact r2.rows y hy
      · rw [List.mem_singleton.1 hy]
        show (s.disk n).rows = [now (s.disk n).id]
        rw [hid]; exact hrows
    · rcases List.mem_append.1 hy with hy | hy
      · exact r2.low y hy
      · rw [List.mem_singleton.1 hy]
        show (s.disk n).lsn < s.room.2.next
        rw [hdisk]
        exact Nat.lt_of_lt_of_le (r2.dlsn n h1 h6) r2.ff
    · rcases List.mem_append.1 hy with hy | hy
      · exact r2.cln y hy hd
      · rw [List.mem_singleton.1 hy]
        show s.disk n = s.room.2.disk (s.disk n).id
        rw [hid]; exact hdisk
    · refine r2.dnow q a b ?_
      cases hd : isDirty s.room.2.L q with
      | false => rfl
      | true =>
        obtain ⟨z, hz, hzi, hzd, _⟩ := isDirty_in hd
        have := isDirty_of hids2 (List.mem_append_left _ hz)
        rw [hzi, hzd] at this
        have c' : isDirty (s.room.2.L ++ [⟨s.disk n, 1, false, 0⟩]) q = false := c
        rw [c'] at this
        cases this

theorem KI.longer {now : Nat → Bs} {m : Nat} {s : R15} (h : KI now m s) {k : Nat} (hk : s.next ≤ k) : KI now m { s with next := k } :=
  ⟨h.fr, h.top, h.ids, h.inr, h.free, h.rows, fun x hx => Nat.lt_of_lt_of_le (h.low x hx) hk, h.cln, h.did, h.drow, h.dnow, h.dlsn, Nat.le_trans h.ff hk, h.f1⟩
theorem KI.forced {now : Nat → Bs} {m : Nat} {s : R15} (h : KI now m s) : KI now m { s with forced := s.next } :=
  ⟨h.fr, h.top, h.ids, h.inr, h.free, h.rows, h.low, h.cln, h.did, h.drow, h.dnow, fun q a b => Nat.lt_of_lt_of_le (h.dlsn q a b) h.ff, Nat.le_refl _, Nat.le_trans h.f1 h.ff⟩

theorem upR_mem {L : List RI} {n : Nat} {f : RI → RI} {y : RI} : y ∈ upR L n f ↔ ∃ x ∈ L, y = if x.page.id = n then f x else x := by
  unfold upR
  rw [List.mem_map]
  exact ⟨fun ⟨x, hx, e⟩ => ⟨x, hx, e.symm⟩, fun ⟨x, hx, e⟩ => ⟨x, hx, e.symm⟩⟩
theorem upR_ids {L : List RI} {n : Nat} {f : RI → RI} (hf : ∀ x, x.page.id = n → (f x).page.id = n) : (upR L n f).map (·.page.id) = L.map (·.page.id) := by
  unfold upR
  rw [List.map_map]
  apply List.map_congr_left
  intro x _
  simp only [Function.comp]
  split
  · rename_i h; rw [hf x h, h]
  · rfl

/-- A page is put. -/
theorem KI.put {now : Nat → Bs} {s : R15} {n : Nat} (h : KI now n s) (h1 : 1 ≤ n) {x : Pg} (hid : x.id = n) {r : Bs} (hr : x.rows = [r]) (hl : x.lsn < s.next) (hin : ∃ y ∈ s.L, y.page.id = n) :
    (s.put x true).1 = 0 ∧ KI (fun q => if q = n then r else now q) n (s.put x true).2 ∧ (s.put x true).2.next = s.next ∧ (s.put x true).2.frames = s.frames ∧ (∃ y ∈ (s.put x true).2.L, y.page.id = n) := by
  obtain ⟨y, hy, hyi⟩ := hin
  have hg := getR_of h.ids hy
  have hyp := h.free y hy
  rw [if_pos hyi] at hyp
  have e : s.put x true = (0, { s with L := upR s.L x.id (fun y => if y.dirty then { y with page := x } else { y with page := x, dirty := true, from_ := x.lsn }) }) := by
    unfold R15.put
    rw [if_neg (by decide), hid, ← hyi, hg]
    simp only
    rw [if_neg (by omega)]
  rw [e]
  subst hid
  generalize hf : (fun y : RI => if y.dirty then { y with page := x } else { y with page := x, dirty := true, from_ := x.lsn }) = f
  have hfp : ∀ z : RI, (f z).page = x ∧ (f z).pins = z.pins ∧ (f z).dirty = true := fun z => by
    rw [← hf]
    simp only
    split
    · rename_i hd; exact ⟨rfl, rfl, hd⟩
    · exact ⟨rfl, rfl, rfl⟩
  have hids : (upR s.L x.id f).map (·.page.id) = s.L.map (·.page.id) := upR_ids (fun z hz => by rw [(hfp z).1])
  have hids' : ((upR s.L x.id f).map (·.page.id)).Nodup := by rw [hids]; exact h.ids
  have hmem : ∀ z, z ∈ upR s.L x.id f → (z.page = x ∧ z.pins = 1 ∧ z.dirty = true) ∨ (z ∈ s.L ∧ z.page.id ≠ x.id) := fun z hz => by
    obtain ⟨u, hu, rfl⟩ := upR_mem.1 hz
    by_cases hui : u.page.id = x.id
    · rw [if_pos hui]
      have hup := h.free u hu
      rw [if_pos hui] at hup
      exact .inl ⟨(hfp u).1, (hfp u).2.1.trans hup, (hfp u).2.2⟩
    · rw [if_neg hui]
      exact .inr ⟨hu, hui⟩
  refine ⟨rfl, ⟨h.fr, h.top, hids', fun z hz => ?_, fun z hz => ?_, fun z hz => ?_, fun z hz => ?_, fun z hz hd => ?_, h.did, h.drow, fun q a b hd => ?_, h.dlsn, h.ff, h.f1⟩, rfl, rfl, ?_⟩
  · rcases hmem z hz with ⟨hp, _⟩ | ⟨hz1, _⟩
    · rw [hp, ← hyi]; exact h.inr y hy
    · exact h.inr z hz1
  · rcases hmem z hz with ⟨hp, hpi, _⟩ | ⟨hz1, hne⟩
    · rw [hp, if_pos rfl, hpi]
    · have := h.free z hz1
      exact this
  · rcases hmem z hz with ⟨hp, _⟩ | ⟨hz1, hne⟩
    · rw [hp, if_pos rfl, hr]
    · rw [if_neg hne]; exact h.rows z hz1
  · rcases hmem z hz with ⟨hp, _⟩ | ⟨hz1, hne⟩
    · rw [hp]; exact hl
    · exact h.low z hz1
  · rcases hmem z hz with ⟨hp, _, hd2⟩ | ⟨hz1, hne⟩
    · rw [hd2] at hd; cases hd
    · exact h.cln z hz1 hd
  · have hfy : f y ∈ upR s.L x.id f := upR_mem.2 ⟨y, hy, by rw [if_pos hyi]⟩
    by_cases hq : q = x.id
    · have := isDirty_of hids' hfy
      rw [(hfp y).1, (hfp y).2.2] at this
      have hd' : isDirty (upR s.L x.id f) q = false := hd
      rw [hq, this] at hd'
      cases hd'
    · rw [if_neg hq]
      refine h.dnow q a b ?_
      cases hdq : isDirty s.L q with
      | false => rfl
      | true =>
        obtain ⟨z, hz, hzi, hzd, _⟩ := isDirty_in hdq
        have hz2 : z ∈ upR s.L x.id f := upR_mem.2 ⟨z, hz, by rw [if_neg (by rw [hzi]; exact hq)]⟩
        have := isDirty_of hids' hz2
        rw [hzi, hzd] at this
        have hd' : isDirty (upR s.L x.id f) q = false := hd
        rw [hd'] at this
        cases this
  · exact ⟨f y, upR_mem.2 ⟨y, hy, by rw [if_pos hyi]⟩, by rw [(hfp y).1]⟩

/-- A page is not pinned any more. -/
theorem KI.unpin {now : Nat → Bs} {s : R15} {n : Nat} (h : KI now n s) (hin : ∃ y ∈ s.L, y.page.id = n) :
    (s.unpin n).1 = 0 ∧ KI now 0 (s.unpin n).2 ∧ (s.unpin n).2.next = s.next ∧ (s.unpin n).2.frames = s.frames ∧ (∃ y ∈ (s.unpin n).2.L, y.page.id = n) := by
  obtain ⟨y, hy, hyi⟩ := hin
  have hg := getR_of h.ids hy
  have hyp := h.free y hy
  rw [if_pos hyi] at hyp
  have e : s.unpin n = (0, { s with L := upR s.L n (fun y => { y with pins := y.pins - 1 }) }) := by
    unfold R15.unpin
    rw [← hyi, hg]
    simp only
    rw [if_neg (by omega)]
  rw [e]
  have hids : (upR s.L n (fun y => { y with pins := y.pins - 1 })).map (·.page.id) = s.L.map (·.page.id) := upR_ids (fun z hz => hz)
  have hids' : ((upR s.L n (fun y => { y with pins := y.pins - 1 })).map (·.page.id)).Nodup := by rw [hids]; exact h.ids
  have hmem : ∀ z, z ∈ upR s.L n (fun y => { y with pins := y.pins - 1 }) → ∃ u ∈ s.L, z.page = u.page ∧ z.dirty = u.dirty ∧ z.pins = 0 := fun z hz => by
    obtain ⟨u, hu, rfl⟩ := upR_mem.1 hz
    have hup := h.free u hu
    by_cases hui : u.page.id = n
    · rw [if_pos hui] at hup ⊢
      exact ⟨u, hu, rfl, rfl, by show u.pins - 1 = 0; omega⟩
    · rw [if_neg hui] at hup ⊢
      exact ⟨u, hu, rfl, rfl, hup⟩
  have hfy : ({ y with pins := y.pins - 1 } : RI) ∈ upR s.L n (fun y => { y with pins := y.pins - 1 }) := upR_mem.2 ⟨y, hy, by rw [if_pos hyi]⟩
  refine ⟨rfl, ⟨h.fr, h.top, hids', fun z hz => ?_, fun z hz => ?_, fun z hz => ?_, fun z hz => ?_, fun z hz hd => ?_, h.did, h.drow, fun q a b hd => ?_, h.dlsn, h.ff, h.f1⟩, rfl, rfl, _, hfy, hyi⟩
  · obtain ⟨u, hu, hp, _⟩ := hmem z hz
    rw [hp]; exact h.inr u hu
  · obtain ⟨u, hu, hp, _, h0⟩ := hmem z hz
    rw [h0, if_neg (by rw [hp]; have := (h.inr u hu).1; omega)]
  · obtain ⟨u, hu, hp, _⟩ := hmem z hz
    rw [hp]; exact h.rows u hu
  · obtain ⟨u, hu, hp, _⟩ := hmem z hz
    rw [hp]; exact h.low u hu
  · obtain ⟨u, hu, hp, hdd, _⟩ := hmem z hz
    rw [hp]; exact h.cln u hu (by rw [← hdd]; exact hd)
  · refine h.dnow q a b ?_
    cases hdq : isDirty s.L q with
    | false => rfl
    | true =>
      obtain ⟨z, hz, hzi, hzd, _⟩ := isDirty_in hdq
      have hz2 : (if z.page.id = n then ({ z with pins := z.pins - 1 } : RI) else z) ∈ upR s.L n (fun y => { y with pins := y.pins - 1 }) := upR_mem.2 ⟨z, hz, rfl⟩
      have hd' : isDirty (upR s.L n (fun y => { y with pins := y.pins - 1 })) q = false := hd
      by_cases hzn : z.page.id = n
      · rw [if_pos hzn] at hz2
        have := isDirty_of hids' hz2
        have h3 : isDirty (upR s.L n (fun y => { y with pins := y.pins - 1 })) z.page.id = z.dirty := this
        rw [hzi, hd', hzd] at h3
        cases h3
      · rw [if_neg hzn] at hz2
        have := isDirty_of hids' hz2
        rw [hzi, hd', hzd] at this
        cases this

theorem KI.flush {now : Nat → Bs} {s : R15} {n : Nat} (h : KI now 0 s) (hin : ∃ y ∈ s.L, y.page.id = n) : (s.flush [n]).1 = 0 ∧ KI now 0 (s.flush [n]).2 ∧ (s.flush [n]).2.next = s.next ∧ (s.flush [n]).2.frames = s.frames := by
  obtain ⟨y, hy, hyi⟩ := hin
  have hh : hasR s.L n = true := List.any_eq_true.2 ⟨y, hy, by simp [hyi]⟩
  have e : s.flush [n] = s.write [n] := by
    unfold R15.flush
    rw [if_neg (fun e => e (by simp)), if_neg (by have := List.length_filter_le (isDirty s.L) [n]; simp at this ⊢; omega), if_neg (by simp [hh])]
  rw [e]
  obtain ⟨a, b, _, c, d⟩ := h.write [n]
  exact ⟨a, b, d, c⟩
theorem KI.evict {now : Nat → Bs} {s : R15} {n : Nat} (h : KI now 0 s) (hin : ∃ y ∈ s.L, y.page.id = n) : (s.evict n).1 = 0 ∧ KI now 0 (s.evict n).2 ∧ (s.evict n).2.next = s.next ∧ (s.evict n).2.frames = s.frames := by
  obtain ⟨y, hy, hyi⟩ := hin
  have hg := getR_of h.ids hy
  have hyp := h.free y hy
  rw [if_neg (by have := (h.inr y hy).1; omega)] at hyp
  have e : s.evict n = s.drop n := by
    unfold R15.evict
    rw [← hyi, hg]
    simp only
    rw [if_neg (by omega)]
  rw [e]
  obtain ⟨a, b, _, c, d⟩ := h.drop n ⟨y, hy, hyi⟩
  exact ⟨a, b, d, c⟩
end Go.Proofs.YtndglfiepeefdaaGreat.Sp

/-
  DERIVED: the shelf's contracts of slices.IndexFunc and slices.DeleteFunc at []uint64, in plain words (as the text Shelf, with other numbers).
-/
namespace Go.Proofs
open Go.Shelf
def Tryz.laysSlH6_f117_ren : Go.Shelf.Ren := ⟨fun | 6 => 117 | n => n, fun | 22 => 115 | 23 => 29 | 25 => 120 | 3 => 3 | 0 => 0 | 4 => 4 | n => n, fun | n => n⟩
theorem Tryz.laysSlH6_f117 : Go.Proofs.SlLaysH.n6 Tryz.prog Tryz.laysSlH6_f117_ren := {
  mixed := by kernel_rfl
  f6 := ⟨Tryz.f117.name, by decide, Tryz.func117.trans (congrArg some (by kernel_rfl))⟩
  t0 := Tryz.underlying0
  a0 := Tryz.isAgg0
  z0 := Tryz.sizeOf0
  v0 := Tryz.zeroValue0
  t3 := Tryz.underlying3
  a3 := Tryz.isAgg3
  z3 := Tryz.sizeOf3
  v3 := Tryz.zeroValue3
  t4 := Tryz.underlying4
  a4 := Tryz.isAgg4
  z4 := Tryz.sizeOf4
  v4 := Tryz.zeroValue4
  t22 := Tryz.underlying115
  a22 := Tryz.isAgg115
  z22 := Tryz.sizeOf115
  v22 := Tryz.zeroValue115
  a23 := Tryz.isAgg29
  z23 := Tryz.sizeOf29
  t25 := Tryz.underlying120
  a25 := Tryz.isAgg120
  z25 := Tryz.sizeOf120
  v25 := Tryz.zeroValue120 }
open Go.RowKit Go.Lib in
/-- slices.IndexFunc: "IndexFunc returns the first index i satisfying f(s[i]), or -1 if none do." (LAID AT THE INSTANCE 'slices.IndexFunc[[]uint64,uint64]': no walk: one application.) -/
theorem Tryz.slices_IndexFunc_f117 {α : Type} [Inhabited α] (enc : α → Value) (p : α → Bool) (g : Nat) (lb : Array Value) (eg : ∀ args w, (callFunc g args).run Tryz.prog w = .ok (.enter g args) w) (b off n c : Nat) (zs : List α) (w : World) (hp : PredAt Tryz.prog g lb enc p w) (hz : n ≤ zs.length) (hbig : n ≤ 9223372036854775807) (hc : ∀ j, j < zs.length → w.cell? ⟨b, off + j, none⟩ = some (enc zs[j]!)) :
    Calls Tryz.prog 117 #[.slice (some ⟨b, off, none⟩) n c, .func (.func g) #[] lb] w fun e w' => e = .returned (.int .i64 (Lib.idxBy (fun _ y => p y) (zs.take n) default)) ∧ ∃ q, w' = w.drewN q := AnyE.slices_IndexFunc Tryz.laysSlH6_f117 enc p g lb eg b off n c zs w hp hz hbig hc
open Go.RowKit Go.Lib in
/-- The same at a slice of length 0, a nil one too: the predicate is not called: nothing is asked of it. (LAID AT THE INSTANCE 'slices.IndexFunc[[]uint64,uint64]': no walk: one application.) -/
theorem Tryz.slices_IndexFunc_empty_f117 {α : Type} [Inhabited α] (a : Option Addr) (c : Nat) (fv : Value) (w : World) :
    Calls Tryz.prog 117 #[.slice a 0 c, fv] w fun e w' => e = .returned (.int .i64 (-1)) ∧ w' = w := AnyE.slices_IndexFunc_empty Tryz.laysSlH6_f117 a c fv w
def Tryz.laysSlH10_f62_ren : Go.Shelf.Ren := ⟨fun | 10 => 62 | 6 => 117 | n => n, fun | 22 => 115 | 23 => 29 | 25 => 120 | 3 => 3 | 4 => 4 | 0 => 0 | n => n, fun | n => n⟩
theorem Tryz.laysSlH10_f62 : Go.Proofs.SlLaysH.n10 Tryz.prog Tryz.laysSlH10_f62_ren := {
  mixed := by kernel_rfl
  f6 := ⟨Tryz.f117.name, by decide, Tryz.func117.trans (congrArg some (by kernel_rfl))⟩
  f10 := ⟨Tryz.f62.name, by decide, Tryz.func62.trans (congrArg some (by kernel_rfl))⟩
  t0 := Tryz.underlying0
  a0 := Tryz.isAgg0
  z0 := Tryz.sizeOf0
  v0 := Tryz.zeroValue0
  t3 := Tryz.underlying3
  a3 := Tryz.isAgg3
  z3 := Tryz.sizeOf3
  v3 := Tryz.zeroValue3
  t4 := Tryz.underlying4
  a4 := Tryz.isAgg4
  z4 := Tryz.sizeOf4
  v4 := Tryz.zeroValue4
  t22 := Tryz.underlying115
  a22 := Tryz.isAgg115
  z22 := Tryz.sizeOf115
  v22 := Tryz.zeroValue115
  a23 := Tryz.isAgg29
  z23 := Tryz.sizeOf29
  t25 := Tryz.underlying120
  a25 := Tryz.isAgg120
  z25 := Tryz.sizeOf120
  v25 := Tryz.zeroValue120 }
open Go.RowKit Go.Lib Go.Sort in
theorem Tryz.slices_DeleteFunc_f62 {α : Type} [Inhabited α] (enc : α → Value) (hO : OneCell enc) (p : α → Bool) (g : Nat) (lb : Array Value) (eg : ∀ args w, (callFunc g args).run Tryz.prog w = .ok (.enter g args) w) (zr : α) (v23 : ∀ w, (zeroValue 29).run Tryz.prog w = .ok (enc zr) w) (blk off cap : Nat) (d : Array α) (w : World) (hp : PredAt Tryz.prog g lb enc p w) (hpo : PredOver Tryz.prog g lb enc p blk off d.size w) (hH : Holds enc w blk off d) (hsz : d.size ≤ 9223372036854775807) (hcap : d.size ≤ cap) :
    Calls Tryz.prog 62 #[.slice (some ⟨blk, off, none⟩) d.size cap, .func (.func g) #[] lb] w fun e w' => e = .returned (.slice (some ⟨blk, off, none⟩) (d.toList.filter fun x => !p x).length cap) ∧ ∃ q, w' = putRow enc (Sort.ahead w q) blk off ((d.toList.filter fun x => !p x) ++ List.replicate (d.size - (d.toList.filter fun x => !p x).length) zr).toArray := AnyE.slices_DeleteFunc Tryz.laysSlH10_f62 enc hO p g lb eg zr v23 blk off cap d w hp hpo hH hsz hcap
end Go.Proofs

/- slices.DeleteFunc of a row of LSNs, in the words of this proof. -/
namespace Go.Proofs.YtndglfiepeefdaaGreat
open Go.RowKit Go.Shelf Go.Lib Go.Sort

abbrev u64v (i : Nat) : Value := .int .u64 (i : Int)
theorem u64_one : OneCell u64v := fun _ => rfl
theorem Tryz.z64 (w : World) : (zeroValue 29).run Tryz.prog w = .ok (u64v 0) w := by kernel_rfl
theorem nat_blt (x p : Nat) : decide ((x : Int) < (p : Int)) = decide (x < p) := by
  rw [Bool.eq_iff_iff, decide_eq_true_iff, decide_eq_true_iff]; omega
theorem keep1_any (x p B : Nat) (W : World) (hc : W.cell? ⟨B, 0, none⟩ = some (u64v p)) :
    Calls Tryz.prog 63 #[u64v x, ptr B] W fun e w' => e = .returned (.bool (decide (x < p))) ∧ w' = W := by
  have HB := Lib.hid (nat_blt x p)
  go_enter Tryz.func63, Tryz.ntmps63
  go_wp2_with fail
  go_ret
  first | exact ⟨rfl, rfl⟩ | exact ⟨by rw [← HB.out]; rfl, rfl⟩

/-- A function value that asks 'is it p?', p in the variable of block B. -/
def AsksLow (f : Nat) (p B : Nat) : Prop := (∀ x W, W.cell? ⟨B, 0, none⟩ = some (u64v p) → Calls Tryz.prog f #[u64v x, ptr B] W fun e w' => e = .returned (.bool (decide (x < p))) ∧ w' = W) ∧
  ∀ args w, (callFunc f args).run Tryz.prog w = .ok (.enter f args) w
theorem asks_keep (p B : Nat) : AsksLow 63 p B := ⟨fun x W h => keep1_any x p B W h, enters_of Tryz.func63 (by kernel_rfl) rfl⟩

set_option maxRecDepth 100000 in
set_option maxHeartbeats 1000000 in
theorem delete_empty64 (a : Option Addr) (c : Nat) (fv : Value) (w : World) :
    Calls Tryz.prog 62 #[.slice a 0 c, fv] w fun e w' => e = .returned (.slice a 0 c) ∧ w' = w := by
  have HI := Lib.hid (Tryz.slices_IndexFunc_empty_f117 (α := Nat) a c fv w)
  go_enter Tryz.func62, Tryz.ntmps62
  go_wp2_with fail
  refine HI.out.mono ?_
  rintro e w1 ⟨rfl, hw⟩
  subst w1
  go_wp2_with fail
  go_ret
  exact ⟨rfl, rfl⟩

theorem putRow_heap64 (w : World) (q b : Nat) (D : Array Nat) (cur : Array Value) (e : TypeId) (h : w.heap[b]? = some (.cells cur e (0, 0))) :
    (putRow u64v (Sort.ahead w q) b 0 D).heap[b]? = some (.cells (Go.Sort.putCells u64v 0 D cur) e (0, 0)) := by
  simp [putRow, mapBlock, Sort.ahead, Array.getElem?_modify, h, onCells]
theorem putRow_grown64 (w : World) (q b : Nat) (D : Array Nat) : w.grownBy (putRow u64v (Sort.ahead w q) b 0 D) (some b) :=
  ⟨rfl, rfl, rfl, by simp [putRow, mapBlock, Sort.ahead], fun k _ hk => by
    have : ¬ b = k := fun e => hk (by rw [e])
    simp [putRow, mapBlock, Sort.ahead, Array.getElem?_modify, this]⟩

/-- A row of numbers from which one is struck. -/
theorem delete_row64 {w : World} {base f p B : Nat} {v : Value} {ids : List Nat} (hf : AsksLow f p B) (h : w.ownsRow base 29 1 v ids.length (ids.map u64v)) (hB : Blk w B 29 #[u64v p]) (hne : v.ownBlock ≠ some B) :
    Calls Tryz.prog 62 #[v, .func (.func f) #[] #[ptr B]] w fun e w' => ∃ v', e = .returned v' ∧
      w'.ownsRow base 29 1 v' (ids.filter (fun x => !(decide (x < p)))).length ((ids.filter (fun x => !(decide (x < p)))).map u64v) ∧ w.grownBy w' v.ownBlock ∧ (∀ k, v'.ownBlock = some k → v.ownBlock = some k) := by
  rcases h.2 with ⟨rfl, h0⟩ | ⟨b, cap, cur, rfl, hbb, hh, h1, h2, h3, h4⟩
  · have hids : ids = [] := List.eq_nil_of_length_eq_zero h0
    subst hids
    refine (delete_empty64 none 0 _ w).mono ?_
    rintro e w1 ⟨rfl, rfl⟩
    exact ⟨_, rfl, World.ownsRow_nil _ _ _ _, ⟨rfl, rfl, rfl, Nat.le_refl _, fun _ _ _ => rfl⟩, fun k hk => hk⟩
  · have hnb : b ≠ B := fun e => hne (by rw [e]; rfl)
    have hlen : ids.toArray.size = ids.length := by simp
    have hcm : cap ≤ 9223372036854775807 := by unfold maxLen at h2; omega
    have hH : Holds u64v w b 0 ids.toArray := by
      intro j hj
      have hj' : j < ids.length := by simpa using hj
      rw [Nat.zero_add]
      refine ⟨(h.cellAt j (by omega)).trans ?_, h.frozenAt j⟩
      simp [hj']
    have hp : PredAt Tryz.prog f #[ptr B] u64v (fun x => decide (x < p)) w := fun W x hb => by
      refine (hf.1 x W ((hb.cell (p := ⟨B, 0, none⟩) hB.lt).trans (hB.cell 0))).mono ?_
      rintro e w' ⟨rfl, rfl⟩
      exact ⟨rfl, 0, rfl⟩
    have hpo : PredOver Tryz.prog f #[ptr B] u64v (fun x => decide (x < p)) b 0 ids.toArray.size w := fun n os dk x hdk => by
      refine (hf.1 x _ ?_).mono ?_
      · have e1 := putRow_grown64 w n b dk
        have e2 : (sortWorld u64v w b 0 n dk os).heap[B]? = w.heap[B]? := by
          have hsz : B < (putRow u64v (Sort.ahead w n) b 0 dk).heap.size := Nat.lt_of_lt_of_le hB.lt e1.size
          exact (Sort.heap_grow_old (putRow u64v (Sort.ahead w n) b 0 dk) os hsz).trans (e1.block B hB.lt (fun e => hnb (by injection e with e; exact e.symm)))
        exact (hB.keep e2).cell 0
      · rintro e w' ⟨rfl, rfl⟩
        exact ⟨rfl, 0, rfl⟩
    have hcall := Tryz.slices_DeleteFunc_f62 u64v u64_one (fun x => decide (x < p)) f #[ptr B] hf.2 0 Tryz.z64 b 0 cap ids.toArray w hp hpo hH (by rw [hlen]; omega) (by rw [hlen]; exact h1)
    rw [hlen] at hcall
    refine hcall.mono ?_
    rintro e w' ⟨rfl, q, rfl⟩
    have hlf : (ids.filter (fun x => !(decide (x < p)))).length ≤ ids.length := List.length_filter_le _ _
    have hcsz : cur.size = cap := by rw [h3, Nat.mul_one]
    refine ⟨_, rfl, ⟨by simp, .inr ⟨b, cap, _, rfl, hbb, putRow_heap64 w q b _ cur _ hh, Nat.le_trans hlf h1, h2, ?_, ?_⟩⟩, putRow_grown64 w q b _, fun k hk => hk⟩
    · simp [Go.Sort.putCells, h3]
    · apply List.ext_getElem?
      intro k
      rw [Nat.mul_one, List.getElem?_take]
      split
      · rename_i hk
        have hkc : k < cur.size := by omega
        simp only [Go.Sort.putCells, Array.getElem?_toList, Array.getElem?_mapIdx]
        rw [Array.getElem?_eq_getElem hkc]
        have hk2 : k < ((ids.filter (fun x => !(decide (x < p)))) ++ List.replicate (ids.length - (ids.filter (fun x => !(decide (x < p)))).length) 0).length := by
          rw [List.length_append, List.length_replicate]; omega
        simp only [Option.map_some, Nat.zero_le, Nat.zero_add, true_and, Nat.sub_zero, List.size_toArray]
        rw [if_pos hk2, List.getElem?_map, List.getElem?_eq_getElem hk]
        simp only [Option.map_some]
        congr 2
        rw [getElem!_pos _ k (by simpa using hk2)]
        simp [List.getElem_append_left hk]
      · rename_i hk
        rw [List.getElem?_eq_none (by simpa using hk)]
end Go.Proofs.YtndglfiepeefdaaGreat

/- The walks of package log: begins, Keep (at the log's end, or wherever all that begins ahead of it is asked of). -/
namespace Go.Proofs.YtndglfiepeefdaaGreat
open Go.RowKit Go.Sort

theorem cmp_isNaN_u64 (x : Nat) (w : World) : Calls Tryz.prog 173 #[u64v x] w fun e w' => e = .returned (.bool false) ∧ w' = w := by
  go_enter Tryz.func173, Tryz.ntmps173
  go_wp2_with fail
  go_ret
  exact ⟨by simp, rfl⟩
theorem cmp_Less_u64 (x y : Nat) (w : World) : Calls Tryz.prog 154 #[u64v x, u64v y] w fun e w' => e = .returned (.bool (decide (x < y))) ∧ w' = w := by
  go_enter Tryz.func154, Tryz.ntmps154
  go_wp2_with (go_at_call 173; refine (cmp_isNaN_u64 _ _).mono ?_; rintro e w' ⟨rfl, rfl⟩)
  go_ret
  exact ⟨by simp, rfl⟩

theorem shr_one (n : Nat) (h : n < 9223372036854775807) : IntKind.i64.wrap (((IntKind.u64.wrap (n : Int)) / 2)) = ((n / 2 : Nat) : Int) := by
  rw [IntKind.wrap_u64]
  have : ((n : Int) % 18446744073709551616) = n := by omega
  rw [this]
  exact (IntWalk.i64_in _ (by omega)).trans (by omega)

set_option maxRecDepth 100000 in
set_option maxHeartbeats 2000000 in
/-- BinarySearch for a number that is higher than all. -/
theorem search_high {G : Foot} {w : World} {A : Option Addr} {c : Nat} {q : List Nat} {n : Nat} (hR : Reads G w 1 A q.length (lsns q)) (hq : ∀ x ∈ q, x < n) (hl : q.length < 1000000000) :
    Calls Tryz.prog 116 #[.slice A q.length c, u64v n] w fun e w' => e = .returned (.tuple #[.int .i64 q.length, .bool false]) ∧ Below w.heap.size w w' := by
  have HR := Lib.hid hR
  have HL := Lib.hid fun (x : Nat) (W : World) => cmp_Less_u64 x n W
  clear hR
  go_enter Tryz.func116, Tryz.ntmps116
  go_wp2_with fail
  go_loopw [7, 8] (fun v7 v8 wr => ∃ i : Nat, i ≤ q.length ∧ v7 = .int .i64 i ∧ v8 = .int .i64 q.length ∧ Below w.heap.size w wr) (fun v7 _ _ => q.length - (intOf v7).toNat)
  case atStart => exact ⟨0, by omega, rfl, rfl, Below.refl _ _⟩
  case round =>
    obtain ⟨i, hi, rfl, rfl, hbr⟩ := hrel
    by_cases hlt : i < q.length
    · have hk1 : i ≤ (i + q.length) / 2 ∧ (i + q.length) / 2 < q.length := by omega
      obtain ⟨b, o, u, rfl, _, _, hu, hcell⟩ := (Reads.below HR.out hbr).at_ hk1.2
      have hqk : q[(i + q.length) / 2]? = some q[(i + q.length) / 2]! := by rw [getElem!_pos q _ hk1.2]; exact List.getElem?_eq_getElem hk1.2
      unfold lsns at hu
      rw [List.getElem?_map, hqk] at hu
      injection hu with hu
      subst hu
      have hlow := hq q[(i + q.length) / 2]! (by rw [getElem!_pos q _ hk1.2]; exact List.getElem_mem hk1.2)
      generalize q[(i + q.length) / 2]! = x at *
      have hd : decide (x < n) = true := by rw [decide_eq_true_iff]; exact hlow
      clear hqk
      go_wp2_with fail
      refine (HL.out x wr).mono ?_
      rintro e w1 ⟨rfl, hw1⟩
      subst w1
      go_wp2_with fail
      go_roundw
      case rel => exact ⟨(i + q.length) / 2 + 1, by omega, by go_num, rfl, hbr⟩
      case measure => simp [intOf]; omega
    · obtain rfl : i = q.length := by omega
      have HB := Lib.hid hbr
      clear hbr
      go_wp2_with fail
      go_ret2
      exact ⟨rfl, HB.out⟩

theorem add_lit_off (b o j : Nat) : (⟨b, o, none⟩ : Addr).add j = ⟨b, o + j, none⟩ := by unfold Addr.add; split <;> simp_all
section
variable {F : Foot} {w : World} {gl gd : Nat} {l : Sp.Lg}
theorem own_readsN {w : World} {base e n : Nat} {v : Value} {xs : List Value} (h : w.ownsRow base e 1 v n xs) : ∃ A c, v = .slice A n c ∧ Reads (fun _ => True) w 1 A n xs := by
  rcases h.2 with ⟨rfl, rfl⟩ | ⟨g, cap, cur, rfl, _, hh, _⟩
  · have : xs = [] := List.eq_nil_of_length_eq_zero (by simpa using h.1)
    subst this
    exact ⟨none, 0, rfl, Reads.none_⟩
  · exact ⟨some ⟨g, 0, none⟩, cap, rfl, (own_reads h).mono (fun _ _ => trivial)⟩
set_option maxRecDepth 100000 in
set_option maxHeartbeats 2000000 in
theorem log_begins_end (h : IsLg F w gl gd l) :
    Calls Tryz.prog 61 #[ptr gl, .int .u64 l.next] w fun e w' => e = .returned (.bool true) ∧ Below w.heap.size w w' := by
  obtain ⟨h1, bv, sv, h3, h4, h5, h6⟩ := h
  obtain ⟨c0, c1, c2, c3, c4, c5, c6, c7, c8, c9⟩ := h3.lg
  have hfew := h1.few
  have hroom := h1.room
  have hn4 := h1.n4k
  obtain ⟨A, c, rfl, hR⟩ := own_readsN h5
  have HS := Lib.hid (search_high (c := c) (n := l.next) hR (fun x hx => (h1.starts x hx).2) (by omega))
  have hgl := h3.lt
  have H3 := Lib.hid h3
  clear c0 c1 c2 c3 c4 c6 c7 c8 c9 h4 h5 h6 hR h3
  go_enter Tryz.func61, Tryz.ntmps61
  go_wp2_with fail
  refine HS.out.mono ?_
  rintro e w1 ⟨rfl, hb⟩
  have c7 := (H3.out.below hb hgl).lg.2.2.2.2.2.2.2.1
  have HB := Lib.hid hb
  clear hb
  go_wp2_with fail
  go_ret
  exact ⟨by simp, HB.out⟩

def KeepPost (F : Foot) (w : World) (gl gd : Nat) (l : Sp.Lg) (e : Ending) (w' : World) : Prop :=
  ∃ F', e = .returned (.int .i64 0) ∧ IsLg F' w' gl gd (l.keep l.next) ∧ Turns F F' w w'

set_option maxRecDepth 100000 in
set_option maxHeartbeats 4000000 in
/-- Keep, of nothing but the end. -/
theorem log_keep_end (h : IsLg F w gl gd l) (hn : l.next < 4611686018427387904) (hf : l.forced = l.next) (hpos : 0 < l.bytes.length) :
    Calls Tryz.prog 15 #[ptr gl, .int .u64 l.next] w (KeepPost F w gl gd l) := by
  have HI := Lib.hid h
  have hin := h.in_
  have HBE := Lib.hid fun (W : World) (h : IsLg F W gl gd l) => log_begins_end h
  obtain ⟨h1, bv, sv, h3, h4, h5, h6⟩ := h
  obtain ⟨ib, hib, hzb0, hzb1, hzb2⟩ := info_parts byte_info
  have hff := h1.ff
  have hlt1 : l.first ≤ l.next := Nat.le_trans h1.ff h1.fn
  have hlen := h1.len
  have hroom := h1.room
  have hn4 := h1.n4k
  have hbm := Sp.bg_mono (show l.first ≤ l.next by omega)
  have hbn := Sp.bg_le l.next
  obtain ⟨a, ha⟩ : ∃ a, a = Sp.bg l.next - Sp.bg l.first := ⟨_, rfl⟩
  have hal : a ≤ l.bytes.length := by omega
  obtain ⟨gb, cb, rfl⟩ := own_form' h4 (by omega)
  have hcap : l.bytes.length ≤ cb := by
    rcases h4.2 with ⟨_, h0⟩ | ⟨g, c, cur, h0, _, _, e1, e2, _⟩
    · omega
    · injection h0 with a1 a2 a3
      subst a3
      exact e1
  have hFgl : F gl := (h6 gl).2 (.inl rfl)
  have hgll : gl < w.heap.size := h3.lt
  have hgbl : gb < w.heap.size := hin gb ((h6 gb).2 (.inr (.inl rfl)))
  have hcells := h4.cells (g := gb) rfl
  have HBG := Lib.hid fun (n : Nat) (hn : n < 18446744073709551616) (W : World) => log_begin n hn W
  have hd0 : IntKind.u64.wrap (((Sp.bg l.next : Nat) : Int) - (Sp.bg l.first : Nat)) = (a : Nat) := by rw [IntKind.wrap_u64]; omega
  have hba := (Below.refl w.heap.size w).alloc (Nat.le_refl _) (.cells #[u64v l.next] 29)
  have hB3 := Blk.new w 29 #[u64v l.next]
  have hkeep : Hid (l.keep l.next = { l with bytes := l.bytes.drop a, starts := l.starts.filter (fun x => decide (l.next ≤ x)), first := l.next }) := by
    show _ = _
    rw [ha]
    rfl
  have hwf2 := Lib.hid (Sp.Lg.keep_wf h1 (k := l.next) (by omega) (by omega))
  have d1 : decide (l.next < l.first) = false := by rw [decide_eq_false_iff_not]; omega
  have d2 : decide (l.forced < l.next) = false := by rw [decide_eq_false_iff_not]; omega
  have HLEN := Lib.hid hlen
  clear ha hlen
  have H3 := Lib.hid h3
  have H5 := Lib.hid h5
  have H6 := Lib.hid h6
  have hf2 := Lib.hid hf
  obtain ⟨c0, c1, c2, c3, c4, c5, c6, c7, c8, c9⟩ := (h3.below hba hgll).lg
  have HM := Lib.hid (log_made (w := w.alloc (.cells #[u64v l.next] 29)) c0)
  clear c0 c1 c2 c3 c4 c5 c7 c9 h3 h4 h5 h6 hf
  go_enter Tryz.func15, Tryz.ntmps15
  go_wp2_with fail
  obtain ⟨w1, hw1⟩ : ∃ w1, w1 = w.alloc (.cells #[u64v l.next] 29) := ⟨_, rfl⟩
  rw [← hw1] at hba hB3 c6 c8 HM ⊢
  have hg3l : w.heap.size ≤ w.heap.size := Nat.le_refl _
  obtain ⟨g3, hg3⟩ : ∃ g, g = w.heap.size := ⟨_, rfl⟩
  rw [← hg3] at hB3 ⊢
  have hg3l : w.heap.size ≤ g3 := by omega
  clear hw1 hg3
  have z3 := hB3.cell 0
  simp only [List.getElem?_toArray, List.getElem?_cons_zero] at z3
  refine HM.out.mono ?_
  rintro e w2 ⟨rfl, hw⟩
  subst w2
  go_wp2_with fail
  go_quiet (fail)
  go_wp2_with fail
  go_quiet (fail)
  go_wp2_with fail
  have hdd : ∀ x : Nat, Below w1.heap.size w1 (w1.drewN x) := fun x => ((Turns.refl noFoot w1).drewN x).below_none
  refine (HBE.out _ (HI.out.below (hba.trans ((hdd _).mono hba.size)))).mono ?_
  rintro e w2 ⟨rfl, hb2⟩
  have hb12 : Below w1.heap.size w1 w2 := (hdd _).trans (hb2.mono (hdd _).size)
  clear hb2 hdd z3 c6 c8 HBE HM
  have hbw2 := hba.trans (hb12.mono hba.size)
  have h3' := H3.out.below hbw2 hgll
  have hB32 := hB3.below hb12 hB3.lt
  have z3 := hB32.cell 0
  simp only [List.getElem?_toArray, List.getElem?_cons_zero] at z3
  have c4 := h3'.lg.2.2.2.2.1
  have c6 := h3'.lg.2.2.2.2.2.2.1
  have hS := Lib.hid (show w2.drew.cell? ⟨gl, 4, none⟩ = some (.slice (some ⟨gb, 0, none⟩) l.bytes.length cb) ∧ w2.drew.cell? ⟨gl, 6, none⟩ = some (.int .u64 l.first) ∧ w2.drew.cell? ⟨g3, 0, none⟩ = some (u64v l.next) from ⟨c4, c6, z3⟩)
  clear c4 c6 z3
  go_wp2_with fail
  refine R_begin (fun W => W.cell? ⟨gl, 4, none⟩ = some (.slice (some ⟨gb, 0, none⟩) l.bytes.length cb) ∧ W.cell? ⟨gl, 6, none⟩ = some (.int .u64 l.first) ∧ W.cell? ⟨g3, 0, none⟩ = some (u64v l.next)) (fun j => decide (15 ≤ j)) rfl ?_
  refine R_tt 0 26 hS.out ?_
  refine R_tt 1 27 hS.out ?_
  refine R_tt 2 28 hS.out ?_
  refine R_tt 3 29 hS.out ?_
  refine R_tt 4 30 hS.out ?_
  refine R_tt 5 31 hS.out ?_
  refine R_tt 7 33 hS.out ?_
  refine R_tt 8 34 hS.out ?_
  refine R_tt 9 35 hS.out ?_
  refine R_tt 10 36 hS.out ?_
  simp only [List.setIfInBounds_toArray, List.set_cons_zero, List.set_cons_succ]
  refine R_call 6 32 (w' := w2.drew) rfl rfl (by rfl) (by kernel_rfl) ?_ (HBG.out l.next (by omega) _) ?_
  · go_simp
  rintro e w3 ⟨rfl, hw⟩
  subst w3
  refine ⟨_, rfl, fun _ => hS.out, ?_⟩
  simp only [List.setIfInBounds_toArray, List.set_cons_zero, List.set_cons_succ]
  refine R_call 11 37 (w' := w2.drew) rfl rfl (by rfl) (by kernel_rfl) ?_ (HBG.out l.first (by omega) _) ?_
  · go_simp
  rintro e w3 ⟨rfl, hw⟩
  subst w3
  refine ⟨_, rfl, fun _ => hS.out, ?_⟩
  simp only [List.setIfInBounds_toArray, List.set_cons_zero, List.set_cons_succ]
  refine R_tt 12 38 hS.out ?_
  simp only [List.setIfInBounds_toArray, List.set_cons_zero, List.set_cons_succ]
  have i1 : (a : Int) ≤ (l.bytes.length : Nat) := by omega
  have i2 : (0 : Int) ≤ (a : Nat) := by omega
  have i3 : (l.bytes.length : Int) ≤ (cb : Nat) := by omega
  obtain ⟨A0, hA0, hA0c⟩ : ∃ A0 : Addr, (if cb = a then some (⟨gb, 0, none⟩ : Addr) else some ⟨gb, a, none⟩) = some A0 ∧ ∀ j u, (bcs (l.bytes.drop a))[j]? = some u → w2.cell? (A0.add j) = some u := by
    by_cases hca : cb = a
    · rw [if_pos hca]
      refine ⟨_, rfl, fun j u hu => ?_⟩
      have : l.bytes.drop a = [] := List.drop_eq_nil_of_le (by omega)
      rw [this] at hu
      simp [bcs] at hu
    · rw [if_neg hca]
      refine ⟨_, rfl, fun j u hu => ?_⟩
      rw [add_lit_off]
      have e2 := add_lit gb (a + j)
      refine (World.cell?_of_block (w := w) (a := ⟨gb, a + j, none⟩) (hbw2.block gb hgbl)).trans ?_
      rw [← e2]
      refine hcells (a + j) u ?_
      rw [bcs_get] at hu ⊢
      rwa [List.getElem?_drop] at hu
  refine R_tt 13 39 (v := .slice (some A0) (l.bytes.length - a) (cb - a)) hS.out ?_ (hy := ?_)
  rotate_left
  · intro W hSw
    (try dsimp only at hSw)
    go_simp
  simp only [List.setIfInBounds_toArray, List.set_cons_zero, List.set_cons_succ]
  obtain ⟨v7, w3, hr7, hO7, hg7, hk7⟩ := run_append_own2 (P := Tryz.prog) w2.drew w2.heap.size 114 114 5 ib (.int .u8 0) 1 1 Tryz.underlying114 hib hzb0 hzb1 hzb2 rfl (by decide) (.slice none 0 0) 0 [] (World.ownsRow_nil _ _ _ _) A0 (l.bytes.length - a) (cb - a) (bcs (l.bytes.drop a)) (by simp) hA0c (fun u hu => by
    simp only [bcs, List.mem_map] at hu
    obtain ⟨b, _, rfl⟩ := hu
    rfl) (by unfold maxLen; omega) (by omega) (Nat.le_refl _)
  have hbd3 : Below w2.heap.size w2 w3 := ⟨hg7.os, hg7.tape, hg7.output, hg7.size, fun b hb => hg7.block b hb (fun e => nomatch e)⟩
  have hS3 := Lib.hid (show w3.cell? ⟨gl, 4, none⟩ = some (.slice (some ⟨gb, 0, none⟩) l.bytes.length cb) ∧ w3.cell? ⟨gl, 6, none⟩ = some (.int .u64 l.first) ∧ w3.cell? ⟨g3, 0, none⟩ = some (u64v l.next) from
    ⟨(hbd3.cell (p := ⟨gl, 4, none⟩) (by have := hbw2.size; show gl < _; omega)).trans hS.out.1, (hbd3.cell (p := ⟨gl, 6, none⟩) (by have := hbw2.size; show gl < _; omega)).trans hS.out.2.1, (hbd3.cell (p := ⟨g3, 0, none⟩) hB32.lt).trans hS.out.2.2⟩)
  refine R_run 14 40 (v := v7) (w' := w3) rfl rfl (by rfl) (by kernel_rfl) (run_op_append _ _ _ rfl rfl rfl hr7) (fun _ => hS3.out) ?_
  simp only [List.setIfInBounds_toArray, List.set_cons_zero, List.set_cons_succ]
  have hbw3 := hbw2.trans (hbd3.mono hbw2.size)
  have hB33 := hB32.below hbd3 hB32.lt
  have hG3 := H3.out.below hbw3 hgll
  have hO7' : w3.ownsRow 0 5 1 v7 (l.bytes.length - a) (bcs (l.bytes.drop a)) := by
    refine ⟨by simp, ?_⟩
    rcases hO7.2 with ⟨h1, h2⟩ | ⟨g', cap, cur, e, hb, hh, e1, e2, e3, e4⟩
    · exact .inl ⟨h1, by omega⟩
    · exact .inr ⟨g', cap, cur, by rw [e, Nat.zero_add], Nat.zero_le _, hh, by omega, e2, e3, by simpa using e4⟩
  have hk7' : ∀ k, v7.ownBlock = some k → w2.heap.size ≤ k := fun k hk => by
    rcases hk7 k hk with h | h
    · cases h
    · exact h
  have f4 := hG3.frozen 4
  have b4 := hS3.out.1
  refine R_run 15 41 (v := ptr gl) rfl rfl (by rfl) (by kernel_rfl) (by go_simp; rfl) (fun h => nomatch h) ?_
  simp only [List.setIfInBounds_toArray, List.set_cons_zero, List.set_cons_succ]
  refine R_run 16 42 (v := .pointer (some ⟨gl, 4, none⟩)) rfl rfl (by rfl) (by kernel_rfl) (by go_simp; rfl) (fun h => nomatch h) ?_
  simp only [List.setIfInBounds_toArray, List.set_cons_zero, List.set_cons_succ]
  have hv7 : v7.oneCell' = true := by
    rcases hO7'.2 with ⟨h0, _⟩ | ⟨g', cap, cur, h0, _⟩
    · rw [h0]; rfl
    · rw [h0]; rfl
  obtain ⟨Av, nv, cv, rfl⟩ : ∃ A n c, v7 = .slice A n c := by
    rcases hO7'.2 with ⟨h0, _⟩ | ⟨g', cap, cur, h0, _⟩
    · exact ⟨_, _, _, h0⟩
    · exact ⟨_, _, _, h0⟩
  refine R_store 17 (n := .skip) (w' := w3.setCell ⟨gl, 4, none⟩ (.slice Av nv cv)) rfl rfl (by rfl) (by kernel_rfl) (by go_simp) (.inl rfl) (fun h => nomatch h) ?_
  refine R_done (by kernel_rfl) ?_ _
  rename_i K9 hK9
  refine hK9 _ _ ?_
  clear hK9 hS hS3
  have hB4 := hG3.set_ 4 (.slice Av nv cv)
  have hg37 : gl ≠ g3 := by omega
  have hB34 := hB33.far (p := ⟨gl, 4, none⟩) (Ne.symm hg37) (.slice Av nv cv)
  have hnv : (Value.slice Av nv cv).ownBlock ≠ some gl := own_ne hO7' hG3 (by decide)
  have hO74 := own_keep hO7' (w' := w3.setCell ⟨gl, 4, none⟩ (.slice Av nv cv)) (fun b hb => Below.heap_setCell _ _ _ b (fun e => hnv (by rw [hb]; exact congrArg some e)))
  have hsn : sv.ownBlock ≠ some gl := own_ne H5.out H3.out (by decide)
  have hs3 : ∀ b, sv.ownBlock = some b → (w3.setCell ⟨gl, 4, none⟩ (.slice Av nv cv)).heap[b]? = w.heap[b]? := fun b hb => (Below.heap_setCell _ _ _ b (fun e => hsn (by rw [hb]; exact congrArg some e))).trans (hbw3.block b (H5.out.lt b hb).2)
  have hS4 := own_keep H5.out hs3
  have ht4 := (Turns.of_below hbw3 F).setCell (p := ⟨gl, 4, none⟩) (.inl hFgl) (.slice Av nv cv)
  have hsz4 : w3.heap.size ≤ (w3.setCell ⟨gl, 4, none⟩ (.slice Av nv cv)).heap.size := by simp [World.setCell]
  obtain ⟨w4, hw4⟩ : ∃ w4, w4 = w3.setCell ⟨gl, 4, none⟩ (.slice Av nv cv) := ⟨_, rfl⟩
  rw [← hw4] at hB4 hB34 hO74 hS4 ht4 hsz4 ⊢
  have hbl4 : ∀ b, (Value.slice Av nv cv).ownBlock = some b → b < w4.heap.size := fun b hb => (hO74.lt b hb).2
  have hsl4 : ∀ b, sv.ownBlock = some b → b < w.heap.size := fun b hb => (H5.out.lt b hb).2
  have hs3n : sv.ownBlock ≠ some g3 := fun e => by have := hsl4 g3 e; omega
  have HDR := Lib.hid (delete_row64 (w := w4) (base := 0) (ids := l.starts) (asks_keep l.next g3) hS4 hB34 hs3n)
  have c5 := hB4.cell 5
  clear hw4 hB33 hG3 hO7 hg7 hk7 hO7' f4 b4 hr7 hB32 h3'
  go_wp2_with fail
  refine HDR.out.mono ?_
  rintro e w5 ⟨v', rfl, r1, r2, r3⟩
  obtain ⟨As, ns, cs, rfl⟩ : ∃ A n c, v' = .slice A n c := by
    rcases r1.2 with ⟨h0, _⟩ | ⟨g', cap, cur, h0, _⟩
    · exact ⟨_, _, _, h0⟩
    · exact ⟨_, _, _, h0⟩
  have hB5 := hB4.grown r2 (fun e => hsn e.symm)
  have hB35 := hB34.grown r2 (fun e => hs3n e.symm)
  have hO75 := own_keep hO74 (w' := w5) (fun b hb => r2.block b (hbl4 b hb) (fun e => by
    have h1 := hsl4 b e.symm
    have h2 := hk7' b hb
    have := hbw2.size
    omega))
  have ht5 := ht4.grown r2 (fun k hk => .inl ((H6.out k).2 (.inr (.inr hk))))
  have f5 := hB5.frozen 5
  have c5' := hB5.cell 5
  have hv5 : (Value.slice As ns cs).ownBlock ≠ some gl := fun e => hsn (r3 _ e)
  have hnv5 : (Value.slice Av nv cv).ownBlock ≠ some gl := hnv
  have hB6 := hB5.set_ 5 (.slice As ns cs)
  have hB36 := hB35.far (p := ⟨gl, 5, none⟩) (Ne.symm hg37) (.slice As ns cs)
  have hO76 := own_keep hO75 (w' := w5.setCell ⟨gl, 5, none⟩ (.slice As ns cs)) (fun b hb => Below.heap_setCell _ _ _ b (fun e => hnv5 (by rw [hb]; exact congrArg some e)))
  have hr6 := own_keep r1 (w' := w5.setCell ⟨gl, 5, none⟩ (.slice As ns cs)) (fun b hb => Below.heap_setCell _ _ _ b (fun e => hv5 (by rw [hb]; exact congrArg some e)))
  have ht6 := ht5.setCell (p := ⟨gl, 5, none⟩) (.inl hFgl) (.slice As ns cs)
  have f6 := hB6.frozen 6
  have c6' := hB6.cell 6
  have z6 := hB36.cell 0
  simp only [List.getElem?_toArray, List.getElem?_cons_zero] at z6
  have HB7 := Lib.hid (hB6.set_ 6 (.int .u64 (l.next : Int)))
  have HO77 := Lib.hid (own_keep hO76 (w' := (w5.setCell ⟨gl, 5, none⟩ (.slice As ns cs)).setCell ⟨gl, 6, none⟩ (.int .u64 (l.next : Int))) (fun b hb => Below.heap_setCell _ _ _ b (fun e => hnv5 (by rw [hb]; exact congrArg some e))))
  have HR7 := Lib.hid (own_keep hr6 (w' := (w5.setCell ⟨gl, 5, none⟩ (.slice As ns cs)).setCell ⟨gl, 6, none⟩ (.int .u64 (l.next : Int))) (fun b hb => Below.heap_setCell _ _ _ b (fun e => hv5 (by rw [hb]; exact congrArg some e))))
  have HT7 := Lib.hid (ht6.setCell (p := ⟨gl, 6, none⟩) (.inl hFgl) (.int .u64 (l.next : Int)))
  clear hB5 hB35 hO75 ht5 hO76 hr6 ht6 r1 r2 HDR hB4 hB34 hO74 hS4 ht4
  go_wp2_with fail
  go_ret
  refine ⟨fun b => b = gl ∨ (Value.slice Av nv cv).ownBlock = some b ∨ (Value.slice As ns cs).ownBlock = some b, rfl, ?_, ?_⟩
  · have hwf3 := hwf2.out
    rw [hkeep.out] at hwf3 ⊢
    have hfe : l.starts.filter (fun x => !(decide (x < l.next))) = l.starts.filter (fun x => decide (l.next ≤ x)) := by
      congr 1
      funext x
      rw [Bool.eq_iff_iff]
      simp
    refine ⟨hwf3, _, _, HB7.out, ?_, ?_, fun b => Iff.rfl⟩
    · have := HO77.out
      rwa [show (l.bytes.drop a).length = l.bytes.length - a by simp]
    · have := HR7.out
      rw [hfe] at this
      exact this
  · have h := HT7.out
    refine ⟨h.os, h.tape, h.output, h.size, h.block, fun b hb => ?_⟩
    rcases hb with rfl | hb | hb
    · exact .inl hFgl
    · exact .inr (Nat.le_trans hbw2.size (hk7' b hb))
    · exact .inl ((H6.out b).2 (.inr (.inr (r3 b hb))))
end
end Go.Proofs.YtndglfiepeefdaaGreat

/- The log's calls, as a law sees them beside a pool. -/
namespace Go.Proofs.YtndglfiepeefdaaGreat
open Go.RowKit Go.Conc

section
variable {F : Foot} {w : World} {gl gd : Nat} {l : Sp.Lg}
set_option maxRecDepth 100000 in
set_option maxHeartbeats 2000000 in
theorem log_append_bad (h : IsLg F w gl gd l) (s : Sp.Bs) (hs : s.length = 0 ∨ 4096 < s.length) (hs9 : s.length < 1000000000) :
    Calls Tryz.prog 12 #[ptr gl, str s] w fun e w' => e = .returned (.tuple #[.int .u64 0, .int .i64 2]) ∧ Below w.heap.size w w' := by
  obtain ⟨h1, bv, sv, h3, h4, h5, h6⟩ := h
  obtain ⟨c0, c1, c2, c3, c4, c5, c6, c7, c8, c9⟩ := h3.lg
  have HM := Lib.hid (log_made (w := w) c0)
  have HE := Lib.hid fun (W : World) => frame_encode_bad l.next s W hs hs9
  clear c0 c1 c2 c3 c4 c5 c6 c8 c9 h3 h4 h5 h6
  go_enter Tryz.func12, Tryz.ntmps12
  go_wp2_with fail
  refine HM.out.mono ?_
  rintro e w1 ⟨rfl, hw⟩
  subst w1
  go_wp2_with fail
  refine (HE.out _).mono ?_
  rintro e w1 ⟨rfl, hw⟩
  subst w1
  go_wp2_with fail
  go_ret2
  exact ⟨rfl, Below.refl _ _⟩
set_option maxRecDepth 100000 in
set_option maxHeartbeats 2000000 in
theorem log_append_full (h : IsLg F w gl gd l) (hn : l.next < 4611686018427387904) (hr : l.reserved < 1000000000) (s : Sp.Bs) (hs1 : 1 ≤ s.length) (hs2 : s.length ≤ 4096) (hfit : l.left < 14 + s.length) :
    Calls Tryz.prog 12 #[ptr gl, str s] w fun e w' => e = .returned (.tuple #[.int .u64 0, .int .i64 4]) ∧ Below w.heap.size w w' := by
  have HR := Lib.hid fun (W : World) (h : IsLg F W gl gd l) => log_room h hn hr
  have HI := Lib.hid h
  obtain ⟨h1, bv, sv, h3, h4, h5, h6⟩ := h
  obtain ⟨c0, c1, c2, c3, c4, c5, c6, c7, c8, c9⟩ := h3.lg
  have HM := Lib.hid (log_made (w := w) c0)
  have hlo := h1.lo
  have hff := h1.ff
  have hfn := h1.fn
  have HE := Lib.hid fun (W : World) => frame_encode l.next s W hs1 hs2 (by omega) (by omega)
  have hfl := Sp.frame_length l.next s
  generalize Sp.frame l.next s = f at *
  have df : decide (l.left < f.length) = true := by rw [decide_eq_true_iff]; omega
  have HFL := Lib.hid hfl
  clear hfl
  clear c1 c2 c3 c4 c5 c6 c8 c9 c0 h3 h4 h5 h6
  go_enter Tryz.func12, Tryz.ntmps12
  go_wp2_with fail
  refine HM.out.mono ?_
  rintro e w1 ⟨rfl, hw⟩
  subst w1
  go_wp2_with fail
  refine (HE.out _).mono ?_
  rintro e w1 ⟨rfl, hb1⟩
  go_wp2_with fail
  refine (HR.out _ (HI.out.below hb1)).mono ?_
  rintro e w2 ⟨rfl, hb2'⟩
  have HB := Lib.hid (hb1.trans (hb2'.mono hb1.size))
  clear hb1 hb2'
  go_wp2_with fail
  go_ret2
  exact ⟨rfl, HB.out⟩
end

/-- The log alone has turned. -/
theorem pk_log {ly : Ly} {K : Foot} {w w' : World} {gd gl gp : Nat} {l' : Sp.Lg} {s' : Sp.R15} {p : Sp.Pl} {D F G G' : Foot} {dk : Sp.Dk} (hpl : IsPl F w gp gd gl ly.at_ ly.base p) (hd : IsDk D w gd dk) (hFD : ∀ b, F b → ¬ D b) (hFG : ∀ b, F b → ¬ G b) (hDG : ∀ b, D b → ¬ G b) (hK : ∀ b, allF F D G b → ¬ K b) (hKl : ∀ b, K b → b < w.heap.size)
    (hg' : IsLg G' w' gl gd l') (ht : Turns G G' w w') (hr' : Rep ly p dk l' s') : Kept K w w' ∧ PkAt ly K w' gd gl gp l' s' := by
  have ht' : Turns (allF F D G) (allF F D G') w w' := ht.wider (fun b hb => .inr (.inr hb)) (fun b hb => hb.elim (fun h => .inl (.inl h)) (fun h => h.elim (fun h => .inl (.inr (.inl h))) .inr))
  refine ⟨Kept.of_turns ht' (fun b hk => ⟨hKl b hk, fun hF => hK b hF hk⟩), ?_⟩
  refine pk_make (hpl.keep ht.size (fun b hb => ht.block b (hpl.lt b hb) (hFG b hb))) (hd.keep (fun b hb => ht.block b (hd.in_ b hb) (hDG b hb))) hg' hFD (fun b h1 h2 => ?_) (fun b h1 h2 => ?_) hr' hK hKl ht' (fun b hb => .inl hb)
  · rcases ht.foot b h2 with e | e
    · exact hFG b h1 e
    · have := hpl.lt b h1; omega
  · rcases ht.foot b h2 with e | e
    · exact hDG b h1 e
    · have := hd.in_ b h1; omega

/-- What Append answers, and leaves. -/
def AppPk (ly : Ly) (K : Foot) (w : World) (gd gl gp : Nat) (l : Sp.Lg) (s : Sp.R15) (t : Sp.Bs) (e : Ending) (w' : World) : Prop :=
  Kept K w w' ∧
  ((1 ≤ t.length ∧ t.length ≤ 4096 ∧ 14 + t.length ≤ l.left ∧ e = .returned (.tuple #[.int .u64 l.next, .int .i64 0]) ∧ PkAt ly K w' gd gl gp (l.append t) { s with next := l.next + (14 + t.length) }) ∨
   (1 ≤ t.length ∧ t.length ≤ 4096 ∧ l.left < 14 + t.length ∧ e = .returned (.tuple #[.int .u64 0, .int .i64 4]) ∧ PkAt ly K w' gd gl gp l s) ∨
   ((t.length = 0 ∨ 4096 < t.length) ∧ e = .returned (.tuple #[.int .u64 0, .int .i64 2]) ∧ PkAt ly K w' gd gl gp l s))

theorem pk_append {ly : Ly} {K : Foot} {w : World} {gd gl gp : Nat} {l : Sp.Lg} {s : Sp.R15} (h : PkAt ly K w gd gl gp l s) (hn : l.next < 1000000000000) (hr : l.reserved < 1000000000) (t : Sp.Bs) (ht : t.length < 1000000000) :
    Calls Tryz.prog 12 #[ptr gl, str t] w (AppPk ly K w gd gl gp l s t) := by
  have H := h
  obtain ⟨p, D, F, G, dk, hpl, hd, hg, hFD, hFG, hDG, hrep, hK, hKl⟩ := h
  by_cases h1 : 1 ≤ t.length ∧ t.length ≤ 4096
  · by_cases h2 : 14 + t.length ≤ l.left
    · refine (log_append hg (by omega) hr t h1.1 h1.2 h2).mono ?_
      rintro e w' ⟨G', rfl, hg', ht'⟩
      have hwf := Sp.Lg.append_wf hrep.lwf h2
      have hr' : Rep ly p dk (l.append t) { s with next := l.next + (14 + t.length) } :=
        ⟨hrep.wf, hwf, hrep.frames, hrep.L, hrep.top, hrep.forced, rfl, hrep.ok, hrep.dkt, ⟨hrep.dl.loose, hrep.dl.fuse, hrep.dl.fit, hrep.dl.area, hrep.dl.homes, by show l.next + (14 + t.length) < _; omega⟩, hrep.lo, hrep.area, hrep.tight, hrep.zero, hrep.in_⟩
      obtain ⟨k1, k2⟩ := pk_log hpl hd hFD hFG hDG hK hKl hg' ht' hr'
      exact ⟨k1, .inl ⟨h1.1, h1.2, h2, rfl, k2⟩⟩
    · refine (log_append_full hg (by omega) hr t h1.1 h1.2 (by omega)).mono ?_
      rintro e w' ⟨rfl, hb⟩
      exact ⟨Kept.of_below hb hKl, .inr (.inl ⟨h1.1, h1.2, by omega, rfl, H.below hb⟩)⟩
  · refine (log_append_bad hg t (by omega) ht).mono ?_
    rintro e w' ⟨rfl, hb⟩
    exact ⟨Kept.of_below hb hKl, .inr (.inr ⟨by omega, rfl, H.below hb⟩)⟩

theorem pk_next {ly : Ly} {K : Foot} {w : World} {gd gl gp : Nat} {l : Sp.Lg} {s : Sp.R15} (h : PkAt ly K w gd gl gp l s) :
    Calls Tryz.prog 13 #[ptr gl] w fun e w' => e = .returned (.int .u64 l.next) ∧ w' = w := by
  obtain ⟨p, D, F, G, dk, hpl, hd, hg, hFD, hFG, hDG, hrep, hK, hKl⟩ := h
  exact log_next hg
theorem pk_forced {ly : Ly} {K : Foot} {w : World} {gd gl gp : Nat} {l : Sp.Lg} {s : Sp.R15} (h : PkAt ly K w gd gl gp l s) :
    Calls Tryz.prog 47 #[ptr gl] w fun e w' => e = .returned (.int .u64 s.forced) ∧ w' = w := by
  obtain ⟨p, D, F, G, dk, hpl, hd, hg, hFD, hFG, hDG, hrep, hK, hKl⟩ := h
  rw [hrep.forced]
  exact log_forced hg

theorem Sp.Lg.eta_forced (l : Sp.Lg) {n : Nat} (h : l.forced = n) : l = { l with forced := n } := by subst h; rfl
/-- Force up to the end. -/
theorem pk_force {ly : Ly} {K : Foot} {w : World} {gd gl gp : Nat} {l : Sp.Lg} {s : Sp.R15} (h : PkAt ly K w gd gl gp l s) :
    Calls Tryz.prog 14 #[ptr gl, .int .u64 l.next] w fun e w' => Kept K w w' ∧ e = .returned (.int .i64 0) ∧ PkAt ly K w' gd gl gp { l with forced := l.next } { s with forced := l.next } := by
  obtain ⟨p, D, F, G, dk, hpl, hd, hg, hFD, hFG, hDG, hrep, hK, hKl⟩ := h
  refine (log_force hg hd hDG hrep.dl (Nat.le_refl _)).mono ?_
  rintro e w' ⟨D', rfl, hd', hg', hDn, ht⟩
  have hl' : l.forceTo l.next = { l with forced := l.next } := by
    unfold Sp.Lg.forceTo
    have := hrep.lwf.fn
    split
    · rename_i h1
      have : l.forced = l.next := by rcases h1 with h1 | h1 <;> omega
      exact Sp.Lg.eta_forced l this
    · rfl
  rw [hl'] at hg'
  obtain ⟨f1, f2, f3, f4⟩ := Sp.Dk.forceTo_spec hrep.dl.loose hrep.dl.fuse hrep.lwf l.next
  have htt : Turns (allF F D G) (allF F D' G) w w' := by
    refine ⟨ht.os, ht.tape, ht.output, ht.size, fun b hb hn => ht.block b hb (fun e => hn (e.elim (fun h => .inr (.inr h)) (fun h => .inr (.inl h)))), fun b hb => ?_⟩
    rcases hb with hb | hb | hb
    · exact .inl (.inl hb)
    · exact (hDn b hb).imp (fun h => .inr (.inl h)) id
    · exact .inl (.inr (.inr hb))
  have hwf := Sp.Lg.forceTo_wf hrep.lwf l.next
  rw [hl'] at hwf
  have hr' : Rep ly p (dk.forceTo l l.next) { l with forced := l.next } { s with forced := l.next } := by
    refine ⟨hrep.wf, hwf, hrep.frames, hrep.L, hrep.top, rfl, hrep.next, hrep.ok, ⟨by rw [f3]; exact hrep.dkt.len, f1, f2, fun q h1 h2 => ?_⟩, ⟨f1, f2, by rw [f3]; exact hrep.dl.fit, by rw [f3]; exact hrep.dl.area, by rw [f3]; exact hrep.dl.homes, hrep.dl.next⟩, hrep.lo, hrep.area, hrep.tight, ?_, hrep.in_⟩
    · rw [f4 _ (.inr (by have := hrep.lo; have := hrep.area; omega))]
      exact hrep.dkt.page q h1 h2
    · rw [f4 _ (.inr (by have := hrep.lo; have := hrep.area; omega))]
      exact hrep.zero
  refine ⟨Kept.of_turns htt (fun b hk => ⟨hKl b hk, fun hF => hK b hF hk⟩), rfl, ?_⟩
  refine pk_make (hpl.keep ht.size (fun b hb => ht.block b (hpl.lt b hb) (fun e => e.elim (hFG b hb) (hFD b hb)))) hd' hg' (fun b h1 h2 => ?_) hFG (fun b h1 h2 => ?_) hr' hK hKl htt (fun b hb => .inl hb)
  · rcases hDn b h2 with e | e
    · exact hFD b h1 e
    · have := hpl.lt b h1; omega
  · rcases hDn b h1 with e | e
    · exact hDG b e h2
    · have := hg.in_ b h2; omega

/-- Keep, of nothing but the end. -/
theorem pk_keep {ly : Ly} {K : Foot} {w : World} {gd gl gp : Nat} {l : Sp.Lg} {s : Sp.R15} (h : PkAt ly K w gd gl gp l s) (hf : l.forced = l.next) (hpos : 0 < l.bytes.length) :
    Calls Tryz.prog 15 #[ptr gl, .int .u64 l.next] w fun e w' => Kept K w w' ∧ e = .returned (.int .i64 0) ∧ PkAt ly K w' gd gl gp (l.keep l.next) s := by
  obtain ⟨p, D, F, G, dk, hpl, hd, hg, hFD, hFG, hDG, hrep, hK, hKl⟩ := h
  refine (log_keep_end hg hrep.dl.next hf hpos).mono ?_
  rintro e w' ⟨G', rfl, hg', ht⟩
  have hlt : l.first ≤ l.next := Nat.le_trans hrep.lwf.ff hrep.lwf.fn
  have hr' : Rep ly p dk (l.keep l.next) s :=
    ⟨hrep.wf, Sp.Lg.keep_wf hrep.lwf hlt (by omega), hrep.frames, hrep.L, hrep.top, hrep.forced, hrep.next, hrep.ok, hrep.dkt, ⟨hrep.dl.loose, hrep.dl.fuse, hrep.dl.fit, hrep.dl.area, hrep.dl.homes, hrep.dl.next⟩, hrep.lo, hrep.area, hrep.tight, hrep.zero, hrep.in_⟩
  obtain ⟨k1, k2⟩ := pk_log hpl hd hFD hFG hDG hK hKl hg' ht hr'
  exact ⟨k1, rfl, k2⟩
end Go.Proofs.YtndglfiepeefdaaGreat

/- The walks of the law package pentimentolaw15: first. -/
namespace Go.Proofs.YtndglfiepeefdaaGreat
open Go.RowKit Go.Conc

/-- The page as the law lays it first. -/
def Sp.first (n : Nat) : Sp.Pg := ⟨1, 0, n, 0, 0, [[102, 105, 114, 115, 116]]⟩
theorem Sp.first_ok {n : Nat} (h1 : 1 ≤ n) (h2 : n ≤ 1024) : (Sp.first n).wf ∧ (Sp.first n).may := by
  refine ⟨⟨?_, ?_, ?_, ?_, ?_⟩, ?_, ?_, ?_, ?_, ?_⟩ <;> simp [Sp.first, Sp.total] <;> omega

set_option maxRecDepth 100000 in
set_option maxHeartbeats 1000000 in
theorem law_first (n : Nat) (w : World) : Calls Tryz.prog 28 #[u32v n] w fun e w' =>
    ∃ A c, e = .returned (pgV (Sp.first n) A c) ∧ OkAddr A ∧ RowsAt (fun b => w.heap.size ≤ b) w' A (Sp.first n).rows ∧ Below w.heap.size w w' := by
  go_enter Tryz.func28, Tryz.ntmps28
  go_wp2_with fail
  have hB := (Blk.new w 32 #[.int .u8 1, .int .u8 0, .int .u32 n, .int .u64 0, .int .u32 0, .slice (some ⟨w.heap.size + 1, 0, none⟩) 1 1]).alloc (.cells #[str [102, 105, 114, 115, 116]] 9)
  have hb := ((Below.refl w.heap.size w).alloc (Nat.le_refl _) (.cells #[.int .u8 1, .int .u8 0, .int .u32 n, .int .u64 0, .int .u32 0, .slice (some ⟨w.heap.size + 1, 0, none⟩) 1 1] 32)).alloc (by simp) (.cells #[str [102, 105, 114, 115, 116]] 9)
  have hs := Blk.new (w.alloc (.cells #[.int .u8 1, .int .u8 0, .int .u32 n, .int .u64 0, .int .u32 0, .slice (some ⟨w.heap.size + 1, 0, none⟩) 1 1] 32)) 9 #[str [102, 105, 114, 115, 116]]
  have e1 : (w.alloc (.cells #[.int .u8 1, .int .u8 0, .int .u32 n, .int .u64 0, .int .u32 0, .slice (some ⟨w.heap.size + 1, 0, none⟩) 1 1] 32)).heap.size = w.heap.size + 1 := by simp
  rw [e1] at hs
  refine bodyPost_ret (v := pgV (Sp.first n) (some ⟨w.heap.size + 1, 0, none⟩) 1) (by rw [results_cell_row rfl _ _ w.heap.size 32 _ (0, 0) _ rfl hB Tryz.underlying32 rfl rfl]; rfl) rfl ⟨_, _, rfl, .inr ⟨_, _, rfl⟩, ⟨rfl, fun _ => ⟨w.heap.size + 1, 0, rfl, by omega, hs.lt, fun j u hu => ?_⟩⟩, hb⟩
  rw [Nat.zero_add]
  exact (hs.cell j).trans (by rw [List.getElem?_toArray]; exact hu)
end Go.Proofs.YtndglfiepeefdaaGreat

/- Rows that are owned, from one world to the next; a page's zero. No law's function is named here. -/
namespace Go.Proofs.YtndglfiepeefdaaGreat
open Go.RowKit

def pgZero : Value := .agg #[.int .u8 0, .int .u8 0, .int .u32 0, .int .u64 0, .int .u32 0, .slice none 0 0]
theorem page_info : (Tryz.prog.info? 32).map (fun i => (i.zero, i.size, i.bytes)) = some (some pgZero, 6, 48) := by kernel_rfl
theorem blk_news {w : World} {g : Nat} {t : TypeId} {cs : List Value} (h : Blk w g t cs.toArray) : ∀ j u, cs[j]? = some u → w.cell? ((⟨g, 0, none⟩ : Addr).add j) = some u := fun j u hu => by
  have e : (⟨g, 0, none⟩ : Addr).add j = ⟨g, j, none⟩ := by cases j <;> simp [Addr.add]
  rw [e, h.cell, List.getElem?_toArray]; exact hu

theorem row_keep' {w w' : World} {base : Nat} {e : TypeId} {sz : Nat} {v : Value} {n : Nat} {xs : List Value} (h : w.ownsRow base e sz v n xs) (hk : ∀ b, v.ownBlock = some b → w'.heap[b]? = w.heap[b]?) : w'.ownsRow base e sz v n xs := by
  refine ⟨h.1, ?_⟩
  rcases h.2 with h' | ⟨b, cap, cur, rfl, hb, hh, rest⟩
  · exact .inl h'
  · exact .inr ⟨b, cap, cur, rfl, hb, (hk b rfl).trans hh, rest⟩

theorem row_mono {w : World} {base base' : Nat} {e : TypeId} {sz : Nat} {v : Value} {n : Nat} {xs : List Value} (h : w.ownsRow base e sz v n xs) (hb : base' ≤ base) : w.ownsRow base' e sz v n xs := by
  refine ⟨h.1, ?_⟩
  rcases h.2 with h' | ⟨b, cap, cur, rfl, hbb, rest⟩
  · exact .inl h'
  · exact .inr ⟨b, cap, cur, rfl, Nat.le_trans hb hbb, rest⟩

theorem row_base {w : World} {base : Nat} {e : TypeId} {sz : Nat} {v : Value} {n : Nat} {xs : List Value} (h : w.ownsRow base e sz v n xs) {b : Nat} (hb : v.ownBlock = some b) : base ≤ b := by
  rcases h.2 with ⟨rfl, _⟩ | ⟨g, cap, cur, rfl, hbb, rest⟩
  · simp [Value.ownBlock] at hb
  · simp only [Value.ownBlock, Option.some.injEq] at hb
    omega

end Go.Proofs.YtndglfiepeefdaaGreat

/- The walks of the law package pentimentolaw15: Begun. -/
namespace Go.Proofs.YtndglfiepeefdaaGreat
open Go.RowKit Go.Conc

/-- A disk on which the pages below k stand as they are laid first. -/
structure LawDk (dk : Sp.Dk) (k : Nat) : Prop where
  len : dk.sure.length = 72
  loose : dk.loose = []
  fuse : dk.fuse = -1
  page : ∀ q, 1 ≤ q → q < k → Sp.pageAt dk.sure (44 + q * 4) = pgBytes (Sp.first q)
  zero : Sp.pageAt dk.sure (44 + 0 * 4) = Sp.zeros 512

theorem pageAt_new : Sp.pageAt (Sp.newDk 72).sure (44 + 0 * 4) = Sp.zeros 512 := by
  show ((List.drop 44 (List.replicate 72 (Sp.zeros 128))).take 4).flatten = _
  rw [List.drop_replicate, List.take_replicate]
  simp [Sp.zeros]

/-- What holds while the pages are laid. -/
def LayAt (w : World) (n gd gr : Nat) (k : Nat) (wr : World) : Prop :=
  ∃ (v : Value) (xs : List Value) (D : Foot) (dk : Sp.Dk), Blk wr gr 80 #[.int .i64 n, .slice none 0 0, v, .int .u64 110, .int .u64 110] ∧ wr.ownsRow w.heap.size 32 6 v k xs ∧
    IsDk D wr gd dk ∧ LawDk dk k ∧ (∀ b, D b → w.heap.size ≤ b ∧ b ≠ gr ∧ v.ownBlock ≠ some b) ∧ v.ownBlock ≠ some gr ∧ w.heap.size ≤ gr ∧ Below w.heap.size w wr

/-- A pool that has begun, its log and its disk. -/
def BegunPost (w : World) (n : Nat) (e : Ending) (w' : World) : Prop :=
  ∃ (gP gr gd gl gp : Nat) (v : Value) (xs : List Value) (D F : Foot) (dk : Sp.Dk), e = .returned (ptr gP) ∧ Blk w' gP 44 #[ptr gd, ptr gl, ptr gp, ptr gr] ∧
    Blk w' gr 80 #[.int .i64 n, .slice none 0 0, v, .int .u64 110, .int .u64 110] ∧ w'.ownsRow w.heap.size 32 6 v 7 xs ∧
    Blk w' gl 117 (lgCells gd 0 8 1 (.slice none 0 0) (.slice none 0 0) 110 110 110 0) ∧
    IsDk D w' gd dk ∧ LawDk dk 7 ∧ IsPl F w' gp gd gl 8 44 ⟨n, [], List.range n⟩ ∧ (∀ b, D b → ¬ F b) ∧ (∀ b, D b ∨ F b → w.heap.size ≤ b ∧ b ≠ gP ∧ b ≠ gr ∧ b ≠ gl) ∧ Below w.heap.size w w'

/-- The same; the log's block and the play's are new. -/
def BegunNew (w : World) (n : Nat) (e : Ending) (w' : World) : Prop :=
  ∃ (gP gr gd gl gp : Nat) (v : Value) (xs : List Value) (D F : Foot) (dk : Sp.Dk), e = .returned (ptr gP) ∧ Blk w' gP 44 #[ptr gd, ptr gl, ptr gp, ptr gr] ∧
    Blk w' gr 80 #[.int .i64 n, .slice none 0 0, v, .int .u64 110, .int .u64 110] ∧ w'.ownsRow w.heap.size 32 6 v 7 xs ∧
    Blk w' gl 117 (lgCells gd 0 8 1 (.slice none 0 0) (.slice none 0 0) 110 110 110 0) ∧
    IsDk D w' gd dk ∧ LawDk dk 7 ∧ IsPl F w' gp gd gl 8 44 ⟨n, [], List.range n⟩ ∧ (∀ b, D b → ¬ F b) ∧ (∀ b, D b ∨ F b → w.heap.size ≤ b ∧ b ≠ gP ∧ b ≠ gr ∧ b ≠ gl) ∧ Below w.heap.size w w' ∧ w.heap.size ≤ gl ∧ gl < gP
theorem BegunNew.post {w w' : World} {n : Nat} {e : Ending} (h : BegunNew w n e w') : BegunPost w n e w' := by
  obtain ⟨gP, gr, gd, gl, gp, v, xs, D, F, dk, h0, h1, h2, h3, h4, h5, h6, h7, h8, h9, h10, _⟩ := h
  exact ⟨gP, gr, gd, gl, gp, v, xs, D, F, dk, h0, h1, h2, h3, h4, h5, h6, h7, h8, h9, h10⟩

set_option maxRecDepth 100000 in
set_option maxHeartbeats 4000000 in
theorem law_begun_new (n : Nat) (h1 : 1 ≤ n) (h64 : n ≤ 64) (w : World) : Calls Tryz.prog 8 #[.int .i64 n] w (BegunNew w n) := by
  have HDN := Lib.hid fun (W : World) => disk_new 72 W (by omega) (by omega)
  go_enter Tryz.func8, Tryz.ntmps8
  go_wp2_with fail
  refine (HDN.out w).mono ?_
  rintro e w1 ⟨gd, D, rfl, hd, ht⟩
  have hD : ∀ b, D b → w.heap.size ≤ b := fun b hb => (ht.foot b hb).resolve_left (fun h => h)
  have hbw := ht.below_none
  have HD := Lib.hid hd
  have HDF := Lib.hid hD
  clear hd hD ht HDN
  obtain ⟨ip, hip, hp0, hp1, hp2⟩ := info_parts page_info
  go_wp2_with (at_builtin; refine wpList_append_own2 _ rfl _ _ 78 rfl w1.heap.size 32 ip pgZero 6 48 Tryz.underlying78 hip hp0 hp1 hp2 rfl (by decide) _ 0 [] rfl (World.ownsRow_nil _ _ _ _) ⟨w1.heap.size + 1, 0, none⟩ 1 1 [.int .u8 0, .int .u8 0, .int .u32 1048576, .int .u64 0, .int .u32 0, .slice none 0 0] rfl rfl (by have := blk_news (Blk.new (w1.alloc (.cells #[.int .i64 n, .slice none 0 0, .slice none 0 0, .int .u64 110, .int .u64 110] 80)) 32 #[.int .u8 0, .int .u8 0, .int .u32 1048576, .int .u64 0, .int .u32 0, .slice none 0 0]); simpa only [World.size_alloc] using this) (fun x hx => by simp at hx; rcases hx with rfl | rfl | rfl | rfl | rfl | rfl <;> rfl) (by unfold maxLen; omega) (by omega) (by simp; omega) ?_)
  intro v' w2 hrow hg hown
  have hB := ((Blk.new w1 80 #[.int .i64 n, .slice none 0 0, .slice none 0 0, .int .u64 110, .int .u64 110]).alloc (.cells #[.int .u8 0, .int .u8 0, .int .u32 1048576, .int .u64 0, .int .u32 0, .slice none 0 0] 32)).grown hg (fun e => by simp [Value.ownBlock] at e)
  have hb2 := (((Below.refl w1.heap.size w1).alloc (Nat.le_refl _) (.cells #[.int .i64 n, .slice none 0 0, .slice none 0 0, .int .u64 110, .int .u64 110] 80)).alloc (by simp) (.cells #[.int .u8 0, .int .u8 0, .int .u32 1048576, .int .u64 0, .int .u32 0, .slice none 0 0] 32)).grown hg (by simp; omega) (fun r e => by simp [Value.ownBlock] at e)
  have hgl := hB.lt
  obtain ⟨A0, n0, c0, rfl⟩ : ∃ A m c, v' = .slice A m c := by
    rcases hrow.2 with ⟨h0, _⟩ | ⟨g6, c6, _, h0, _⟩
    · exact ⟨_, _, _, h0⟩
    · exact ⟨_, _, _, h0⟩
  have hown2 : (Value.slice A0 n0 c0).ownBlock ≠ some w1.heap.size := fun e => by
    rcases hown _ e with h | h
    · simp [Value.ownBlock] at h
    · omega
  have hownl : ∀ b, (Value.slice A0 n0 c0).ownBlock = some b → w1.heap.size ≤ b := fun b e => by
    rcases hown _ e with h | h
    · simp [Value.ownBlock] at h
    · omega
  have hBs := hB.set_ 2 (.slice A0 n0 c0)
  have hsw : w.heap.size ≤ w1.heap.size := hbw.size
  have hbw2 : Below w.heap.size w (w2.setCell ⟨w1.heap.size, 2, none⟩ (.slice A0 n0 c0)) := (hbw.trans (hb2.mono hsw)).setCell (p := ⟨w1.heap.size, 2, none⟩) hsw _
  have hdl := HD.out.in_
  have hd2 := HD.out.below (hb2.setCell (p := ⟨w1.heap.size, 2, none⟩) (Nat.le_refl _) (.slice A0 n0 c0))
  have hLAY : LayAt w n gd w1.heap.size 1 (w2.setCell ⟨w1.heap.size, 2, none⟩ (.slice A0 n0 c0)) := by
    refine ⟨.slice A0 n0 c0, _, D, _, hBs, (row_mono hrow hsw).kept (grown_set _ ⟨w1.heap.size, 2, none⟩ _) (.inr (fun e => hown2 e)), hd2, ⟨by simp [Sp.newDk], rfl, rfl, fun q h1 h2 => by omega, pageAt_new⟩, fun b hb => ⟨HDF.out b hb, ?_, fun e => ?_⟩, hown2, hsw, hbw2⟩
    · have := hdl b hb; omega
    · have := hdl b hb; have := hownl b e; omega
  have c2 := hB.cell 2
  have f2 := hB.frozen 2
  simp only [List.getElem?_toArray, List.getElem?_cons_succ, List.getElem?_cons_zero] at c2
  have HL := Lib.hid hLAY
  clear hLAY hd2 hdl hbw2 hBs hownl hown2 hrow hg hown hB hb2
  go_wp2_with fail
  obtain ⟨w3, hw3⟩ : ∃ w3, w3 = w2.setCell ⟨w1.heap.size, 2, none⟩ (.slice A0 n0 c0) := ⟨_, rfl⟩
  rw [← hw3] at HL ⊢
  clear hw3 c2 f2 hgl HD HDF hbw
  generalize w1.heap.size = gr at *
  go_loopw [6] (fun i wr => ∃ k : Nat, 1 ≤ k ∧ k ≤ 7 ∧ i = .int .u32 k ∧ LayAt w n gd gr k wr) (fun i _ => 7 - (intOf i).toNat)
  case atStart => exact ⟨1, by omega, by omega, rfl, HL.out⟩
  case round =>
    obtain ⟨k, hk1, hk7, rfl, hL⟩ := hrel
    have HLk := Lib.hid hL
    clear hL HL
    by_cases hlt : k < 7
    · have HF := Lib.hid fun W => law_first k W
      have d7 : decide ((k : Int) < 7) = true := by rw [decide_eq_true_eq]; omega
      go_wp2_with fail
      refine (HF.out wr).mono ?_
      rintro e w4 ⟨A, c, rfl, hA, hR, hb4⟩
      have hfo := Sp.first_ok (n := k) (by omega) (by omega)
      have hb5 := (Below.refl w4.heap.size w4).alloc (Nat.le_refl _) (.cells (pgCs (Sp.first k) A c) 32)
      have hR5 := Reads.below hR hb5
      have HE := Lib.hid (page_encode (c := c) hR5 hfo.1 hfo.2)
      have hX := Blk.new w4 32 (pgCs (Sp.first k) A c)
      have hb45 : Below wr.heap.size wr _ := hb4.trans (hb5.mono hb4.size)
      have hg7 : wr.heap.size ≤ w4.heap.size := hb4.size
      go_wp2_with fail
      change Calls Tryz.prog _ #[pgV (Sp.first k) A c] (w4.alloc (.cells (pgCs (Sp.first k) A c) 32)) _
      have hg4 : w4.heap.size < (w4.alloc (.cells (pgCs (Sp.first k) A c) 32)).heap.size := by simp
      obtain ⟨w5, hw5⟩ : ∃ w5, w5 = w4.alloc (.cells (pgCs (Sp.first k) A c) 32) := ⟨_, rfl⟩
      rw [← hw5] at HE hX hb45 hR5 hg4 ⊢
      clear hw5 hb5 hR hb4 HF
      generalize w4.heap.size = g7 at *
      refine HE.out.mono ?_
      rintro e w6 ⟨rfl, hb6⟩
      have hX6 := hX.below hb6 hg4
      have hb46 : Below wr.heap.size wr w6 := hb45.trans (hb6.mono hb45.size)
      have HX := Lib.hid hX6
      clear hX HE hb45 hX6 hb6 hg4
      obtain ⟨v, xs, DD, dk, hB, hrow, hd, hlk, hDs, hvg, hgr, hbr⟩ := HLk.out
      have hlen := pgBytes_length hfo.2
      have hb7 := hb46.alloc hb46.size (.cells #[.int .u32 k, str (pgBytes (Sp.first k))] 86)
      have hd7 := hd.below hb7
      have hHm := Blk.new w6 86 #[.int .u32 k, str (pgBytes (Sp.first k))]
      have hRd : Reads (fun b => b = w6.heap.size) (w6.alloc (.cells #[.int .u32 k, str (pgBytes (Sp.first k))] 86)) 2 (some ⟨w6.heap.size, 0, none⟩) 1 (hcs [(k, pgBytes (Sp.first k))]) :=
        ⟨rfl, fun _ => ⟨w6.heap.size, 0, rfl, rfl, hHm.lt, fun j u hu => by
          rw [Nat.zero_add]
          exact (hHm.cell j).trans (by rw [List.getElem?_toArray]; exact hu)⟩⟩
      have hins : Sp.inside dk.sure.length 8 44 k := by rw [hlk.len]; unfold Sp.inside; omega
      have HTW := Lib.hid (twin_write hd7 hlk.fuse (by rw [hlk.loose]; simp) 8 44 (l := [(k, pgBytes (Sp.first k))]) (c := 1) hRd (by simp) (by simp) (fun x hx => by
        rw [List.mem_singleton.1 hx]
        exact ⟨by show k < _; omega, hlen, hins⟩) (by simp) (by rw [hlk.len]; omega) (by rw [hlk.len]; omega))
      have hone := Sp.twin_one dk hlk.loose hlk.fuse 8 44 k _ hlen hins
      clear hRd hHm HLk hd7
      go_wp2_with fail
      refine HTW.out.mono ?_
      rintro e w7 ⟨D7, rfl, hd7, ht7⟩
      have hrl : ∀ b, v.ownBlock = some b → b < wr.heap.size := fun b hb => by
        obtain ⟨cur, hc⟩ := ownsRow_heap hrow hb
        exact (Array.getElem?_eq_some_iff.1 hc).1
      have hDl := hd.in_
      have hgrl := hB.lt
      have hgX := HX.out.lt
      have hB7 := (hB.below hb7 hgrl).turns ht7 (fun hh => (hDs gr hh).2.1 rfl)
      have hX7 := (HX.out.alloc (.cells #[.int .u32 k, str (pgBytes (Sp.first k))] 86)).turns ht7 (fun hh => by have := hDl g7 hh; omega)
      have hs67 := ht7.size
      have hszb := hb7.size
      have hrow7 := row_keep' (w' := w7) hrow (fun b hb => (ht7.block b (by have := hrl b hb; omega) (fun hh => (hDs b hh).2.2 hb)).trans (hb7.block b (hrl b hb)))
      have hD7 : ∀ b, D7 b → w.heap.size ≤ b ∧ b ≠ gr ∧ v.ownBlock ≠ some b := fun b hb => by
        have hz := hbr.size
        rcases ht7.foot b hb with h | h
        · exact hDs b h
        · refine ⟨by omega, by omega, fun e => ?_⟩
          have := hrl b e; omega
      have hbw7 : Below w.heap.size w w7 := (hbr.trans (hb7.mono hbr.size)).trans (ht7.below (Nat.le_trans hbr.size hszb) (fun b hb => (hDs b hb).1))
      have hlk7 : LawDk (dk.acts (Sp.twinActs 8 44 [(k, pgBytes (Sp.first k))])) (k + 1) := by
        refine ⟨hone.2.2.1.trans hlk.len, hone.1, hone.2.1, fun q hq1 hq2 => ?_, (hone.2.2.2.2 0 (by omega) (by omega) (by rw [hlk.len]; omega)).trans hlk.zero⟩
        by_cases e : q = k
        · rw [e]; exact hone.2.2.2.1
        · rw [hone.2.2.2.2 q e (by omega) (by rw [hlk.len]; omega)]
          exact hlk.page q hq1 (by omega)
      have hmeas : k + 1 ≤ 7 := hlt
      have hown7 : ∀ b, v.ownBlock = some b → b < w7.heap.size := fun b hb => by have := hrl b hb; omega
      have hd7l := hd7.in_
      obtain ⟨dk7, hdk7⟩ : ∃ d, d = dk.acts (Sp.twinActs 8 44 [(k, pgBytes (Sp.first k))]) := ⟨_, rfl⟩
      rw [← hdk7] at hd7 hlk7
      clear hdk7 hone hDs hlk hins ht7 hb7 hd hrow hB hDl hbr HTW HX
      go_wp2_with fail
      have c2 := hB7.cell 2
      simp only [List.getElem?_toArray, List.getElem?_cons_succ, List.getElem?_cons_zero] at c2
      have hS := Lib.hid (⟨c2, hX7⟩ : w7.drew.cell? ⟨gr, 2, none⟩ = some v ∧ Blk w7.drew g7 32 (pgCs (Sp.first k) A c))
      clear c2
      refine R_begin (fun W => W.cell? ⟨gr, 2, none⟩ = some v ∧ Blk W g7 32 (pgCs (Sp.first k) A c)) (fun j => decide (8 ≤ j)) rfl ?_
      refine R_take 0 59 (v := ?_) rfl rfl (by rfl) (by kernel_rfl) (fun _ _ _ h => h) hS.out ?_ ?_
      rotate_left
      · intro w hSw; (try dsimp only at hSw); go_simp; (try with_reducible rfl)
      simp only [List.setIfInBounds_toArray, List.set_cons_zero, List.set_cons_succ]
      refine R_take 1 60 (v := ?_) rfl rfl (by rfl) (by kernel_rfl) (fun _ _ _ h => h) hS.out ?_ ?_
      rotate_left
      · intro w hSw; (try dsimp only at hSw); go_simp; (try with_reducible rfl)
      simp only [List.setIfInBounds_toArray, List.set_cons_zero, List.set_cons_succ]
      refine R_take 2 61 (v := ?_) rfl rfl (by rfl) (by kernel_rfl) (fun _ _ _ h => h) hS.out ?_ ?_
      rotate_left
      · intro w hSw; (try dsimp only at hSw); go_simp; (try with_reducible rfl)
      simp only [List.setIfInBounds_toArray, List.set_cons_zero, List.set_cons_succ]
      refine R_take 3 62 (v := ?_) rfl rfl (by rfl) (by kernel_rfl) (fun _ _ _ h => h) hS.out ?_ ?_
      rotate_left
      · intro w hSw; (try dsimp only at hSw); go_simp; (try with_reducible rfl)
      simp only [List.setIfInBounds_toArray, List.set_cons_zero, List.set_cons_succ]
      refine R_take 4 63 (v := ?_) rfl rfl (by rfl) (by kernel_rfl) (fun _ _ _ h => h) hS.out ?_ ?_
      rotate_left
      · intro w hSw; (try dsimp only at hSw); go_simp; (try with_reducible rfl)
      simp only [List.setIfInBounds_toArray, List.set_cons_zero, List.set_cons_succ]
      refine R_take 5 64 (v := pgV (Sp.first k) A c) rfl rfl (by rfl) (by kernel_rfl) (fun _ _ _ h => h) hS.out ?_ ?_
      · intro w hSw
        exact run_op_load _ _ _ rfl rfl (run_loadVar_row w g7 _ _ _ _ _ hSw.2 Tryz.underlying32 rfl rfl)
      simp only [List.setIfInBounds_toArray, List.set_cons_zero, List.set_cons_succ]
      have hT8 := (Turns.refl noFoot w7).drew.alloc (.cells (pgCs (Sp.first k) A c) 32)
      refine R_run 6 65 (v := .slice (some ⟨w7.drew.heap.size, 0, none⟩) 1 1) (w' := w7.drew.alloc (.cells (pgCs (Sp.first k) A c) 32)) rfl rfl (by rfl) (by kernel_rfl) ?_ ?_ ?_
      · go_simp
      · exact fun _ => ⟨(((hB7.turns hT8 (fun e => e)).cell 2).trans rfl), hX7.turns hT8 (fun e => e)⟩
      simp only [List.setIfInBounds_toArray, List.set_cons_zero, List.set_cons_succ]
      have hB8 := hB7.turns hT8 (fun e => e)
      have hrow8 := row_keep' (w' := w7.drew.alloc (.cells (pgCs (Sp.first k) A c) 32)) hrow7 (fun b hb => hT8.block b (hown7 b hb) (fun e => e))
      have hN8 := Blk.new w7.drew 32 (pgCs (Sp.first k) A c)
      have hX8 := hX7.turns hT8 (fun e => e)
      have hs8 := hT8.size
      have hgr7 := hB7.lt
      have hg77 := hX7.lt
      have hbw8 : Below w.heap.size w _ := hbw7.trans ((hT8.below_none).mono hbw7.size)
      have hd8 := hd7.below hT8.below_none
      obtain ⟨g8, hg8⟩ : ∃ g, g = w7.drew.heap.size := ⟨_, rfl⟩
      obtain ⟨w8, hw8⟩ : ∃ w8, w8 = w7.drew.alloc (.cells (pgCs (Sp.first k) A c) 32) := ⟨_, rfl⟩
      rw [← hw8, ← hg8] at hN8
      rw [← hw8] at hB8 hrow8 hX8 hs8 hbw8 hd8
      rw [← hw8, ← hg8]
      clear hw8 hg8 hT8 hS hrow7 hX7 hB7 hd7 hbw7
      refine R_step 7 rfl (by rfl) (by kernel_rfl) ?_
      refine wp_append_own2 _ _ _ _ rfl w.heap.size 32 ip pgZero 6 48 Tryz.underlying78 hip hp0 hp1 hp2 rfl (by decide) _ _ _ rfl hrow8 ⟨g8, 0, none⟩ 1 1 (pgCs (Sp.first k) A c).toList rfl rfl (blk_news hN8) (fun x hx => by simp at hx; rcases hx with rfl | rfl | rfl | rfl | rfl | rfl <;> rfl) (by unfold maxLen; omega) (by omega) ?_ ?_
      · exact hbw8.size
      intro v2 w9 q1 q2 q3
      have hB9 := hB8.grown q2 (fun e => hvg e.symm)
      have hX9 := hX8.grown q2 (fun e => by have := hrl g7 e.symm; omega)
      have hSS : w9.cell? ⟨gr, 2, none⟩ = some v ∧ Blk w9 g7 32 (pgCs (Sp.first k) A c) := ⟨(hB9.cell 2).trans rfl, hX9⟩
      have hd8l := hd8.in_
      have hd9 := hd8.keep (fun b hb => q2.block b (hd8l b hb) (fun e => (hD7 b hb).2.2 e.symm))
      have hbw9 := hbw8.grown q2 hbw8.size (fun b e => (row_base hrow8 e))
      obtain ⟨x0, x1, x2, rfl⟩ : ∃ g m c, v2 = .slice (some ⟨g, 0, none⟩) m c := by
        rcases q1.2 with ⟨_, h0⟩ | ⟨g6, c6, _, h0, _⟩
        · omega
        · exact ⟨g6, _, c6, h0⟩
      have c2 := hB9.cell 2
      have f2 := hB9.frozen 2
      simp only [List.getElem?_toArray, List.getElem?_cons_succ, List.getElem?_cons_zero] at c2
      have hv2 : (Value.slice (some ⟨x0, 0, none⟩) x1 x2).ownBlock ≠ some gr := fun e => by
        rcases q3 gr e with h | h
        · exact hvg h
        · omega
      have hLA : LayAt w n gd gr (k + 1) (w9.setCell ⟨gr, 2, none⟩ (.slice (some ⟨x0, 0, none⟩) x1 x2)) := by
        refine ⟨_, _, D7, dk7, hB9.set_ 2 _, q1.kept (grown_set _ ⟨gr, 2, none⟩ _) (.inr (fun e => hv2 e)), hd9.keep (fun b hb => Below.heap_setCell w9 _ _ b (hD7 b hb).2.1), hlk7, fun b hb => ⟨(hD7 b hb).1, (hD7 b hb).2.1, fun e => ?_⟩, hv2, hgr, hbw9.setCell (p := ⟨gr, 2, none⟩) hgr _⟩
        rcases q3 b e with h | h
        · exact (hD7 b hb).2.2 h
        · have := hd7l b hb; omega
      have HLA := Lib.hid hLA
      clear hLA q1 q2 q3 hd8 hd9 hB8 hX8 hrow8 hX9 hN8 hbw8 hbw9
      refine ⟨fun _ => hSS, ?_⟩
      refine R_put 66 rfl ?_
      simp only [List.setIfInBounds_toArray, List.set_cons_zero, List.set_cons_succ]
      refine R_run 8 67 (v := ptr gr) (w' := w9) rfl rfl (by rfl) (by kernel_rfl) (by go_simp) (fun h => nomatch h) ?_
      simp only [List.setIfInBounds_toArray, List.set_cons_zero, List.set_cons_succ]
      refine R_run 9 68 (v := .pointer (some ⟨gr, 2, none⟩)) (w' := w9) rfl rfl (by rfl) (by kernel_rfl) (by go_simp) (fun h => nomatch h) ?_
      simp only [List.setIfInBounds_toArray, List.set_cons_zero, List.set_cons_succ]
      refine R_store 10 (n := .skip) (w' := w9.setCell ⟨gr, 2, none⟩ (.slice (some ⟨x0, 0, none⟩) x1 x2)) rfl rfl (by rfl) (by kernel_rfl) (by go_simp) (.inl rfl) (fun h => nomatch h) ?_
      refine R_done (by kernel_rfl) ?_ _
      rename_i K9 hK9
      refine hK9 _ _ ?_
      go_wp2_with fail
      go_roundw
      case rel => exact ⟨k + 1, by omega, hmeas, by go_num, HLA.out⟩
      case measure => simp [intOf]; omega
    · obtain rfl : k = 7 := by omega
      obtain ⟨v, xs, DD, dk, hB, hrow, hd, hlk, hDs, hvg, hgr, hbr⟩ := HLk.out
      have HLN := Lib.hid (log_new hd 0 8 1 (by omega) (by omega) (by rw [hlk.len]; omega) (by omega))
      have HPN := Lib.hid fun (gl : Nat) (W : World) => pool_new gd gl 8 44 n h1 h64 W
      clear HLk
      go_wp2_with fail
      refine HLN.out.mono ?_
      rintro e w4 ⟨rfl, hw4⟩
      have hLb := Blk.new wr 117 (lgCells gd 0 8 1 (.slice none 0 0) (.slice none 0 0) 110 110 110 0)
      have hb4 := (Below.refl wr.heap.size wr).alloc (Nat.le_refl _) (.cells (lgCells gd 0 8 1 (.slice none 0 0) (.slice none 0 0) 110 110 110 0) 117)
      have hgrl := hB.lt
      have hDl := hd.in_
      have hrl : ∀ b, v.ownBlock = some b → b < wr.heap.size := fun b hb => by
        obtain ⟨cur, hc⟩ := ownsRow_heap hrow hb
        exact (Array.getElem?_eq_some_iff.1 hc).1
      have hwr : w.heap.size ≤ wr.heap.size := hbr.size
      go_wp2_with fail
      refine (HPN.out wr.heap.size _).mono ?_
      rintro e w5 ⟨gp, F, rfl, hpl, hb5, hF⟩
      have hs4 := hb4.size
      have hLl := hLb.lt
      have hb45 : Below wr.heap.size wr w5 := hb4.trans (hb5.mono hs4)
      have hL5 := hLb.below hb5 hLl
      have hB5 := hB.below hb45 hgrl
      have hd5 := hd.below hb45
      have hrow5 := row_keep' (w' := w5) hrow (fun b hb => hb45.block b (hrl b hb))
      have hbw5 : Below w.heap.size w w5 := hbr.trans (hb45.mono hwr)
      have hs45 := hb45.size
      have hFl : ∀ b, F b → wr.heap.size + 1 ≤ b := fun b hb => by have := hF b hb; simpa using this
      have hpll := hpl.lt
      have HPL := Lib.hid hpl
      have hs5 : wr.heap.size < w5.heap.size := hL5.lt
      generalize wr.heap.size = gl at *
      clear hpl hb45 hb5 hb4 hLb hB hd hrow hbr HPN HLN hF
      go_wp2_with fail
      go_ret
      refine ⟨w5.heap.size, gr, gd, gl, gp, v, xs, DD, F, dk, rfl, Blk.new w5 _ _, hB5.alloc _, row_keep' hrow5 (fun b hb => Below.heap_alloc w5 _ b (by have := hrl b hb; omega)), hL5.alloc _, hd5.below ((Below.refl _ w5).alloc (Nat.le_refl _) _), hlk, HPL.out.below ((Below.refl _ w5).alloc (Nat.le_refl _) _), fun b hb hf => ?_, fun b hb => ?_, hbw5.alloc hbw5.size _, hwr, hs5⟩
      · have := hDl b hb; have := hFl b hf; omega
      · rcases hb with hb | hb
        · have := hDl b hb
          exact ⟨(hDs b hb).1, by omega, (hDs b hb).2.1, by omega⟩
        · have := hpll b hb; have := hFl b hb
          exact ⟨by omega, by omega, by omega, by omega⟩
theorem law_begun (n : Nat) (h1 : 1 ≤ n) (h64 : n ≤ 64) (w : World) : Calls Tryz.prog 8 #[.int .i64 n] w (BegunPost w n) := (law_begun_new n h1 h64 w).mono fun _ _ h => h.post
end Go.Proofs.YtndglfiepeefdaaGreat

/- The walk of the law package pentimentolaw15: Play.clean. -/
namespace Go.Proofs.YtndglfiepeefdaaGreat
open Go.RowKit Go.Conc

/-- How the law's disk is laid out: 8 sectors of the log, the area, homes of the pages 0 to 6. -/
def ly15 : Ly := ⟨8, 44, 6, 72, by omega, by omega⟩

theorem Sp.drt_mem {p : Sp.Pl} {q : List Nat} {n : Nat} : (∀ x ∈ p.drt q, x.1 ≠ n) ↔ ¬ (n ∈ q ∧ p.isD n = true) := by
  unfold Sp.Pl.drt
  constructor
  · rintro h ⟨h1, h2⟩
    exact h (n, p.fromAt n) (List.mem_map.2 ⟨n, List.mem_filter.2 ⟨h1, h2⟩, rfl⟩) rfl
  · intro h x hx e
    obtain ⟨m, hm, rfl⟩ := List.mem_map.1 hx
    have := List.mem_filter.1 hm
    exact h ⟨by rw [← e]; exact this.1, by rw [← e]; exact this.2⟩

theorem drs_at {l : List (Nat × Nat)} {i : Nat} (hi : i < l.length) : (drs l)[i * 2]? = some (.int .u32 (l[i].1 : Nat)) := by
  have e : l = l.take i ++ l[i] :: l.drop (i + 1) := by rw [← List.drop_eq_getElem_cons hi, List.take_append_drop]
  have h1 : (drs (l.take i)).length = i * 2 := by rw [drs_length, List.length_take, Nat.min_eq_left (by omega)]
  have e2 : drs l = drs (l.take i) ++ ([.int .u32 (l[i].1 : Nat), .int .u64 (l[i].2 : Nat)] ++ drs (l.drop (i + 1))) := by
    conv => lhs; rw [e]
    rw [drs_app]
    rfl
  rw [e2, List.getElem?_append_right (by omega), h1, Nat.sub_self]
  rfl
theorem drs_cell {G : Foot} {w : World} {A : Option Addr} {l : List (Nat × Nat)} {i : Nat} (hR : Reads G w 2 A l.length (drs l)) (hi : i < l.length) : ∃ b o, A = some ⟨b, o, none⟩ ∧ w.cell? ⟨b, o + i * 2, none⟩ = some (.int .u32 (l[i].1 : Nat)) := by
  obtain ⟨b, o, e, _, _, hc⟩ := hR.2 (by omega)
  exact ⟨b, o, e, hc _ _ (drs_at hi)⟩

set_option maxRecDepth 100000 in
set_option maxHeartbeats 8000000 in
theorem law_clean {K : Foot} {w : World} {gP gd gl gp gr gN : Nat} {l : Sp.Lg} {s : Sp.R15} {now : Nat → Sp.Bs} (h : PkAt ly15 K w gd gl gp l s) (hk : Sp.KI now 0 s) (h12 : s.frames ≤ 12) (hP : Blk w gP 44 #[ptr gd, ptr gl, ptr gp, ptr gr])
    (hN : ∀ j, j < 7 → w.cell? ⟨gN, j, none⟩ = some (str (now j))) (hgN : gN < w.heap.size) :
    Calls Tryz.prog 20 #[ptr gP, .slice (some ⟨gN, 0, none⟩) 7 7] w fun e w' => e = .returned (.bool true) ∧ Below w.heap.size w w' := by
  obtain ⟨p, D, F, G, dk, hpl, hd, hg, hFD, hFG, hDG, hrep, hK, hKl⟩ := h
  have HDI := Lib.hid (pool_dirty hpl (by have := hrep.frames; omega))
  have HD := Lib.hid hd
  have HG := Lib.hid hg
  have HREP := Lib.hid hrep
  have HKI := Lib.hid hk
  have HNN := Lib.hid hN
  have HP := Lib.hid hP
  have hgPl := hP.lt
  have hids : ∀ n, p.isD n = true → n ∈ Sp.sorted (p.items.map (·.page.id)) := fun n hn => by
    unfold Sp.Pl.isD at hn
    cases hf : p.find n with
    | none => rw [hf] at hn; cases hn
    | some it =>
      obtain ⟨hit, hide⟩ := Sp.Pl.find_mem hf
      exact (Sp.sorted_spec _).1.mem_iff.2 (List.mem_map.2 ⟨it, hit, hide⟩)
  have hql : (p.drt (Sp.sorted (p.items.map (·.page.id)))).length ≤ 12 := by
    have h1 := Sp.Pl.drt_len p (Sp.sorted (p.items.map (·.page.id)))
    have h2 := (Sp.sorted_spec (p.items.map (·.page.id))).1.length_eq
    have h3 := hrep.wf.len
    have h4 := hrep.frames
    rw [List.length_map] at h2
    omega
  have HMEM : Hid (∀ n, (∀ x ∈ p.drt (Sp.sorted (p.items.map (·.page.id))), x.1 ≠ n) ↔ Sp.isDirty s.L n = false) := fun n => by
    rw [Sp.drt_mem, hrep.L, Sp.isDirty_eq]
    constructor
    · intro h
      cases hd : p.isD n with
      | false => rfl
      | true => exact absurd ⟨hids n hd, hd⟩ h
    · rintro h ⟨_, h2⟩
      rw [h] at h2; cases h2
  unfold DirPost at HDI
  generalize p.drt (Sp.sorted (p.items.map (·.page.id))) = dl at *
  have c0 := hP.cell 0
  have c2 := hP.cell 2
  simp only [List.getElem?_toArray, List.getElem?_cons_succ, List.getElem?_cons_zero] at c0 c2
  clear hpl hd hg hrep hk hN hP hids
  go_enter Tryz.func20, Tryz.ntmps20
  go_wp2_with fail
  refine HDI.out.mono ?_
  rintro e w1 ⟨v1, rfl, hv1, hb1⟩
  obtain ⟨A1, c1, rfl, hR1⟩ : ∃ A c, v1 = .slice A dl.length c ∧ Reads (fun b => w.heap.size ≤ b) w1 2 A dl.length (drs dl) := by
    rcases hv1.2 with ⟨h0, h1⟩ | ⟨g, cap, cur, h0, _⟩
    · have : dl = [] := List.eq_nil_of_length_eq_zero h1
      subst this
      exact ⟨none, 0, h0, Reads.none_⟩
    · refine ⟨some ⟨g, 0, none⟩, cap, h0, ?_⟩
      subst h0
      exact own_reads hv1
  have HR1 := Lib.hid hR1
  clear hv1 hR1 HDI c0 c2
  go_wp2_with fail
  go_loopw [6] (fun v6 wr => ∃ k : Nat, 1 ≤ k ∧ k ≤ 7 ∧ v6 = .int .u32 k ∧ Below w1.heap.size w1 wr) (fun v6 _ => 7 - (intOf v6).toNat)
  case atStart => exact ⟨1, by omega, by omega, rfl, Below.refl _ _⟩
  case round =>
    obtain ⟨k, hk1, hk7, rfl, hbr⟩ := hrel
    by_cases hlt : k < 7
    · have dk7 : decide ((k : Int) < 7) = true := by rw [decide_eq_true_iff]; omega
      have dk7' : decide (k < 7) = true := by rw [decide_eq_true_iff]; omega
      obtain ⟨wq, hwq⟩ : ∃ x, x = wr := ⟨_, rfl⟩
      rw [← hwq] at hbr ⊢
      clear hwq
      go_wp2_with fail
      go_loopw [7, 8] (fun v7 v8 wx => ∃ i : Nat, i ≤ dl.length ∧ v7 = .bool ((dl.take i).all (fun x => x.1 != k)) ∧ v8 = .int .i64 i ∧ wq = wx) (fun _ v8 _ => dl.length - (intOf v8).toNat)
      case atStart => exact ⟨0, by omega, by simp, rfl, rfl⟩
      case round =>
        obtain ⟨i, hi, rfl, rfl, hwx⟩ := hrel
        subst hwx
        by_cases hil : i < dl.length
        · obtain ⟨b, o, rfl, hcell⟩ := drs_cell (Reads.below HR1.out hbr) hil
          have hal : Hid ((dl.take (i + 1)).all (fun x => x.1 != k) = ((dl.take i).all (fun x => x.1 != k) && (dl[i].1 != k))) := by
            show _ = _
            rw [List.take_succ_eq_append_getElem hil, List.all_append]
            simp
          have hmeas : i + 1 ≤ dl.length := hil
          generalize (dl.take i).all (fun x => x.1 != k) = bb at *
          generalize dl[i].1 = z at *
          have hz : ((z : Int) != (k : Int)) = (z != k) := by
            rw [Bool.eq_iff_iff, bne_iff_ne, bne_iff_ne]; omega
          cases bb with
          | true =>
            cases hzk : (z != k) with
            | true =>
              rw [hzk] at hz hal
              go_wp2_with fail
              go_roundw
              case rel => exact ⟨i + 1, hmeas, by rw [hal.out]; rfl, by go_num, trivial⟩
              case measure => simp [intOf]; omega
            | false =>
              rw [hzk] at hz hal
              go_wp2_with fail
              go_roundw
              case rel => exact ⟨i + 1, hmeas, by rw [hal.out]; rfl, by go_num, trivial⟩
              case measure => simp [intOf]; omega
          | false =>
            go_wp2_with fail
            go_roundw
            case rel => exact ⟨i + 1, hmeas, by rw [hal.out, Bool.false_and], by go_num, trivial⟩
            case measure => simp [intOf]; omega
        · obtain rfl : i = dl.length := by omega
          have hb2 := hb1.trans (hbr.mono hb1.size)
          have hPq := HP.out.below hb2 hgPl
          have c0 := hPq.cell 0
          simp only [List.getElem?_toArray, List.getElem?_cons_zero] at c0
          simp only [List.take_length]
          have hdd := HD.out.below hb2
          have k6 : k ≤ ly15.top := Nat.le_of_lt_succ hlt
          have hx := HREP.out.ok k hk1 k6
          have hpg : Sp.pageAt dk.sure (44 + k * 4) = pgBytes (s.disk k) := HREP.out.dkt.page k hk1 k6
          have HTR := Lib.hid (twin_read hdd (by rw [HREP.out.dl.fuse]; decide) HREP.out.dl.loose 44 k (by omega) (by rw [HREP.out.dkt.len]; show _ ≤ 72; omega))
          rw [hpg] at HTR
          have hone := HKI.out.drow k hk1 k6
          have hlsn := HKI.out.dlsn k hk1 k6
          have hnow := HKI.out.dnow k hk1 k6
          have hall := HMEM.out k
          generalize s.disk k = x at *
          obtain ⟨r, hr⟩ := List.length_eq_one_iff.1 hone
          clear hdd hpg
          go_wp2_with fail
          refine HTR.out.mono ?_
          rintro e w2 ⟨rfl, hb3⟩
          have HDEC := Lib.hid (page_decode (w := w2) hx.1 hx.2.1)
          clear HTR c0
          go_wp2_with fail
          refine HDEC.out.mono ?_
          rintro e w3 ⟨A, c, rfl, hA, hR, hb4⟩
          clear HDEC
          obtain ⟨b, o, rfl, _, hblt, hcell⟩ := hR.row (k := 0) (by rw [hone]; decide)
          simp only [hr, List.getElem_cons_zero, Nat.add_zero] at hcell
          have hb5 : Below wq.heap.size wq w3 := hb3.trans (hb4.mono hb3.size)
          have hb6 : Below w.heap.size w w3 := hb2.trans (hb5.mono hb2.size)
          go_wp2_with fail
          generalize hw4 : World.alloc w3 _ = w4
          have hb7 : Below w3.heap.size w3 w4 := by rw [← hw4]; exact (Below.refl _ _).alloc (Nat.le_refl _) _
          have hBx : Blk w4 w3.heap.size 32 #[.int .u8 x.kind, .int .u8 x.level, .int .u32 k, .int .u64 x.lsn, .int .u32 x.next, .slice (some ⟨b, o, none⟩) 1 c] := by rw [← hw4]; exact Blk.new _ _ _
          have hb8 : Below w.heap.size w w4 := hb6.trans (hb7.mono hb6.size)
          have hb9 : Below wq.heap.size wq w4 := hb5.trans (hb7.mono hb5.size)
          have HLF := Lib.hid (fun n : Nat => log_forced ((HG.out.below hb8).below ((Turns.refl noFoot w4).drewN n).below_none))
          rw [← HREP.out.forced] at HLF
          have cp := (HP.out.below hb8 hgPl).cell 1
          have c3 := hBx.cell 3
          have c5 := hBx.cell 5
          have cb := (hb7.cell (p := ⟨b, o, none⟩) hblt).trans hcell
          have cn := (hb8.cell (p := ⟨gN, k, none⟩) hgN).trans (HNN.out k hlt)
          simp only [List.getElem?_toArray, List.getElem?_cons_succ, List.getElem?_cons_zero] at cp c3 c5
          have HB9 := Lib.hid hb9
          have HBR := Lib.hid hbr
          have hrow : dl.all (fun x => x.1 != k) = true → r = now k := fun h => by
            have e := hnow (hall.1 fun y hy => by have := List.all_eq_true.1 h y hy; simpa using this)
            rw [hr] at e
            exact List.head_eq_of_cons_eq e
          clear hR hA hcell hblt hbr hb2 hb3 hb4 hb5 hb6 hb7 hb8 hb9 hBx hw4 hnow hall hPq hi hil
          generalize w3.heap.size = gx at *
          have hss : (r != r) = false := by simp
          have i1 : (k : Int) < 7 := by omega
          have i2 : (0 : Int) ≤ k := by omega
          have i3 : ¬ (7 : Int) ≤ k := by omega
          have i4 : ¬ (k : Int) < 0 := by omega
          have i5 : (0 : Int) ≤ k ∧ (k : Int) < 7 := ⟨i2, i1⟩
          have hlt1 : decide ((x.lsn : Int) < s.forced) = true := by rw [decide_eq_true_iff]; omega
          have hlt2 : decide ((s.forced : Int) ≤ x.lsn) = false := by rw [decide_eq_false_iff_not]; omega
          have j1 : ¬ (s.forced : Int) ≤ x.lsn := by omega
          have j2 : ¬ s.forced ≤ x.lsn := by omega
          have j3 : decide (s.forced ≤ x.lsn) = false := by rw [decide_eq_false_iff_not]; omega
          have HUP : ∀ n, Below w1.heap.size w1 (w4.drewN n) := fun n => HBR.out.trans (((HB9.out.trans ((((Turns.refl noFoot w4).drewN n).below_none).mono HB9.out.size))).mono HBR.out.size)
          cases hal : dl.all (fun x => x.1 != k) with
          | true =>
            obtain rfl := hrow hal
            clear hrow hal
            by_cases hz : 0 < x.lsn
            · have z1 : (0 : Int) < x.lsn := by omega
              have z2 : decide ((0 : Int) < x.lsn) = true := by rw [decide_eq_true_iff]; omega
              have z3 : decide (0 < x.lsn) = true := by rw [decide_eq_true_iff]; omega
              go_quiet (first | (go_at_call 47; refine Calls.quiet_of_same (HLF.out _)))
              go_wp2_with fail
              go_roundw
              case rel => exact ⟨k + 1, by omega, by omega, by go_num, HUP _⟩
              case measure => simp [intOf]; omega
            · have z1 : ¬ (0 : Int) < x.lsn := by omega
              have z2 : decide ((0 : Int) < x.lsn) = false := by rw [decide_eq_false_iff_not]; omega
              have z3 : decide (0 < x.lsn) = false := by rw [decide_eq_false_iff_not]; omega
              go_quiet (first | (go_at_call 47; refine Calls.quiet_of_same (HLF.out _)))
              go_wp2_with fail
              go_roundw
              case rel => exact ⟨k + 1, by omega, by omega, by go_num, HUP _⟩
              case measure => simp [intOf]; omega
          | false =>
            clear hrow hal
            by_cases hz : 0 < x.lsn
            · have z1 : (0 : Int) < x.lsn := by omega
              have z2 : decide ((0 : Int) < x.lsn) = true := by rw [decide_eq_true_iff]; omega
              have z3 : decide (0 < x.lsn) = true := by rw [decide_eq_true_iff]; omega
              go_quiet (first | (go_at_call 47; refine Calls.quiet_of_same (HLF.out _)))
              go_wp2_with fail
              go_roundw
              case rel => exact ⟨k + 1, by omega, by omega, by go_num, HUP _⟩
              case measure => simp [intOf]; omega
            · have z1 : ¬ (0 : Int) < x.lsn := by omega
              have z2 : decide ((0 : Int) < x.lsn) = false := by rw [decide_eq_false_iff_not]; omega
              have z3 : decide (0 < x.lsn) = false := by rw [decide_eq_false_iff_not]; omega
              go_quiet (first | (go_at_call 47; refine Calls.quiet_of_same (HLF.out _)))
              go_wp2_with fail
              go_roundw
              case rel => exact ⟨k + 1, by omega, by omega, by go_num, HUP _⟩
              case measure => simp [intOf]; omega
    · obtain rfl : k = 7 := by omega
      go_wp2_with fail
      go_ret
      exact ⟨rfl, hb1.trans (hbr.mono hb1.size)⟩
end Go.Proofs.YtndglfiepeefdaaGreat

/- A pool of the law's package that has begun: with its disk and its log, as the plain words say. No walk. -/
namespace Go.Proofs.YtndglfiepeefdaaGreat
open Go.RowKit Go.Conc

namespace Sp
/-- A pool of n frames that has begun, over pages 1 to 6. -/
def begR (n : Nat) : R15 := ⟨n, [], first, 110, 110, 6⟩
def firstRow : Bs := [102, 105, 114, 115, 116]
theorem begR_KI {n : Nat} (h : 1 ≤ n) : KI (fun _ => firstRow) 0 (begR n) where
  fr := h
  top := rfl
  ids := List.nodup_nil
  inr := fun x hx => absurd hx (by simp [begR])
  free := fun x hx => absurd hx (by simp [begR])
  rows := fun x hx => absurd hx (by simp [begR])
  low := fun x hx => absurd hx (by simp [begR])
  cln := fun x hx => absurd hx (by simp [begR])
  did := fun _ _ _ => rfl
  drow := fun _ _ _ => rfl
  dnow := fun _ _ _ _ => rfl
  dlsn := fun _ _ _ => by show 0 < 110; omega
  ff := Nat.le_refl _
  f1 := Nat.le_refl _
end Sp

/-- A pool that has begun. -/
theorem pk_begun {w w' : World} {n : Nat} {e : Ending} (h : BegunNew w n e w') :
    ∃ gP gr gd gl gp, e = .returned (ptr gP) ∧ Blk w' gP 44 #[ptr gd, ptr gl, ptr gp, ptr gr] ∧ Below w.heap.size w w' ∧ w.heap.size ≤ gP ∧ PkAt ly15 (fun b => b < w.heap.size ∨ b = gP) w' gd gl gp (Sp.newLg 0 8 1) (Sp.begR n) := by
  obtain ⟨gP, gr, gd, gl, gp, v, xs, D, F, dk, rfl, hP, hr, _, hl, hd, hlk, hpl, hDF, hb0, hb, hgl, hgP⟩ := h
  have hs := hb.size
  have hg := hP.lt
  have hlg := newLg_mem (by omega) (by omega) (by omega) (by omega) hl
  refine ⟨gP, gr, gd, gl, gp, rfl, hP, hb, by omega, _, D, F, _, dk, hpl, hd, hlg, fun b h1 h2 => hDF b h2 h1, fun b h1 h2 => (hb0 b (.inr h1)).2.2.2 h2, fun b h1 h2 => (hb0 b (.inl h1)).2.2.2 h2, ?_, fun b h hk => ?_, fun b hk => ?_⟩
  · exact {
      wf := hpl.wf
      lwf := Sp.newLg_wf (by omega) (by omega) (by omega) (by omega)
      frames := rfl
      L := rfl
      top := rfl
      forced := rfl
      next := rfl
      ok := fun q h1 h2 => ⟨(Sp.first_ok h1 (Nat.le_trans h2 (by decide))).1, (Sp.first_ok h1 (Nat.le_trans h2 (by decide))).2, rfl⟩
      dkt := ⟨hlk.len, hlk.loose, hlk.fuse, fun q h1 h2 => hlk.page q h1 (Nat.lt_succ_of_le h2)⟩
      dl := ⟨hlk.loose, hlk.fuse, by rw [hlk.len]; decide, by rw [hlk.len]; decide, by rw [hlk.len]; decide, by decide⟩
      lo := by decide
      area := by decide
      tight := by decide
      zero := hlk.zero
      in_ := fun it h => absurd h (by simp) }
  · have hb' : w.heap.size ≤ b ∧ b ≠ gP := by
      rcases h with h | h | h
      · exact ⟨(hb0 b (.inr h)).1, (hb0 b (.inr h)).2.1⟩
      · exact ⟨(hb0 b (.inl h)).1, (hb0 b (.inl h)).2.1⟩
      · obtain rfl : b = gl := h
        exact ⟨hgl, by omega⟩
    rcases hk with hk | hk <;> omega
  · rcases hk with hk | hk <;> omega
end Go.Proofs.YtndglfiepeefdaaGreat

/- Flush of a pool with its disk and its log. -/
namespace Go.Proofs.YtndglfiepeefdaaGreat
open Go.RowKit Go.Conc

namespace Sp
theorem nodup_sub_len : ∀ (q l : List Nat), q.Nodup → (∀ x ∈ q, x ∈ l) → q.length ≤ l.length
  | [], _, _, _ => Nat.zero_le _
  | a :: q, l, hn, hs => by
    rw [List.nodup_cons] at hn
    have ha := hs a (by simp)
    have h := nodup_sub_len q (l.erase a) hn.2 (fun x hx => by
      have hne : x ≠ a := fun e => hn.1 (e ▸ hx)
      exact (List.mem_erase_of_ne hne).2 (hs x (by simp [hx])))
    rw [List.length_erase_of_mem ha] at h
    have : 0 < l.length := List.length_pos_of_mem ha
    simp only [List.length_cons]; omega
theorem foldl_max_le {α : Type} (f : α → Nat) : ∀ (l : List α) (a b : Nat), l.foldl (fun m x => max m (f x)) a ≤ b ↔ a ≤ b ∧ ∀ x ∈ l, f x ≤ b
  | [], a, b => by simp
  | x :: l, a, b => by
    rw [List.foldl_cons, foldl_max_le f l]
    simp only [List.mem_cons, forall_eq_or_imp]
    constructor
    · rintro ⟨h1, h2⟩; exact ⟨by omega, by omega, h2⟩
    · rintro ⟨h1, h2, h3⟩; exact ⟨by omega, h3⟩
theorem foldl_max_perm {α : Type} (f : α → Nat) {l l' : List α} (h : l.Perm l') (a : Nat) : l.foldl (fun m x => max m (f x)) a = l'.foldl (fun m x => max m (f x)) a := by
  refine Nat.le_antisymm ?_ ?_
  · rw [foldl_max_le]
    have := (foldl_max_le f l' a _).1 (Nat.le_refl _)
    exact ⟨this.1, fun x hx => this.2 x (h.mem_iff.1 hx)⟩
  · rw [foldl_max_le]
    have := (foldl_max_le f l a _).1 (Nat.le_refl _)
    exact ⟨this.1, fun x hx => this.2 x (h.mem_iff.2 hx)⟩
theorem Pl.topOf_perm (p : Pl) {q q' : List Nat} (h : q.Perm q') : p.topOf q = p.topOf q' := foldl_max_perm _ (h.filter _) 0
end Sp

theorem Rep.write_perm {ly : Ly} {p : Sp.Pl} {dk : Sp.Dk} {l : Sp.Lg} {s : Sp.R15} (h : Rep ly p dk l s) {q q' : List Nat} (hp : q.Perm q') : s.write q = s.write q' := by
  have e1 : Sp.lsnOf s.L q = Sp.lsnOf s.L q' := by rw [h.L, Sp.lsnOf_eq, Sp.lsnOf_eq, Sp.Pl.topOf_perm p hp]
  have e2 : (q.all (fun id => !Sp.isDirty s.L id) = true) ↔ (q'.all (fun id => !Sp.isDirty s.L id) = true) := by
    rw [List.all_eq_true, List.all_eq_true]
    exact ⟨fun h x hx => h x (hp.mem_iff.2 hx), fun h x hx => h x (hp.mem_iff.1 hx)⟩
  have e3 : Sp.cleaned q = Sp.cleaned q' := by
    funext x
    unfold Sp.cleaned
    simp only [hp.mem_iff]
  unfold Sp.R15.write
  rw [e1, e3]
  simp only [e2, hp.mem_iff]

theorem own_block {w : World} {g c : Nat} {q : List Nat} {base : Nat} (hO : w.ownsRow base 28 1 (.slice (some ⟨g, 0, none⟩) q.length c) q.length (q.map u32v)) : ∃ cur, Blk w g 28 cur ∧ ∀ j, j < q.length → cur[j]? = some (u32v q[j]!) := by
  rcases hO.2 with ⟨h0, _⟩ | ⟨g', cap, cur, h0, _, hh, h1, h2, h3, h4⟩
  · cases h0
  · injection h0 with a1 a2 a3
    injection a1 with a1
    injection a1 with a1
    subst a1
    refine ⟨cur, hh, fun j hj => ?_⟩
    have := congrArg (fun l => l[j]?) h4
    simp only [Nat.mul_one, List.getElem?_take, hj, if_true] at this
    rw [Array.getElem?_toList] at this
    rw [this]
    simp [hj]

theorem pk_flush {ly : Ly} {K G : Foot} {w : World} {gd gl gp : Nat} {l : Sp.Lg} {s : Sp.R15} (h : PkAt ly K w gd gl gp l s) (h12 : s.frames ≤ 12) {A : Option Addr} {c : Nat} {q : List Nat} (hA : OkAddr A) (hA0 : q.length = 0 → A = none) (hR : Reads G w 1 A q.length (q.map u32v)) (hq : ∀ n ∈ q, n < 4294967296) (hl : q.length ≤ 100000)
    (hnil : q.length = 0 → ∀ W, Below w.heap.size w W → Calls Tryz.prog 65 #[ptr gp, .slice none 0 0] W fun e w' => e = .returned (.int .i64 0) ∧ Below W.heap.size W w') :
    Calls Tryz.prog 18 #[ptr gp, .slice A q.length c] w (CallPk ly K w gd gl gp l (s.flush q)) := by
  have H := h
  obtain ⟨p, D, F, G1, dk, hpl, hd, hg, hFD, hFG, hDG, hr, hK, hKl⟩ := h
  obtain ⟨R, fb, cb, mb, v, s0, r, cs, hat⟩ := hpl
  have hM : Mem F D G1 R w gp gd gl ly.at_ ly.base fb cb mb v s0 r cs p.free (p.items.map (·.page.id)) p dk l := ⟨hat, hd, hg, hFD, hFG, hDG⟩
  have hdf : q.filter (Sp.isDirty s.L) = q.filter p.isD := by
    congr 1
    funext n
    rw [hr.L, Sp.isDirty_eq]
  have hhf : q.all (Sp.hasR s.L) = q.all (fun n => (p.find n).isSome) := by
    congr 1
    funext n
    rw [hr.L, Sp.hasR_eq]
  have hgood : q.Nodup → (q.filter p.isD).length ≤ 8 → q.all (fun n => (p.find n).isSome) = true → s.flush q = s.write q := fun h1 h2 h3 => by
    unfold Sp.R15.flush
    rw [if_neg (fun e => e h1), if_neg (by rw [hdf]; omega), if_neg (by rw [hhf, h3]; decide)]
  refine (pool_flush (X := fun c w' => CallPk ly K w gd gl gp l (s.flush q) (.returned (.int .i64 c)) w') hat hA hA0 hR hq hl (fun hnd h8 hAll hpos W hb g c' hgl hO => ?_) (fun h0 W hb => ?_)).mono ?_
  · have hMW := hM.below hb
    obtain ⟨cur, hB, hcur⟩ := own_block hO
    have hlen : q.length ≤ 12 := by
      have h1 := Sp.nodup_sub_len q (p.items.map (·.page.id)) hnd (fun n hn => by
        obtain ⟨it, hf⟩ := hAll n hn
        obtain ⟨hit, hide⟩ := Sp.Pl.find_mem hf
        exact List.mem_map.2 ⟨it, hit, hide⟩)
      have h2 := hr.wf.len
      have h3 := hr.frames
      rw [List.length_map] at h1
      omega
    have hperm := (Sp.sorted_spec q).1
    have hd8 : (p.dirt (Sp.sorted q)).length ≤ 8 := by
      have e : (p.dirt (Sp.sorted q)).length = ((Sp.sorted q).filter p.isD).length := by rw [← Sp.Pl.dirt_ids, List.length_map]
      rw [e, (hperm.filter _).length_eq]
      exact h8
    refine (pool_writes (cap := c') hMW hr.dl hB (fun e => by have := hM.lt g e; omega) hlen hcur (fun n hn => ?_) hnd hd8).mono ?_
    · obtain ⟨it, hf⟩ := hAll n hn
      obtain ⟨hit, hide⟩ := Sp.Pl.find_mem hf
      refine ⟨hq n hn, ?_, it, hf⟩
      rw [← hide]
      exact hr.inside (hr.in_ it hit).1 (hr.in_ it hit).2
    · rintro e w' ⟨c2, D', cs', p', d', l', rfl, hW, _, hM', ht⟩
      obtain ⟨e1, hr'⟩ := hr.wrote hW (fun n hn => hAll n (hperm.mem_iff.1 hn)) (hperm.nodup_iff.2 hnd) hd8
      rw [hr.write_perm hperm] at e1 hr'
      have hall : q.all (fun n => (p.find n).isSome) = true := by
        rw [List.all_eq_true]
        intro n hn
        obtain ⟨it, hf⟩ := hAll n hn
        rw [hf]; rfl
      rw [hgood hnd h8 hall]
      have htt : Turns (allF F D G1) (allF F D' G1) w w' := by
        refine ⟨ht.os.trans hb.os, ht.tape.trans hb.tape, ht.output.trans hb.output, Nat.le_trans hb.size ht.size, fun b hb1 hn => ?_, fun b hb1 => ?_⟩
        · have := hb.size
          rw [ht.block b (by omega) (fun e => e.elim hn (fun e => by omega))]
          exact hb.block b hb1
        · rcases ht.foot b (.inl hb1) with (e | e) | e
          · exact .inl e
          · exact .inr (by omega)
          · exact .inr (Nat.le_trans hb.size e)
      obtain ⟨k1, k2, k3, _, _⟩ := hW.keep
      refine ⟨c2, rfl, Kept.of_turns htt (fun b hk => ⟨hKl b hk, fun hF => hK b hF hk⟩), by rw [e1], ?_⟩
      have elg : l' = { l with forced := (s.write q).2.forced } := hr'.lg hW.lg
      rw [← elg]
      have hpl' := hM'.pl
      rw [← k1, ← k3] at hpl'
      exact pk_make ⟨R, fb, cb, mb, v, s0, r, cs', hpl'⟩ hM'.dk hM'.lg hM'.FD hM'.FG hM'.DG hr' hK hKl htt (fun b hb => .inl hb)
  · obtain rfl := List.eq_nil_of_length_eq_zero h0
    refine (hnil h0 W hb).mono ?_
    rintro e w' ⟨rfl, hb2⟩
    have e1 : s.flush [] = (0, s) := by
      rw [hgood (by simp) (by simp) (by simp)]
      unfold Sp.R15.write
      rw [if_pos (by simp)]
    refine ⟨0, rfl, ?_⟩
    rw [e1]
    exact pk_same H (hb.trans (hb2.mono hb.size)) 0
  · rintro e w' ⟨c2, rfl, ⟨hbad, hb⟩ | hx⟩
    · have e1 : s.flush q = (c2, s) := by
        unfold Sp.R15.flush
        rcases hbad with ⟨rfl, h1 | h1⟩ | ⟨rfl, h1, h2, h3⟩
        · rw [if_pos h1]
        · split
          · rfl
          · rw [if_pos (by rw [hdf]; exact h1)]
        · rw [if_neg (fun e => e h1), if_neg (by rw [hdf]; omega), if_pos (by rw [hhf, h3])]
      rw [e1]
      exact pk_same H hb c2
    · exact hx
end Go.Proofs.YtndglfiepeefdaaGreat

/- A pool of the law pentimentolaw15 whose pages stand as they were laid first: its rows as a plain list of (page, how often pinned). -/
namespace Go.Proofs.YtndglfiepeefdaaGreat
open Go.RowKit

namespace Sp
/-- all pages clean, and as they were laid first. -/
def Pl.fresh (p : Pl) : Prop := ∀ it ∈ p.items, it.dirty = false ∧ it.page = first it.page.id ∧ 1 ≤ it.page.id ∧ it.page.id ≤ 6
end Sp
end Go.Proofs.YtndglfiepeefdaaGreat

/- The walks of package pool: Pins. -/
namespace Go.Proofs.YtndglfiepeefdaaGreat
open Go.RowKit Go.Conc

set_option maxRecDepth 100000 in
set_option maxHeartbeats 1000000 in
theorem pool_pins_in {F : Foot} {w : World} {gp gd gl at_ base : Nat} {p : Sp.Pl} (h : IsPl F w gp gd gl at_ base p) {id : Nat} (hid : id < 4294967296) {it : Sp.It} (hf : p.find id = some it) :
    Calls Tryz.prog 24 #[ptr gp, u32v id] w fun e w' => e = .returned (.int .i64 it.pins) ∧ w' = w := by
  obtain ⟨R, fb, cb, mb, v, s, r, cs, h⟩ := h
  obtain ⟨c0, c1, c2, c3, c4, c5, c6, c7⟩ := h.cells
  have HM := Lib.hid (pool_made c6)
  have hl := h.look_in hid hf
  have hit := (Sp.Pl.find_mem hf).1
  have hlt := h.wf.idx_lt hit
  have cp := h.pins hit
  have hn := h.wf.n64
  clear h c0 c1 c2 c3 c5 c7 hf hit
  go_enter Tryz.func24, Tryz.ntmps24
  go_wp2_with fail
  refine HM.out.mono ?_
  rintro e w1 ⟨rfl, hw⟩
  subst w1
  go_wp2_with fail
  go_ret
  exact ⟨rfl, rfl⟩

set_option maxRecDepth 100000 in
set_option maxHeartbeats 1000000 in
theorem pool_pins_out {F : Foot} {w : World} {gp gd gl at_ base : Nat} {p : Sp.Pl} (h : IsPl F w gp gd gl at_ base p) {id : Nat} (hid : id < 4294967296) (hf : p.find id = none) :
    Calls Tryz.prog 24 #[ptr gp, u32v id] w fun e w' => e = .returned (.int .i64 0) ∧ w' = w := by
  obtain ⟨R, fb, cb, mb, v, s, r, cs, h⟩ := h
  obtain ⟨c0, c1, c2, c3, c4, c5, c6, c7⟩ := h.cells
  have HM := Lib.hid (pool_made c6)
  have hl := h.look_out hid hf
  clear h c0 c1 c2 c3 c5 c7 hf
  go_enter Tryz.func24, Tryz.ntmps24
  go_wp2_with fail
  refine HM.out.mono ?_
  rintro e w1 ⟨rfl, hw⟩
  subst w1
  go_wp2_with fail
  go_ret
  exact ⟨rfl, rfl⟩
end Go.Proofs.YtndglfiepeefdaaGreat

/- A pool of the law pentimentolaw15 in memory, and what its calls do to the plain list. -/
namespace Go.Proofs.YtndglfiepeefdaaGreat
open Go.RowKit

/-- A pool (block gp), its disk (block gd); the blocks of K are none of theirs. -/
def LpAt (K : Foot) (w : World) (gd gl gp n : Nat) (L : List (Nat × Nat)) : Prop :=
  ∃ (p : Sp.Pl) (D F : Foot) (dk : Sp.Dk), IsDk D w gd dk ∧ LawDk dk 7 ∧ IsPl F w gp gd gl 8 44 p ∧ p.n = n ∧ p.fresh ∧ p.abs = L ∧ (∀ b, D b → ¬ F b) ∧ (∀ b, D b ∨ F b → ¬ K b) ∧ (∀ b, K b → b < w.heap.size)

theorem lp_make {K : Foot} {w w' : World} {gd gl gp n : Nat} {p' : Sp.Pl} {D F F' : Foot} {dk : Sp.Dk} (hd : IsDk D w gd dk) (hlk : LawDk dk 7) (hpl : IsPl F' w' gp gd gl 8 44 p') (hn : p'.n = n) (hfr : p'.fresh) (hDF : ∀ b, D b → ¬ F b) (hK : ∀ b, D b ∨ F b → ¬ K b)
    (hb : ∀ b, K b → b < w.heap.size) (ht : Turns F F' w w') : LpAt K w' gd gl gp n p'.abs := by
  have hin := hd.in_
  refine ⟨p', D, F', dk, hd.keep (fun b hD => ht.block b (hin b hD) (hDF b hD)), hlk, hpl, hn, hfr, rfl, fun b hD hF => ?_, fun b h hk => ?_, fun b h => Nat.lt_of_lt_of_le (hb b h) ht.size⟩
  · rcases ht.foot b hF with h | h
    · exact hDF b hD h
    · have := hin b hD; omega
  · rcases h with h | h
    · exact hK b (.inl h) hk
    · rcases ht.foot b h with h | h
      · exact hK b (.inr h) hk
      · have := hb b hk; omega

theorem lp_len {K : Foot} {w : World} {gd gl gp n : Nat} {L : List (Nat × Nat)} (h : LpAt K w gd gl gp n L) : L.length ≤ n ∧ (L.map (·.1)).Nodup ∧ ∀ x ∈ L, 1 ≤ x.1 ∧ x.1 ≤ 6 := by
  obtain ⟨p, D, F, dk, hd, hlk, hpl, rfl, hfr, rfl, hDF, hb0⟩ := h
  have hl := hpl.wf.len
  have hids := hpl.wf.ids
  refine ⟨by simp [Sp.Pl.abs]; omega, ?_, fun x hx => ?_⟩
  · have e1 : p.abs.map (·.1) = p.items.map (·.page.id) := by simp [Sp.Pl.abs, Function.comp]
    rw [e1]; exact hids
  · obtain ⟨it, hit, rfl⟩ := List.mem_map.1 hx
    exact ⟨(hfr it hit).2.2.1, (hfr it hit).2.2.2⟩

/-- The blocks made meanwhile are none of theirs. -/
theorem LpAt.more {K K' : Foot} {w w' : World} {gd gl gp n : Nat} {L : List (Nat × Nat)} (h : LpAt K w gd gl gp n L) (hb : Below w.heap.size w w') (hK : ∀ b, K' b → K b ∨ (w.heap.size ≤ b ∧ b < w'.heap.size)) : LpAt K' w' gd gl gp n L := by
  obtain ⟨p, D, F, dk, hd, hlk, hpl, hn, hfr, hL, hDF, hb0, hKl⟩ := h
  have hin := hd.in_
  have hlt := hpl.lt
  refine ⟨p, D, F, dk, hd.below hb, hlk, hpl.below hb, hn, hfr, hL, hDF, fun b h hk => ?_, fun b hk => ?_⟩
  · rcases hK b hk with h' | h'
    · exact hb0 b h h'
    · rcases h with h | h
      · have := hin b h; omega
      · have := hlt b h; omega
  · rcases hK b hk with h' | h'
    · exact Nat.lt_of_lt_of_le (hKl b h') hb.size
    · exact h'.2
theorem LpAt.below {K : Foot} {w w' : World} {gd gl gp n : Nat} {L : List (Nat × Nat)} (h : LpAt K w gd gl gp n L) (hb : Below w.heap.size w w') : LpAt K w' gd gl gp n L := h.more hb (fun _ h => .inl h)
theorem LpAt.lt {K : Foot} {w : World} {gd gl gp n : Nat} {L : List (Nat × Nat)} (h : LpAt K w gd gl gp n L) : ∀ b, K b → b < w.heap.size := by
  obtain ⟨p, D, F, dk, _, _, _, _, _, _, _, _, h⟩ := h
  exact h

/-- What Pin answers, and leaves. -/
def PinLp (K : Foot) (w : World) (gd gl gp n : Nat) (L : List (Nat × Nat)) (k : Nat) (e : Ending) (w' : World) : Prop :=
  Kept K w w' ∧ ((Sp.aPin n L k = none ∧ e = .returned (.tuple #[zeroPgV, .int .i64 4]) ∧ LpAt K w' gd gl gp n L) ∨
    ∃ L' A c, Sp.aPin n L k = some L' ∧ e = .returned (.tuple #[pgV (Sp.first k) A c, .int .i64 0]) ∧ OkAddr A ∧ RowsAt (fun b => w.heap.size ≤ b) w' A (Sp.first k).rows ∧ LpAt K w' gd gl gp n L')

theorem lp_pin {K : Foot} {w : World} {gd gl gp n : Nat} {L : List (Nat × Nat)} (h : LpAt K w gd gl gp n L) {k : Nat} (h1 : 1 ≤ k) (h6 : k ≤ 6) (hs : ∀ x ∈ L, x.2 < 1000000) :
    Calls Tryz.prog 11 #[ptr gp, u32v k] w (PinLp K w gd gl gp n L k) := by
  obtain ⟨p, D, F, dk, hd, hlk, hpl, rfl, hfr, rfl, hDF, hb0, hKl⟩ := h
  have hwf := hpl.wf
  cases hf : p.find k with
  | some it =>
    obtain ⟨hit, hk⟩ := Sp.Pl.find_mem hf
    have hpg : it.page = Sp.first k := by rw [← hk]; exact (hfr it hit).2.1
    have hsm := hs (it.page.id, it.pins) (List.mem_map.2 ⟨it, hit, rfl⟩)
    have hsm : it.pins < 1000000 := hsm
    refine (pool_pin_in' hpl (by omega) hf (by omega)).mono ?_
    rintro e w' ⟨F', A, c, rfl, hA, hR, h', ht⟩
    rw [hpg] at hR ⊢
    have hfr' : ((p.pinUp k).last k).fresh := fun y hy => by
      have hy' := (Sp.Pl.last_perm (p.pinUp k) k).mem_iff.1 hy
      obtain ⟨x, hx, rfl⟩ := Sp.Pl.upd_mem hy'
      split <;> exact hfr x hx
    refine ⟨Kept.of_turns ht (fun b hk => ⟨hKl b hk, fun hF => hb0 b (.inr hF) hk⟩), .inr ⟨Sp.aUp p.abs k, A, c, ?_, rfl, hA, hR.mono (fun b hb => hb.1), ?_⟩⟩
    · unfold Sp.aPin
      rw [if_pos (Sp.aHas_iff.2 (by rw [hf]; rfl))]
    · rw [← Sp.abs_last]
      exact lp_make hd hlk h' rfl hfr' hDF hb0 hKl ht
  | none =>
    have hno : Sp.aHas p.abs k = false := by
      cases ha : Sp.aHas p.abs k with
      | false => rfl
      | true => rw [Sp.aHas_iff, hf] at ha; cases ha
    have hlen : p.abs.length = p.items.length := by simp [Sp.Pl.abs]
    have hwl := hwf.len
    refine (pool_pin_out' (x := Sp.first k) hpl (fun it hit => (hfr it hit).1) (Sp.first_ok h1 (by omega)) hf hd (by rw [hlk.fuse]; decide) hlk.loose (by rw [hlk.len]; show 44 + k * 4 + 4 ≤ 72; omega) (hlk.page k h1 (by omega))).mono ?_
    rintro e w' (⟨rfl, hfree, hall, h', ht⟩ | ⟨F', A, c, p', i, rest, rfl, hA, hR, hfree, hnone, h', ht, hp'⟩)
    · refine ⟨Kept.of_turns ht (fun b hk => ⟨hKl b hk, fun hF => hb0 b (.inr hF) hk⟩), .inl ⟨?_, rfl, lp_make hd hlk h' rfl hfr hDF hb0 hKl ht⟩⟩
      unfold Sp.aPin
      rw [hfree, List.length_nil] at hwl
      rw [hno, if_neg (by simp), if_neg (by omega), Sp.aDrop_none _ (fun y hy => by
        obtain ⟨it, hit, rfl⟩ := List.mem_map.1 hy
        exact hall it hit)]
      rfl
    · have hsub : ∀ y ∈ p'.items, y ∈ p.items := by
        rcases hp' with rfl | ⟨_, pre, it, post, _, _, _, rfl⟩
        · exact fun y hy => hy
        · exact fun y hy => (List.mem_filter.1 hy).1
      have hfr' : ((p'.bring (Sp.first k) i rest).pinUp k).fresh := fun y hy => by
        obtain ⟨x, hx, rfl⟩ := Sp.Pl.upd_mem hy
        have hx' : x.dirty = false ∧ x.page = Sp.first x.page.id ∧ 1 ≤ x.page.id ∧ x.page.id ≤ 6 := by
          rcases List.mem_append.1 hx with hx | hx
          · exact hfr x (hsub x hx)
          · rw [List.mem_singleton.1 hx]
            exact ⟨rfl, rfl, h1, h6⟩
        split <;> exact hx'
      have hpn : p'.n = p.n := by
        rcases hp' with rfl | ⟨_, pre, it, post, _, _, _, rfl⟩ <;> rfl
      have habs : Sp.aPin p.n p.abs k = some (p'.abs ++ [(k, 1)]) := by
        unfold Sp.aPin
        rw [hno, if_neg (by simp)]
        rcases hp' with rfl | ⟨hf0, pre, it, post, hsp, hpre, hp0, rfl⟩
        · rw [hfree, List.length_cons] at hwl
          rw [if_pos (by omega)]
        · rw [hf0, List.length_nil] at hwl
          rw [if_neg (by omega), Sp.abs_drop hwf hsp]
          unfold Sp.Pl.abs
          rw [hsp, List.map_append, List.map_cons, Sp.aDrop_split _ _ _ (fun y hy => by
            obtain ⟨z, hz, rfl⟩ := List.mem_map.1 hy
            exact hpre z hz) hp0, List.map_append]
          rfl
      refine ⟨Kept.of_turns ht (fun b hk => ⟨hKl b hk, fun hF => hb0 b (.inr hF) hk⟩), .inr ⟨_, A, c, habs, rfl, hA, hR.mono (fun b hb => hb.1), ?_⟩⟩
      have ha := Sp.abs_bring (x := Sp.first k) (i := i) (rest := rest) hnone
      have ha' : ((p'.bring (Sp.first k) i rest).pinUp k).abs = p'.abs ++ [(k, 1)] := ha
      rw [← ha']
      exact lp_make hd hlk h' hpn hfr' hDF hb0 hKl ht

theorem lp_unpin {K : Foot} {w : World} {gd gl gp n : Nat} {L : List (Nat × Nat)} (h : LpAt K w gd gl gp n L) {k m : Nat} (hk : k < 4294967296) (hm : (k, m) ∈ L) (h0 : 1 ≤ m) :
    Calls Tryz.prog 17 #[ptr gp, u32v k] w fun e w' => e = .returned (.int .i64 0) ∧ Kept K w w' ∧ LpAt K w' gd gl gp n (Sp.aUnpin L k) := by
  obtain ⟨p, D, F, dk, hd, hlk, hpl, rfl, hfr, rfl, hDF, hb0, hKl⟩ := h
  obtain ⟨it, hit, e⟩ := List.mem_map.1 hm
  injection e with e1 e2
  have hf := Sp.Pl.find_of hpl.wf hit
  rw [e1] at hf
  refine (pool_unpin hpl hk hf (by omega)).mono ?_
  rintro e w' ⟨rfl, h', ht⟩
  refine ⟨rfl, Kept.of_turns ht (fun b hk => ⟨hKl b hk, fun hF => hb0 b (.inr hF) hk⟩), ?_⟩
  rw [← Sp.abs_unpin]
  refine lp_make hd hlk h' rfl (fun y hy => ?_) hDF hb0 hKl ht
  obtain ⟨x, hx, rfl⟩ := Sp.Pl.upd_mem hy
  split <;> exact hfr x hx

theorem lp_pins {K : Foot} {w : World} {gd gl gp n : Nat} {L : List (Nat × Nat)} (h : LpAt K w gd gl gp n L) {k m : Nat} (hk : k < 4294967296) (hm : (k, m) ∈ L) :
    Calls Tryz.prog 24 #[ptr gp, u32v k] w fun e w' => e = .returned (.int .i64 m) ∧ w' = w := by
  obtain ⟨p, D, F, dk, hd, hlk, hpl, rfl, hfr, rfl, hDF, hb0, hKl⟩ := h
  obtain ⟨it, hit, e⟩ := List.mem_map.1 hm
  injection e with e1 e2
  have hf := Sp.Pl.find_of hpl.wf hit
  rw [e1] at hf
  rw [← e2]
  exact pool_pins_in hpl hk hf

theorem lp_pages {K : Foot} {w : World} {gd gl gp n : Nat} {L : List (Nat × Nat)} (h : LpAt K w gd gl gp n L) (h12 : n ≤ 12) :
    Calls Tryz.prog 26 #[ptr gp] w fun e w' => ∃ v, e = .returned v ∧ w'.ownsRow w.heap.size 28 1 v L.length ((Sp.sorted (L.map (·.1))).map u32v) ∧ Below w.heap.size w w' ∧ LpAt K w' gd gl gp n L := by
  have h' := h
  obtain ⟨p, D, F, dk, hd, hlk, hpl, rfl, hfr, rfl, hDF, hb0, hKl⟩ := h
  refine (pool_pages hpl h12).mono ?_
  rintro e w' ⟨v, rfl, hrow, hb⟩
  have e1 : p.abs.map (·.1) = p.items.map (·.page.id) := by simp [Sp.Pl.abs, Function.comp]
  have e2 : p.abs.length = p.items.length := by simp [Sp.Pl.abs]
  rw [e1, e2]
  exact ⟨v, rfl, hrow, hb, h'.below hb⟩

/-- A pool that has begun. -/
theorem begun_lp {w w' : World} {n : Nat} {e : Ending} (h : BegunPost w n e w') :
    ∃ gP gr gd gl gp, e = .returned (ptr gP) ∧ Blk w' gP 44 #[ptr gd, ptr gl, ptr gp, ptr gr] ∧ Below w.heap.size w w' ∧ LpAt (fun b => b < w.heap.size ∨ b = gP) w' gd gl gp n [] := by
  obtain ⟨gP, gr, gd, gl, gp, v, xs, D, F, dk, rfl, hP, _, _, _, hd, hlk, hpl, hDF, hb0, hb⟩ := h
  have hs := hb.size
  have hg := hP.lt
  refine ⟨gP, gr, gd, gl, gp, rfl, hP, hb, _, D, F, dk, hd, hlk, hpl, rfl, fun it h => by simp at h, rfl, hDF, fun b h hk => ?_, fun b hk => ?_⟩
  · obtain ⟨h1, h2, _⟩ := hb0 b h
    rcases hk with hk | hk <;> omega
  · rcases hk with hk | hk <;> omega
end Go.Proofs.YtndglfiepeefdaaGreat

/- PoolKeeps: how the law's pool stands between two calls, and what each call turns. No walk. -/
namespace Go.Proofs.YtndglfiepeefdaaGreat
open Go.RowKit Go.Conc

/-- The law's own strings. -/
def nowA (f : Nat → Sp.Bs) : Array Value := #[str (f 0), str (f 1), str (f 2), str (f 3), str (f 4), str (f 5), str (f 6)]
theorem nowA_at (f : Nat → Sp.Bs) {j : Nat} (h : j < 7) : (nowA f)[j]? = some (str (f j)) := by
  match j, h with
  | 0, _ | 1, _ | 2, _ | 3, _ | 4, _ | 5, _ | 6, _ => rfl
def updB (f : Nat → Sp.Bs) (n : Nat) (r : Sp.Bs) : Nat → Sp.Bs := fun q => if q = n then r else f q
theorem nowA_set (f : Nat → Sp.Bs) {n : Nat} (h : n < 7) (r : Sp.Bs) : (nowA f).setIfInBounds n (str r) = nowA (updB f n r) := by
  match n, h with
  | 0, _ | 1, _ | 2, _ | 3, _ | 4, _ | 5, _ | 6, _ => rfl

/-- The law between two calls: the pool, page q is in, page m is pinned; the law's strings are those of nb. -/
structure KpAt (B gP gN gd gl gp : Nat) (now nb : Nat → Sp.Bs) (m q lim : Nat) (K : Foot) (l : Sp.Lg) (s : Sp.R15) (w : World) : Prop where
  pk : PkAt ly15 K w gd gl gp l s
  kk : ∀ b, b < B ∨ b = gP ∨ b = gN → K b
  ki : Sp.KI now m s
  f6 : s.frames ≤ 6
  n8 : l.n = 8
  r0 : l.reserved = 0
  nx : l.next ≤ lim
  play : ∃ gr, Blk w gP 44 #[ptr gd, ptr gl, ptr gp, ptr gr]
  nowb : Blk w gN 9 (nowA nb)
  gP0 : B ≤ gP
  gN0 : B ≤ gN
  ne : gP ≠ gN
  inn : q ≠ 0 → ∃ y ∈ s.L, y.page.id = q

section
variable {B gP gN gd gl gp : Nat} {now nb : Nat → Sp.Bs} {m q lim : Nat} {K : Foot} {l : Sp.Lg} {s : Sp.R15} {w w' : World}
theorem KpAt.step (h : KpAt B gP gN gd gl gp now nb m q lim K l s w) {now' : Nat → Sp.Bs} {m' q' lim' : Nat} {K' : Foot} {l' : Sp.Lg} {s' : Sp.R15} (hk : Kept K w w') (hp : PkAt ly15 K' w' gd gl gp l' s') (hK : ∀ b, K b → K' b) (ki : Sp.KI now' m' s') (hf : s'.frames = s.frames) (hn : l'.n = l.n) (hr : l'.reserved = l.reserved)
    (hx : l'.next ≤ lim') (inn : q' ≠ 0 → ∃ y ∈ s'.L, y.page.id = q') : KpAt B gP gN gd gl gp now' nb m' q' lim' K' l' s' w' :=
  ⟨hp, fun b hb => hK b (h.kk b hb), ki, by rw [hf]; exact h.f6, by rw [hn]; exact h.n8, by rw [hr]; exact h.r0, hx, by
    obtain ⟨gr, hP⟩ := h.play
    exact ⟨gr, hP.keep (hk.block gP (h.kk _ (.inr (.inl rfl))))⟩, h.nowb.keep (hk.block gN (h.kk _ (.inr (.inr rfl)))), h.gP0, h.gN0, h.ne, inn⟩
theorem KpAt.mono (h : KpAt B gP gN gd gl gp now nb m q lim K l s w) {K' : Foot} (hK : ∀ b, K' b → K b) (hk : ∀ b, b < B ∨ b = gP ∨ b = gN → K' b) : KpAt B gP gN gd gl gp now nb m q lim K' l s w :=
  ⟨h.pk.mono hK, hk, h.ki, h.f6, h.n8, h.r0, h.nx, h.play, h.nowb, h.gP0, h.gN0, h.ne, h.inn⟩
theorem KpAt.lim_le (h : KpAt B gP gN gd gl gp now nb m q lim K l s w) {lim' : Nat} (hl : lim ≤ lim') : KpAt B gP gN gd gl gp now nb m q lim' K l s w :=
  ⟨h.pk, h.kk, h.ki, h.f6, h.n8, h.r0, Nat.le_trans h.nx hl, h.play, h.nowb, h.gP0, h.gN0, h.ne, h.inn⟩
theorem KpAt.q0 (h : KpAt B gP gN gd gl gp now nb m q lim K l s w) : KpAt B gP gN gd gl gp now nb m 0 lim K l s w :=
  ⟨h.pk, h.kk, h.ki, h.f6, h.n8, h.r0, h.nx, h.play, h.nowb, h.gP0, h.gN0, h.ne, fun e => absurd rfl e⟩
/-- New blocks. -/
theorem KpAt.more (h : KpAt B gP gN gd gl gp now nb m q lim K l s w) (hb : Below w.heap.size w w') {K' : Foot} (hK : ∀ b, K b → K' b) (hK' : ∀ b, K' b → K b ∨ (w.heap.size ≤ b ∧ b < w'.heap.size)) : KpAt B gP gN gd gl gp now nb m q lim K' l s w' :=
  h.step (Kept.of_below hb h.pk.lt) (h.pk.more hb hK') hK h.ki rfl rfl rfl h.nx h.inn
/-- A block of the law's own is written. -/
theorem KpAt.own (h : KpAt B gP gN gd gl gp now nb m q lim K l s w) {g : Nat} (hK : K g) (h1 : g ≠ gP) (h2 : g ≠ gN) (i : Nat) (v : Value) : KpAt B gP gN gd gl gp now nb m q lim K l s (w.setCell ⟨g, i, none⟩ v) := by
  have ht : Turns (only g) (only g) w (w.setCell ⟨g, i, none⟩ v) := (Turns.refl (only g) w).setCell (p := ⟨g, i, none⟩) (.inl rfl) v
  refine ⟨h.pk.turns ht (fun b hb => .inl (by obtain rfl : b = g := hb; exact hK)), h.kk, h.ki, h.f6, h.n8, h.r0, h.nx, ?_, h.nowb.far (fun e => h2 e.symm) v, h.gP0, h.gN0, h.ne, h.inn⟩
  obtain ⟨gr, hP⟩ := h.play
  exact ⟨gr, hP.far (fun e => h1 e.symm) v⟩
/-- One of the law's strings. -/
theorem KpAt.setn (h : KpAt B gP gN gd gl gp now nb m q lim K l s w) {n : Nat} (hn : n < 7) (r : Sp.Bs) : KpAt B gP gN gd gl gp now (updB nb n r) m q lim K l s (w.setCell ⟨gN, n, none⟩ (str r)) := by
  have ht : Turns (only gN) (only gN) w (w.setCell ⟨gN, n, none⟩ (str r)) := (Turns.refl (only gN) w).setCell (p := ⟨gN, n, none⟩) (.inl rfl) (str r)
  refine ⟨h.pk.turns ht (fun b hb => .inl (by obtain rfl : b = gN := hb; exact h.kk _ (.inr (.inr rfl)))), h.kk, h.ki, h.f6, h.n8, h.r0, h.nx, ?_, ?_, h.gP0, h.gN0, h.ne, h.inn⟩
  · obtain ⟨gr, hP⟩ := h.play
    exact ⟨gr, hP.far (fun e => h.ne e) _⟩
  · rw [← nowA_set nb hn r]; exact h.nowb.set_ n _
theorem KpAt.next (h : KpAt B gP gN gd gl gp now nb m q lim K l s w) : s.next = l.next := by
  obtain ⟨p, dk, hr⟩ := h.pk.rep
  exact hr.next

theorem kp_pin (h : KpAt B gP gN gd gl gp now nb 0 q lim K l s w) {n : Nat} (h1 : 1 ≤ n) (h6 : n ≤ 6) :
    Calls Tryz.prog 11 #[ptr gp, u32v n] w fun e w' => ∃ (x : Sp.Pg) (b o cc : Nat) (l' : Sp.Lg) (s' : Sp.R15), e = .returned (.tuple #[pgV x (some ⟨b, o, none⟩) cc, .int .i64 0]) ∧ x.wf ∧ x.may ∧ x.id = n ∧ x.rows = [now n] ∧
      w'.cell? ⟨b, o, none⟩ = some (str (now n)) ∧ w.heap.size ≤ b ∧ b < w'.heap.size ∧ Kept K w w' ∧ KpAt B gP gN gd gl gp now nb n n lim K l' s' w' := by
  have hp0 : ∀ x ∈ s.L, x.pins < 1000000 := fun x hx => by
    have := h.ki.free x hx
    rw [if_neg (by have := (h.ki.inr x hx).1; omega)] at this
    omega
  obtain ⟨x, s', e1, hid, hrow, hki, hnx, hfr, y, hy, hyi, hyp, hypn⟩ := h.ki.pin h1 h6
  refine (pk_pin h.pk (k := n) (by omega) hp0).mono ?_
  rintro e w' ⟨hk, hh⟩
  rw [e1] at hh
  rcases hh with ⟨h0, _⟩ | ⟨x', A, cc, hx', _, hwf, hmay, rfl, hA, hR, hpk⟩
  · cases h0
  · injection hx' with hx'
    subst hx'
    obtain ⟨b, o, rfl, hg, hbl, hc⟩ := hR.row (k := 0) (by rw [hrow]; exact Nat.one_pos)
    simp only [hrow, List.getElem_cons_zero, Nat.add_zero] at hc
    refine ⟨x, b, o, cc, _, s', rfl, hwf, hmay, hid, hrow, hc, hg.1, hbl, hk, h.step (l' := { l with forced := s'.forced }) hk (hpk.mono (fun b hb => .inl hb)) (fun b hb => hb) hki hfr rfl rfl h.nx (fun _ => ⟨y, hy, hyi⟩)⟩
theorem kp_unpin (h : KpAt B gP gN gd gl gp now nb m m lim K l s w) (h1 : m ≠ 0) (h6 : m ≤ 6) :
    Calls Tryz.prog 17 #[ptr gp, u32v m] w fun e w' => ∃ (l' : Sp.Lg) (s' : Sp.R15), e = .returned (.int .i64 0) ∧ Kept K w w' ∧ KpAt B gP gN gd gl gp now nb 0 m lim K l' s' w' := by
  obtain ⟨e1, hki, _, hfr, hin⟩ := h.ki.unpin (h.inn h1)
  refine (pk_unpin h.pk (k := m) (by omega)).mono ?_
  rintro e w' ⟨hk, rfl, hp⟩
  exact ⟨_, _, by rw [e1]; rfl, hk, h.step hk hp (fun b hb => hb) hki hfr rfl rfl h.nx (fun _ => hin)⟩
theorem kp_flush (h : KpAt B gP gN gd gl gp now nb 0 q lim K l s w) (h1 : q ≠ 0) (h6 : q ≤ 6) {g c : Nat} (hg : g < w.heap.size) (hc : w.cell? ⟨g, 0, none⟩ = some (u32v q)) :
    Calls Tryz.prog 18 #[ptr gp, .slice (some ⟨g, 0, none⟩) 1 c] w fun e w' => ∃ (l' : Sp.Lg) (s' : Sp.R15), e = .returned (.int .i64 0) ∧ Kept K w w' ∧ KpAt B gP gN gd gl gp now nb 0 0 lim K l' s' w' := by
  obtain ⟨e1, hki, _, hfr⟩ := h.ki.flush (h.inn h1)
  refine (pk_flush (G := only g) h.pk (by have := h.f6; omega) (q := [q]) (.inr ⟨g, 0, rfl⟩) (fun e => absurd e (by simp)) ⟨rfl, fun _ => ⟨g, 0, rfl, rfl, hg, fun j u hu => ?_⟩⟩ (fun n hn => ?_) (by simp) (fun e => absurd e (by simp))).mono ?_
  · match j, hu with
    | 0, hu => injection hu with hu; subst hu; exact hc
  · rw [List.mem_singleton.1 hn]; omega
  · rintro e w' ⟨hk, rfl, hp⟩
    exact ⟨_, _, by rw [e1]; rfl, hk, h.step hk hp (fun b hb => hb) hki hfr rfl rfl h.nx (fun e => absurd rfl e)⟩
theorem kp_evict (h : KpAt B gP gN gd gl gp now nb 0 q lim K l s w) (h1 : q ≠ 0) (h6 : q ≤ 6) :
    Calls Tryz.prog 19 #[ptr gp, u32v q] w fun e w' => ∃ (l' : Sp.Lg) (s' : Sp.R15), e = .returned (.int .i64 0) ∧ Kept K w w' ∧ KpAt B gP gN gd gl gp now nb 0 0 lim K l' s' w' := by
  obtain ⟨e1, hki, _, hfr⟩ := h.ki.evict (h.inn h1)
  refine (pk_evict h.pk (k := q) (by omega)).mono ?_
  rintro e w' ⟨hk, rfl, hp⟩
  exact ⟨_, _, by rw [e1]; rfl, hk, h.step hk hp (fun b hb => hb) hki hfr rfl rfl h.nx (fun e => absurd rfl e)⟩
theorem kp_put (h : KpAt B gP gN gd gl gp now nb m m lim K l s w) (h1 : 1 ≤ m) {x : Sp.Pg} (hwf : x.wf) (hm : x.may) (hid : x.id = m) {r : Sp.Bs} (hr : x.rows = [r]) (hl : x.lsn < l.next) {g c : Nat} (hg : g < w.heap.size) (hc : w.cell? ⟨g, 0, none⟩ = some (str r)) :
    Calls Tryz.prog 16 #[ptr gp, pgV x (some ⟨g, 0, none⟩) c] w fun e w' => ∃ (l' : Sp.Lg) (s' : Sp.R15), e = .returned (.int .i64 0) ∧ Kept K w w' ∧ KpAt B gP gN gd gl gp (updB now m r) nb m m lim K l' s' w' := by
  obtain ⟨e1, hki, _, hfr, hin⟩ := h.ki.put h1 hid hr (by rw [h.next]; exact hl) (h.inn (by omega))
  have hmb : mayB x = true := (mayB_iff x).2 hm
  have ht := hm.2.2.2.2
  refine (pk_put (G := only g) h.pk hwf (.inr ⟨g, 0, rfl⟩) ?_ (by omega) (by omega)).mono ?_
  · rw [hr]
    exact ⟨rfl, fun _ => ⟨g, 0, rfl, rfl, hg, fun j u hu => by
      match j, hu with
      | 0, hu => injection hu with hu; subst hu; exact hc⟩⟩
  · rintro e w' ⟨hk, rfl, hp⟩
    rw [hmb] at hp ⊢
    exact ⟨_, _, by rw [e1]; rfl, hk, h.step hk hp (fun b hb => hb) hki hfr rfl rfl h.nx (fun _ => hin)⟩
/-- Append of a short row: it goes in, or the log is full. -/
theorem kp_append (h : KpAt B gP gN gd gl gp now nb m q lim K l s w) (hlim : lim < 1000000000000) {t : Sp.Bs} (h1 : 1 ≤ t.length) (h99 : t.length ≤ 99) :
    Calls Tryz.prog 12 #[ptr gl, str t] w fun e w' => Kept K w w' ∧
      ((∃ (l' : Sp.Lg) (s' : Sp.R15), 14 + t.length ≤ l.left ∧ e = .returned (.tuple #[.int .u64 l.next, .int .i64 0]) ∧ l.next < l'.next ∧ KpAt B gP gN gd gl gp now nb m q (l.next + 113) K l' s' w') ∨
       (l.left < 14 + t.length ∧ e = .returned (.tuple #[.int .u64 0, .int .i64 4]) ∧ KpAt B gP gN gd gl gp now nb m q lim K l s w')) := by
  have hn := h.nx
  refine (pk_append h.pk (by omega) (by rw [h.r0]; omega) t (by omega)).mono ?_
  rintro e w' ⟨hk, hh⟩
  refine ⟨hk, ?_⟩
  rcases hh with ⟨_, _, hl, he, hp⟩ | ⟨_, _, hl, he, hp⟩ | ⟨hbad, _⟩
  · refine .inl ⟨_, _, hl, he, ?_, h.step hk hp (fun b hb => hb) (h.ki.longer (by rw [h.next]; omega)) rfl rfl rfl ?_ h.inn⟩
    · show l.next < l.next + (14 + t.length); omega
    · show l.next + (14 + t.length) ≤ _; omega
  · exact .inr ⟨hl, he, h.step hk hp (fun b hb => hb) h.ki rfl rfl rfl h.nx h.inn⟩
  · omega
/-- Force, Keep up to the end. -/
theorem kp_force (h : KpAt B gP gN gd gl gp now nb m q lim K l s w) :
    Calls Tryz.prog 14 #[ptr gl, .int .u64 l.next] w fun e w' => e = .returned (.int .i64 0) ∧ Kept K w w' ∧ KpAt B gP gN gd gl gp now nb m q lim K { l with forced := l.next } { s with forced := l.next } w' := by
  refine (pk_force h.pk).mono ?_
  rintro e w' ⟨hk, rfl, hp⟩
  refine ⟨rfl, hk, h.step hk hp (fun b hb => hb) ?_ rfl rfl rfl h.nx h.inn⟩
  rw [← h.next]; exact h.ki.forced
theorem kp_keep (h : KpAt B gP gN gd gl gp now nb m q lim K l s w) (hf : l.forced = l.next) (hl : l.left < 113) :
    Calls Tryz.prog 15 #[ptr gl, .int .u64 l.next] w fun e w' => e = .returned (.int .i64 0) ∧ Kept K w w' ∧ KpAt B gP gN gd gl gp now nb m q lim K (l.keep l.next) s w' := by
  have hn := h.n8
  have hr := h.r0
  unfold Sp.Lg.left at hl
  refine (pk_keep h.pk hf (by omega)).mono ?_
  rintro e w' ⟨hk, rfl, hp⟩
  exact ⟨rfl, hk, h.step hk hp (fun b hb => hb) h.ki rfl rfl rfl h.nx h.inn⟩
/-- Behind Keep there is room. -/
theorem kp_room (h : KpAt B gP gN gd gl gp now nb m q lim K (l.keep l.next) s w) : 113 ≤ (l.keep l.next).left := by
  obtain ⟨p, dk, hr⟩ := h.pk.rep
  have h1 := hr.lwf.len
  have hn := h.n8
  have hr := h.r0
  have h2 : (l.keep l.next).first = l.next := rfl
  have h3 : (l.keep l.next).next = l.next := rfl
  rw [h2, h3] at h1
  unfold Sp.Lg.left
  unfold Sp.bg at h1
  omega
end
end Go.Proofs.YtndglfiepeefdaaGreat

/- The walk of the law package pentimentolaw15: works. -/
namespace Go.Proofs.YtndglfiepeefdaaGreat
open Go.RowKit Go.Conc

theorem lp_pin_ok {K : Foot} {w : World} {gd gl gp n : Nat} {L L' : List (Nat × Nat)} (h : LpAt K w gd gl gp n L) {k : Nat} (h1 : 1 ≤ k) (h6 : k ≤ 6) (hs : ∀ x ∈ L, x.2 < 1000000) (ha : Sp.aPin n L k = some L') :
    Calls Tryz.prog 11 #[ptr gp, u32v k] w fun e w' => ∃ A c, e = .returned (.tuple #[pgV (Sp.first k) A c, .int .i64 0]) ∧ OkAddr A ∧ RowsAt (fun b => w.heap.size ≤ b) w' A (Sp.first k).rows ∧ LpAt K w' gd gl gp n L' ∧ Kept K w w' := by
  refine (lp_pin h h1 h6 hs).mono ?_
  rintro e w' ⟨hk, (⟨ha', _⟩ | ⟨M, A, c, ha', rfl, hA, hR, hL⟩)⟩
  · rw [ha] at ha'; cases ha'
  · rw [ha] at ha'; injection ha' with e; subst e
    exact ⟨A, c, rfl, hA, hR, hL, hk⟩
theorem lp_pin_full {K : Foot} {w : World} {gd gl gp n : Nat} {L : List (Nat × Nat)} (h : LpAt K w gd gl gp n L) {k : Nat} (h1 : 1 ≤ k) (h6 : k ≤ 6) (hs : ∀ x ∈ L, x.2 < 1000000) (ha : Sp.aPin n L k = none) :
    Calls Tryz.prog 11 #[ptr gp, u32v k] w fun e w' => e = .returned (.tuple #[zeroPgV, .int .i64 4]) ∧ LpAt K w' gd gl gp n L ∧ Kept K w w' := by
  refine (lp_pin h h1 h6 hs).mono ?_
  rintro e w' ⟨hk, (⟨_, he, hL⟩ | ⟨M, A, c, ha', _⟩)⟩
  · exact ⟨he, hL, hk⟩
  · rw [ha] at ha'; cases ha'
/-- The block of the law's Play: its pool. -/
theorem play_cell {w : World} {gP gd gl gp gr : Nat} (h : Blk w gP 44 #[ptr gd, ptr gl, ptr gp, ptr gr]) : w.cell? ⟨gP, 2, none⟩ = some (ptr gp) := h.cell 2

set_option maxRecDepth 100000 in
set_option maxHeartbeats 1000000 in
theorem law_works (w : World) : Calls Tryz.prog 7 #[] w fun e w' => e = .returned (.bool true) ∧ Below w.heap.size w w' := by
  have HB := Lib.hid fun (W : World) => law_begun 2 (by omega) (by omega) W
  go_enter Tryz.func7, Tryz.ntmps7
  go_wp2_with fail
  refine (HB.out w).mono ?_
  rintro e w1 hpost
  obtain ⟨gP, gr, gd, gl, gp, rfl, hP, hb, hL⟩ := begun_lp hpost
  clear hpost HB
  have HL := Lib.hid hL
  have HP := Lib.hid hP
  have c2 := play_cell hP
  clear hL hP
  go_wp2_with fail
  refine (lp_pin_ok HL.out (k := 1) (by omega) (by omega) (by simp) (L' := [(1, 1)]) rfl).mono ?_
  rintro e w2 ⟨A, c, rfl, hA, hR, hL, hk⟩
  have HP2 := Lib.hid (HP.out.kept hk (.inr rfl))
  have hb2 := hb.trans (hk.below (fun b hb => .inl hb))
  have hl2 := Lib.hid hL
  clear c2 hA hR hL hk HL HP hb
  have c2 := play_cell HP2.out
  have hg := HP2.out.lt
  go_wp2_with fail
  refine (lp_pin_ok (hl2.out.below ((Below.refl _ w2).alloc (Nat.le_refl _) _)) (k := 2) (by omega) (by omega) (by simp) (L' := [(1, 1), (2, 1)]) rfl).mono ?_
  rintro e w3 ⟨A', c', rfl, hA, hR, hL, hk⟩
  have hk := (Kept.of_below ((Below.refl w2.heap.size w2).alloc (Nat.le_refl _) (.cells (pgCs (Sp.first 1) A c) 32)) hl2.out.lt).trans hk
  have HP3 := Lib.hid (HP2.out.kept hk (.inr rfl))
  have hb3 := hb2.trans (hk.below (fun b hb => .inl hb))
  have hl3 := Lib.hid hL
  clear c2 hA hR hL hk hl2 HP2 hb2 hg
  have c2 := play_cell HP3.out
  have hg := HP3.out.lt
  go_wp2_with fail
  refine (lp_pin_full (hl3.out.below ((Below.refl _ w3).alloc (Nat.le_refl _) _)) (k := 3) (by omega) (by omega) (by simp) rfl).mono ?_
  rintro e w4 ⟨rfl, hL, hk⟩
  have hk := (Kept.of_below ((Below.refl w3.heap.size w3).alloc (Nat.le_refl _) (.cells (pgCs (Sp.first 2) A' c') 32)) hl3.out.lt).trans hk
  have HP4 := Lib.hid (HP3.out.kept hk (.inr rfl))
  have hb4 := hb3.trans (hk.below (fun b hb => .inl hb))
  have hl4 := Lib.hid hL
  clear c2 hL hk hl3 HP3 hb3 hg
  have c2 := play_cell HP4.out
  have hg := HP4.out.lt
  go_wp2_with fail
  refine (lp_unpin (hl4.out.below ((Below.refl _ w4).alloc (Nat.le_refl _) _)) (k := 1) (m := 1) (by omega) (by simp) (by omega)).mono ?_
  rintro e w5 ⟨rfl, hk, hL⟩
  have hk := (Kept.of_below ((Below.refl w4.heap.size w4).alloc (Nat.le_refl _) (.cells zeroPgV.cells 32)) hl4.out.lt).trans hk
  have HP5 := Lib.hid (HP4.out.kept hk (.inr rfl))
  have hb5 := hb4.trans (hk.below (fun b hb => .inl hb))
  have hl5 := Lib.hid hL
  clear c2 hL hk hl4 HP4 hb4 hg
  have c2 := play_cell HP5.out
  go_wp2_with fail
  refine (lp_pin_ok (L := [(1, 0), (2, 1)]) hl5.out (k := 3) (by omega) (by omega) (by simp) (L' := [(2, 1), (3, 1)]) rfl).mono ?_
  rintro e w6 ⟨A6, c6, rfl, hA, hR, hL, hk⟩
  have HP6 := Lib.hid (HP5.out.kept hk (.inr rfl))
  have hb6 := hb5.trans (hk.below (fun b hb => .inl hb))
  have hl6 := Lib.hid hL
  clear c2 hL hk hl5 HP5 hb5
  have c2 := play_cell HP6.out
  have hg := HP6.out.lt
  go_wp2_with fail
  refine (lp_pages (hl6.out.below ((Below.refl _ w6).alloc (Nat.le_refl _) _)) (by omega)).mono ?_
  rintro e w7 ⟨v, rfl, hrow, hb7, hL⟩
  have es : Sp.sorted (List.map (·.1) [(2, 1), (3, 1)]) = [2, 3] :=
    List.Perm.eq_of_pairwise (le := fun a b => a ≤ b) (fun _ _ _ _ h1 h2 => Nat.le_antisymm h1 h2) (Sp.sorted_spec _).2 (by simp) (Sp.sorted_spec _).1
  rw [es] at hrow
  clear es
  have hb6' := (Below.refl w6.heap.size w6).alloc (Nat.le_refl _) (.cells (pgCs (Sp.first 3) A6 c6) 32)
  have hb67 : Below w6.heap.size w6 w7 := hb6'.trans (hb7.mono hb6'.size)
  have hB6 := (Blk.new w6 32 (pgCs (Sp.first 3) A6 c6)).below hb7 (by simp)
  have d2 := hB6.cell 2
  have hb8 := Lib.hid (hb6.trans (hb67.mono hb6.size))
  obtain ⟨g, cap, rfl, q0, q1⟩ : ∃ g cap, v = .slice (some ⟨g, 0, none⟩) 2 cap ∧ w7.cell? ⟨g, 0, none⟩ = some (.int .u32 2) ∧ w7.cell? ⟨g, 1, none⟩ = some (.int .u32 3) := by
    rcases hrow.2 with ⟨_, h0⟩ | ⟨g, cap, cur, rfl, _, _, _⟩
    · simp at h0
    · have hc := hrow.cells (g := g) rfl
      exact ⟨g, cap, rfl, hc 0 _ rfl, hc 1 _ rfl⟩
  clear hrow hb6' hb67 hb7 hb6 hB6 hL hA hR
  simp only [List.getElem?_toArray, List.getElem?_cons_succ, List.getElem?_cons_zero] at d2
  go_wp2_with fail
  go_ret
  exact ⟨rfl, hb8.out⟩
end Go.Proofs.YtndglfiepeefdaaGreat

/- The walk of the law package pentimentolaw15: Heavy. -/
namespace Go.Proofs.YtndglfiepeefdaaGreat
open Go.RowKit Go.Conc

/-- What Heavy looks at, of an act. -/
structure HvA where
  row : ByteArray
  np : Nat
  rows : List ByteArray
def sizes (l : List ByteArray) : Nat := (l.map ByteArray.size).sum
def HvA.w (a : HvA) : Nat := a.row.size + a.np + 4 * a.rows.length + sizes (a.rows.take 50)
def hvSum (l : List HvA) : Nat := (l.map HvA.w).sum
def hvB (l : List HvA) : Bool := decide (60 < l.length) || decide (4000 < hvSum (l.take 100))
/-- An act within the reach. -/
def HvA.ok (a : HvA) : Prop := a.row.size ≤ 140737488355328 ∧ a.np ≤ 140737488355328 ∧ a.rows.length ≤ 140737488355328 ∧ ∀ s ∈ a.rows, s.size ≤ 140737488355328

theorem sizes_snoc (l : List ByteArray) (s : ByteArray) : sizes (l ++ [s]) = sizes l + s.size := by simp [sizes]
theorem hvSum_snoc (l : List HvA) (a : HvA) : hvSum (l ++ [a]) = hvSum l + a.w := by simp [hvSum]
theorem sizes_le : ∀ (l : List ByteArray), (∀ s ∈ l, s.size ≤ 140737488355328) → sizes l ≤ l.length * 140737488355328
  | [], _ => by simp [sizes]
  | s :: l, h => by
    have h1 := h s List.mem_cons_self
    have h2 := sizes_le l (fun x hx => h x (List.mem_cons_of_mem _ hx))
    unfold sizes at h2 ⊢
    simp only [List.map_cons, List.sum_cons, List.length_cons]
    omega
theorem HvA.w_le {a : HvA} (h : a.ok) : a.w ≤ 56 * 140737488355328 := by
  obtain ⟨h1, h2, h3, h4⟩ := h
  have := sizes_le (a.rows.take 50) (fun s hs => h4 s (List.mem_of_mem_take hs))
  have hl : (a.rows.take 50).length ≤ 50 := by simp; omega
  unfold HvA.w
  omega
theorem hvSum_le : ∀ (l : List HvA), (∀ a ∈ l, a.ok) → hvSum l ≤ l.length * (56 * 140737488355328)
  | [], _ => by simp [hvSum]
  | s :: l, h => by
    have h1 := HvA.w_le (h s List.mem_cons_self)
    have h2 := hvSum_le l (fun x hx => h x (List.mem_cons_of_mem _ hx))
    unfold hvSum at h2 ⊢
    simp only [List.map_cons, List.sum_cons, List.length_cons]
    omega

/-- The acts in memory, as far as Heavy looks. -/
def HvAt (w : World) (A : Option Addr) (l : List HvA) : Prop :=
  0 < l.length → ∃ b o, A = some ⟨b, o, none⟩ ∧ b < w.heap.size ∧ ∀ i a, l[i]? = some a → w.cell? ⟨b, o + i * 11 + 9, none⟩ = some (.string a.row) ∧ (∃ P c, w.cell? ⟨b, o + i * 11 + 10, none⟩ = some (.slice P a.np c)) ∧
    ∃ R c, w.cell? ⟨b, o + i * 11 + 7, none⟩ = some (.slice R a.rows.length c) ∧ Reads (fun b => b < w.heap.size) w 1 R a.rows.length (a.rows.map Value.string)

theorem hv_below {W w1 : World} (hb : Below W.heap.size W w1) {b o : Nat} {v : Value} (hl : b < W.heap.size) (h : W.cell? ⟨b, o, none⟩ = some v) : w1.cell? ⟨b, o, none⟩ = some v := (hb.cell (p := ⟨b, o, none⟩) hl).trans h

set_option maxRecDepth 100000 in
set_option maxHeartbeats 2000000 in
theorem law_heavy (A : Option Addr) (cap : Nat) (l : List HvA) (hl : l.length ≤ 140737488355328) (hok : ∀ a ∈ l, a.ok) (w : World) (h : HvAt w A l) :
    Calls Tryz.prog 6 #[.slice A l.length cap] w fun e w' => e = .returned (.bool (hvB l)) ∧ Below w.heap.size w w' := by
  have H := Lib.hid h
  have HOK := Lib.hid hok
  clear h hok
  go_enter Tryz.func6, Tryz.ntmps6
  go_wp2_with fail
  go_loopw [3, 4] (fun n i wr => ∃ k : Nat, k ≤ l.length ∧ k ≤ 100 ∧ i = .int .i64 k ∧ n = .int .i64 (hvSum (l.take k) : Nat) ∧ Below w.heap.size w wr) (fun _ i _ => 100 - (intOf i).toNat)
  case atStart => exact ⟨0, by omega, by omega, rfl, rfl, Below.refl _ _⟩
  case round =>
    obtain ⟨k, hk, hk1, rfl, rfl, hbk⟩ := hrel
    have hsum := hvSum_le (l.take k) (fun a ha => HOK.out a (List.mem_of_mem_take ha))
    have hlk : (l.take k).length ≤ 100 := by simp; omega
    have hs63 : hvSum (l.take k) ≤ 100 * (56 * 140737488355328) := Nat.le_trans hsum (Nat.mul_le_mul_right _ hlk)
    by_cases hc : k < l.length ∧ k < 100
    · obtain ⟨hlt, h100⟩ := hc
      obtain ⟨a, ha⟩ : ∃ a, l[k]? = some a := ⟨l[k], List.getElem?_eq_getElem hlt⟩
      have hao := HOK.out a (List.mem_of_getElem? ha)
      have haw := HvA.w_le hao
      obtain ⟨b, o, rfl, hb, hcells⟩ := H.out (by omega)
      obtain ⟨c9, ⟨Pp, cp, c10⟩, R, cr, c7, hR⟩ := hcells k a ha
      have c9 := hv_below hbk hb c9
      have c10 := hv_below hbk hb c10
      have c7 := hv_below hbk hb c7
      have HR := Lib.hid hR
      have hts : l.take (k + 1) = l.take k ++ [a] := by
        rw [List.take_succ_eq_append_getElem hlt]
        have : l[k] = a := by rw [List.getElem?_eq_getElem hlt] at ha; injection ha
        rw [this]
      have HS := Lib.hid (show hvSum (l.take (k + 1)) = hvSum (l.take k) + a.w by rw [hts, hvSum_snoc])
      clear hts hcells ha hsum hlk hR
      generalize hvSum (l.take k) = n0 at *
      obtain ⟨h1, h2, h3, h4⟩ := hao
      have hR4 := Lib.hid h4
      clear h4
      have haw' : a.row.size + a.np + 4 * a.rows.length ≤ 56 * 140737488355328 := by unfold HvA.w at haw; omega
      go_wp2_with fail
      go_quiet (fail)
      go_wp2_with fail
      obtain ⟨wq, hwq⟩ : ∃ wq, wq = wr.drewN nq := ⟨_, rfl⟩
      have hbq : Below w.heap.size w wq := by rw [hwq]; exact ⟨hbk.os, hbk.tape, hbk.output, hbk.size, hbk.block⟩
      have c7q : wq.cell? ⟨b, o + k * 11 + 7, none⟩ = some (.slice R a.rows.length cr) := by rw [hwq]; exact c7
      rw [← hwq]
      obtain ⟨m, hm⟩ : ∃ m, m = n0 + a.row.size + a.np + 4 * a.rows.length := ⟨_, rfl⟩
      have em : (n0 : Int) + a.row.size + a.np + 4 * a.rows.length = (m : Int) := by omega
      rw [em]
      have hm2 : m ≤ 100 * (56 * 140737488355328) + 56 * 140737488355328 := by omega
      have HM := Lib.hid hm
      have hbwq : wr.heap.size = wq.heap.size := by rw [hwq]; rfl
      have c7q' : Below wq.heap.size wr wq := by rw [hwq]; exact ⟨rfl, rfl, rfl, Nat.le_refl _, fun _ _ => rfl⟩
      clear hm em c9 c10 c7 hwq haw' hbk hbwq c7q'
      go_loopw [3, 5] (fun n i wz => ∃ j : Nat, j ≤ a.rows.length ∧ j ≤ 50 ∧ i = .int .i64 j ∧ n = .int .i64 (m + sizes (a.rows.take j) : Nat) ∧ Below wq.heap.size wq wz) (fun _ i _ => 50 - (intOf i).toNat)
      case atStart => exact ⟨0, by omega, by omega, rfl, rfl, Below.refl _ _⟩
      case round =>
        obtain ⟨j, hj, hj1, rfl, rfl, hbj⟩ := hrel
        have hbl : b < wq.heap.size := Nat.lt_of_lt_of_le hb hbq.size
        have c7z := hv_below hbj hbl c7q
        have hsz := sizes_le (a.rows.take j) (fun s hs => hR4.out s (List.mem_of_mem_take hs))
        have hlj : (a.rows.take j).length ≤ 50 := by simp; omega
        have hsz2 : sizes (a.rows.take j) ≤ 50 * 140737488355328 := Nat.le_trans hsz (Nat.mul_le_mul_right _ hlj)
        by_cases hc2 : j < a.rows.length ∧ j < 50
        · obtain ⟨hlt2, h50⟩ := hc2
          obtain ⟨b3, o3, u, rfl, hb3, hb3l, hu, hc3⟩ := HR.out.at_ hlt2
          obtain ⟨s, hs⟩ : ∃ s, a.rows[j]? = some s := ⟨a.rows[j], List.getElem?_eq_getElem hlt2⟩
          have hu' : u = .string s := by
            have : (a.rows.map Value.string)[j]? = some (.string s) := by rw [List.getElem?_map, hs]; rfl
            rw [hu] at this; injection this
          rw [hu'] at hc3
          have hc3' := hv_below hbj (Nat.lt_of_lt_of_le hb3 hbq.size) (hv_below hbq hb3 hc3)
          have hss := hR4.out s (List.mem_of_getElem? hs)
          have hts : a.rows.take (j + 1) = a.rows.take j ++ [s] := by
            rw [List.take_succ_eq_append_getElem hlt2]
            have : a.rows[j] = s := by rw [List.getElem?_eq_getElem hlt2] at hs; injection hs
            rw [this]
          have HS2 := Lib.hid (show sizes (a.rows.take (j + 1)) = sizes (a.rows.take j) + s.size by rw [hts, sizes_snoc])
          clear hu hu' hc3 hs hts hsz hlj hb3
          generalize sizes (a.rows.take j) = n1 at *
          go_wp2_with fail
          go_roundw
          case rel => exact ⟨j + 1, hlt2, h50, by go_num, by rw [HS2.out]; go_num, hbj⟩
          case measure => simp [intOf]; omega
        · have e50 : a.rows.take j = a.rows.take 50 := by
            by_cases h50 : j = 50
            · rw [h50]
            · rw [List.take_of_length_le (by omega), List.take_of_length_le (by omega)]
          have HE : Hid (hvSum (l.take (k + 1)) = m + sizes (a.rows.take j)) := Lib.hid (by rw [HS.out, HM.out, e50]; unfold HvA.w; omega)
          clear e50 hsz hlj
          generalize sizes (a.rows.take j) = n1 at *
          by_cases hlt2 : j < a.rows.length
          · have h50 : ¬ j < 50 := fun h => hc2 ⟨hlt2, h⟩
            clear hc2
            go_wp2_with fail
            go_roundw
            case rel => exact ⟨k + 1, hlt, h100, by go_num, by rw [HE.out], hbq.trans (hbj.mono hbq.size)⟩
            case measure => simp [intOf]; omega
          · clear hc2
            go_wp2_with fail
            go_roundw
            case rel => exact ⟨k + 1, hlt, h100, by go_num, by rw [HE.out], hbq.trans (hbj.mono hbq.size)⟩
            case measure => simp [intOf]; omega
    · have e100 : l.take k = l.take 100 := by
        by_cases h100 : k = 100
        · rw [h100]
        · rw [List.take_of_length_le (by omega), List.take_of_length_le (by omega)]
      have HB : Hid (hvB l = (decide (60 < l.length) || decide (4000 < hvSum (l.take k)))) := Lib.hid (by rw [e100]; rfl)
      clear e100 hsum hlk
      generalize hvSum (l.take k) = n0 at *
      by_cases hlt : k < l.length
      · have h100 : ¬ k < 100 := fun h => hc ⟨hlt, h⟩
        have h60 : 60 < l.length := by omega
        clear hc
        go_wp2_with fail
        go_ret
        exact ⟨by rw [HB.out]; simp [h60], hbk⟩
      · clear hc
        by_cases h60 : 60 < l.length
        · go_wp2_with fail
          go_ret
          exact ⟨by rw [HB.out]; simp [h60], hbk⟩
        · go_wp2_with fail
          go_ret
          refine ⟨?_, hbk⟩
          rw [HB.out]
          simp only [h60, decide_false, Bool.false_or]
          have e1 : decide (60 < (l.length : Int)) = false := by rw [decide_eq_false_iff_not]; omega
          rw [e1, Bool.false_or]
          have e2 : decide (4000 < (n0 : Int)) = decide (4000 < n0) := decide_eq_decide.2 (by omega)
          rw [e2]
          rfl
end Go.Proofs.YtndglfiepeefdaaGreat
