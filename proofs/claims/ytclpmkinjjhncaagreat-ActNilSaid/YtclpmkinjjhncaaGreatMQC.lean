/- The walks of package pool: Unpin. -/
import Derived.Test.YtclpmkinjjhncaaGreatMQB
import Derived.Shelf.Small.Bits
import Derived.Ground.Names2Prog
import Derived.Test.YtclpmkinjjhncaaGreatProg
import Derived.Sort.WalkA
import Derived.Sort.LotA
import Derived.Test.YtclpmkinjjhncaaGreatMQA
import Derived.Maps.RangeWalk
import Derived.Lib.AppendStr
import Derived.Tactics
import Derived.WalkKit
import Derived.Deep.DeepCutAuto

namespace Go.Proofs.YtclpmkinjjhncaaGreat
open Go.RowKit Go.Conc

theorem frCells_pins (it : Sp.It) (A : Option Addr) (c k j : Nat) (hj : j < 9) : (frCells { it with pins := k } A c)[j]? = if j = 6 then some (.int .i64 (k : Int)) else (frCells it A c)[j]? := by
  match j, hj with
  | 0, _ | 1, _ | 2, _ | 3, _ | 4, _ | 5, _ | 6, _ | 7, _ | 8, _ => rfl

/-- How often a page is pinned, turned. -/
theorem IsPlAt.pinned {F R : Foot} {w : World} {gp gd gl at_ base fb cb mb s r : Nat} {v : Value} {cs : Array Value} {fl ids : List Nat} {p : Sp.Pl} (h : IsPlAt F R w gp gd gl at_ base fb cb mb v s r cs fl ids p) {it : Sp.It} (hit : it ∈ p.items) (f : Nat → Nat) (hk : f it.pins ≤ 1000000000) :
    IsPlAt F R (w.setCell ⟨fb, it.idx * 9 + 6, none⟩ (.int .i64 (f it.pins : Nat))) gp gd gl at_ base fb cb mb v s r (cs.setIfInBounds (it.idx * 9 + 6) (.int .i64 (f it.pins : Nat))) fl ids (p.upd it.page.id fun x => { x with pins := f x.pins }) := by
  obtain ⟨A, c, hA, hR, hc⟩ := h.fr.item it hit
  have hkeep : ∀ b, F b → b ≠ fb → (w.setCell ⟨fb, it.idx * 9 + 6, none⟩ (.int .i64 (f it.pins : Nat))).heap[b]? = w.heap[b]? := fun b _ hb => Below.heap_setCell w _ _ b hb
  have hsz : w.heap.size ≤ (w.setCell ⟨fb, it.idx * 9 + 6, none⟩ (.int .i64 (f it.pins : Nat))).heap.size := by simp [World.setCell]
  refine h.upd (f := fun x => { x with pins := f x.pins }) ⟨fun _ => rfl, fun _ => rfl⟩ hit ⟨(h.wf.pg it hit).1, (h.wf.pg it hit).2, hk, (h.wf.small it hit).2⟩ hsz hkeep (h.fr.blk.set_ _ _) (Framed.cell (by omega) _) ⟨A, c, hA, hR.keep hsz (fun b hb => hkeep b (h.rows b hb).1 (h.rows b hb).2.2.1), fun j hj => ?_⟩
  have hlt := h.wf.idx_lt hit
  have hcs := h.fr.size
  rw [frCells_pins it A c _ j hj]
  split
  · rename_i e
    subst e
    rw [Array.getElem?_setIfInBounds_self_of_lt (by omega)]
  · rename_i e
    rw [Array.getElem?_setIfInBounds_ne (by omega)]
    exact hc j hj

theorem IsPlAt.pins_frozen {F R : Foot} {w : World} {gp gd gl at_ base fb cb mb s r : Nat} {v : Value} {cs : Array Value} {fl ids : List Nat} {p : Sp.Pl} (h : IsPlAt F R w gp gd gl at_ base fb cb mb v s r cs fl ids p) (k : Nat) : w.frozen? ⟨fb, k, none⟩ = false := h.fr.blk.frozen k

set_option maxRecDepth 100000 in
set_option maxHeartbeats 1000000 in
theorem pool_unpin {F : Foot} {w : World} {gp gd gl at_ base : Nat} {p : Sp.Pl} (h : IsPl F w gp gd gl at_ base p) {id : Nat} (hid : id < 4294967296) {it : Sp.It} (hf : p.find id = some it) (hp : 1 ≤ it.pins) :
    Calls Tryz.prog 40 #[ptr gp, u32v id] w fun e w' => e = .returned (.int .i64 0) ∧ IsPl F w' gp gd gl at_ base (p.upd id fun x => { x with pins := x.pins - 1 }) ∧ Turns F F w w' := by
  obtain ⟨R, fb, cb, mb, v, s, r, cs, h⟩ := h
  obtain ⟨c0, c1, c2, c3, c4, c5, c6, c7⟩ := h.cells
  have HM := Lib.hid (pool_made c6)
  have hl := h.look_in hid hf
  obtain ⟨hit, rfl⟩ := Sp.Pl.find_mem hf
  have hlt := h.wf.idx_lt hit
  have cp := h.pins hit
  have hn := h.wf.n64
  have hs := h.wf.small it hit
  have e0 : decide ((it.pins : Int) = 0) = false := by rw [decide_eq_false_iff_not]; omega
  have hz := h.pins_frozen (it.idx * 9 + 6)
  have H := Lib.hid (h.pinned hit (fun k => k - 1) (by omega))
  have hF := h.foot.2.1
  have e1 : ((it.pins - 1 : Nat) : Int) = (it.pins : Int) - 1 := by omega
  have eu : ((p.upd it.page.id fun x => { x with pins := x.pins - 1 }).items.map (·.page.id)) = p.items.map (·.page.id) := Sp.Pl.upd_ids ⟨fun _ => rfl, fun _ => rfl⟩
  rw [e1, ← eu] at H
  have HI : IsPl F _ gp gd gl at_ base (p.upd it.page.id fun x => { x with pins := x.pins - 1 }) := ⟨R, fb, cb, mb, v, s, r, _, H.out⟩
  have HI := Lib.hid HI
  clear h c0 c1 c2 c3 c5 c7 e1 H eu
  go_enter Tryz.func40, Tryz.ntmps40
  go_wp2_with fail
  refine HM.out.mono ?_
  rintro e w1 ⟨rfl, hw⟩
  subst w1
  go_wp2_with fail
  go_ret
  exact ⟨rfl, HI.out, (Turns.refl F w).setCell (p := ⟨fb, it.idx * 9 + 6, none⟩) (.inl hF) _⟩
end Go.Proofs.YtclpmkinjjhncaaGreat

/- The walks of package pool: copied. -/
namespace Go.Proofs.YtclpmkinjjhncaaGreat
open Go.RowKit Go.Conc

set_option maxRecDepth 100000 in
set_option maxHeartbeats 1000000 in
theorem pool_copied {w : World} {G : Foot} {p : Sp.Pg} {A : Option Addr} {c : Nat} (hA : OkAddr A) (hR : RowsAt G w A p.rows) (hl : p.rows.length ≤ 1000000) :
    Calls Tryz.prog 106 #[pgV p A c] w fun e w' => ∃ A' c', e = .returned (pgV p A' c') ∧ OkAddr A' ∧ RowsAt (fun b => w.heap.size ≤ b) w' A' p.rows ∧ Below w.heap.size w w' := by
  have HC := Lib.hid fun (W : World) (h : RowsAt G W A p.rows) => clone_rows (c := c) h hA hl
  have HR := Lib.hid hR
  clear hR hA
  go_enter Tryz.func106, Tryz.ntmps106
  go_wp2_with fail
  have hX := (Blk.new w 50 #[.int .u8 p.kind, .int .u8 p.level, .int .u32 p.id, .int .u64 p.lsn, .int .u32 p.next, .slice A p.rows.length c]).alloc (.cells #[.int .u8 0, .int .u8 0, .int .u32 0, .int .u64 0, .int .u32 0, .slice none 0 0] 50)
  have hY := Blk.new (w.alloc (.cells #[.int .u8 p.kind, .int .u8 p.level, .int .u32 p.id, .int .u64 p.lsn, .int .u32 p.next, .slice A p.rows.length c] 50)) 50 #[.int .u8 0, .int .u8 0, .int .u32 0, .int .u64 0, .int .u32 0, .slice none 0 0]
  have hb0 := ((Below.refl w.heap.size w).alloc (Nat.le_refl _) (.cells #[.int .u8 p.kind, .int .u8 p.level, .int .u32 p.id, .int .u64 p.lsn, .int .u32 p.next, .slice A p.rows.length c] 50)).alloc (by simp) (.cells #[.int .u8 0, .int .u8 0, .int .u32 0, .int .u64 0, .int .u32 0, .slice none 0 0] 50)
  have hR2 := Lib.hid (Reads.below HR.out hb0)
  have e1 : (w.alloc (.cells #[.int .u8 p.kind, .int .u8 p.level, .int .u32 p.id, .int .u64 p.lsn, .int .u32 p.next, .slice A p.rows.length c] 50)).heap.size = w.heap.size + 1 := by simp
  rw [e1] at hY
  clear e1
  refine (HC.out _ hR2.out).mono ?_
  rintro e w1 ⟨A', c', rfl, hA', hR', hb1⟩
  have hb := Lib.hid (hb0.trans (hb1.mono (by simp; omega)))
  have hX := hX.below hb1 (by simp; omega)
  have hY := hY.below hb1 (by simp)
  have hR1 := Lib.hid (hR'.mono (G' := fun b => w.heap.size + 2 ≤ b) (fun b hb => by have hb : _ ≤ b := hb; simp at hb; omega))
  have hA1 := Lib.hid hA'
  have hs1 := hb1.size
  simp at hs1
  have x0 := hX.cell 0
  have x1 := hX.cell 1
  have x2 := hX.cell 2
  have x3 := hX.cell 3
  have x4 := hX.cell 4
  have x5 := hX.cell 5
  have f5 := hX.frozen 5
  simp only [List.getElem?_toArray, List.getElem?_cons_succ, List.getElem?_cons_zero] at x0 x1 x2 x3 x4 x5
  have hX5 := hX.set_ 5 (.slice A' p.rows.length c')
  have hY5 := hY.far (p := ⟨w.heap.size, 5, none⟩) (by show w.heap.size + 1 ≠ w.heap.size; omega) (.slice A' p.rows.length c')
  have y0 := hX5.cell 0
  have y1 := hX5.cell 1
  have y2 := hX5.cell 2
  have y3 := hX5.cell 3
  have y4 := hX5.cell 4
  have y5 := hX5.cell 5
  simp only [List.getElem?_toArray, List.getElem?_cons_succ, List.getElem?_cons_zero, List.setIfInBounds_toArray, List.set_cons_zero, List.set_cons_succ] at y0 y1 y2 y3 y4 y5
  have b0 := hY.cell 0
  have b1 := hY.cell 1
  have b2 := hY.cell 2
  have b3 := hY.cell 3
  have b4 := hY.cell 4
  have b5 := hY.cell 5
  simp only [List.getElem?_toArray, List.getElem?_cons_succ, List.getElem?_cons_zero] at b0 b1 b2 b3 b4 b5
  have g0 := hY.frozen 0
  have g1 := hY.frozen 1
  have g2 := hY.frozen 2
  have g3 := hY.frozen 3
  have g4 := hY.frozen 4
  have g5 := hY.frozen 5
  have HX := Lib.hid hX5
  have HY := Lib.hid hY5
  clear hX hY hX5 hY5 hb0 hb1 hR' hA' hR2 HC HR
  go_wp2_with fail
  obtain ⟨W8, hW8, hX8, ht8, hk8⟩ := six_set HY.out (.int .u8 p.kind) (.int .u8 p.level) (.int .u32 p.id) (.int .u64 p.lsn) (.int .u32 p.next) (.slice A' p.rows.length c')
  rw [hW8]
  have z0 := hX8.cell 0
  have z1 := hX8.cell 1
  have z2 := hX8.cell 2
  have z3 := hX8.cell 3
  have z4 := hX8.cell 4
  have z5 := hX8.cell 5
  simp only [List.getElem?_toArray, List.getElem?_cons_succ, List.getElem?_cons_zero] at z0 z1 z2 z3 z4 z5
  clear y0 y1 y2 y3 y4 y5 g0 g1 g2 g3 g4 g5 x0 x1 x2 x3 x4 x5 f5 b0 b1 b2 b3 b4 b5
  refine bodyPost_ret (v := pgV p A' c') (by rw [results_cell_row rfl _ _ (w.heap.size + 1) 50 _ (0, 0) _ rfl hX8 Tryz.underlying50 rfl rfl]) rfl ⟨A', c', rfl, hA1.out, ?_, ?_⟩
  · refine ((hR1.out.keep (w' := W8) ?_ (fun b hb => ?_))).mono (fun b hb => by have hb : w.heap.size + 2 ≤ b := hb; omega)
    · have := ht8.size
      simp [World.setCell] at this ⊢
      omega
    · have hb : w.heap.size + 2 ≤ b := hb
      rw [hk8 b (by omega), Below.heap_setCell _ _ _ b (by show b ≠ w.heap.size; omega)]
  · refine Below.trans (hb.out.setCell (p := ⟨w.heap.size, 5, none⟩) (Nat.le_refl _) _) (ht8.below (by simp [World.setCell]; omega) (fun b hb => by have hb : b = w.heap.size + 1 := hb; omega))
end Go.Proofs.YtclpmkinjjhncaaGreat

/- The walks of package pool: pins. -/
namespace Go.Proofs.YtclpmkinjjhncaaGreat
open Go.RowKit Go.Conc

section
variable {P : Program} {ops : Array Oper} {Q : Exit → Act → World → Prop}
/-- One of several that may come up: a call of a Go function. -/
theorem op_call {i : Nat} (t : Tmp) {f : FuncId} {args : Array Value} {R : Ending → World → Prop} {oi : Oper} {a : Act} {w w' : World} {K : Act → World → Prop} (hi : ops[i]? = some oi) (hd : oi.dst = some t)
    (hw : Region.wanted oi (yielded ops a.tmps) = true) (hy : (execOp a.eval oi).run P w = .ok (.enter f args) w') (hc : Calls P f args w' R)
    (h : ∀ e w'', R e w'' → ∃ v, e = .returned v ∧ K { tmps := a.tmps.setIfInBounds t v, defers := a.defers } w'') : wpOp P ops Q i K a w := by
  unfold wpOp
  simp only [hi]
  rw [if_pos hw]
  refine .inl ?_
  unfold Oper.wp
  rw [hy]
  refine hc.mono fun e w'' hR => ?_
  obtain ⟨v, rfl, h1⟩ := h e w'' hR
  show K (a.put oi.dst v) w''
  rw [hd]
  exact h1
end

/-- the block of a row. -/
abbrev own (v : Value) : Foot := fun b => v.ownBlock = some b

/-- What holds behind a row's DeleteFunc and the making of the row that is appended. -/
structure PinMid (w1 W : World) (v v' : Value) (g8 id : Nat) (ids : List Nat) : Prop where
  row : W.ownsRow 0 25 1 v' (ids.filter (fun x => !(x == id))).length ((ids.filter (fun x => !(x == id))).map u32v)
  sub : ∀ k, v'.ownBlock = some k → v.ownBlock = some k
  one : Blk W g8 25 #[u32v id]
  fresh : w1.heap.size ≤ g8
  turns : Turns (own v) (own v) w1 W

/-- What holds behind the append. -/
structure PinRow (w1 W : World) (v v2 : Value) (id : Nat) (ids : List Nat) : Prop where
  row : W.ownsRow 0 25 1 v2 (ids.filter (fun x => !(x == id)) ++ [id]).length ((ids.filter (fun x => !(x == id)) ++ [id]).map u32v)
  sub : ∀ k, v2.ownBlock = some k → v.ownBlock = some k ∨ w1.heap.size ≤ k
  turns : Turns (own v) (own v) w1 W

/-- A page pinned once more: it stands last. -/
def Sp.Pl.pinUp (p : Sp.Pl) (id : Nat) : Sp.Pl := p.upd id fun x => { x with pins := x.pins + 1 }
def PinsPost (F R : Foot) (w : World) (gp gd gl at_ base fb cb mb s r : Nat) (fl ids : List Nat) (p : Sp.Pl) (it : Sp.It) (e : Ending) (w' : World) : Prop :=
  ∃ F' v' cs', e = .returned (.pointer (some ⟨fb, it.idx * 9, none⟩)) ∧ IsPlAt F' R w' gp gd gl at_ base fb cb mb v' s r cs' fl (ids.filter (fun x => !(x == it.page.id)) ++ [it.page.id]) (p.pinUp it.page.id) ∧ Turns F F' w w'

set_option maxRecDepth 100000 in
set_option maxHeartbeats 1000000 in
theorem pool_pins_walk {F R : Foot} {w : World} {gp gd gl at_ base fb cb mb s r : Nat} {v : Value} {cs : Array Value} {fl ids : List Nat} {p : Sp.Pl} (h : IsPlAt F R w gp gd gl at_ base fb cb mb v s r cs fl ids p) {id : Nat} (hid : id < 4294967296) {it : Sp.It} (hf : p.find id = some it) (hp : it.pins < 1000000000) (hl : ids.length ≤ 64) :
    Calls Tryz.prog 107 #[ptr gp, u32v id] w (PinsPost F R w gp gd gl at_ base fb cb mb s r fl ids p it) := by
  obtain ⟨hit, rfl⟩ := Sp.Pl.find_mem hf
  obtain ⟨iu, hiu, hzu0, hzu1, hzu2⟩ := info_parts u32_info
  have hown := h.own_ne
  have hlv : ∀ b, v.ownBlock = some b → b < w.heap.size := fun b hb => by
    obtain ⟨cur, hc⟩ := ownsRow_heap h.row hb
    exact (Array.getElem?_eq_some_iff.1 hc).1
  have h1 := Lib.hid (h.keep (w' := w.alloc (.cells #[u32v it.page.id] 25)) (by simp) (fun b hb => Below.heap_alloc w _ b (h.lt b hb)))
  have hid1 := Lib.hid (Blk.new w 25 #[u32v it.page.id])
  go_enter Tryz.func107, Tryz.ntmps107
  go_wp2_with fail
  have e1 : (w.alloc (.cells #[u32v it.page.id] 25)).heap.size = w.heap.size + 1 := by simp
  obtain ⟨w1, hw1⟩ : ∃ w1, w1 = w.alloc (.cells #[u32v it.page.id] 25) := ⟨_, rfl⟩
  rw [← hw1] at h1 hid1 e1 ⊢
  obtain ⟨b3, hb3⟩ : ∃ b3, b3 = w.heap.size := ⟨_, rfl⟩
  have hlt3 : ∀ b, v.ownBlock = some b → b ≠ b3 := fun b hb e => by have := hlv b hb; omega
  have hn3 : v.ownBlock ≠ some b3 := fun e => hlt3 _ e rfl
  rw [← hb3] at hid1 ⊢
  have hb3l : w.heap.size ≤ b3 := by omega
  have e2 : w.heap.size ≤ w1.heap.size := by omega
  have ht01 : Turns F F w w1 := by rw [hw1]; exact (Turns.refl F w).alloc _
  have hgw : gp < w.heap.size := h.lt gp h.foot.1
  clear hw1 h hb3 e1
  rename_i K hK
  have HK : ∀ (v' v2 : Value) (g8 : Nat) (W2 : World), PinRow w1 W2 v v2 it.page.id ids → K { tmps := #[ptr gp, u32v it.page.id, undef, ptr b3, .pointer none, undef, ptr gp, ptr gp, ptr gp, .pointer (some ⟨gp, 7, none⟩), v, .func (.func 173) #[] #[ptr b3], v', u32v it.page.id, .slice (some ⟨g8, 0, none⟩) 1 1, v2, ptr gp, .pointer (some ⟨gp, 7, none⟩), undef, undef, undef, undef, undef, undef, undef, undef, undef, undef, undef, undef, undef, undef, undef, undef, undef, undef, undef], defers := [] } (W2.setCell ⟨gp, 7, none⟩ v2) := by
    intro v' v2 g8 W2 ⟨hrow, hsub, htu⟩
    refine hK _ _ ?_
    have hgpb := h1.out.blk
    have hgl : gp < w1.heap.size := hgpb.lt
    have hlF := h1.out.lt
    have hrd := Lib.hid (h1.out.rowed (w' := W2.setCell ⟨gp, 7, none⟩ v2) (v' := v2) (ids' := ids.filter (fun x => !(x == it.page.id)) ++ [it.page.id]) (by simp [World.setCell]; exact htu.size)
      (fun b hb h1 h2 => (Below.heap_setCell W2 _ _ b h1).trans (htu.block b (hlF b hb) h2)) ((hgpb.turns htu hown.1).set_ 7 v2)
      (row_keep hrow (fun b hb => Below.heap_setCell W2 _ _ b (fun e => by
        have e : b = gp := e
        subst e
        rcases hsub _ hb with h | h
        · exact hown.1 h
        · omega))) hsub)
    have hb3 := Lib.hid ((hid1.out.turns htu hn3).far (p := ⟨gp, 7, none⟩) (show b3 ≠ gp from fun e => by omega) v2)
    have htt : Turns F (fun b => F b ∨ v2.ownBlock = some b) w (W2.setCell ⟨gp, 7, none⟩ v2) := by
      have t : Turns F F w (W2.setCell ⟨gp, 7, none⟩ v2) := (ht01.trans (htu.wider (fun b hb => h1.out.foot.2.2.2.2 b hb) (fun b hb => .inl hb))).setCell (p := ⟨gp, 7, none⟩) (.inl h1.out.foot.1) _
      refine ⟨t.os, t.tape, t.output, t.size, t.block, fun b hb => ?_⟩
      rcases hb with hb | hb
      · exact .inl hb
      · rcases hsub b hb with h | h
        · exact .inl (h1.out.foot.2.2.2.2 b h)
        · exact .inr (by omega)
    obtain ⟨W3, hW3⟩ : ∃ W3, W3 = W2.setCell ⟨gp, 7, none⟩ v2 := ⟨_, rfl⟩
    rw [← hW3] at hrd hb3 htt ⊢
    clear hW3 hrow htu hK
    obtain ⟨c0, c1, c2, c3, c4, c5, c6, c7⟩ := hrd.out.cells
    have hld := (hrd.out.keep (w' := W3.drew) (Nat.le_refl _) (fun _ _ => rfl)).look hid hf
    have hlt := hrd.out.wf.idx_lt hit
    have cp := hrd.out.pins hit
    have hn := hrd.out.wf.n64
    have hz := hrd.out.pins_frozen (it.idx * 9 + 6)
    have cid := hb3.out.cell 0
    simp only [List.getElem?_toArray, List.getElem?_cons_zero] at cid
    have HP := Lib.hid ((hrd.out.keep (w' := W3.drew) (Nat.le_refl _) (fun _ _ => rfl)).pinned hit (fun k => k + 1) (by omega))
    clear c0 c1 c2 c3 c5 c7
    go_wp2_with fail
    refine R_begin (fun W => W.cell? ⟨gp, 4, none⟩ = some (.slice (some ⟨fb, 0, none⟩) p.n p.n) ∧ W.cell? ⟨gp, 6, none⟩ = some (.map (some mb)) ∧ W.cell? ⟨b3, 0, none⟩ = some (u32v it.page.id) ∧
      (Instr.lookup 119 (.map (some mb)) (u32v it.page.id) false).run Tryz.prog W = .ok (.int .i64 it.idx) W) (fun _ => false) rfl ?_
    have hS := Lib.hid (⟨c4, c6, cid, hld⟩ : W3.drew.cell? ⟨gp, 4, none⟩ = some (.slice (some ⟨fb, 0, none⟩) p.n p.n) ∧ W3.drew.cell? ⟨gp, 6, none⟩ = some (.map (some mb)) ∧ W3.drew.cell? ⟨b3, 0, none⟩ = some (u32v it.page.id) ∧
      (Instr.lookup 119 (.map (some mb)) (u32v it.page.id) false).run Tryz.prog W3.drew = .ok (.int .i64 it.idx) W3.drew)
    clear hld
    refine R_take 0 18 (v := ?_) rfl rfl (by rfl) (by kernel_rfl) (fun _ _ _ h => h) hS.out ?_ ?_
    rotate_left
    · intro w hSw; (try dsimp only at hSw); go_simp; (try with_reducible rfl)
    simp only [List.setIfInBounds_toArray, List.set_cons_zero, List.set_cons_succ]
    refine R_take 1 19 (v := ?_) rfl rfl (by rfl) (by kernel_rfl) (fun _ _ _ h => h) hS.out ?_ ?_
    rotate_left
    · intro w hSw; (try dsimp only at hSw); go_simp; (try with_reducible rfl)
    simp only [List.setIfInBounds_toArray, List.set_cons_zero, List.set_cons_succ]
    refine R_take 2 20 (v := ?_) rfl rfl (by rfl) (by kernel_rfl) (fun _ _ _ h => h) hS.out ?_ ?_
    rotate_left
    · intro w hSw; (try dsimp only at hSw); go_simp; (try with_reducible rfl)
    simp only [List.setIfInBounds_toArray, List.set_cons_zero, List.set_cons_succ]
    refine R_take 3 21 (v := ?_) rfl rfl (by rfl) (by kernel_rfl) (fun _ _ _ h => h) hS.out ?_ ?_
    rotate_left
    · intro w hSw; (try dsimp only at hSw); go_simp; (try with_reducible rfl)
    simp only [List.setIfInBounds_toArray, List.set_cons_zero, List.set_cons_succ]
    refine R_take 4 22 (v := ?_) rfl rfl (by rfl) (by kernel_rfl) (fun _ _ _ h => h) hS.out ?_ ?_
    rotate_left
    · intro w hSw; (try dsimp only at hSw); go_simp; (try with_reducible rfl)
    simp only [List.setIfInBounds_toArray, List.set_cons_zero, List.set_cons_succ]
    refine R_take 5 23 (v := ?_) rfl rfl (by rfl) (by kernel_rfl) (fun _ _ _ h => h) hS.out ?_ ?_
    rotate_left
    · intro w hSw; (try dsimp only at hSw); go_simp; (try with_reducible rfl)
    simp only [List.setIfInBounds_toArray, List.set_cons_zero, List.set_cons_succ]
    refine R_take 6 24 (v := ?_) rfl rfl (by rfl) (by kernel_rfl) (fun _ _ _ h => h) hS.out ?_ ?_
    rotate_left
    · intro w hSw; (try dsimp only at hSw); go_simp; (try with_reducible rfl)
    simp only [List.setIfInBounds_toArray, List.set_cons_zero, List.set_cons_succ]
    refine R_take 7 25 (v := ?_) rfl rfl (by rfl) (by kernel_rfl) (fun _ _ _ h => h) hS.out ?_ ?_
    rotate_left
    · intro w hSw; (try dsimp only at hSw); go_simp; (try with_reducible rfl)
    simp only [List.setIfInBounds_toArray, List.set_cons_zero, List.set_cons_succ]
    refine R_take 8 26 (v := ?_) rfl rfl (by rfl) (by kernel_rfl) (fun _ _ _ h => h) hS.out ?_ ?_
    rotate_left
    · intro w hSw; (try dsimp only at hSw); go_simp; (try with_reducible rfl)
    simp only [List.setIfInBounds_toArray, List.set_cons_zero, List.set_cons_succ]
    refine R_take 9 27 (v := ?_) rfl rfl (by rfl) (by kernel_rfl) (fun _ _ _ h => h) hS.out ?_ ?_
    rotate_left
    · intro w hSw; (try dsimp only at hSw); go_simp; (try with_reducible rfl)
    simp only [List.setIfInBounds_toArray, List.set_cons_zero, List.set_cons_succ]
    refine R_take 10 28 (v := ?_) rfl rfl (by rfl) (by kernel_rfl) (fun _ _ _ h => h) hS.out ?_ ?_
    rotate_left
    · intro w hSw; (try dsimp only at hSw); go_simp; (try with_reducible rfl)
    simp only [List.setIfInBounds_toArray, List.set_cons_zero, List.set_cons_succ]
    refine R_take 11 5 (v := ?_) rfl rfl (by rfl) (by kernel_rfl) (fun _ _ _ h => h) hS.out ?_ ?_
    rotate_left
    · intro w hSw; (try dsimp only at hSw); go_simp; (try with_reducible rfl)
    simp only [List.setIfInBounds_toArray, List.set_cons_zero, List.set_cons_succ]
    refine R_done (by kernel_rfl) ?_ _
    rename_i K2 hK2
    refine hK2 _ _ ?_
    have cp : W3.drew.cell? ⟨fb, it.idx * 9 + 6, none⟩ = some (.int .i64 it.pins) := cp
    have hz : W3.drew.frozen? ⟨fb, it.idx * 9 + 6, none⟩ = false := hz
    have htt := htt.drew
    have hfF : F fb := h1.out.foot.2.1
    clear hK2 K2 hS c4 c6 cid hrd hb3
    obtain ⟨W4, hW4⟩ : ∃ W4, W4 = W3.drew := ⟨_, rfl⟩
    rw [← hW4] at cp hz htt HP ⊢
    clear hW4
    go_wp2_with fail
    go_ret
    exact ⟨_, v2, _, rfl, HP.out, htt.setCell (p := ⟨fb, it.idx * 9 + 6, none⟩) (.inl hfF) _⟩
  have HKH := Lib.hid HK
  clear HK hK
  have c7 := h1.out.cells.2.2.2.2.2.2.2
  have c3 := hid1.out.cell 0
  simp only [List.getElem?_toArray, List.getElem?_cons_zero] at c3
  refine R_begin (fun W => W.cell? ⟨gp, 7, none⟩ = some v ∧ W.cell? ⟨b3, 0, none⟩ = some (u32v it.page.id)) (fun j => decide (10 ≤ j)) rfl ?_
  have hS : w1.drew.cell? ⟨gp, 7, none⟩ = some v ∧ w1.drew.cell? ⟨b3, 0, none⟩ = some (u32v it.page.id) := ⟨c7, c3⟩
  refine R_take 0 6 (v := ?_) rfl rfl (by rfl) (by kernel_rfl) (fun _ _ _ h => h) hS ?_ ?_
  rotate_left
  · intro w hSw; (try dsimp only at hSw); go_simp; (try with_reducible rfl)
  simp only [List.setIfInBounds_toArray, List.set_cons_zero, List.set_cons_succ]
  refine R_take 1 7 (v := ?_) rfl rfl (by rfl) (by kernel_rfl) (fun _ _ _ h => h) hS ?_ ?_
  rotate_left
  · intro w hSw; (try dsimp only at hSw); go_simp; (try with_reducible rfl)
  simp only [List.setIfInBounds_toArray, List.set_cons_zero, List.set_cons_succ]
  refine R_take 2 8 (v := ?_) rfl rfl (by rfl) (by kernel_rfl) (fun _ _ _ h => h) hS ?_ ?_
  rotate_left
  · intro w hSw; (try dsimp only at hSw); go_simp; (try with_reducible rfl)
  simp only [List.setIfInBounds_toArray, List.set_cons_zero, List.set_cons_succ]
  refine R_take 3 9 (v := ?_) rfl rfl (by rfl) (by kernel_rfl) (fun _ _ _ h => h) hS ?_ ?_
  rotate_left
  · intro w hSw; (try dsimp only at hSw); go_simp; (try with_reducible rfl)
  simp only [List.setIfInBounds_toArray, List.set_cons_zero, List.set_cons_succ]
  refine R_take 4 10 (v := ?_) rfl rfl (by rfl) (by kernel_rfl) (fun _ _ _ h => h) hS ?_ ?_
  rotate_left
  · intro w hSw; (try dsimp only at hSw); go_simp; (try with_reducible rfl)
  simp only [List.setIfInBounds_toArray, List.set_cons_zero, List.set_cons_succ]
  refine R_take 5 11 (v := ?_) rfl rfl (by rfl) (by kernel_rfl) (fun _ _ _ h => h) hS ?_ ?_
  rotate_left
  · intro w hSw; (try dsimp only at hSw); go_simp; (try with_reducible rfl)
  simp only [List.setIfInBounds_toArray, List.set_cons_zero, List.set_cons_succ]
  refine R_take 7 13 (v := ?_) rfl rfl (by rfl) (by kernel_rfl) (fun _ _ _ h => h) hS ?_ ?_
  rotate_left
  · intro w hSw; (try dsimp only at hSw); go_simp; (try with_reducible rfl)
  simp only [List.setIfInBounds_toArray, List.set_cons_zero, List.set_cons_succ]
  refine R_all (rs := [6, 8]) (by kernel_rfl) (by simp) (fun i hi => ?_)
  simp only [List.mem_cons, List.not_mem_nil, or_false] at hi
  have hrow1 := h1.out.row
  have hgpb := h1.out.blk
  have hgl : gp < w1.heap.size := hgpb.lt
  have hbl : b3 < w1.heap.size := hid1.out.lt
  have T0 : Turns (own v) (own v) w1 w1.drew := (Turns.refl _ _).drew
  have hlv1 : ∀ b, v.ownBlock = some b → b < w1.heap.size := fun b hb => Nat.lt_of_lt_of_le (hlv b hb) e2
  rcases hi with rfl | rfl
  refine op_call 12 (w' := w1.drew) rfl rfl (by rfl) ?_ (delete_row (w := w1.drew) (asks_pins it.page.id b3) hrow1 hid1.out hn3) ?_
  · go_simp
  rintro e W ⟨v', rfl, r1, r2, r3⟩
  have T1 := T0.grown r2 (fun k hk => .inl hk)
  refine ⟨v', rfl, fun _ => ⟨((hgpb.turns T1 hown.1).cell 7).trans rfl, ((hid1.out.turns T1 hn3).cell 0).trans rfl⟩, ?_⟩
  simp only [List.setIfInBounds_toArray, List.set_cons_zero, List.set_cons_succ]
  refine R_run 8 14 (v := .slice (some ⟨W.heap.size, 0, none⟩) 1 1) (w' := W.alloc (.cells #[u32v it.page.id] 25)) rfl rfl (by rfl) (by kernel_rfl) (by go_simp) ?_ ?_
  · have T2 := T1.alloc (.cells #[u32v it.page.id] 25)
    exact fun _ => ⟨((hgpb.turns T2 hown.1).cell 7).trans rfl, ((hid1.out.turns T2 hn3).cell 0).trans rfl⟩
  simp only [List.setIfInBounds_toArray, List.set_cons_zero, List.set_cons_succ]
  have hm : PinMid w1 (W.alloc (.cells #[u32v it.page.id] 25)) v v' W.heap.size it.page.id ids := ⟨row_keep r1 (fun b hb => Below.heap_alloc W _ b (by have := T1.size; have := hlv1 b (r3 b hb); omega)), r3, Blk.new _ _ _, T1.size, T1.alloc _⟩
  obtain ⟨g8, hg8⟩ : ∃ g, g = W.heap.size := ⟨_, rfl⟩
  obtain ⟨W1, hW1⟩ : ∃ W1, W1 = W.alloc (.cells #[u32v it.page.id] 25) := ⟨_, rfl⟩
  rw [← hW1, ← hg8] at hm ⊢
  clear hW1 hg8 r1 r2 r3 T1
  rotate_left
  refine op_run 14 (v := .slice (some ⟨w1.drew.heap.size, 0, none⟩) 1 1) (w' := w1.drew.alloc (.cells #[u32v it.page.id] 25)) rfl rfl (by rfl) (by go_simp) ⟨?_, ?_⟩
  · have T2 := T0.alloc (.cells #[u32v it.page.id] 25)
    exact fun _ => ⟨((hgpb.turns T2 hown.1).cell 7).trans rfl, ((hid1.out.turns T2 hn3).cell 0).trans rfl⟩
  simp only [List.setIfInBounds_toArray, List.set_cons_zero, List.set_cons_succ]
  have T2 := T0.alloc (.cells #[u32v it.page.id] 25)
  have T2n := (Turns.refl noFoot w1).drew.alloc (.cells #[u32v it.page.id] 25)
  have hg8b := Blk.new w1.drew 25 #[u32v it.page.id]
  have hg8l : w1.heap.size ≤ w1.drew.heap.size := Nat.le_refl _
  obtain ⟨g8, hg8⟩ : ∃ g, g = w1.drew.heap.size := ⟨_, rfl⟩
  obtain ⟨W, hW⟩ : ∃ W, W = w1.drew.alloc (.cells #[u32v it.page.id] 25) := ⟨_, rfl⟩
  rw [← hW, ← hg8] at hg8b ⊢
  rw [← hW] at T2 T2n
  rw [← hg8] at hg8l
  clear hW hg8
  refine R_call 6 12 (w' := W) rfl rfl (by rfl) (by kernel_rfl) ?_ (delete_row (w := W) (asks_pins it.page.id b3) (row_keep hrow1 (fun b hb => T2n.block b (hlv1 b hb) (fun e => e))) (hid1.out.turns T2 hn3) hn3) ?_
  · go_simp
  rintro e W1 ⟨v', rfl, r1, r2, r3⟩
  have T1 := T2.grown r2 (fun k hk => .inl hk)
  refine ⟨v', rfl, fun _ => ⟨((hgpb.turns T1 hown.1).cell 7).trans rfl, ((hid1.out.turns T1 hn3).cell 0).trans rfl⟩, ?_⟩
  simp only [List.setIfInBounds_toArray, List.set_cons_zero, List.set_cons_succ]
  have hm : PinMid w1 W1 v v' g8 it.page.id ids := ⟨r1, r3, hg8b.grown r2 (fun e => by have := hlv1 g8 e.symm; omega), hg8l, T1⟩
  clear r1 r2 r3 T1 T2 T2n hg8b hg8l
  all_goals
    have hmt := hm.turns
    refine R_step 9 rfl (by rfl) (by kernel_rfl) ?_
    refine wp_append_own2 _ _ _ _ rfl 0 25 iu _ 1 4 Tryz.underlying84 hiu hzu0 hzu1 hzu2 rfl (by decide) _ _ _ rfl hm.row ⟨g8, 0, none⟩ 1 1 [u32v it.page.id] rfl rfl (fun j u hu => ?_) (fun x hx => by simp at hx; subst hx; rfl) ?_ ?_ (Nat.zero_le _) ?_
    · cases j with
      | zero => exact (hm.one.cell 0).trans hu
      | succ j => simp at hu
    · have := List.length_filter_le (fun x => !(x == it.page.id)) ids
      unfold maxLen; omega
    · have := List.length_filter_le (fun x => !(x == it.page.id)) ids
      omega
    intro v2 W2 q1 q2 q3
    have T2 := hmt.grown q2 (fun k hk => .inl (hm.sub k hk))
    obtain ⟨x0, x1, x2, rfl⟩ : ∃ g n c, v2 = .slice (some ⟨g, 0, none⟩) n c := by
      rcases q1.2 with ⟨_, h0⟩ | ⟨g6, c6, _, h0, _⟩
      · omega
      · exact ⟨g6, _, c6, h0⟩
    have hPR : PinRow w1 W2 v (.slice (some ⟨x0, 0, none⟩) x1 x2) it.page.id ids := ⟨by simpa using q1, fun k hk => (q3 k hk).imp (hm.sub k) (fun h => Nat.le_trans hmt.size h), T2⟩
    have f7 := (hgpb.turns T2 hown.1).frozen 7
    have c7 := (hgpb.turns T2 hown.1).cell 7
    simp only [plCells, List.getElem?_toArray, List.getElem?_cons_succ, List.getElem?_cons_zero] at c7
    have hSS : W2.cell? ⟨gp, 7, none⟩ = some v ∧ W2.cell? ⟨b3, 0, none⟩ = some (u32v it.page.id) := ⟨c7, ((hid1.out.turns T2 hn3).cell 0).trans rfl⟩
    clear q1 q2 q3 T2 hm hmt
    refine ⟨fun _ => hSS, ?_⟩
    refine R_put 15 rfl ?_
    simp only [List.setIfInBounds_toArray, List.set_cons_zero, List.set_cons_succ]
    refine R_run 10 16 (v := ptr gp) (w' := W2) rfl rfl (by rfl) (by kernel_rfl) (by go_simp) (fun h => nomatch h) ?_
    simp only [List.setIfInBounds_toArray, List.set_cons_zero, List.set_cons_succ]
    refine R_run 11 17 (v := .pointer (some ⟨gp, 7, none⟩)) (w' := W2) rfl rfl (by rfl) (by kernel_rfl) (by go_simp) (fun h => nomatch h) ?_
    simp only [List.setIfInBounds_toArray, List.set_cons_zero, List.set_cons_succ]
    refine R_store 12 (n := .skip) (w' := W2.setCell ⟨gp, 7, none⟩ (.slice (some ⟨x0, 0, none⟩) x1 x2)) rfl rfl (by rfl) (by kernel_rfl) (by go_simp) (.inl rfl) (fun h => nomatch h) ?_
    refine R_done (by kernel_rfl) ?_ _
    exact HKH.out v' _ g8 W2 hPR
end Go.Proofs.YtclpmkinjjhncaaGreat

/-
  DERIVED: THE SHELF's CONTRACTS AT THIS DUMP, IN PLAIN WORDS (tools/lay-plain.mjs out of 'TryzShel3.lean', which tools/lay-shelf.mjs wrote): THE SAME DECLARATIONS UNDER THE SAME NAMES: 'import', 'namespace', 'open', 'def', 'theorem' AND NOTHING ELSE: no command of the shelf's: FOR A HAND-IN. Each laying: the table of numbers ('.._ren') and one theorem, a field a fact of the dump's own or the kernel's comparison; each contract: ONE APPLICATION.
-/
namespace Go.Proofs
open Go.Shelf
def Tryz.lays125_ren : Go.Shelf.Ren := ⟨fun | 125 => 164 | 128 => 224 | 129 => 225 | n => n, fun | 46 => 230 | 3 => 3 | 51 => 25 | 53 => 29 | 4 => 4 | 5 => 5 | 9 => 9 | n => n, fun | n => n⟩
theorem Tryz.lays125 : Go.Proofs.Lays.n125 Tryz.prog Tryz.lays125_ren := {
  mixed := by kernel_rfl
  f125 := Tryz.func164.trans (congrArg some (by kernel_rfl))
  f128 := Tryz.func224.trans (congrArg some (by kernel_rfl))
  f129 := Tryz.func225.trans (congrArg some (by kernel_rfl))
  t3 := Tryz.underlying3
  a3 := Tryz.isAgg3
  z3 := Tryz.sizeOf3
  v3 := Tryz.zeroValue3
  t4 := Tryz.underlying4
  a4 := Tryz.isAgg4
  z4 := Tryz.sizeOf4
  v4 := Tryz.zeroValue4
  t5 := Tryz.underlying5
  a5 := Tryz.isAgg5
  z5 := Tryz.sizeOf5
  v5 := Tryz.zeroValue5
  t9 := Tryz.underlying9
  a9 := Tryz.isAgg9
  z9 := Tryz.sizeOf9
  v9 := Tryz.zeroValue9
  t46 := Tryz.underlying230
  a46 := Tryz.isAgg230
  z46 := Tryz.sizeOf230
  v46 := Tryz.zeroValue230
  t51 := Tryz.underlying25
  a51 := Tryz.isAgg25
  z51 := Tryz.sizeOf25
  v51 := Tryz.zeroValue25
  t53 := Tryz.underlying29
  a53 := Tryz.isAgg29
  z53 := Tryz.sizeOf29
  v53 := Tryz.zeroValue29 }
/-- bits.Len: "Len returns the minimum number of bits required to represent x; the result is 0 for x == 0.": IT RETURNS 'Lib.bitLen x'; the world is as it was. (A uint has 64 bits in the model.) ITS CALLEE bits.Len64 IS MET BY ITS OWN CONTRACT OFF THE SHELF (lay that first). (LAID: no walk: one application.) -/
theorem Tryz.bits_Len (x : Int) (w : World) (h0 : 0 ≤ x) (h1 : x ≤ 18446744073709551615) :
    Calls Tryz.prog 164 #[.int .u64 x] w fun e w' => e = .returned (.int .i64 (Lib.bitLen x.toNat)) ∧ w' = w := Any.bits_Len Tryz.lays125 x w h0 h1
end Go.Proofs

/- slices.Sort of at most 12 numbers (uint32): the insertion sort of the library, walked at this element type (after the kit's worked walk at int). -/
namespace Go.Proofs.YtclpmkinjjhncaaGreat
open Go.RowKit Go.Sort

def ltN (x y : Nat) : Bool := decide (x < y)
theorem cmp_isNaN_u32 (x : Nat) (w : World) : Calls Tryz.prog 272 #[u32v x] w fun e w' => e = .returned (.bool false) ∧ w' = w := by
  go_enter Tryz.func272, Tryz.ntmps272
  go_wp2_with fail
  go_ret
  exact ⟨by simp, rfl⟩
theorem cmp_Less_u32 (x y : Nat) (w : World) : Calls Tryz.prog 221 #[u32v x, u32v y] w fun e w' => e = .returned (.bool (ltN x y)) ∧ w' = w := by
  go_enter Tryz.func221, Tryz.ntmps221
  go_wp2_with (go_at_call 272; refine (cmp_isNaN_u32 _ _).mono ?_; rintro e w' ⟨rfl, rfl⟩)
  go_ret
  exact ⟨rfl, rfl⟩

set_option maxRecDepth 100000 in
set_option maxHeartbeats 1000000 in
theorem insertion_u32 (blk off cap a b : Nat) (d : Array Nat) (w : World) (hH : Holds u32v w blk off d) (hab : a ≤ b) (hb : b ≤ d.size) (hsz : d.size < 4611686018427387904) :
    Calls Tryz.prog 215 #[.slice (some ⟨blk, off, none⟩) d.size cap, .int .i64 a, .int .i64 b] w fun e w' =>
      e = .returned (.tuple #[]) ∧ ∃ n, w' = putRow u32v (Sort.ahead w n) blk off (Sort.insertionSort ltN d a b) := by
  go_enter Tryz.func215, Tryz.ntmps215
  go_wp2_with fail
  go_loopw [6] (fun vi wr => ∃ (i n : Nat) (dk : Array Nat), vi = .int .i64 i ∧ a < i ∧ i ≤ b + 1 ∧ dk.size = d.size ∧ wr = putRow u32v (Sort.ahead w n) blk off dk ∧
      insOuter ltN a b i dk = insOuter ltN a b (a + 1) d) (fun vi _ => b + 1 - (intOf vi).toNat)
  case atStart => exact ⟨a + 1, 0, d, by go_num, by omega, by omega, rfl, (putRow_self _ _ _ _ _ hH).symm, rfl⟩
  case round =>
    obtain ⟨i, n, dk, rfl, hai, hib, hsk, hwr, hO⟩ := hrel
    have HO : Hid (insOuter ltN a b i dk = insOuter ltN a b (a + 1) d) := hO
    clear hO
    go_wp2_with fail
    · go_loopw [7] (fun vj wr2 => ∃ (j m : Nat) (dj : Array Nat), vj = .int .i64 j ∧ a ≤ j ∧ j ≤ i ∧ dj.size = d.size ∧ wr2 = putRow u32v (Sort.ahead w m) blk off dj ∧
          insInner ltN a j dj = insInner ltN a i dk) (fun vj _ => (intOf vj).toNat)
      case atStart => exact ⟨i, n, dk, rfl, by omega, Nat.le_refl _, hsk, rfl, rfl⟩
      case round =>
        obtain ⟨j, m, dj, rfl, haj, hji, hsj, hw2, hI⟩ := hrel
        have hlt : i < b := by assumption
        obtain ⟨G, hG⟩ : ∃ G : Nat → Nat, ∀ t, G t = dj[t]! := ⟨fun t => dj[t]!, fun _ => rfl⟩
        have hcw : ∀ t, t < d.size → wr.cell? ⟨blk, off + t, none⟩ = some (u32v (G t)) := fun t ht => by
          rw [hw2, hG]; exact cell?_putRow _ _ _ _ d dj (holds_ahead _ _ _ _ _ _ hH) hsj t (by omega)
        have hfw : ∀ t, t < d.size → wr.frozen? ⟨blk, off + t, none⟩ = false := fun t ht => by
          rw [hw2, frozen?_putRow]; exact ((holds_ahead _ _ m _ _ _ hH) t ht).2
        have HW : Hid (wr = putRow u32v (Sort.ahead w m) blk off dj) := hw2
        have HG : Hid (∀ t, G t = dj[t]!) := hG
        have HI : Hid (insInner ltN a j dj = insInner ltN a i dk) := hI
        clear hw2 hG hI hH
        have out : (j ≤ a ∨ ltN dj[j]! dj[j - 1]! = false) → ∀ q, ∃ i' n' dk', Value.int .i64 ((i : Int) + 1) = .int .i64 (i' : Nat) ∧ a < i' ∧ i' ≤ b + 1 ∧ dk'.size = d.size ∧
            wr.drewN q = putRow u32v (Sort.ahead w n') blk off dk' ∧ insOuter ltN a b i' dk' = insOuter ltN a b (a + 1) d := fun hs q =>
          ⟨i + 1, m + q, dj, by go_num, by omega, by omega, hsj, by rw [HW.out]; exact putRow_drewN _ _ _ _ _ _ _,
            by rw [← HO.out, insOuter_go _ _ _ _ _ hlt, ← HI.out, insInner_stop _ _ _ _ hs]⟩
        have OUT : Hid _ := out
        clear out
        go_wp2_with fail
        by_cases hja : a < j
        · go_quiet (first | (go_at_call 221; refine Calls.quiet_of_same (cmp_Less_u32 _ _ _)))
          go_wp2_with fail
          · have hl : ltN (G j) (G (j - 1)) = true := by assumption
            go_region
            all_goals go_wp2_with fail
            go_roundw
            case rel =>
              refine ⟨j - 1, m + (nq + 1), swp dj j (j - 1), by congr 1; omega, by omega, by omega, by rw [size_swp]; exact hsj, ?_, ?_⟩
              · rw [HW.out, HG.out, HG.out]
                exact swap_worldA _ w m (nq + 1) blk off dj j (j - 1) (by omega) (by omega)
              · rw [← HI.out, insInner_go ltN a j dj hja (by rw [← HG.out, ← HG.out]; exact hl)]
            case measure => simp [intOf]; omega
          · have hl : ltN (G j) (G (j - 1)) = false := by assumption
            go_roundw
            case rel => exact OUT.out (Or.inr (by rw [← HG.out, ← HG.out]; exact hl)) nq
            case measure => simp [intOf]; omega
        · go_quiet (first | (go_at_call 221; refine Calls.quiet_of_same (cmp_Less_u32 _ _ _)))
          go_wp2_with fail
          go_roundw
          case rel => exact OUT.out (Or.inl (by omega)) nq
          case measure => simp [intOf]; omega
    · have hge : ¬ i < b := by assumption
      go_end0
      exact ⟨rfl, n, by unfold Sort.insertionSort; rw [← HO.out, insOuter_stop _ _ _ _ _ hge]⟩

set_option maxRecDepth 100000 in
set_option maxHeartbeats 1000000 in
/-- Of at most 12 elements the library's sort is the insertion sort. -/
theorem pdq_u32 (blk off cap : Nat) (d : Array Nat) (w : World) (hH : Holds u32v w blk off d) (h12 : d.size ≤ 12) (lim : Int) :
    Calls Tryz.prog 163 #[.slice (some ⟨blk, off, none⟩) d.size cap, .int .i64 0, .int .i64 d.size, .int .i64 lim] w fun e w' =>
      e = .returned (.tuple #[]) ∧ ∃ n, w' = putRow u32v (Sort.ahead w n) blk off (Sort.insertionSort ltN d 0 d.size) := by
  have HI := Lib.hid (insertion_u32 blk off cap 0 d.size d w hH (Nat.zero_le _) (Nat.le_refl _) (by omega))
  have d1 : decide ((d.size : Int) ≤ 12) = true := by rw [decide_eq_true_eq]; omega
  clear hH
  go_enter Tryz.func163, Tryz.ntmps163
  go_wp2_with fail
  refine wp_loop_rounds 1 ?_
  rw [rounds_succ]
  go_wp2_with fail
  refine HI.out.mono ?_
  rintro e w1 ⟨rfl, n, hw⟩
  go_wp2_with fail
  refine bodyPost_ret (results_none rfl _ _ _) rfl ?_
  exact ⟨rfl, n, rfl⟩

set_option maxRecDepth 100000 in
set_option maxHeartbeats 1000000 in
theorem sort_u32 (blk off cap : Nat) (d : Array Nat) (w : World) (hH : Holds u32v w blk off d) (h12 : d.size ≤ 12) :
    Calls Tryz.prog 101 #[.slice (some ⟨blk, off, none⟩) d.size cap] w fun e w' =>
      e = .returned (.tuple #[]) ∧ ∃ n, w' = putRow u32v (Sort.ahead w n) blk off (Sort.insertionSort ltN d 0 d.size) := by
  have HP := Lib.hid (pdq_u32 blk off cap d w hH h12)
  have HL := Lib.hid fun (x : Int) (W : World) (h0 : 0 ≤ x) (h1 : x ≤ 18446744073709551615) => Tryz.bits_Len x W h0 h1
  clear hH
  go_enter Tryz.func101, Tryz.ntmps101
  go_wp2_with fail
  refine (HL.out _ _ (by omega) (by omega)).mono ?_
  rintro e w1 ⟨rfl, hw⟩
  subst w1
  go_wp2_with fail
  refine (HP.out _).mono ?_
  rintro e w1 ⟨rfl, n, hw⟩
  go_wp2_with fail
  go_end0
  exact ⟨rfl, n, rfl⟩

/-- A list of numbers, sorted as the library does. -/
def Sp.sorted (l : List Nat) : List Nat := (Sort.insertionSort ltN l.toArray 0 l.length).toList
theorem ltN_swo : SWO ltN := by
  constructor <;> simp [ltN] <;> omega
theorem Sp.sorted_spec (l : List Nat) : (Sp.sorted l).Perm l ∧ (Sp.sorted l).Pairwise (· ≤ ·) := by
  obtain ⟨⟨h1, h2, h3⟩, h4⟩ := insertionSort_holds ltN_swo l.toArray 0 l.length (Nat.zero_le _) (by simp)
  refine ⟨?_, ?_⟩
  · unfold Sp.sorted
    have e1 : (Sort.insertionSort ltN l.toArray 0 l.length).extract 0 l.length = Sort.insertionSort ltN l.toArray 0 l.length := by
      apply Array.ext
      · simp [h1]
      · intro i _ _; simp
    have e2 : l.toArray.extract 0 l.length = l.toArray := by
      apply Array.ext
      · simp
      · intro i _ _; simp
    rw [e1, e2] at h3
    simpa using h3
  · unfold Sp.sorted
    rw [List.pairwise_iff_getElem]
    intro i j hi hj hij
    have hsz : (Sort.insertionSort ltN l.toArray 0 l.length).size = l.length := by rw [h1]; simp
    have := h4 i j (Nat.zero_le _) hij (by simpa [hsz] using hj)
    rw [getElem!_pos _ i (by simpa using hi), getElem!_pos _ j (by simpa using hj)] at this
    simpa [ltN] using this
theorem Sp.sorted_one (x : Nat) : Sp.sorted [x] = [x] := by
  have := (Sp.sorted_spec [x]).1
  exact List.perm_singleton.1 this

/-- slices.Sort of a row of numbers from a block's beginning on. -/
theorem sort_row {w : World} {g cap : Nat} {cs : Array Value} {l : List Nat} (hb : Blk w g 25 cs) (hl : l.length ≤ 12) (hc : ∀ j, j < l.length → cs[j]? = some (u32v l[j]!)) :
    Calls Tryz.prog 101 #[.slice (some ⟨g, 0, none⟩) l.length cap] w fun e w' => e = .returned (.tuple #[]) ∧
      ∃ cs', Blk w' g 25 cs' ∧ cs'.size = cs.size ∧ (∀ j, j < l.length → cs'[j]? = some (u32v (Sp.sorted l)[j]!)) ∧ w.grownBy w' (some g) := by
  have hH : Holds u32v w g 0 l.toArray := by
    intro j hj
    have hj' : j < l.length := by simpa using hj
    rw [Nat.zero_add]
    refine ⟨(hb.cell j).trans ?_, hb.frozen j⟩
    rw [hc j hj']
    simp [hj']
  have hs := sort_u32 g 0 cap l.toArray w hH (by simpa using hl)
  have hsz : l.toArray.size = l.length := by simp
  rw [hsz] at hs
  have hps : (Sp.sorted l).length = l.length := (Sp.sorted_spec l).1.length_eq
  refine hs.mono ?_
  rintro e w' ⟨rfl, n, rfl⟩
  refine ⟨rfl, _, putRow_heap w n g _ cs _ hb, by simp [Go.Sort.putCells], fun j hj => ?_, putRow_grown w n g _⟩
  have hjc : j < cs.size := by
    rcases Nat.lt_or_ge j cs.size with h | h
    · exact h
    · have := hc j hj; rw [Array.getElem?_eq_none h] at this; cases this
  have hlen : (Sort.insertionSort ltN l.toArray 0 l.length).size = l.length := hps
  simp only [Go.Sort.putCells, Array.getElem?_mapIdx]
  rw [Array.getElem?_eq_getElem hjc]
  simp only [Option.map_some, Nat.zero_le, Nat.zero_add, true_and, Nat.sub_zero]
  rw [if_pos (by rw [hlen]; exact hj)]
  unfold Sp.sorted
  rw [getElem!_pos _ j (by rw [hlen]; exact hj), getElem!_pos _ j (by simpa [hlen] using hj)]
  simp
end Go.Proofs.YtclpmkinjjhncaaGreat

/- The walks of package pool: writes of pages that are clean. -/
namespace Go.Proofs.YtclpmkinjjhncaaGreat
open Go.RowKit Go.Conc

theorem frCells_one (it : Sp.It) (A : Option Addr) (c : Nat) : (frCells it A c).toArray.all (·.oneCell') = true := by simp [frCells, Value.oneCell']
theorem fr_size : (Tryz.prog.info? 123).map (·.size) = some 9 := by kernel_rfl

section
variable {fb : Nat} {cs : Array Value}
/-- A frame, loaded whole. -/
theorem load_frame {W : World} {i : Nat} {L : List Value} (hb : Blk W fb 123 cs) (hL : L.length = 9) (hc : ∀ j, j < 9 → cs[i * 9 + j]? = L[j]?) :
    (loadVar 123 ⟨fb, i * 9, none⟩).run Tryz.prog W = .ok (.agg L.toArray) W := by
  refine run_loadVar_part W _ _ _ _ (fun j u hu => ?_) Tryz.underlying123 rfl (by rw [hL]; exact fr_size)
  have hj : j < 9 := by have := (List.getElem?_eq_some_iff.1 hu).1; omega
  have e : (⟨fb, i * 9, none⟩ : Addr).add j = ⟨fb, i * 9 + j, none⟩ := by cases j <;> simp [Addr.add]
  rw [e, hb.cell, hc j hj, hu]
end

set_option maxRecDepth 100000 in
set_option maxHeartbeats 2000000 in
theorem pool_writes_clean {F R : Foot} {w : World} {gp gd gl at_ base fb cb mb s r : Nat} {v : Value} {cs : Array Value} {fl ids : List Nat} {p : Sp.Pl} (h : IsPlAt F R w gp gd gl at_ base fb cb mb v s r cs fl ids p)
    {l : List Nat} {gx cap : Nat} {xs : Array Value} (hb : Blk w gx 25 xs) (hgx : ¬ F gx) (hl : l.length ≤ 12) (hxs : ∀ j, j < l.length → xs[j]? = some (u32v l[j]!))
    (hin : ∀ n ∈ l, n < 4294967296 ∧ ∃ it, p.find n = some it ∧ it.dirty = false) :
    Calls Tryz.prog 141 #[ptr gp, .slice (some ⟨gx, 0, none⟩) l.length cap] w fun e w' => e = .returned (.int .i64 0) ∧ Turns (only gx) (only gx) w w' := by
  have HS := Lib.hid (sort_row (cap := cap) hb hl hxs)
  have H := Lib.hid h
  have hgl : gx < w.heap.size := hb.lt
  have hperm := (Sp.sorted_spec l).1
  have hin2 : ∀ n ∈ Sp.sorted l, n < 4294967296 ∧ ∃ it, p.find n = some it ∧ it.dirty = false := fun n hn => hin n (hperm.mem_iff.1 hn)
  have hps := hperm.length_eq
  have HIN := Lib.hid hin2
  have hn64 := h.wf.n64
  obtain ⟨i9, hi9, hz9, hz91, hz92⟩ := info_parts fr_info
  clear h hb hxs hin hin2
  go_enter Tryz.func141, Tryz.ntmps141
  go_wp2_with fail
  refine HS.out.mono ?_
  rintro e w1 ⟨rfl, cs1, hb1, hcs1, hc1, hg1⟩
  rw [← hps] at hc1
  have ht1 : Turns (only gx) (only gx) w w1 := (Turns.refl (only gx) w).grown hg1 (fun k hk => .inl (by injection hk with hk; exact hk.symm))
  have H1 := Lib.hid (H.out.keep ht1.size (fun b hb => ht1.block b (H.out.lt b hb) (fun e => hgx (by have e : b = gx := e; rw [← e]; exact hb))))
  have HC1 := Lib.hid hc1
  have HB1 := Lib.hid hb1
  have HG := Lib.hid hgx
  clear HS H hg1 hc1 hb1 hperm hgx
  generalize Sp.sorted l = q at *
  rw [← hps] at hl ⊢
  clear hps
  go_wp2_with fail
  go_loopw [5, 6, 21] (fun v5 v6 i wr => ∃ k : Nat, k ≤ q.length ∧ v5 = .slice none 0 0 ∧ v6 = .int .u64 0 ∧ i = .int .i64 k ∧ Turns noFoot noFoot w1 wr) (fun _ _ i _ => q.length - (intOf i).toNat)
  case atStart => exact ⟨0, by omega, rfl, rfl, rfl, Turns.refl _ _⟩
  case round =>
    obtain ⟨k, hk, rfl, rfl, rfl, htr⟩ := hrel
    have H2 := Lib.hid (H1.out.keep htr.size (fun b hb => htr.block b (H1.out.lt b hb) (fun e => e)))
    have hB2 := HB1.out.turns htr (fun e => e)
    by_cases hlt : k < q.length
    · have hcell := (hB2.cell k).trans (HC1.out k hlt)
      obtain ⟨hid, it, hf, hd⟩ := HIN.out q[k]! (by rw [getElem!_pos _ k hlt]; exact List.getElem_mem hlt)
      have hmeas : k + 1 ≤ q.length := hlt
      clear hB2
      generalize q[k]! = id at *
      obtain ⟨hit, rfl⟩ := Sp.Pl.find_mem hf
      obtain ⟨A, c, hA, hR, hc⟩ := H2.out.fr.item it hit
      have hlt9 := H2.out.wf.idx_lt hit
      have hload := fun (W : World) (hb : Blk W fb 123 cs) => load_frame hb rfl hc
      have HSS : ∀ W, IsPlAt F R W gp gd gl at_ base fb cb mb v s r cs fl ids p → W.cell? ⟨gp, 4, none⟩ = some (.slice (some ⟨fb, 0, none⟩) p.n p.n) ∧ W.cell? ⟨gp, 6, none⟩ = some (.map (some mb)) ∧
          (Instr.lookup 119 (.map (some mb)) (u32v it.page.id) false).run Tryz.prog W = .ok (.int .i64 it.idx) W ∧ Blk W fb 123 cs := fun W h => by
        obtain ⟨c0, c1, c2, c3, c4, c5, c6, c7⟩ := h.cells
        exact ⟨c4, c6, h.look hid hf, h.fr.blk⟩
      have HSSH := Lib.hid HSS
      have HL := Lib.hid hload
      clear HSS hload hc hA hR hf
      go_wp2_with fail
      refine R_begin (fun W => W.cell? ⟨gp, 4, none⟩ = some (.slice (some ⟨fb, 0, none⟩) p.n p.n) ∧ W.cell? ⟨gp, 6, none⟩ = some (.map (some mb)) ∧
          (Instr.lookup 119 (.map (some mb)) (u32v it.page.id) false).run Tryz.prog W = .ok (.int .i64 it.idx) W ∧ Blk W fb 123 cs) (fun j => j == 13) rfl ?_
      have hS := Lib.hid (HSSH.out wr.drew (H2.out.keep (Nat.le_refl _) (fun _ _ => rfl)))
      refine R_take 0 25 (v := ?_) rfl rfl (by rfl) (by kernel_rfl) (fun _ _ _ h => h) hS.out ?_ ?_
      rotate_left
      · intro w hSw; (try dsimp only at hSw); go_simp; (try with_reducible rfl)
      simp only [List.setIfInBounds_toArray, List.set_cons_zero, List.set_cons_succ]
      refine R_take 1 26 (v := ?_) rfl rfl (by rfl) (by kernel_rfl) (fun _ _ _ h => h) hS.out ?_ ?_
      rotate_left
      · intro w hSw; (try dsimp only at hSw); go_simp; (try with_reducible rfl)
      simp only [List.setIfInBounds_toArray, List.set_cons_zero, List.set_cons_succ]
      refine R_take 2 27 (v := ?_) rfl rfl (by rfl) (by kernel_rfl) (fun _ _ _ h => h) hS.out ?_ ?_
      rotate_left
      · intro w hSw; (try dsimp only at hSw); go_simp; (try with_reducible rfl)
      simp only [List.setIfInBounds_toArray, List.set_cons_zero, List.set_cons_succ]
      refine R_take 3 28 (v := ?_) rfl rfl (by rfl) (by kernel_rfl) (fun _ _ _ h => h) hS.out ?_ ?_
      rotate_left
      · intro w hSw; (try dsimp only at hSw); go_simp; (try with_reducible rfl)
      simp only [List.setIfInBounds_toArray, List.set_cons_zero, List.set_cons_succ]
      refine R_take 4 29 (v := ?_) rfl rfl (by rfl) (by kernel_rfl) (fun _ _ _ h => h) hS.out ?_ ?_
      rotate_left
      · intro w hSw; (try dsimp only at hSw); go_simp; (try with_reducible rfl)
      simp only [List.setIfInBounds_toArray, List.set_cons_zero, List.set_cons_succ]
      refine R_take 5 30 (v := ?_) rfl rfl (by rfl) (by kernel_rfl) (fun _ _ _ h => h) hS.out ?_ ?_
      rotate_left
      · intro w hSw; (try dsimp only at hSw); go_simp; (try with_reducible rfl)
      simp only [List.setIfInBounds_toArray, List.set_cons_zero, List.set_cons_succ]
      refine R_take 6 31 (v := ?_) rfl rfl (by rfl) (by kernel_rfl) (fun _ _ _ h => h) hS.out ?_ ?_
      rotate_left
      · intro w hSw; (try dsimp only at hSw); go_simp; (try with_reducible rfl)
      simp only [List.setIfInBounds_toArray, List.set_cons_zero, List.set_cons_succ]
      refine R_take 7 32 (v := ?_) rfl rfl (by rfl) (by kernel_rfl) (fun _ _ _ h => h) hS.out ?_ ?_
      rotate_left
      · intro w hSw; (try dsimp only at hSw); go_simp; (try with_reducible rfl)
      simp only [List.setIfInBounds_toArray, List.set_cons_zero, List.set_cons_succ]
      refine R_take 8 33 (v := ?_) rfl rfl (by rfl) (by kernel_rfl) (fun _ _ _ h => h) hS.out ?_ ?_
      rotate_left
      · intro w hSw; (try dsimp only at hSw); go_simp; (try with_reducible rfl)
      simp only [List.setIfInBounds_toArray, List.set_cons_zero, List.set_cons_succ]
      refine R_take 9 34 (v := ?_) rfl rfl (by rfl) (by kernel_rfl) (fun _ _ _ h => h) hS.out ?_ ?_
      rotate_left
      · intro w hSw; (try dsimp only at hSw); go_simp; (try with_reducible rfl)
      simp only [List.setIfInBounds_toArray, List.set_cons_zero, List.set_cons_succ]
      refine R_take 10 35 (v := ?_) rfl rfl (by rfl) (by kernel_rfl) (fun _ _ _ h => h) hS.out ?_ ?_
      rotate_left
      · intro w hSw; (try dsimp only at hSw); go_simp; (try with_reducible rfl)
      simp only [List.setIfInBounds_toArray, List.set_cons_zero, List.set_cons_succ]
      refine R_take 11 36 (v := .agg (frCells it A c).toArray) rfl rfl (by rfl) (by kernel_rfl) (fun _ _ _ h => h) hS.out ?_ ?_
      · intro w hSw
        exact run_op_load _ _ _ rfl rfl (HL.out w hSw.2.2.2)
      simp only [List.setIfInBounds_toArray, List.set_cons_zero, List.set_cons_succ]
      have hk3 := H2.out.keep (w' := wr.drew.alloc (.cells zeroFr.toArray 123)) (by simp) (fun b hb => Below.heap_alloc wr.drew _ b (H2.out.lt b hb))
      refine R_run 12 9 (v := .pointer (some ⟨wr.drew.heap.size, 0, none⟩)) (w' := wr.drew.alloc (.cells zeroFr.toArray 123)) rfl rfl (by rfl) (by kernel_rfl) (run_op_alloc _ i9 _ _ rfl hi9 hz9 rfl) (fun _ => HSSH.out _ hk3) ?_
      simp only [List.setIfInBounds_toArray, List.set_cons_zero, List.set_cons_succ]
      have hB9 := Blk.new wr.drew 123 zeroFr.toArray
      have ht9 := htr.drew.alloc (.cells zeroFr.toArray 123)
      have hl9 : w1.heap.size ≤ wr.drew.heap.size := htr.size
      obtain ⟨g9, hg9⟩ : ∃ g, g = wr.drew.heap.size := ⟨_, rfl⟩
      obtain ⟨w3, hw3⟩ : ∃ w3, w3 = wr.drew.alloc (.cells zeroFr.toArray 123) := ⟨_, rfl⟩
      rw [← hw3, ← hg9] at hB9 ⊢
      rw [← hw3] at ht9
      rw [← hg9] at hl9
      clear hw3 hg9 hk3 hS HL HSSH
      refine R_store 13 (n := .skip) (w' := w3.setRow g9 (frCells it A c).toArray) rfl rfl (by rfl) (by kernel_rfl) (run_op_store _ _ _ _ _ rfl rfl rfl (run_storeVar_part w3 g9 0 _ _ _ (frCells it A c).toArray hB9 fr_size (by show 0 + 9 ≤ 9; omega) (frCells_one it A c))) (.inl rfl) (fun h => nomatch h) ?_
      refine R_done (by kernel_rfl) ?_ _
      rename_i K9 hK9
      refine hK9 _ _ ?_
      have hB9 := hB9.setRow (frCells it A c).toArray
      have ht9 := ht9.setRow (g := g9) (.inr hl9) (frCells it A c).toArray
      obtain ⟨w4, hw4⟩ : ∃ w4, w4 = w3.setRow g9 (frCells it A c).toArray := ⟨_, rfl⟩
      rw [← hw4] at hB9 ht9 ⊢
      clear hw4
      have f7 := hB9.cell 7
      simp only [frCells, List.getElem?_toArray, List.getElem?_cons_succ, List.getElem?_cons_zero, hd] at f7
      clear hB9 hcell
      go_wp2_with fail
      go_roundw
      case rel => exact ⟨k + 1, hmeas, rfl, rfl, by go_num, ht9⟩
      case measure => simp [intOf]; omega
    · obtain rfl : k = q.length := by omega
      clear hB2
      go_wp2_with fail
      go_ret
      exact ⟨rfl, ht1.trans (htr.wider (fun b h => h.elim) (fun b hb => .inl hb))⟩
end Go.Proofs.YtclpmkinjjhncaaGreat

/- The walks of package pool: drops of a page that is clean. -/
namespace Go.Proofs.YtclpmkinjjhncaaGreat
open Go.RowKit Go.Conc

def DropPost (F R : Foot) (w : World) (gp gd gl at_ base fb cb mb s r : Nat) (fl ids : List Nat) (p : Sp.Pl) (it : Sp.It) (e : Ending) (w' : World) : Prop :=
  e = .returned (.int .i64 0) ∧ ∃ F' v' cs', IsPlAt F' R w' gp gd gl at_ base fb cb mb v' (s + 1) r cs' (fl ++ [it.idx]) (ids.filter (fun x => !(x == it.page.id))) (p.drop it.page.id it.idx) ∧ Turns F F' w w'

set_option maxRecDepth 100000 in
set_option maxHeartbeats 2000000 in
theorem pool_drops_clean {F R : Foot} {w : World} {gp gd gl at_ base fb cb mb s r : Nat} {v : Value} {cs : Array Value} {ids : List Nat} {p : Sp.Pl} (h : IsPlAt F R w gp gd gl at_ base fb cb mb v s r cs p.free ids p)
    {id : Nat} (hid : id < 4294967296) {it : Sp.It} (hf : p.find id = some it) (hd : it.dirty = false) :
    Calls Tryz.prog 144 #[ptr gp, u32v id] w (DropPost F R w gp gd gl at_ base fb cb mb s r p.free ids p it) := by
  obtain ⟨hit, rfl⟩ := Sp.Pl.find_mem hf
  refine calls_of_wpN Tryz.func144 rfl ?_
  simp only [Tryz.ntmps144, List.size_toArray, List.length_cons, List.length_nil, Nat.reduceAdd, Nat.reduceSub, Array.replicate_succ, Array.replicate_zero, List.push_toArray, List.append_toArray, List.nil_append, List.cons_append]
  have hb0 := Blk.new w 25 #[u32v it.page.id]
  have h0 := h.keep (w' := w.alloc (.cells #[u32v it.page.id] 25)) (by simp) (fun b hb => Below.heap_alloc w _ b (h.lt b hb))
  have ht0 := (Turns.refl F w).alloc (.cells #[u32v it.page.id] 25)
  have ht0n := (Turns.refl noFoot w).alloc (.cells #[u32v it.page.id] 25)
  have hFl := h.lt
  refine wpN_seq_k ?_
  intro K hK
  go_wp2_with fail
  have hl0 : w.heap.size ≤ w.heap.size := Nat.le_refl _
  obtain ⟨w1, hw1⟩ : ∃ w1, w1 = w.alloc (.cells #[u32v it.page.id] 25) := ⟨_, rfl⟩
  rw [← hw1] at h0 hb0 ht0 ht0n ⊢
  obtain ⟨b3, hb3⟩ : ∃ b3, b3 = w.heap.size := ⟨_, rfl⟩
  rw [← hb3] at hb0 ⊢
  have hl3 : w.heap.size ≤ b3 := by omega
  clear hw1 hb3 hl0
  have H0 := Lib.hid h0
  have HB0 := Lib.hid hb0
  have c3 := hb0.cell 0
  simp only [List.getElem?_toArray, List.getElem?_cons_zero] at c3
  -- region 1 to 3: writes
  have hb1 := Blk.new w1 25 #[u32v it.page.id]
  have h1 := h0.keep (w' := w1.alloc (.cells #[u32v it.page.id] 25)) (by simp) (fun b hb => Below.heap_alloc w1 _ b (h0.lt b hb))
  have HWR := Lib.hid (pool_writes_clean (l := [it.page.id]) (gx := w1.heap.size) (cap := 1) h1 hb1 (fun hF => by have := h0.lt _ hF; omega) (by simp) (fun j hj => by
    have : j = 0 := by simpa using hj
    subst this; rfl) (fun n hn => by
      rw [List.mem_singleton.1 hn]
      exact ⟨hid, it, hf, hd⟩))
  clear h0 h1 hb0 hb1
  refine wpN_seq_k ?_
  intro K hK
  go_wp2_with fail
  refine HWR.out.mono ?_
  rintro e w2 ⟨rfl, ht2⟩
  have hbl3 : b3 < w1.heap.size := HB0.out.lt
  have hn2 : Turns noFoot noFoot w w2 := by
    have hz := ht0.size
    refine ⟨ht2.os.trans ht0.os, ht2.tape.trans ht0.tape, ht2.output.trans ht0.output, ?_, fun b hb _ => ?_, fun b hb => hb.elim⟩
    · have := ht2.size; simp at this; omega
    · rw [ht2.block b (by simp; omega) (fun e => by have e : b = w1.heap.size := e; omega), Below.heap_alloc w1 _ b (by omega)]
      exact ht0n.block b hb (fun e => e)
  have hb2 := (HB0.out.alloc (.cells #[u32v it.page.id] 25)).turns ht2 (fun e => by have e : b3 = w1.heap.size := e; omega)
  have h2 := h.keep hn2.size (fun b hb => hn2.block b (hFl b hb) (fun e => e))
  clear ht2 HWR HB0 H0 c3 ht0 ht0n
  go_wp2_with fail
  have hkd := fun (W : World) (hs : w2.heap.size ≤ W.heap.size) (hk : ∀ b, F b → W.heap[b]? = w2.heap[b]?) => (h2.keep hs hk).look hid hf
  obtain ⟨c0, c1, c2, c3, c4, c5, c6, c7⟩ := h2.cells
  have cb3 := hb2.cell 0
  simp only [List.getElem?_toArray, List.getElem?_cons_zero] at cb3
  have hS := Lib.hid (⟨c6, cb3, hkd w2.drew (Nat.le_refl _) (fun _ _ => rfl)⟩ : w2.drew.cell? ⟨gp, 6, none⟩ = some (.map (some mb)) ∧ w2.drew.cell? ⟨b3, 0, none⟩ = some (u32v it.page.id) ∧
      (Instr.lookup 119 (.map (some mb)) (u32v it.page.id) false).run Tryz.prog w2.drew = .ok (.int .i64 it.idx) w2.drew)
  clear hkd c0 c1 c2 c3 c4 c5 c6 c7 cb3
  refine wpN_seq_k ?_
  intro K hK
  refine R_begin (fun W => W.cell? ⟨gp, 6, none⟩ = some (.map (some mb)) ∧ W.cell? ⟨b3, 0, none⟩ = some (u32v it.page.id) ∧
      (Instr.lookup 119 (.map (some mb)) (u32v it.page.id) false).run Tryz.prog W = .ok (.int .i64 it.idx) W) (fun _ => false) rfl ?_
  refine R_take 0 14 (v := ?_) rfl rfl (by rfl) (by kernel_rfl) (fun _ _ _ h => h) hS.out ?_ ?_
  rotate_left
  · intro w hSw; (try dsimp only at hSw); go_simp; (try with_reducible rfl)
  simp only [List.setIfInBounds_toArray, List.set_cons_zero, List.set_cons_succ]
  refine R_take 1 15 (v := ?_) rfl rfl (by rfl) (by kernel_rfl) (fun _ _ _ h => h) hS.out ?_ ?_
  rotate_left
  · intro w hSw; (try dsimp only at hSw); go_simp; (try with_reducible rfl)
  simp only [List.setIfInBounds_toArray, List.set_cons_zero, List.set_cons_succ]
  refine R_take 2 16 (v := ?_) rfl rfl (by rfl) (by kernel_rfl) (fun _ _ _ h => h) hS.out ?_ ?_
  rotate_left
  · intro w hSw; (try dsimp only at hSw); go_simp; (try with_reducible rfl)
  simp only [List.setIfInBounds_toArray, List.set_cons_zero, List.set_cons_succ]
  refine R_take 3 17 (v := ?_) rfl rfl (by rfl) (by kernel_rfl) (fun _ _ _ h => h) hS.out ?_ ?_
  rotate_left
  · intro w hSw; (try dsimp only at hSw); go_simp; (try with_reducible rfl)
  simp only [List.setIfInBounds_toArray, List.set_cons_zero, List.set_cons_succ]
  refine R_take 4 18 (v := ?_) rfl rfl (by rfl) (by kernel_rfl) (fun _ _ _ h => h) hS.out ?_ ?_
  rotate_left
  · intro w hSw; (try dsimp only at hSw); go_simp; (try with_reducible rfl)
  simp only [List.setIfInBounds_toArray, List.set_cons_zero, List.set_cons_succ]
  refine R_take 5 19 (v := ?_) rfl rfl (by rfl) (by kernel_rfl) (fun _ _ _ h => h) hS.out ?_ ?_
  rotate_left
  · intro w hSw; (try dsimp only at hSw); go_simp; (try with_reducible rfl)
  simp only [List.setIfInBounds_toArray, List.set_cons_zero, List.set_cons_succ]
  refine R_take 6 6 (v := ?_) rfl rfl (by rfl) (by kernel_rfl) (fun _ _ _ h => h) hS.out ?_ ?_
  rotate_left
  · intro w hSw; (try dsimp only at hSw); go_simp; (try with_reducible rfl)
  simp only [List.setIfInBounds_toArray, List.set_cons_zero, List.set_cons_succ]
  refine R_done (by kernel_rfl) ?_ _
  refine hK _ _ ?_
  have h3 := h2.keep (w' := w2.drew) (Nat.le_refl _) (fun _ _ => rfl)
  have hb3' := hb2.drew
  have hn3 := hn2.drew
  obtain ⟨w3, hw3⟩ : ∃ w3, w3 = w2.drew := ⟨_, rfl⟩
  rw [← hw3] at h3 hb3' hn3 ⊢
  clear hw3 hS h2 hb2 hn2 hK K h
  -- region 5: the frame is made empty
  obtain ⟨c0, c1, c2, c3, c4, c5, c6, c7⟩ := h3.cells
  have hbz : ∀ W, (Instr.build 123 #[]).run Tryz.prog W = .ok (.agg zeroFr.toArray) W := fun W => by kernel_rfl
  have hlt9 := h3.wf.idx_lt hit
  have hn64 := h3.wf.n64
  have H3 := Lib.hid h3
  have hcs := h3.fr.size
  clear c0 c1 c2 c3 c5 c6 c7 h3
  have hB3 := H3.out.fr.blk
  have HST := run_storeVar_part (P := Tryz.prog) w3 fb (it.idx * 9) 123 123 cs zeroFr.toArray hB3 fr_size (by rw [hcs]; show it.idx * 9 + 9 ≤ p.n * 9; omega) (by simp [zeroFr, Value.oneCell'])
  refine wpN_seq_k ?_
  intro K hK
  go_wp2_with (first | ((with_reducible refine wpList_skip (w' := w3.setRow fb (partRow cs (it.idx * 9) zeroFr)) rfl rfl ?_ ?_); exact run_op_store _ _ _ ⟨fb, it.idx * 9, none⟩ (.agg zeroFr.toArray) rfl rfl rfl HST))
  clear HST
  obtain ⟨f1, f2, f3, f4, f5⟩ := H3.out.foot
  obtain ⟨n1, n2, n3, n4, n5, n6⟩ := H3.out.ne
  obtain ⟨o1, o2, o3, o4⟩ := H3.out.own_ne
  have hB4 := hB3.setRow (partRow cs (it.idx * 9) zeroFr)
  have hk4 : ∀ b, b ≠ fb → (w3.setRow fb (partRow cs (it.idx * 9) zeroFr)).heap[b]? = w3.heap[b]? := fun b hb => setRow_other w3 fb b _ hb
  have ht4 := (Turns.refl F w3).setRow (g := fb) (.inl f2) (partRow cs (it.idx * 9) zeroFr)
  have hb34 : b3 ≠ fb := fun e => by have := hFl fb f2; omega
  have hb4' := hb3'.keep (hk4 b3 hb34)
  have hP4 := H3.out.blk.keep (hk4 gp n1)
  have hM4 := H3.out.map.keep (hk4 mb (Ne.symm n5))
  obtain ⟨w4, hw4⟩ : ∃ w4, w4 = w3.setRow fb (partRow cs (it.idx * 9) zeroFr) := ⟨_, rfl⟩
  rw [← hw4] at hB4 hk4 ht4 hb4' hP4 hM4 ⊢
  clear hw4
  -- region 6: delete
  have c6 := hP4.cell 6
  simp only [plCells, List.getElem?_toArray, List.getElem?_cons_succ, List.getElem?_cons_zero] at c6
  have cb3 := hb4'.cell 0
  simp only [List.getElem?_toArray, List.getElem?_cons_zero] at cb3
  have hS := Lib.hid (⟨c6, cb3⟩ : w4.drew.cell? ⟨gp, 6, none⟩ = some (.map (some mb)) ∧ w4.drew.cell? ⟨b3, 0, none⟩ = some (u32v it.page.id))
  clear c6 cb3
  refine wpN_seq_k ?_
  intro K hK
  refine R_begin (fun W => W.cell? ⟨gp, 6, none⟩ = some (.map (some mb)) ∧ W.cell? ⟨b3, 0, none⟩ = some (u32v it.page.id)) (fun _ => false) rfl ?_
  refine R_take 0 27 (v := ?_) rfl rfl (by rfl) (by kernel_rfl) (fun _ _ _ h => h) hS.out ?_ ?_
  rotate_left
  · intro w hSw; (try dsimp only at hSw); go_simp; (try with_reducible rfl)
  simp only [List.setIfInBounds_toArray, List.set_cons_zero, List.set_cons_succ]
  refine R_take 1 28 (v := ?_) rfl rfl (by rfl) (by kernel_rfl) (fun _ _ _ h => h) hS.out ?_ ?_
  rotate_left
  · intro w hSw; (try dsimp only at hSw); go_simp; (try with_reducible rfl)
  simp only [List.setIfInBounds_toArray, List.set_cons_zero, List.set_cons_succ]
  refine R_take 2 29 (v := ?_) rfl rfl (by rfl) (by kernel_rfl) (fun _ _ _ h => h) hS.out ?_ ?_
  rotate_left
  · intro w hSw; (try dsimp only at hSw); go_simp; (try with_reducible rfl)
  simp only [List.setIfInBounds_toArray, List.set_cons_zero, List.set_cons_succ]
  refine R_take 3 30 (v := ?_) rfl rfl (by rfl) (by kernel_rfl) (fun _ _ _ h => h) hS.out ?_ ?_
  rotate_left
  · intro w hSw; (try dsimp only at hSw); go_simp; (try with_reducible rfl)
  simp only [List.setIfInBounds_toArray, List.set_cons_zero, List.set_cons_succ]
  refine R_take 4 31 (v := ?_) rfl rfl (by rfl) (by kernel_rfl) (fun _ _ _ h => h) hS.out ?_ ?_
  rotate_left
  · intro w hSw; (try dsimp only at hSw); go_simp; (try with_reducible rfl)
  simp only [List.setIfInBounds_toArray, List.set_cons_zero, List.set_cons_succ]
  obtain ⟨w5, hdel, hM5, hg5⟩ := UMap.del (w := w4.drew) hM4.drew Tryz.underlying25 Tryz.underlying119 hid (i := it.idx) (by simp [Sp.Pl.lk, hf]) 0
  have hP5 := hP4.drew.grown hg5 (fun e => n3 (by injection e))
  have hbm : b3 ≠ mb := fun e => by have := hFl mb f4; omega
  have hb5 := hb4'.drew.grown hg5 (fun e => hbm (by injection e))
  have ht5 := ht4.drew.grown hg5 (fun k hk => .inl (by injection hk with hk; rw [← hk]; exact f4))
  have hB5 := hB4.drew.grown hg5 (fun e => n5 (by injection e))
  refine R_store 5 (n := .value (.tuple #[])) (w' := w5) rfl rfl (by rfl) (by kernel_rfl) (by go_simp) (.inr ⟨_, rfl⟩) (fun _ => ⟨(hP5.cell 6).trans rfl, (hb5.cell 0).trans rfl⟩) ?_
  refine R_done (by kernel_rfl) ?_ _
  refine hK _ _ ?_
  have hsz9 : it.idx * 9 + 9 ≤ cs.size := by omega
  have h5 := H3.out.drop (w' := w5) hit ht5.size (fun b hb h1 h2 => (hg5.block b (by have := H3.out.lt b hb; have := ht4.size; simp; omega) (fun e => h2 (by injection e))).trans (hk4 b h1)) hB5 (Framed.part rfl hsz9) (fun j hj => part_at rfl hsz9 hj) hM5
  have hc5 := h5.chan
  have hrow5 := h5.row
  have hF5 := h5.lt
  have c7 := hP5.cell 7
  have f7 := hP5.frozen 7
  simp only [plCells, List.getElem?_toArray, List.getElem?_cons_succ, List.getElem?_cons_zero] at c7
  have hn3v : v.ownBlock ≠ some b3 := fun e => by have := hFl b3 (f5 b3 e); omega
  have HDR := Lib.hid (delete_row (w := w5) (asks_drops it.page.id b3) hrow5 hb5 hn3v)
  have H5 := Lib.hid h5
  have hlen := H3.out.wf.len
  have hit1 : 0 < p.items.length := List.length_pos_of_mem hit
  clear h5 hrow5 hdel hg5 hM5 hM4 hP4 hb4' ht4 hB4 hk4 hB3 hb3' hS hK K hB5 hc5 c4 hb5
  refine wpN_seq_k ?_
  intro K hK
  go_wp2_with fail
  refine HDR.out.mono ?_
  rintro e w6 ⟨v', rfl, r1, r2, r3⟩
  have ht6 : Turns F F w3 w6 := ht5.grown r2 (fun k hk => .inl (f5 k hk))
  have hP6 := hP5.grown r2 (fun e => o1 e.symm)
  have c7 := hP6.cell 7
  have f7 := hP6.frozen 7
  simp only [plCells, List.getElem?_toArray, List.getElem?_cons_succ, List.getElem?_cons_zero] at c7
  have hrd := Lib.hid (H5.out.rowed (w' := w6.setCell ⟨gp, 7, none⟩ v') (v' := v') (ids' := ids.filter (fun x => !(x == it.page.id))) (by have := r2.size; simpa [World.setCell] using this)
    (fun b hb h1 h2 => (Below.heap_setCell w6 _ _ b h1).trans (r2.block b (hF5 b hb) (fun e => h2 e.symm))) (hP6.set_ 7 v')
    (row_keep r1 (fun b hb => Below.heap_setCell w6 _ _ b (fun e => o1 (by rw [r3 b hb, e])))) (fun b hb => .inl (r3 b hb)))
  have ht7 := ht6.setCell (p := ⟨gp, 7, none⟩) (.inl f1) v'
  obtain ⟨Av, nv, cv, rfl⟩ : ∃ A n c, v' = .slice A n c := by
    rcases r1.2 with ⟨h0, _⟩ | ⟨g6, c6, _, h0, _⟩
    · exact ⟨_, _, _, h0⟩
    · exact ⟨_, _, _, h0⟩
  clear r1 r2 HDR hP6 hP5 H5 H3 ht6
  go_wp2_with fail
  obtain ⟨w7, hw7⟩ : ∃ w7, w7 = w6.setCell ⟨gp, 7, none⟩ (.slice Av nv cv) := ⟨_, rfl⟩
  rw [← hw7] at hrd ht7 ⊢
  clear hw7
  have hc7 := hrd.out.chan
  obtain ⟨c0, c1, c2, c3, c4, c5, c6, c7'⟩ := hrd.out.cells
  clear c0 c1 c2 c3 c4 c6 c7'
  refine wpN_seq ?_
  refine wpN_region ?_
  change wpT _ _ _ [0, 1, 2, 3, 4, 5] _ _
  refine T_value 0 41 (v := ptr gp) (w' := w7) rfl rfl (by rfl) (by go_simp) ?_
  simp only [List.setIfInBounds_toArray, List.set_cons_zero, List.set_cons_succ]
  refine T_value 1 42 (v := ptr gp) (w' := w7) rfl rfl (by rfl) (by go_simp) ?_
  simp only [List.setIfInBounds_toArray, List.set_cons_zero, List.set_cons_succ]
  refine T_value 2 43 (v := .pointer (some ⟨gp, 5, none⟩)) (w' := w7) rfl rfl (by rfl) (by go_simp) ?_
  simp only [List.setIfInBounds_toArray, List.set_cons_zero, List.set_cons_succ]
  refine T_value 3 44 (v := .chan (some cb)) (w' := w7) rfl rfl (by rfl) (by go_simp) ?_
  simp only [List.setIfInBounds_toArray, List.set_cons_zero, List.set_cons_succ]
  refine T_value 4 45 (v := .int .i64 it.idx) (w' := w7) rfl rfl (by rfl) (by go_simp) ?_
  simp only [List.setIfInBounds_toArray, List.set_cons_zero, List.set_cons_succ]
  refine T_send 5 (c := cb) (cap := p.n) (buf := (p.free.map fun (i : Nat) => Value.int .i64 (i : Int)).toArray) (s := s) (r := r) (tm := false) (v := .int .i64 it.idx) (z := .tuple #[]) (w' := w7) rfl rfl (by rfl) (by simp [execOp, scase, Act.eval]) hc7 (by simp; omega) ?_
  refine T_done ?_
  simp only [Exit.then]
  refine wpN_of_wp ?_
  have hch := hrd.out.chans (fl' := p.free ++ [it.idx]) (s' := s + 1) (r' := r)
  change IsPlAt _ _ (w7.setChan cb p.n _ _ _ _ _) _ _ _ _ _ _ _ _ _ _ _ _ _ _ _ at hch
  have hgr := grown_setChan w7 cb p.n ((p.free ++ [it.idx]).map fun (i : Nat) => Value.int .i64 (i : Int)).toArray false (s + 1) r false
  have ht8 := ht7.grown hgr (fun k hk => .inl (by injection hk with hk; rw [← hk]; exact f3))
  have eb : ((p.free.map fun (i : Nat) => Value.int .i64 (i : Int)).toArray).push (.int .i64 (it.idx : Int)) = ((p.free ++ [it.idx]).map fun (i : Nat) => Value.int .i64 (i : Int)).toArray := by simp
  rw [eb]
  have HCH := Lib.hid hch
  clear hch hgr hrd hc7 ht7 eb
  generalize w7.setChan cb p.n ((p.free ++ [it.idx]).map fun (i : Nat) => Value.int .i64 (i : Int)).toArray false (s + 1) r false = w8 at *
  go_wp2_with fail
  go_ret
  refine ⟨rfl, _, _, _, HCH.out, ?_⟩
  have hn3z := hn3.size
  refine ⟨ht8.os.trans hn3.os, ht8.tape.trans hn3.tape, ht8.output.trans hn3.output, Nat.le_trans hn3z ht8.size, fun b hb hn => ?_, fun b hb => ?_⟩
  · rw [ht8.block b (by omega) hn]; exact hn3.block b hb (fun e => e)
  · rcases hb with hb | hb
    · exact .inl hb
    · exact .inl (f5 b (r3 b hb))
end Go.Proofs.YtclpmkinjjhncaaGreat

/- The walks of package pool: take. -/
namespace Go.Proofs.YtclpmkinjjhncaaGreat
open Go.RowKit Go.Conc

def TakePost (F R : Foot) (w : World) (gp gd gl at_ base fb cb mb : Nat) (i : Nat) (fl ids : List Nat) (p : Sp.Pl) (e : Ending) (w' : World) : Prop :=
  e = .returned (.tuple #[.int .i64 i, .int .i64 0]) ∧ ∃ F' v' s' r' cs', IsPlAt F' R w' gp gd gl at_ base fb cb mb v' s' r' cs' fl ids p ∧ Turns F F' w w'

theorem chan_pop (i : Nat) (rest : List Nat) : ((i :: rest).map fun (i : Nat) => Value.int .i64 (i : Int)).toArray.getD 0 undef = .int .i64 i ∧
    ((i :: rest).map fun (i : Nat) => Value.int .i64 (i : Int)).toArray.extract 1 ((i :: rest).map fun (i : Nat) => Value.int .i64 (i : Int)).toArray.size = (rest.map fun (i : Nat) => Value.int .i64 (i : Int)).toArray := by
  constructor
  · simp
  · simp only [List.map_cons, List.extract_toArray, List.size_toArray, List.length_cons, List.length_map]
    congr 1
    simp [List.take_of_length_le]

set_option maxRecDepth 100000 in
set_option maxHeartbeats 2000000 in
theorem pool_take_free {F R : Foot} {w : World} {gp gd gl at_ base fb cb mb s r : Nat} {v : Value} {cs : Array Value} {ids : List Nat} {p : Sp.Pl} (h : IsPlAt F R w gp gd gl at_ base fb cb mb v s r cs p.free ids p)
    {i : Nat} {rest : List Nat} (hfree : p.free = i :: rest) :
    Calls Tryz.prog 170 #[ptr gp] w (TakePost F R w gp gd gl at_ base fb cb mb i rest ids p) := by
  refine calls_of_wpN Tryz.func170 rfl ?_
  simp only [Tryz.ntmps170, List.size_toArray, List.length_cons, List.length_nil, Nat.reduceAdd, Nat.reduceSub, Array.replicate_succ, Array.replicate_zero, List.push_toArray, List.append_toArray, List.nil_append, List.cons_append]
  obtain ⟨c0, c1, c2, c3, c4, c5, c6, c7⟩ := h.cells
  have hc := h.chan
  rw [hfree] at hc
  have hch := h.chans (fl' := rest) (s' := s) (r' := r + 1)
  have hgr := grown_setChan w cb p.n (rest.map fun (i : Nat) => Value.int .i64 (i : Int)).toArray false s (r + 1) false
  have ht := (Turns.refl F w).grown hgr (fun k hk => .inl (by injection hk with hk; rw [← hk]; exact h.foot.2.2.1))
  have HCH := Lib.hid hch
  clear c0 c1 c2 c3 c4 c6 c7 hch hgr h
  refine wpN_seq_k ?_
  intro K hK
  go_wp2_with fail
  refine wpN_seq ?_
  refine wpN_seq_k ?_
  intro K hK
  go_wp2_with fail
  refine wpN_seq ?_
  refine wpN_region ?_
  change wpT _ _ _ [0, 1, 2] _ _
  refine T_select_recv 0 12 (c := cb) (cap := p.n) (buf := ((i :: rest).map fun (i : Nat) => Value.int .i64 (i : Int)).toArray) (s := s) (r := r) (closed := false) (tm := false) (z := .int .i64 0) (w' := w) rfl rfl (by rfl) ?_ hc (by simp) ?_
  · go_simp
    rfl
  simp only [List.setIfInBounds_toArray, List.set_cons_zero, List.set_cons_succ]
  obtain ⟨e1, e2⟩ := chan_pop i rest
  rw [e1, e2]
  clear e1 e2 hc c5
  generalize w.setChan cb p.n (rest.map fun (i : Nat) => Value.int .i64 (i : Int)).toArray false s (r + 1) false = w8 at *
  refine T_value 1 13 (v := .int .i64 0) (w' := w8) rfl rfl (by rfl) (by go_simp) ?_
  simp only [List.setIfInBounds_toArray, List.set_cons_zero, List.set_cons_succ]
  refine T_value 2 14 (v := .bool true) (w' := w8) rfl rfl (by rfl) (by go_simp) ?_
  simp only [List.setIfInBounds_toArray, List.set_cons_zero, List.set_cons_succ]
  refine T_done ?_
  simp only [Exit.then]
  refine wpN_of_wp ?_
  go_wp2_with fail
  go_ret2
  exact ⟨rfl, _, _, _, _, _, HCH.out, ht⟩

theorem row_cell {w : World} {b cap : Nat} {ids : List Nat} (h : w.ownsRow 0 25 1 (.slice (some ⟨b, 0, none⟩) ids.length cap) ids.length (ids.map fun (i : Nat) => Value.int .u32 (i : Int))) {k : Nat} (hk : k < ids.length) : w.cell? ⟨b, k, none⟩ = some (u32v ids[k]!) := by
  rcases h.2 with ⟨h0, _⟩ | ⟨g, c, cur, h0, _, hh, h1, h2, h3, h4⟩
  · cases h0
  · injection h0 with a1 a2 a3
    injection a1 with a1
    injection a1 with a1
    subst a1
    rw [cell_of_row w b k cur _ (0, 0) hh]
    have := congrArg (fun l => l[k]?) h4
    simp only [Nat.mul_one, List.getElem?_take, hk, if_true] at this
    rw [Array.getElem?_toList] at this
    rw [this]
    simp [hk]

/-- What holds behind the drop of a page: what X says of it. -/
def DropX (X : Sp.It → Foot → World → World → Prop) (E : Nat → Sp.It → World → World → Prop) (R : Foot) (w : World) (gp gd gl at_ base fb cb mb : Nat) (fl ids : List Nat) (p : Sp.Pl) (it : Sp.It) (e : Ending) (w' : World) : Prop :=
  (∃ c : Nat, c ≠ 0 ∧ e = .returned (.int .i64 c) ∧ E c it w w') ∨
  e = .returned (.int .i64 0) ∧ ∃ F' v' s' r' cs', IsPlAt F' R w' gp gd gl at_ base fb cb mb v' s' r' cs' (fl ++ [it.idx]) (ids.filter (fun x => !(x == it.page.id))) (p.drop it.page.id it.idx) ∧ X it F' w w'

/-- take, where no frame is free: the first of the row that is not pinned goes. -/
def ScanPost (X : Sp.It → Foot → World → World → Prop) (E : Nat → Sp.It → World → World → Prop) (R : Foot) (w : World) (gp gd gl at_ base fb cb mb : Nat) (ids : List Nat) (p : Sp.Pl) (e : Ending) (w' : World) : Prop :=
  (e = .returned (.tuple #[.int .i64 0, .int .i64 4]) ∧ (∀ n ∈ ids, ∃ it, p.find n = some it ∧ 0 < it.pins) ∧ Turns noFoot noFoot w w') ∨
  (∃ pre it post, ids = pre ++ it.page.id :: post ∧ (∀ n ∈ pre, ∃ y, p.find n = some y ∧ 0 < y.pins) ∧ p.find it.page.id = some it ∧ it.pins = 0 ∧ ∃ c : Nat, c ≠ 0 ∧ e = .returned (.tuple #[.int .i64 0, .int .i64 c]) ∧ ∃ W, Turns noFoot noFoot w W ∧ E c it W w') ∨
  ∃ pre it post, ids = pre ++ it.page.id :: post ∧ (∀ n ∈ pre, ∃ y, p.find n = some y ∧ 0 < y.pins) ∧ p.find it.page.id = some it ∧ it.pins = 0 ∧ e = .returned (.tuple #[.int .i64 it.idx, .int .i64 0]) ∧
    ∃ W w1 F' v' s' r' cs', Turns noFoot noFoot w W ∧ X it F' W w1 ∧ IsPlAt F' R w' gp gd gl at_ base fb cb mb v' s' r' cs' [] (ids.filter (fun x => !(x == it.page.id))) (p.drop it.page.id it.idx) ∧ Turns (only cb) (only cb) w1 w'

set_option maxRecDepth 100000 in
set_option maxHeartbeats 4000000 in
theorem pool_take_scan {F R : Foot} {w : World} {gp gd gl at_ base fb cb mb s r : Nat} {v : Value} {cs : Array Value} {ids : List Nat} {p : Sp.Pl} (h : IsPlAt F R w gp gd gl at_ base fb cb mb v s r cs p.free ids p)
    (hfree : p.free = []) (hin : ∀ n ∈ ids, n < 4294967296 ∧ ∃ it, p.find n = some it) (hl : ids.length ≤ 64) (X : Sp.It → Foot → World → World → Prop) (E : Nat → Sp.It → World → World → Prop)
    (hD : ∀ it ∈ p.items, it.pins = 0 → ∀ W, IsPlAt F R W gp gd gl at_ base fb cb mb v s r cs p.free ids p → Turns noFoot noFoot w W → Calls Tryz.prog 144 #[ptr gp, u32v it.page.id] W (DropX X E R W gp gd gl at_ base fb cb mb p.free ids p it)) :
    Calls Tryz.prog 170 #[ptr gp] w (ScanPost X E R w gp gd gl at_ base fb cb mb ids p) := by
  refine calls_of_wpN Tryz.func170 rfl ?_
  simp only [Tryz.ntmps170, List.size_toArray, List.length_cons, List.length_nil, Nat.reduceAdd, Nat.reduceSub, Array.replicate_succ, Array.replicate_zero, List.push_toArray, List.append_toArray, List.nil_append, List.cons_append]
  have hc := h.chan
  rw [hfree] at hc
  obtain ⟨c0, c1, c2, c3, c4, c5, c6, c7⟩ := h.cells
  have H := Lib.hid h
  have HD := Lib.hid hD
  have HIN := Lib.hid hin
  have hids : ids = [] ∨ ∃ b cap, v = .slice (some ⟨b, 0, none⟩) ids.length cap ∧ ids.length ≤ cap := by
    rcases h.row.2 with ⟨_, h0⟩ | ⟨g, cap, cur, h0, _, hh, h1, h2, h3, h4⟩
    · exact .inl (List.eq_nil_of_length_eq_zero h0)
    · exact .inr ⟨g, cap, h0, h1⟩
  have hv : ∃ A n c, v = .slice A n c ∧ n = ids.length := by
    rcases h.row.2 with ⟨h0, h1⟩ | ⟨g, cap, cur, h0, _⟩
    · exact ⟨_, _, _, h0, h1.symm⟩
    · exact ⟨_, _, _, h0, rfl⟩
  obtain ⟨Av, nv, cv, rfl, rfl⟩ := hv
  clear c0 c1 c2 c3 c4 c6 h hD hin
  refine wpN_seq_k ?_
  intro K hK
  go_wp2_with fail
  refine wpN_seq ?_
  refine wpN_seq_k ?_
  intro K hK
  go_wp2_with fail
  refine wpN_seq ?_
  refine wpN_region ?_
  change wpT _ _ _ [0, 1, 2] _ _
  refine T_select_default 0 12 (c := cb) (cap := p.n) (s := s) (r := r) (tm := false) (z := .int .i64 0) (w' := w) rfl rfl (by rfl) ?_ hc ?_
  · go_simp
    rfl
  simp only [List.setIfInBounds_toArray, List.set_cons_zero, List.set_cons_succ]
  refine T_value 1 13 (v := .int .i64 (-1)) (w' := w) rfl rfl (by rfl) (by go_simp) ?_
  simp only [List.setIfInBounds_toArray, List.set_cons_zero, List.set_cons_succ]
  refine T_value 2 14 (v := .bool false) (w' := w) rfl rfl (by rfl) (by go_simp) ?_
  simp only [List.setIfInBounds_toArray, List.set_cons_zero, List.set_cons_succ]
  refine T_done ?_
  simp only [Exit.then]
  refine wpN_of_wp ?_
  go_wp2_with fail
  refine wpN_seq ?_
  refine wpN_seq_k ?_
  intro K hK
  go_wp2_with fail
  refine wpN_block ?_
  refine wpN_loop (fun a wr => ∃ (k : Nat) (u6 u23 u24 u25 u26 u27 u28 u29 u30 u31 u32 u33 u34 u35 u36 u37 u38 u39 u51 : Value), k ≤ ids.length ∧ a = { tmps := #[ptr gp, undef, .int .i64 0, .int .i64 0, undef, undef, u6, undef, ptr gp, .pointer (some ⟨gp, 0, none⟩), .pointer (some ⟨gp, 5, none⟩), .chan (some cb), .tuple #[goInt (-1), .bool false, .int .i64 0], .int .i64 (-1), .bool false, undef, undef, ptr gp, .pointer (some ⟨gp, 0, none⟩), .pointer (some ⟨gp, 7, none⟩), .slice Av ids.length cv, .int .i64 ids.length, .int .i64 (k : Nat), u23, u24, u25, u26, u27, u28, u29, u30, u31, u32, u33, u34, u35, u36, u37, u38, u39, undef, undef, undef, undef, undef, undef, undef, undef, undef, undef, undef, u51], defers := [] } ∧ Turns noFoot noFoot w wr ∧ ∀ n ∈ ids.take k, ∃ it, p.find n = some it ∧ 0 < it.pins) (fun a _ => ids.length - (intOf (a.tmps.getD 22 undef)).toNat) ?_ ?_
  · exact ⟨0, undef, undef, undef, undef, undef, undef, undef, undef, undef, undef, undef, undef, undef, undef, undef, undef, undef, undef, undef, Nat.zero_le _, rfl, Turns.refl _ _, by simp⟩
  rintro a wr ⟨k, u6, u23, u24, u25, u26, u27, u28, u29, u30, u31, u32, u33, u34, u35, u36, u37, u38, u39, u51, hk, rfl, htr, hpre⟩
  have hkp := H.out.keep htr.size (fun b hb => htr.block b (H.out.lt b hb) (fun e => e))
  by_cases hlt : k < ids.length
  · rcases hids with h0 | ⟨rb, rc, hv, hcap⟩
    · rw [h0] at hlt; exact absurd hlt (by simp)
    obtain ⟨rfl, rfl⟩ : Av = some ⟨rb, 0, none⟩ ∧ cv = rc := by injection hv with a1 a2 a3; exact ⟨a1, a3⟩
    have hck : wr.cell? ⟨rb, k, none⟩ = some (u32v ids[k]!) := by
      have := row_cell hkp.row hlt
      exact this
    obtain ⟨hid, it, hf⟩ := HIN.out ids[k]! (by rw [getElem!_pos _ k hlt]; exact List.getElem_mem hlt)
    have htk : ids.take (k + 1) = ids.take k ++ [ids[k]!] := by rw [List.take_succ_eq_append_getElem hlt, getElem!_pos _ k hlt]
    have hsplit : ids = ids.take k ++ ids[k]! :: ids.drop (k + 1) := by
      conv => lhs; rw [← List.take_append_drop k ids, List.drop_eq_getElem_cons hlt]
      rw [getElem!_pos _ k hlt]
    have hmeas : k + 1 ≤ ids.length := hlt
    have HTK := Lib.hid htk
    have HSP := Lib.hid hsplit
    clear htk hsplit
    generalize ids[k]! = id at *
    obtain ⟨hit, rfl⟩ := Sp.Pl.find_mem hf
    clear hv
    refine wpN_seq_k ?_
    intro K hK
    go_wp2_with fail
    refine wpN_seq_k ?_
    intro K hK
    go_wp2_with fail
    refine wpN_seq ?_
    refine wpN_block ?_
    refine wpN_seq_k ?_
    intro K hK
    go_wp2_with fail
    obtain ⟨c0, c1, c2, c3, c4, c5', c6, c7'⟩ := hkp.cells
    have cp := hkp.pins hit
    have hlk := (hkp.keep (w' := wr.drew) (Nat.le_refl _) (fun _ _ => rfl)).look hid hf
    have hlt9 := hkp.wf.idx_lt hit
    have hn64 := hkp.wf.n64
    have hS := Lib.hid (⟨c4, c6, hlk, cp⟩ : wr.drew.cell? ⟨gp, 4, none⟩ = some (.slice (some ⟨fb, 0, none⟩) p.n p.n) ∧ wr.drew.cell? ⟨gp, 6, none⟩ = some (.map (some mb)) ∧
      (Instr.lookup 119 (.map (some mb)) (u32v it.page.id) false).run Tryz.prog wr.drew = .ok (.int .i64 it.idx) wr.drew ∧ wr.drew.cell? ⟨fb, it.idx * 9 + 6, none⟩ = some (.int .i64 it.pins))
    have HKP := Lib.hid hkp
    clear c0 c1 c2 c3 c4 c5' c6 c7' cp hlk hkp hck
    refine wpN_seq_k ?_
    intro K hK
    go_wp2_with fail
    refine R_begin (fun W => W.cell? ⟨gp, 4, none⟩ = some (.slice (some ⟨fb, 0, none⟩) p.n p.n) ∧ W.cell? ⟨gp, 6, none⟩ = some (.map (some mb)) ∧
      (Instr.lookup 119 (.map (some mb)) (u32v it.page.id) false).run Tryz.prog W = .ok (.int .i64 it.idx) W ∧ W.cell? ⟨fb, it.idx * 9 + 6, none⟩ = some (.int .i64 it.pins)) (fun _ => false) rfl ?_
    refine R_take 0 26 (v := ?_) rfl rfl (by rfl) (by kernel_rfl) (fun _ _ _ h => h) hS.out ?_ ?_
    rotate_left
    · intro w hSw; (try dsimp only at hSw); go_simp; (try with_reducible rfl)
    simp only [List.setIfInBounds_toArray, List.set_cons_zero, List.set_cons_succ]
    refine R_take 1 27 (v := ?_) rfl rfl (by rfl) (by kernel_rfl) (fun _ _ _ h => h) hS.out ?_ ?_
    rotate_left
    · intro w hSw; (try dsimp only at hSw); go_simp; (try with_reducible rfl)
    simp only [List.setIfInBounds_toArray, List.set_cons_zero, List.set_cons_succ]
    refine R_take 2 28 (v := ?_) rfl rfl (by rfl) (by kernel_rfl) (fun _ _ _ h => h) hS.out ?_ ?_
    rotate_left
    · intro w hSw; (try dsimp only at hSw); go_simp; (try with_reducible rfl)
    simp only [List.setIfInBounds_toArray, List.set_cons_zero, List.set_cons_succ]
    refine R_take 3 29 (v := ?_) rfl rfl (by rfl) (by kernel_rfl) (fun _ _ _ h => h) hS.out ?_ ?_
    rotate_left
    · intro w hSw; (try dsimp only at hSw); go_simp; (try with_reducible rfl)
    simp only [List.setIfInBounds_toArray, List.set_cons_zero, List.set_cons_succ]
    refine R_take 4 30 (v := ?_) rfl rfl (by rfl) (by kernel_rfl) (fun _ _ _ h => h) hS.out ?_ ?_
    rotate_left
    · intro w hSw; (try dsimp only at hSw); go_simp; (try with_reducible rfl)
    simp only [List.setIfInBounds_toArray, List.set_cons_zero, List.set_cons_succ]
    refine R_take 5 31 (v := ?_) rfl rfl (by rfl) (by kernel_rfl) (fun _ _ _ h => h) hS.out ?_ ?_
    rotate_left
    · intro w hSw; (try dsimp only at hSw); go_simp; (try with_reducible rfl)
    simp only [List.setIfInBounds_toArray, List.set_cons_zero, List.set_cons_succ]
    refine R_take 6 32 (v := ?_) rfl rfl (by rfl) (by kernel_rfl) (fun _ _ _ h => h) hS.out ?_ ?_
    rotate_left
    · intro w hSw; (try dsimp only at hSw); go_simp; (try with_reducible rfl)
    simp only [List.setIfInBounds_toArray, List.set_cons_zero, List.set_cons_succ]
    refine R_take 7 33 (v := ?_) rfl rfl (by rfl) (by kernel_rfl) (fun _ _ _ h => h) hS.out ?_ ?_
    rotate_left
    · intro w hSw; (try dsimp only at hSw); go_simp; (try with_reducible rfl)
    simp only [List.setIfInBounds_toArray, List.set_cons_zero, List.set_cons_succ]
    refine R_take 8 34 (v := ?_) rfl rfl (by rfl) (by kernel_rfl) (fun _ _ _ h => h) hS.out ?_ ?_
    rotate_left
    · intro w hSw; (try dsimp only at hSw); go_simp; (try with_reducible rfl)
    simp only [List.setIfInBounds_toArray, List.set_cons_zero, List.set_cons_succ]
    refine R_take 9 35 (v := ?_) rfl rfl (by rfl) (by kernel_rfl) (fun _ _ _ h => h) hS.out ?_ ?_
    rotate_left
    · intro w hSw; (try dsimp only at hSw); go_simp; (try with_reducible rfl)
    simp only [List.setIfInBounds_toArray, List.set_cons_zero, List.set_cons_succ]
    refine R_take 10 36 (v := ?_) rfl rfl (by rfl) (by kernel_rfl) (fun _ _ _ h => h) hS.out ?_ ?_
    rotate_left
    · intro w hSw; (try dsimp only at hSw); go_simp; (try with_reducible rfl)
    simp only [List.setIfInBounds_toArray, List.set_cons_zero, List.set_cons_succ]
    refine R_take 11 37 (v := ?_) rfl rfl (by rfl) (by kernel_rfl) (fun _ _ _ h => h) hS.out ?_ ?_
    rotate_left
    · intro w hSw; (try dsimp only at hSw); go_simp; (try with_reducible rfl)
    simp only [List.setIfInBounds_toArray, List.set_cons_zero, List.set_cons_succ]
    refine R_take 12 38 (v := ?_) rfl rfl (by rfl) (by kernel_rfl) (fun _ _ _ h => h) hS.out ?_ ?_
    rotate_left
    · intro w hSw; (try dsimp only at hSw); go_simp; (try with_reducible rfl)
    simp only [List.setIfInBounds_toArray, List.set_cons_zero, List.set_cons_succ]
    refine R_take 13 39 (v := .bool (decide (0 < it.pins))) rfl rfl (by rfl) (by kernel_rfl) (fun _ _ _ h => h) hS.out ?_ ?_
    · intro w hSw; (try dsimp only at hSw); go_simp
    simp only [List.setIfInBounds_toArray, List.set_cons_zero, List.set_cons_succ]
    refine R_done (by kernel_rfl) ?_ _
    rename_i K9 hK9
    refine hK9 _ _ ?_
    have htd := htr.drew
    have hkd := HKP.out.keep (w' := wr.drew) (Nat.le_refl _) (fun _ _ => rfl)
    clear hS HKP htr
    generalize wr.drew = wd at *
    have HKD := Lib.hid hkd
    clear hkd
    go_wp2_with fail
    · rename_i hp
      refine wpN_of_wp ?_
      go_wp2_with fail
      refine ⟨⟨k + 1, hmeas, ⟨_, _, _, _, _, _, _, _, _, _, _, _, _, _, _, _, _, _, _, rfl⟩, htd, fun n hn => ?_⟩, by simp [intOf]; omega⟩
      rw [HTK.out] at hn
      rcases List.mem_append.1 hn with hn | hn
      · exact hpre n hn
      · rw [List.mem_singleton.1 hn]
        exact ⟨it, hf, hp⟩
    · rename_i hp
      have hp0 : it.pins = 0 := by omega
      have HDD := Lib.hid (HD.out it hit hp0 wd HKD.out htd)
      clear HD HKD
      refine wpN_seq_k ?_
      intro K hK
      go_wp2_with fail
      refine HDD.out.mono ?_
      rintro e w1 (⟨c4, hc4, rfl, hE⟩ | ⟨rfl, F', v', s', r', cs', h1, hX⟩)
      · have dc : ((c4 : Int) != 0) = true := by simpa using hc4
        go_wp2_with fail
        go_ret2
        exact .inr (.inl ⟨ids.take k, it, ids.drop (k + 1), HSP.out, hpre, hf, hp0, c4, hc4, rfl, wd, htd, hE⟩)
      rw [hfree, List.nil_append] at h1
      go_wp2_with fail
      obtain ⟨c0, c1, c2, c3, c4, c5', c6, c7'⟩ := h1.cells
      have hc1 := h1.chan
      have hch := h1.chans (fl' := []) (s' := s') (r' := r' + 1)
      change IsPlAt _ _ (w1.setChan cb p.n _ _ _ _ _) _ _ _ _ _ _ _ _ _ _ _ _ _ _ _ at hch
      have hgr := grown_setChan w1 cb p.n (([] : List Nat).map fun (i : Nat) => Value.int .i64 (i : Int)).toArray false s' (r' + 1) false
      have ht9 := (Turns.refl (only cb) w1).grown hgr (fun k hk => .inl (by injection hk with hk; exact hk.symm))
      have HCH := Lib.hid hch
      clear c0 c1 c2 c3 c4 c6 c7' hch hgr h1
      refine wpN_seq ?_
      refine wpN_region ?_
      change wpT _ _ _ [0, 1, 2, 3, 4, 5, 6] _ _
      refine T_value 0 46 (v := ptr gp) (w' := w1) rfl rfl (by rfl) (by go_simp) ?_
      simp only [List.setIfInBounds_toArray, List.set_cons_zero, List.set_cons_succ]
      refine T_value 1 47 (v := ptr gp) (w' := w1) rfl rfl (by rfl) (by go_simp) ?_
      simp only [List.setIfInBounds_toArray, List.set_cons_zero, List.set_cons_succ]
      refine T_value 2 48 (v := .pointer (some ⟨gp, 5, none⟩)) (w' := w1) rfl rfl (by rfl) (by go_simp) ?_
      simp only [List.setIfInBounds_toArray, List.set_cons_zero, List.set_cons_succ]
      refine T_value 3 49 (v := .chan (some cb)) (w' := w1) rfl rfl (by rfl) (by go_simp) ?_
      simp only [List.setIfInBounds_toArray, List.set_cons_zero, List.set_cons_succ]
      refine T_recv 4 50 (c := cb) (cap := p.n) (buf := ([it.idx].map fun (i : Nat) => Value.int .i64 (i : Int)).toArray) (s := s') (r := r') (closed := false) (tm := false) (z := .int .i64 0) (w' := w1) rfl rfl (by rfl) ?_ hc1 (by simp) ?_
      · go_simp
        rfl
      simp only [List.setIfInBounds_toArray, List.set_cons_zero, List.set_cons_succ]
      obtain ⟨e1, e2⟩ := chan_pop it.idx []
      rw [e1, e2]
      clear e1 e2 hc1 c5'
      generalize w1.setChan cb p.n (([] : List Nat).map fun (i : Nat) => Value.int .i64 (i : Int)).toArray false s' (r' + 1) false = w9 at *
      refine T_value 5 2 (v := .int .i64 it.idx) (w' := w9) rfl rfl (by rfl) (by go_simp) ?_
      simp only [List.setIfInBounds_toArray, List.set_cons_zero, List.set_cons_succ]
      refine T_value 6 3 (v := .int .i64 0) (w' := w9) rfl rfl (by rfl) (by go_simp) ?_
      simp only [List.setIfInBounds_toArray, List.set_cons_zero, List.set_cons_succ]
      refine T_done ?_
      simp only [Exit.then]
      refine wpN_of_wp ?_
      go_wp2_with fail
      go_ret2
      exact .inr (.inr ⟨ids.take k, it, ids.drop (k + 1), HSP.out, hpre, hf, hp0, rfl, wd, w1, F', v', s', r' + 1, cs', htd, hX, HCH.out, ht9⟩)
  · obtain rfl : k = ids.length := by omega
    rw [List.take_length] at hpre
    clear hkp
    refine wpN_seq_k ?_
    intro K hK
    go_wp2_with fail
    refine wpN_seq_k ?_
    intro K hK
    go_wp2_with fail
    refine wpN_of_wp ?_
    go_wp2_with fail
    go_ret2
    exact .inl ⟨rfl, hpre, htr⟩
end Go.Proofs.YtclpmkinjjhncaaGreat

/- The walks of package pool: brings. -/
namespace Go.Proofs.YtclpmkinjjhncaaGreat
open Go.RowKit Go.Conc

abbrev pgCs (x : Sp.Pg) (A : Option Addr) (c : Nat) : Array Value := #[.int .u8 x.kind, .int .u8 x.level, .int .u32 x.id, .int .u64 x.lsn, .int .u32 x.next, .slice A x.rows.length c]

/-- What brings asks of take: a frame, and what Z says; or none. -/
def TookPost (Z : Nat → Sp.Pl → List Nat → Foot → Foot → World → Prop) (Z4 : Nat → World → Prop) (H R : Foot) (w : World) (gp gd gl at_ base fb cb mb id : Nat) (e : Ending) (w' : World) : Prop :=
  (∃ c4 : Nat, c4 ≠ 0 ∧ e = .returned (.tuple #[.int .i64 0, .int .i64 c4]) ∧ Z4 c4 w' ∧ Turns H H w w') ∨
  ∃ (i : Nat) (p' : Sp.Pl) (F' H' : Foot) (v' : Value) (s' r' : Nat) (cs' : Array Value) (ids' rest : List Nat), e = .returned (.tuple #[.int .i64 i, .int .i64 0]) ∧ IsPlAt F' R w' gp gd gl at_ base fb cb mb v' s' r' cs' rest ids' p' ∧ p'.free = i :: rest ∧ p'.find id = none ∧ Turns H H' w w' ∧ (∀ b, F' b → H' b) ∧ Z i p' ids' F' H' w'

def BringPost (Z : Nat → Sp.Pl → List Nat → Foot → Foot → World → Prop) (Z4 : Nat → World → Prop) (H R G : Foot) (w : World) (gp gd gl at_ base fb cb mb : Nat) (x : Sp.Pg) (e : Ending) (w' : World) : Prop :=
  (∃ c4 : Nat, c4 ≠ 0 ∧ e = .returned (.int .i64 c4) ∧ Z4 c4 w' ∧ Turns H H w w') ∨
  ∃ (i : Nat) (p' : Sp.Pl) (F' H' : Foot) (v' : Value) (s' r' : Nat) (cs' : Array Value) (ids' rest : List Nat) (w2 : World), e = .returned (.int .i64 0) ∧ IsPlAt (fun b => F' b ∨ G b) (fun b => R b ∨ G b) w' gp gd gl at_ base fb cb mb v' s' r' cs' rest ids' (p'.bring x i rest) ∧ p'.free = i :: rest ∧ p'.find x.id = none ∧ Turns H H' w w2 ∧ (∀ b, F' b → H' b) ∧ Z i p' ids' F' H' w2 ∧ Turns F' F' w2 w'

set_option maxRecDepth 100000 in
set_option maxHeartbeats 4000000 in
theorem pool_brings {H R G : Foot} {w : World} {gp gd gl at_ base fb cb mb : Nat} {x : Sp.Pg} {A : Option Addr} {c : Nat} (hx : x.wf ∧ x.may) (hA : OkAddr A) (hR : RowsAt G w A x.rows) (hG : ∀ b, G b → ¬ H b ∧ b < w.heap.size) (hH : ∀ b, H b → b < w.heap.size)
    (Z : Nat → Sp.Pl → List Nat → Foot → Foot → World → Prop) (Z4 : Nat → World → Prop)
    (hT : Calls Tryz.prog 170 #[ptr gp] (w.alloc (.cells (pgCs x A c) 50)) (TookPost Z Z4 H R (w.alloc (.cells (pgCs x A c) 50)) gp gd gl at_ base fb cb mb x.id)) :
    Calls Tryz.prog 105 #[ptr gp, pgV x A c] w (BringPost Z Z4 H R G w gp gd gl at_ base fb cb mb x) := by
  have HT := Lib.hid hT
  have hb0 := Blk.new w 50 (pgCs x A c)
  have hR0 := Reads.below hR ((Below.refl w.heap.size w).alloc (Nat.le_refl _) (.cells (pgCs x A c) 50))
  have ht0 := (Turns.refl H w).alloc (.cells (pgCs x A c) 50)
  clear hT hR
  go_enter Tryz.func105, Tryz.ntmps105
  go_wp2_with fail
  obtain ⟨w1, hw1⟩ : ∃ w1, w1 = w.alloc (.cells (pgCs x A c) 50) := ⟨_, rfl⟩
  rw [← hw1] at HT hb0 hR0 ht0 ⊢
  obtain ⟨g3, hg3⟩ : ∃ g, g = w.heap.size := ⟨_, rfl⟩
  have hg3l : w.heap.size ≤ g3 := by omega
  rw [← hg3] at hb0 ⊢
  clear hw1 hg3
  refine HT.out.mono ?_
  rintro e w2 (⟨c4, hc4, rfl, hz, htz⟩ | ⟨i, p', F', H', v', s', r', cs', ids', rest, rfl, h2, hfree, hnone, ht2, hF', hZ⟩)
  · have dc : ((c4 : Int) != 0) = true := by simpa using hc4
    go_wp2_with fail
    go_ret
    exact .inl ⟨c4, hc4, rfl, hz, ht0.trans htz⟩
  have hnH : ¬ H g3 := fun h => by have := hH g3 h; omega
  have hb2 := hb0.turns ht2 hnH
  have hR2 := hR0.keep ht2.size (fun b hb => ht2.block b (by have := (hG b hb).2; have := ht0.size; omega) (hG b hb).1)
  have hGF : ∀ b, G b → ¬ F' b ∧ b < w2.heap.size := fun b hb => by
    have h1 := hG b hb
    have h2 := ht0.size
    have h3 := ht2.size
    refine ⟨fun hf => ?_, by omega⟩
    rcases ht2.foot b (hF' b hf) with h | h
    · exact h1.1 h
    · omega
  have hg3F : ¬ F' g3 := fun hf => by
    have := hb0.lt
    rcases ht2.foot g3 (hF' g3 hf) with h | h
    · exact hnH h
    · omega
  have hlt9 := h2.wf.free_lt (i := i) (by rw [hfree]; simp)
  have hn64 := h2.wf.n64
  have hlen := h2.wf.len
  obtain ⟨c0, c1, c2, c3, c4, c5, c6, c7⟩ := h2.cells
  have hcs := h2.fr.size
  have hB2 := h2.fr.blk
  have H2 := Lib.hid h2
  have hS := Lib.hid (⟨c4, hb2⟩ : w2.drew.cell? ⟨gp, 4, none⟩ = some (.slice (some ⟨fb, 0, none⟩) p'.n p'.n) ∧ Blk w2.drew g3 50 (pgCs x A c))
  clear c0 c1 c2 c3 c4 c5 c6 c7 h2 HT hb0 hR0
  go_wp2_with fail
  refine R_begin (fun W => W.cell? ⟨gp, 4, none⟩ = some (.slice (some ⟨fb, 0, none⟩) p'.n p'.n) ∧ Blk W g3 50 (pgCs x A c)) (fun j => j == 8) rfl ?_
  refine R_take 0 15 (v := ?_) rfl rfl (by rfl) (by kernel_rfl) (fun _ _ _ h => h) hS.out ?_ ?_
  rotate_left
  · intro w hSw; (try dsimp only at hSw); go_simp; (try with_reducible rfl)
  simp only [List.setIfInBounds_toArray, List.set_cons_zero, List.set_cons_succ]
  refine R_take 1 16 (v := ?_) rfl rfl (by rfl) (by kernel_rfl) (fun _ _ _ h => h) hS.out ?_ ?_
  rotate_left
  · intro w hSw; (try dsimp only at hSw); go_simp; (try with_reducible rfl)
  simp only [List.setIfInBounds_toArray, List.set_cons_zero, List.set_cons_succ]
  refine R_take 2 17 (v := ?_) rfl rfl (by rfl) (by kernel_rfl) (fun _ _ _ h => h) hS.out ?_ ?_
  rotate_left
  · intro w hSw; (try dsimp only at hSw); go_simp; (try with_reducible rfl)
  simp only [List.setIfInBounds_toArray, List.set_cons_zero, List.set_cons_succ]
  refine R_take 3 18 (v := ?_) rfl rfl (by rfl) (by kernel_rfl) (fun _ _ _ h => h) hS.out ?_ ?_
  rotate_left
  · intro w hSw; (try dsimp only at hSw); go_simp; (try with_reducible rfl)
  simp only [List.setIfInBounds_toArray, List.set_cons_zero, List.set_cons_succ]
  refine R_take 4 19 (v := ?_) rfl rfl (by rfl) (by kernel_rfl) (fun _ _ _ h => h) hS.out ?_ ?_
  rotate_left
  · intro w hSw; (try dsimp only at hSw); go_simp; (try with_reducible rfl)
  simp only [List.setIfInBounds_toArray, List.set_cons_zero, List.set_cons_succ]
  refine R_take 5 20 (v := pgV x A c) rfl rfl (by rfl) (by kernel_rfl) (fun _ _ _ h => h) hS.out ?_ ?_
  · intro w hSw
    exact run_op_load _ _ _ rfl rfl (run_loadVar_row w g3 _ _ _ _ _ hSw.2 Tryz.underlying50 rfl rfl)
  simp only [List.setIfInBounds_toArray, List.set_cons_zero, List.set_cons_succ]
  refine R_take 6 21 (v := .agg (frCells ⟨x, 0, false, 0, i⟩ A c).toArray) rfl rfl (by rfl) (by kernel_rfl) (fun _ _ _ h => h) hS.out ?_ ?_
  · intro w hSw
    go_simp
    rfl
  simp only [List.setIfInBounds_toArray, List.set_cons_zero, List.set_cons_succ]
  refine R_take 7 22 (v := ?_) rfl rfl (by rfl) (by kernel_rfl) (fun _ _ _ h => h) hS.out ?_ ?_
  rotate_left
  · intro w hSw; (try dsimp only at hSw); go_simp; (try with_reducible rfl)
  simp only [List.setIfInBounds_toArray, List.set_cons_zero, List.set_cons_succ]
  refine R_store 8 (n := .skip) (w' := w2.drew.setRow fb (partRow cs' (i * 9) (frCells ⟨x, 0, false, 0, i⟩ A c))) rfl rfl (by rfl) (by kernel_rfl) (run_op_store _ _ _ _ _ rfl rfl rfl (run_storeVar_part w2.drew fb (i * 9) _ _ cs' (frCells ⟨x, 0, false, 0, i⟩ A c).toArray hB2 fr_size (by rw [hcs]; show i * 9 + 9 ≤ p'.n * 9; omega) (frCells_one _ A c))) (.inl rfl) (fun h => nomatch h) ?_
  refine R_done (by kernel_rfl) ?_ _
  rename_i K9 hK9
  refine hK9 _ _ ?_
  obtain ⟨f1, f2, f3, f4, f5⟩ := H2.out.foot
  obtain ⟨n1, n2, n3, n4, n5, n6⟩ := H2.out.ne
  have hB4 := Blk.setRow (w := w2.drew) hB2 (partRow cs' (i * 9) (frCells ⟨x, 0, false, 0, i⟩ A c))
  have hk4 : ∀ b, b ≠ fb → (w2.drew.setRow fb (partRow cs' (i * 9) (frCells ⟨x, 0, false, 0, i⟩ A c))).heap[b]? = w2.heap[b]? := fun b hb => setRow_other w2.drew fb b _ hb
  have ht4 := (Turns.refl F' w2).drew.setRow (g := fb) (.inl f2) (partRow cs' (i * 9) (frCells ⟨x, 0, false, 0, i⟩ A c))
  have hg3b : g3 ≠ fb := fun e => hg3F (e ▸ f2)
  have hb4 := hb2.keep (hk4 g3 hg3b)
  have hP4 := H2.out.blk.keep (hk4 gp n1)
  have hM4 := H2.out.map.keep (hk4 mb (Ne.symm n5))
  obtain ⟨w4, hw4⟩ : ∃ w4, w4 = w2.drew.setRow fb (partRow cs' (i * 9) (frCells ⟨x, 0, false, 0, i⟩ A c)) := ⟨_, rfl⟩
  rw [← hw4] at hB4 hk4 ht4 hb4 hP4 hM4 ⊢
  clear hw4 hS
  have c6 := hP4.cell 6
  have ci := hb4.cell 2
  simp only [plCells, pgCs, List.getElem?_toArray, List.getElem?_cons_succ, List.getElem?_cons_zero] at c6 ci
  have hS := Lib.hid (⟨c6, ci⟩ : w4.drew.cell? ⟨gp, 6, none⟩ = some (.map (some mb)) ∧ w4.drew.cell? ⟨g3, 2, none⟩ = some (u32v x.id))
  have hid : x.id < 4294967296 := hx.1.2.2.1
  clear c6 ci
  go_wp2_with fail
  refine R_begin (fun W => W.cell? ⟨gp, 6, none⟩ = some (.map (some mb)) ∧ W.cell? ⟨g3, 2, none⟩ = some (u32v x.id)) (fun j => j == 7) rfl ?_
  refine R_take 0 23 (v := ?_) rfl rfl (by rfl) (by kernel_rfl) (fun _ _ _ h => h) hS.out ?_ ?_
  rotate_left
  · intro w hSw; (try dsimp only at hSw); go_simp; (try with_reducible rfl)
  simp only [List.setIfInBounds_toArray, List.set_cons_zero, List.set_cons_succ]
  refine R_take 1 24 (v := ?_) rfl rfl (by rfl) (by kernel_rfl) (fun _ _ _ h => h) hS.out ?_ ?_
  rotate_left
  · intro w hSw; (try dsimp only at hSw); go_simp; (try with_reducible rfl)
  simp only [List.setIfInBounds_toArray, List.set_cons_zero, List.set_cons_succ]
  refine R_take 2 25 (v := ?_) rfl rfl (by rfl) (by kernel_rfl) (fun _ _ _ h => h) hS.out ?_ ?_
  rotate_left
  · intro w hSw; (try dsimp only at hSw); go_simp; (try with_reducible rfl)
  simp only [List.setIfInBounds_toArray, List.set_cons_zero, List.set_cons_succ]
  refine R_take 3 26 (v := ?_) rfl rfl (by rfl) (by kernel_rfl) (fun _ _ _ h => h) hS.out ?_ ?_
  rotate_left
  · intro w hSw; (try dsimp only at hSw); go_simp; (try with_reducible rfl)
  simp only [List.setIfInBounds_toArray, List.set_cons_zero, List.set_cons_succ]
  refine R_take 4 27 (v := ?_) rfl rfl (by rfl) (by kernel_rfl) (fun _ _ _ h => h) hS.out ?_ ?_
  rotate_left
  · intro w hSw; (try dsimp only at hSw); go_simp; (try with_reducible rfl)
  simp only [List.setIfInBounds_toArray, List.set_cons_zero, List.set_cons_succ]
  refine R_take 5 28 (v := ?_) rfl rfl (by rfl) (by kernel_rfl) (fun _ _ _ h => h) hS.out ?_ ?_
  rotate_left
  · intro w hSw; (try dsimp only at hSw); go_simp; (try with_reducible rfl)
  simp only [List.setIfInBounds_toArray, List.set_cons_zero, List.set_cons_succ]
  refine R_take 6 29 (v := ?_) rfl rfl (by rfl) (by kernel_rfl) (fun _ _ _ h => h) hS.out ?_ ?_
  rotate_left
  · intro w hSw; (try dsimp only at hSw); go_simp; (try with_reducible rfl)
  simp only [List.setIfInBounds_toArray, List.set_cons_zero, List.set_cons_succ]
  obtain ⟨w5, hput, hM5, hg5⟩ := UMap.put (w := w4.drew) hM4.drew Tryz.underlying25 Tryz.underlying3 Tryz.underlying119 (by omega) hid (i := i) (by omega) (by simp [Sp.Pl.lk, hnone])
  refine R_store 7 (n := .skip) (w' := w5) rfl rfl (by rfl) (by kernel_rfl) (by go_simp) (.inl rfl) (fun h => nomatch h) ?_
  refine R_done (by kernel_rfl) ?_ _
  rename_i K8 hK8
  refine hK8 _ _ ?_
  have ht5 := ht4.drew.grown hg5 (fun k hk => .inl (by injection hk with hk; rw [← hk]; exact f4))
  have hB5 := hB4.drew.grown hg5 (fun e => n5 (by injection e))
  have hsz9 : i * 9 + 9 ≤ cs'.size := by omega
  have hR5 := hR2.keep ht5.size (fun b hb => (ht5.block b (hGF b hb).2 (hGF b hb).1))
  have hbr := H2.out.bring (w' := w5) (x := x) (A := A) (c := c) (G := G) hfree hnone hx ht5.size (fun b hb h1 h2 => (hg5.block b (by have := H2.out.lt b hb; have := ht4.size; simp; omega) (fun e => h2 (by injection e))).trans (hk4 b h1)) hB5 (Framed.part rfl hsz9) hA hR5 (fun b hb => ⟨(hGF b hb).1, Nat.lt_of_lt_of_le (hGF b hb).2 ht5.size⟩) (fun j hj => part_at rfl hsz9 hj) hM5
  have HB := Lib.hid hbr
  clear hbr hg5 hput hM5 hM4 hP4 hB4 hB5 hk4 H2 hS
  go_wp2_with fail
  go_ret
  refine .inr ⟨i, p', F', H', v', s', r', _, ids', rest, w2, rfl, HB.out, hfree, hnone, ?_, hF', hZ, ht5⟩
  exact ht0.trans ht2
end Go.Proofs.YtclpmkinjjhncaaGreat

/- The walks of package pool: Pin of a page that is in. -/
namespace Go.Proofs.YtclpmkinjjhncaaGreat
open Go.RowKit Go.Conc

theorem Turns.then_new {F F' X : Foot} {w w1 w2 : World} {g : Nat} (h : Turns F F' w w1) (k : Turns (only g) X w1 w2) (hg : w.heap.size ≤ g) : Turns F F' w w2 :=
  ⟨k.os.trans h.os, k.tape.trans h.tape, k.output.trans h.output, Nat.le_trans h.size k.size, fun b hb hn => (k.block b (Nat.lt_of_lt_of_le hb h.size) (fun e => by have e : b = g := e; omega)).trans (h.block b hb hn), h.foot⟩

def PinInPost (F R : Foot) (w : World) (gp gd gl at_ base fb cb mb s r : Nat) (fl ids : List Nat) (p : Sp.Pl) (it : Sp.It) (e : Ending) (w' : World) : Prop :=
  ∃ F' v' cs' A c, e = .returned (.tuple #[pgV it.page A c, .int .i64 0]) ∧ OkAddr A ∧ RowsAt (fun b => w.heap.size ≤ b ∧ ¬ F' b) w' A it.page.rows ∧
    IsPlAt F' R w' gp gd gl at_ base fb cb mb v' s r cs' fl (ids.filter (fun x => !(x == it.page.id)) ++ [it.page.id]) (p.pinUp it.page.id) ∧ Turns F F' w w'

set_option maxRecDepth 100000 in
set_option maxHeartbeats 2000000 in
theorem pool_pin_in {F R : Foot} {w : World} {gp gd gl at_ base fb cb mb s r : Nat} {v : Value} {cs : Array Value} {fl ids : List Nat} {p : Sp.Pl} (h : IsPlAt F R w gp gd gl at_ base fb cb mb v s r cs fl ids p) {id : Nat} (hid : id < 4294967296) {it : Sp.It} (hf : p.find id = some it) (hp : it.pins < 1000000000) (hl : ids.length ≤ 64) :
    Calls Tryz.prog 41 #[ptr gp, u32v id] w (PinInPost F R w gp gd gl at_ base fb cb mb s r fl ids p it) := by
  obtain ⟨hit, rfl⟩ := Sp.Pl.find_mem hf
  have hb2 := Blk.new w 50 #[.int .u8 0, .int .u8 0, .int .u32 0, .int .u64 0, .int .u32 0, .slice none 0 0]
  have h2 := h.keep (w' := w.alloc (.cells #[.int .u8 0, .int .u8 0, .int .u32 0, .int .u64 0, .int .u32 0, .slice none 0 0] 50)) (by simp) (fun b hb => Below.heap_alloc w _ b (h.lt b hb))
  have ht0 := (Turns.refl F w).alloc (.cells #[.int .u8 0, .int .u8 0, .int .u32 0, .int .u64 0, .int .u32 0, .slice none 0 0] 50)
  have hg4 : ¬ F w.heap.size := fun hF => by have := h.lt _ hF; omega
  obtain ⟨c0, c1, c2, c3, c4, c5, c6, c7⟩ := h2.cells
  have HM := Lib.hid (pool_made c6)
  have hlk := h2.look_in hid hf
  have HPN := Lib.hid (pool_pins_walk h2 hid hf hp hl)
  have hlt9 := h2.wf.idx_lt hit
  have hn64 := h2.wf.n64
  clear h2 c0 c1 c2 c3 c4 c5 c7 h
  go_enter Tryz.func41, Tryz.ntmps41
  go_wp2_with fail
  have hg4l : w.heap.size ≤ w.heap.size := Nat.le_refl _
  obtain ⟨w2, hw2⟩ : ∃ w2, w2 = w.alloc (.cells #[.int .u8 0, .int .u8 0, .int .u32 0, .int .u64 0, .int .u32 0, .slice none 0 0] 50) := ⟨_, rfl⟩
  rw [← hw2] at HM HPN hlk hb2 ht0 c6 ⊢
  obtain ⟨g4, hg⟩ : ∃ g, g = w.heap.size := ⟨_, rfl⟩
  rw [← hg] at hb2 hg4 ⊢
  have hg4l : w.heap.size ≤ g4 := by omega
  clear hw2 hg
  refine HM.out.mono ?_
  rintro e w1 ⟨rfl, hw⟩
  subst w1
  go_wp2_with fail
  refine (HPN.out).mono ?_
  rintro e w3 ⟨F3, v3, cs3, rfl, h3, ht3⟩
  have hit3 : ({ it with pins := it.pins + 1 } : Sp.It) ∈ (p.pinUp it.page.id).items := List.mem_map.2 ⟨it, hit, by simp⟩
  obtain ⟨A, c, hA, hR, hc⟩ := h3.fr.item _ hit3
  have k0 := (h3.fr.blk.cell _).trans (hc 0 (by omega))
  have k1 := (h3.fr.blk.cell _).trans (hc 1 (by omega))
  have k2 := (h3.fr.blk.cell _).trans (hc 2 (by omega))
  have k3 := (h3.fr.blk.cell _).trans (hc 3 (by omega))
  have k4 := (h3.fr.blk.cell _).trans (hc 4 (by omega))
  have k5 := (h3.fr.blk.cell _).trans (hc 5 (by omega))
  simp only [frCells, List.getElem?_cons_succ, List.getElem?_cons_zero, Nat.add_zero] at k0 k1 k2 k3 k4 k5
  have hlr : it.page.rows.length ≤ 1000000 := by
    have := (h3.wf.pg _ hit3).2.2.2.2.2
    have : 4 * it.page.rows.length + Sp.total it.page.rows ≤ 484 := this
    omega
  have HCP := Lib.hid (pool_copied (c := c) hA hR hlr)
  have hg42 := hb2.lt
  have hb3 := hb2.turns ht3 hg4
  have H3 := Lib.hid h3
  have HF3 := Lib.hid h3.lt
  clear hA hR hc h3 hb2 HPN
  go_wp2_with fail
  refine HCP.out.mono ?_
  rintro e w4 ⟨A', c', rfl, hA', hR', hb4⟩
  have hB4 := hb3.below hb4 hb3.lt
  have z0 := hB4.cell 0
  have z1 := hB4.cell 1
  have z2 := hB4.cell 2
  have z3 := hB4.cell 3
  have z4 := hB4.cell 4
  have z5 := hB4.cell 5
  have f0 := hB4.frozen 0
  have f1 := hB4.frozen 1
  have f2 := hB4.frozen 2
  have f3 := hB4.frozen 3
  have f4 := hB4.frozen 4
  have f5 := hB4.frozen 5
  simp only [List.getElem?_toArray, List.getElem?_cons_succ, List.getElem?_cons_zero] at z0 z1 z2 z3 z4 z5
  have h4 := H3.out.keep hb4.size (fun b hb => hb4.block b (H3.out.lt b hb))
  have HR := Lib.hid hR'
  have HA := Lib.hid hA'
  have H4 := Lib.hid h4
  have ht4 := ht3.next hb4
  have HB4 := Lib.hid hB4
  have hg4k := hb3.lt
  clear hR' hA' h4 hB4 H3 HCP k0 k1 k2 k3 k4 k5 hb3
  go_wp2_with fail
  obtain ⟨W8, hW8, hX8, ht8, hk8⟩ := six_set HB4.out (.int .u8 it.page.kind) (.int .u8 it.page.level) (.int .u32 it.page.id) (.int .u64 it.page.lsn) (.int .u32 it.page.next) (.slice A' it.page.rows.length c')
  rw [hW8]
  have z0 := hX8.cell 0
  have z1 := hX8.cell 1
  have z2 := hX8.cell 2
  have z3 := hX8.cell 3
  have z4 := hX8.cell 4
  have z5 := hX8.cell 5
  simp only [List.getElem?_toArray, List.getElem?_cons_succ, List.getElem?_cons_zero] at z0 z1 z2 z3 z4 z5
  clear f0 f1 f2 f3 f4 f5 hW8
  refine bodyPost_ret (v := .tuple #[pgV it.page A' c', .int .i64 0]) (by rw [results_cell_tmp rfl]; go_simp) rfl ⟨F3, v3, cs3, A', c', rfl, HA.out, ?_, ?_, ?_⟩
  · have hz2 : w.heap.size ≤ w2.heap.size := ht0.size
    have hz3 := ht3.size
    exact (HR.out.keep ht8.size (fun b hb => hk8 b (fun e => by have hb : w3.heap.size ≤ b := hb; omega))).mono (fun b hb => by have hb : w3.heap.size ≤ b := hb; exact ⟨by omega, fun hF => by have := HF3.out b hF; omega⟩)
  · refine H4.out.keep ht8.size (fun b hb => hk8 b (fun e => ?_))
    rcases ht3.foot b hb with h | h
    · exact hg4 (e ▸ h)
    · omega
  · exact (ht0.trans ht4).then_new ht8 hg4l
end Go.Proofs.YtclpmkinjjhncaaGreat

/- The walks of package pool: Pin of a page that is not in. -/
namespace Go.Proofs.YtclpmkinjjhncaaGreat
open Go.RowKit Go.Conc

/-- the block of a page's rows. -/
def rowOf (w : World) (A : Option Addr) : Foot := fun b => (∃ o, A = some ⟨b, o, none⟩) ∧ b < w.heap.size
theorem rows_tight {G : Foot} {w : World} {A : Option Addr} {rows : List Sp.Bs} (h : RowsAt G w A rows) : RowsAt (fun b => G b ∧ rowOf w A b) w A rows :=
  ⟨h.1, fun hp => by
    obtain ⟨b, o, e, hg, hl, hc⟩ := h.2 hp
    exact ⟨b, o, e, ⟨hg, ⟨o, e⟩, hl⟩, hl, hc⟩⟩

abbrev zeroPgV : Value := .agg #[.int .u8 0, .int .u8 0, .int .u32 0, .int .u64 0, .int .u32 0, .slice none 0 0]
def PinOutPost (Z : Nat → Sp.Pl → List Nat → Foot → Foot → World → Prop) (Z4 : Nat → World → Prop) (H : Foot) (w : World) (gp gd gl at_ base fb cb mb : Nat) (x : Sp.Pg) (e : Ending) (w' : World) : Prop :=
  (∃ c4 : Nat, c4 ≠ 0 ∧ e = .returned (.tuple #[zeroPgV, .int .i64 c4]) ∧ ∃ w2 g4, Z4 c4 w2 ∧ w.heap.size ≤ g4 ∧ Turns (only g4) (only g4) w2 w') ∨
  ∃ (i : Nat) (p' : Sp.Pl) (F' H' : Foot) (ids' rest : List Nat) (w2 : World) (F3 R3 : Foot) (v3 : Value) (s3 r3 : Nat) (cs3 : Array Value) (A : Option Addr) (c : Nat), e = .returned (.tuple #[pgV x A c, .int .i64 0]) ∧ OkAddr A ∧ RowsAt (fun b => w.heap.size ≤ b ∧ ¬ F3 b ∧ w2.heap.size ≤ b) w' A x.rows ∧
    IsPlAt F3 R3 w' gp gd gl at_ base fb cb mb v3 s3 r3 cs3 rest (ids'.filter (fun y => !(y == x.id)) ++ [x.id]) ((p'.bring x i rest).pinUp x.id) ∧ p'.free = i :: rest ∧ p'.find x.id = none ∧ Z i p' ids' F' H' w2 ∧ (∀ b, F' b → H' b) ∧ Turns H H' w w2 ∧ (∃ G : Foot, (∀ b, G b → ¬ H' b ∧ w.heap.size ≤ b) ∧ Turns (fun b => F' b ∨ G b) F3 w2 w')

set_option maxRecDepth 100000 in
set_option maxHeartbeats 4000000 in
theorem pool_pin_out {F R H D : Foot} {w : World} {gp gd gl at_ base fb cb mb s r : Nat} {v : Value} {cs : Array Value} {fl ids : List Nat} {p : Sp.Pl} (h : IsPlAt F R w gp gd gl at_ base fb cb mb v s r cs fl ids p) {x : Sp.Pg} (hx : x.wf ∧ x.may) (hf : p.find x.id = none)
    {dk : Sp.Dk} (hdk : IsDk D w gd dk) (hfu : dk.fuse ≠ 0) (hlo : dk.loose = []) (hi : base + x.id * 4 + 4 ≤ dk.sure.length) (hpg : Sp.pageAt dk.sure (base + x.id * 4) = pgBytes x) (hH : ∀ b, H b → b < w.heap.size)
    (Z : Nat → Sp.Pl → List Nat → Foot → Foot → World → Prop) (Z4 : Nat → World → Prop)
    (hT : ∀ W, Below w.heap.size w W → IsPlAt F R W gp gd gl at_ base fb cb mb v s r cs fl ids p → Calls Tryz.prog 170 #[ptr gp] W (TookPost Z Z4 H R W gp gd gl at_ base fb cb mb x.id))
    (hids : ∀ i p' ids' F' H' w2, Z i p' ids' F' H' w2 → ids'.length ≤ 64) :
    Calls Tryz.prog 41 #[ptr gp, u32v x.id] w (PinOutPost Z Z4 H w gp gd gl at_ base fb cb mb x) := by
  have hid : x.id < 4294967296 := hx.1.2.2.1
  have hb2 := Blk.new w 50 #[.int .u8 0, .int .u8 0, .int .u32 0, .int .u64 0, .int .u32 0, .slice none 0 0]
  have hbw := (Below.refl w.heap.size w).alloc (Nat.le_refl _) (.cells #[.int .u8 0, .int .u8 0, .int .u32 0, .int .u64 0, .int .u32 0, .slice none 0 0] 50)
  have h2 := h.keep (w' := w.alloc (.cells #[.int .u8 0, .int .u8 0, .int .u32 0, .int .u64 0, .int .u32 0, .slice none 0 0] 50)) (by simp) (fun b hb => Below.heap_alloc w _ b (h.lt b hb))
  have hd2 := hdk.below hbw
  obtain ⟨c0, c1, c2, c3, c4, c5, c6, c7⟩ := h2.cells
  have HM := Lib.hid (pool_made c6)
  have hlk := h2.look_out hid hf
  have hg4l : w.heap.size ≤ w.heap.size := Nat.le_refl _
  have HT := Lib.hid hT
  have hFl := h.lt
  have hz0 : ∀ W, (Instr.build 50 #[]).run Tryz.prog W = .ok zeroPgV W := fun W => by kernel_rfl
  clear c1 c2 c4 c5 c7 h hT hf hdk
  go_enter Tryz.func41, Tryz.ntmps41
  go_wp2_with fail
  obtain ⟨w2, hw2⟩ : ∃ w2, w2 = w.alloc (.cells #[.int .u8 0, .int .u8 0, .int .u32 0, .int .u64 0, .int .u32 0, .slice none 0 0] 50) := ⟨_, rfl⟩
  rw [← hw2] at HM hlk hb2 hbw c0 c3 c6 h2 hd2 ⊢
  obtain ⟨g4, hg⟩ : ∃ g, g = w.heap.size := ⟨_, rfl⟩
  rw [← hg] at hb2 ⊢
  have hg4l : w.heap.size ≤ g4 := by omega
  clear hw2 hg
  refine HM.out.mono ?_
  rintro e w1 ⟨rfl, hw⟩
  subst w1
  go_wp2_with fail
  have hS := Lib.hid (⟨c0, c3⟩ : w2.drew.cell? ⟨gp, 0, none⟩ = some (ptr gd) ∧ w2.drew.cell? ⟨gp, 3, none⟩ = some (.int .i64 base))
  have HTR := Lib.hid (twin_read (w := w2.drew) (hd2.below (Below.refl _ w2).drew) hfu hlo base x.id hid hi)
  rw [hpg] at HTR
  have H2 := Lib.hid h2
  have hgp0 := h2.blk
  clear c0 c3 c6 h2 HM hlk
  refine R_begin (fun W => W.cell? ⟨gp, 0, none⟩ = some (ptr gd) ∧ W.cell? ⟨gp, 3, none⟩ = some (.int .i64 base)) (fun _ => false) rfl ?_
  refine R_take 0 28 (v := ?_) rfl rfl (by rfl) (by kernel_rfl) (fun _ _ _ h => h) hS.out ?_ ?_
  rotate_left
  · intro w hSw; (try dsimp only at hSw); go_simp; (try with_reducible rfl)
  simp only [List.setIfInBounds_toArray, List.set_cons_zero, List.set_cons_succ]
  refine R_take 1 29 (v := ?_) rfl rfl (by rfl) (by kernel_rfl) (fun _ _ _ h => h) hS.out ?_ ?_
  rotate_left
  · intro w hSw; (try dsimp only at hSw); go_simp; (try with_reducible rfl)
  simp only [List.setIfInBounds_toArray, List.set_cons_zero, List.set_cons_succ]
  refine R_take 2 30 (v := ?_) rfl rfl (by rfl) (by kernel_rfl) (fun _ _ _ h => h) hS.out ?_ ?_
  rotate_left
  · intro w hSw; (try dsimp only at hSw); go_simp; (try with_reducible rfl)
  simp only [List.setIfInBounds_toArray, List.set_cons_zero, List.set_cons_succ]
  refine R_take 3 31 (v := ?_) rfl rfl (by rfl) (by kernel_rfl) (fun _ _ _ h => h) hS.out ?_ ?_
  rotate_left
  · intro w hSw; (try dsimp only at hSw); go_simp; (try with_reducible rfl)
  simp only [List.setIfInBounds_toArray, List.set_cons_zero, List.set_cons_succ]
  refine R_take 4 32 (v := ?_) rfl rfl (by rfl) (by kernel_rfl) (fun _ _ _ h => h) hS.out ?_ ?_
  rotate_left
  · intro w hSw; (try dsimp only at hSw); go_simp; (try with_reducible rfl)
  simp only [List.setIfInBounds_toArray, List.set_cons_zero, List.set_cons_succ]
  refine R_take 5 33 (v := ?_) rfl rfl (by rfl) (by kernel_rfl) (fun _ _ _ h => h) hS.out ?_ ?_
  rotate_left
  · intro w hSw; (try dsimp only at hSw); go_simp; (try with_reducible rfl)
  simp only [List.setIfInBounds_toArray, List.set_cons_zero, List.set_cons_succ]
  refine R_take 6 34 (v := ?_) rfl rfl (by rfl) (by kernel_rfl) (fun _ _ _ h => h) hS.out ?_ ?_
  rotate_left
  · intro w hSw; (try dsimp only at hSw); go_simp; (try with_reducible rfl)
  simp only [List.setIfInBounds_toArray, List.set_cons_zero, List.set_cons_succ]
  refine R_take 7 35 (v := ?_) rfl rfl (by rfl) (by kernel_rfl) (fun _ _ _ h => h) hS.out ?_ ?_
  rotate_left
  · intro w hSw; (try dsimp only at hSw); go_simp; (try with_reducible rfl)
  simp only [List.setIfInBounds_toArray, List.set_cons_zero, List.set_cons_succ]
  refine R_take 8 36 (v := ?_) rfl rfl (by rfl) (by kernel_rfl) (fun _ _ _ h => h) hS.out ?_ ?_
  rotate_left
  · intro w hSw; (try dsimp only at hSw); go_simp; (try with_reducible rfl)
  simp only [List.setIfInBounds_toArray, List.set_cons_zero, List.set_cons_succ]
  refine R_call 9 37 (w' := w2.drew) rfl rfl (by rfl) (by kernel_rfl) ?_ HTR.out ?_
  · go_simp
  rintro e w3 ⟨rfl, hb3⟩
  have hgp3 := hgp0.drew.below hb3 hgp0.lt
  have hS3 : w3.cell? ⟨gp, 0, none⟩ = some (ptr gd) ∧ w3.cell? ⟨gp, 3, none⟩ = some (.int .i64 base) := ⟨(hgp3.cell 0).trans rfl, (hgp3.cell 3).trans rfl⟩
  refine ⟨_, rfl, fun _ => hS3, ?_⟩
  simp only [List.setIfInBounds_toArray, List.set_cons_zero, List.set_cons_succ]
  clear hS HTR
  have hS := Lib.hid hS3
  clear hS3
  refine R_take 10 27 (v := ?_) rfl rfl (by rfl) (by kernel_rfl) (fun _ _ _ h => h) hS.out ?_ ?_
  rotate_left
  · intro w hSw; (try dsimp only at hSw); go_simp; (try with_reducible rfl)
  simp only [List.setIfInBounds_toArray, List.set_cons_zero, List.set_cons_succ]
  refine R_take 11 38 (v := ?_) rfl rfl (by rfl) (by kernel_rfl) (fun _ _ _ h => h) hS.out ?_ ?_
  rotate_left
  · intro w hSw; (try dsimp only at hSw); go_simp; (try with_reducible rfl)
  simp only [List.setIfInBounds_toArray, List.set_cons_zero, List.set_cons_succ]
  refine R_take 12 39 (v := ?_) rfl rfl (by rfl) (by kernel_rfl) (fun _ _ _ h => h) hS.out ?_ ?_
  rotate_left
  · intro w hSw; (try dsimp only at hSw); go_simp; (try with_reducible rfl)
  simp only [List.setIfInBounds_toArray, List.set_cons_zero, List.set_cons_succ]
  refine R_take 13 8 (v := ?_) rfl rfl (by rfl) (by kernel_rfl) (fun _ _ _ h => h) hS.out ?_ ?_
  rotate_left
  · intro w hSw; (try dsimp only at hSw); go_simp; (try with_reducible rfl)
  simp only [List.setIfInBounds_toArray, List.set_cons_zero, List.set_cons_succ]
  refine R_take 14 9 (v := ?_) rfl rfl (by rfl) (by kernel_rfl) (fun _ _ _ h => h) hS.out ?_ ?_
  rotate_left
  · intro w hSw; (try dsimp only at hSw); go_simp; (try with_reducible rfl)
  simp only [List.setIfInBounds_toArray, List.set_cons_zero, List.set_cons_succ]
  refine R_done (by kernel_rfl) ?_ _
  rename_i K9 hK9
  refine hK9 _ _ ?_
  have hbd : Below w2.heap.size w2 w3 := (Below.refl w2.heap.size w2).drew.trans hb3
  have h3 := H2.out.keep hbd.size (fun b hb => hbd.block b (H2.out.lt b hb))
  have hb3' := hb2.below hbd hb2.lt
  have hbw3 : Below w.heap.size w w3 := hbw.trans (hbd.mono hbw.size)
  have HDEC := Lib.hid (page_decode (w := w3) hx.1 hx.2)
  clear hS hgp3 hgp0 H2 hb2 hbw hb3 hbd hpg
  go_wp2_with fail
  refine HDEC.out.mono ?_
  rintro e w4 ⟨A, c, rfl, hA, hR, hb4⟩
  have hg43 := hb3'.lt
  have hs34 := hb4.size
  have hb4' := hb3'.below hb4 hb3'.lt
  have h4 := h3.keep hb4.size (fun b hb => hb4.block b (h3.lt b hb))
  have hbw4 : Below w.heap.size w w4 := hbw3.trans (hb4.mono hbw3.size)
  have hR4 := rows_tight hR
  have HB4 := Lib.hid hb4'
  have H4 := Lib.hid h4
  have HA := Lib.hid hA
  have HR4 := Lib.hid hR4
  have hs30 := hbw3.size
  clear hA hR hR4 hb4' h4 h3 hb3' hb4 HDEC
  go_wp2_with fail
  have hb5 := (Below.refl w4.heap.size w4).alloc (Nat.le_refl _) (.cells (pgCs x A c) 50)
  have h5 := H4.out.keep hb5.size (fun b hb => hb5.block b (H4.out.lt b hb))
  have hR5 := Reads.below HR4.out hb5
  have hg45 := HB4.out.below hb5 HB4.out.lt
  have hbw5 : Below w.heap.size w _ := hbw4.trans (hb5.mono hbw4.size)
  have hs45 := hb5.size
  have hroF : ∀ b, (w3.heap.size ≤ b ∧ rowOf w4 A b) → b < w4.heap.size := fun b hb => hb.2.2
  obtain ⟨w5, hw5⟩ : ∃ w5, w5 = w4.alloc (.cells (pgCs x A c) 50) := ⟨_, rfl⟩
  change Calls Tryz.prog _ #[ptr gp, pgV x A c] (w4.alloc (.cells (pgCs x A c) 50)) _
  rw [← hw5] at h5 hR5 hg45 hbw5 hs45 ⊢
  clear hb5 HB4 H4 HR4
  have hb6 := (Below.refl w5.heap.size w5).alloc (Nat.le_refl _) (.cells (pgCs x A c) 50)
  have HBR := Lib.hid (pool_brings (w := w5) (H := H) (G := fun b => w3.heap.size ≤ b ∧ rowOf w4 A b) hx HA.out hR5 (fun b hb => ⟨fun hh => by have := hH b hh; have := hb.1; omega, by have := hroF b hb; omega⟩) (fun b hb => by have := hH b hb; have := hbw5.size; omega) Z Z4
    (HT.out _ (hbw5.trans (hb6.mono hbw5.size)) (h5.keep hb6.size (fun b hb => hb6.block b (h5.lt b hb)))))
  have htw5 := Turns.of_below hbw5 H
  have hg4H : ¬ H g4 := fun hh => by have := hH g4 hh; omega
  have hg4r : ¬ (w3.heap.size ≤ g4 ∧ rowOf w4 A g4) := fun hh => by omega
  clear hb6 HT h5 hbw5
  refine HBR.out.mono ?_
  rintro e w7 (⟨c4, hc4, rfl, hz, htz⟩ | ⟨i, p', F', H', v', s', r', cs', ids', rest, w6, rfl, h7, hfree, hnone, ht6, hF', hZ, ht7⟩)
  · have dc : ((c4 : Int) != 0) = true := by simpa using hc4
    have HB7 := Lib.hid (hg45.turns htz hg4H)
    have hg47 := HB7.out.lt
    have z0 := HB7.out.cell 0
    have f0 := HB7.out.frozen 0
    have z1 := HB7.out.cell 1
    have f1 := HB7.out.frozen 1
    have z2 := HB7.out.cell 2
    have f2 := HB7.out.frozen 2
    have z3 := HB7.out.cell 3
    have f3 := HB7.out.frozen 3
    have z4 := HB7.out.cell 4
    have f4 := HB7.out.frozen 4
    have z5 := HB7.out.cell 5
    have f5 := HB7.out.frozen 5
    simp only [List.getElem?_toArray, List.getElem?_cons_succ, List.getElem?_cons_zero] at z0 z1 z2 z3 z4 z5
    clear hg45 HBR
    go_wp2_with fail
    obtain ⟨W8, hW8, hX8, ht8, hk8⟩ := six_set HB7.out (.int .u8 0) (.int .u8 0) (.int .u32 0) (.int .u64 0) (.int .u32 0) (.slice none 0 0)
    rw [hW8]
    have z0 := hX8.cell 0
    have z1 := hX8.cell 1
    have z2 := hX8.cell 2
    have z3 := hX8.cell 3
    have z4 := hX8.cell 4
    have z5 := hX8.cell 5
    simp only [List.getElem?_toArray, List.getElem?_cons_succ, List.getElem?_cons_zero] at z0 z1 z2 z3 z4 z5
    clear f0 f1 f2 f3 f4 f5 hW8
    exact bodyPost_ret (v := .tuple #[zeroPgV, .int .i64 c4]) (by rw [results_cell_tmp rfl]; go_simp) rfl (.inl ⟨c4, hc4, rfl, w7, g4, hz, hg4l, ht8⟩)
  -- pins, copied
  obtain ⟨it, hite⟩ : ∃ it : Sp.It, it = ⟨x, 0, false, 0, i⟩ := ⟨_, rfl⟩
  obtain ⟨p2, hp2⟩ : ∃ p2, p2 = p'.bring x i rest := ⟨_, rfl⟩
  have hit : it ∈ p2.items := by rw [hp2, hite]; simp [Sp.Pl.bring]
  have hxe : x = it.page := by rw [hite]
  have hpin0 : it.pins < 1000000000 := by rw [hite]; simp
  rw [← hp2] at h7
  have hf2 : p2.find it.page.id = some it := Sp.Pl.find_of h7.wf hit
  have hl' := hids i p' ids' F' H' w6 hZ
  have HP2 := Lib.hid hp2
  have hg4H' : ¬ H' g4 := fun hh => by
    have hz := hg45.lt
    rcases ht6.foot g4 hh with h | h
    · exact hg4H h
    · omega
  have hg4F : ¬ (F' g4 ∨ (w3.heap.size ≤ g4 ∧ rowOf w4 A g4)) := fun hh => by
    rcases hh with hh | hh
    · exact hg4H' (hF' g4 hh)
    · exact hg4r hh
  have hb2 := (hg45.turns ht6 hg4H).turns ht7 (fun hh => hg4F (.inl hh))
  have HPN := Lib.hid (pool_pins_walk h7 (id := it.page.id) (by rw [← hxe]; exact hid) hf2 hpin0 hl')
  have hlt9 := h7.wf.idx_lt hit
  have hn64 := h7.wf.n64
  have hg4 := hg4F
  have hs67 := ht7.size
  have hs56 := ht6.size
  clear h7 hp2 hite hg45 HBR
  subst hxe
  go_wp2_with fail
  refine (HPN.out).mono ?_
  rintro e w8 ⟨F3, v3, cs3, rfl, h3, ht3⟩
  have hit3 : ({ it with pins := it.pins + 1 } : Sp.It) ∈ (p2.pinUp it.page.id).items := List.mem_map.2 ⟨it, hit, by simp⟩
  obtain ⟨A2, c2, hA, hR, hc⟩ := h3.fr.item _ hit3
  have k0 := (h3.fr.blk.cell _).trans (hc 0 (by omega))
  have k1 := (h3.fr.blk.cell _).trans (hc 1 (by omega))
  have k2 := (h3.fr.blk.cell _).trans (hc 2 (by omega))
  have k3 := (h3.fr.blk.cell _).trans (hc 3 (by omega))
  have k4 := (h3.fr.blk.cell _).trans (hc 4 (by omega))
  have k5 := (h3.fr.blk.cell _).trans (hc 5 (by omega))
  simp only [frCells, List.getElem?_cons_succ, List.getElem?_cons_zero, Nat.add_zero] at k0 k1 k2 k3 k4 k5
  have hlr : it.page.rows.length ≤ 1000000 := by
    have := (h3.wf.pg _ hit3).2.2.2.2.2
    have : 4 * it.page.rows.length + Sp.total it.page.rows ≤ 484 := this
    omega
  have HCP := Lib.hid (pool_copied (c := c2) hA hR hlr)
  have hg42 := hb2.lt
  have hb3 := hb2.turns ht3 hg4
  have H3 := Lib.hid h3
  have HF3l := Lib.hid h3.lt
  clear hA hR hc h3 hb2 HPN
  go_wp2_with fail
  refine HCP.out.mono ?_
  rintro e w9 ⟨A', c', rfl, hA', hR', hb4⟩
  have hB4 := hb3.below hb4 hb3.lt
  have z0 := hB4.cell 0
  have z1 := hB4.cell 1
  have z2 := hB4.cell 2
  have z3 := hB4.cell 3
  have z4 := hB4.cell 4
  have z5 := hB4.cell 5
  have f0 := hB4.frozen 0
  have f1 := hB4.frozen 1
  have f2 := hB4.frozen 2
  have f3 := hB4.frozen 3
  have f4 := hB4.frozen 4
  have f5 := hB4.frozen 5
  simp only [List.getElem?_toArray, List.getElem?_cons_succ, List.getElem?_cons_zero] at z0 z1 z2 z3 z4 z5
  have h4 := H3.out.keep hb4.size (fun b hb => hb4.block b (H3.out.lt b hb))
  have HR := Lib.hid hR'
  have HA := Lib.hid hA'
  have H4 := Lib.hid h4
  have ht4 := ht3.next hb4
  have HB4 := Lib.hid hB4
  have hg4k := hb3.lt
  clear hR' hA' h4 hB4 H3 HCP k0 k1 k2 k3 k4 k5 hb3
  go_wp2_with fail
  obtain ⟨W8, hW8, hX8, ht8, hk8⟩ := six_set HB4.out (.int .u8 it.page.kind) (.int .u8 it.page.level) (.int .u32 it.page.id) (.int .u64 it.page.lsn) (.int .u32 it.page.next) (.slice A' it.page.rows.length c')
  rw [hW8]
  have z0 := hX8.cell 0
  have z1 := hX8.cell 1
  have z2 := hX8.cell 2
  have z3 := hX8.cell 3
  have z4 := hX8.cell 4
  have z5 := hX8.cell 5
  simp only [List.getElem?_toArray, List.getElem?_cons_succ, List.getElem?_cons_zero] at z0 z1 z2 z3 z4 z5
  clear f0 f1 f2 f3 f4 f5 hW8
  have hF3 : ∀ b, F3 b → (F' b ∨ (w3.heap.size ≤ b ∧ rowOf w4 A b)) ∨ w7.heap.size ≤ b := fun b hb => ht3.foot b hb
  have hnF3 : ¬ F3 g4 := fun hh => by
    rcases hF3 g4 hh with h | h
    · exact hg4F h
    · omega
  have hz8 := ht3.size
  have hzw := htw5.size
  have hpl := H4.out.keep ht8.size (fun b hb => hk8 b (fun e => hnF3 (e ▸ hb)))
  rw [HP2.out] at hpl
  refine bodyPost_ret (v := .tuple #[pgV it.page A' c', .int .i64 0]) (by rw [results_cell_tmp rfl]; go_simp) rfl (.inr ⟨i, p', F', H', ids', rest, w6, F3, (fun b => R b ∨ (w3.heap.size ≤ b ∧ rowOf w4 A b)), v3, s', r', cs3, A', c', rfl, HA.out, ?_, hpl, hfree, hnone, hZ, hF', htw5.trans ht6, ⟨fun b => (w3.heap.size ≤ b ∧ rowOf w4 A b) ∨ b = g4, ?_, ?_⟩⟩)
  · exact (HR.out.keep ht8.size (fun b hb => hk8 b (fun e => by have hb : w8.heap.size ≤ b := hb; omega))).mono (fun b hb => by have hb : w8.heap.size ≤ b := hb; exact ⟨by omega, fun hF => by have := HF3l.out b hF; omega, by omega⟩)
  · rintro b (hb | rfl)
    · have hb4 := hroF b hb
      refine ⟨fun hh => ?_, by have := hb.1; omega⟩
      rcases ht6.foot b hh with h | h
      · have := hH b h; have := hb.1; omega
      · omega
    · exact ⟨hg4H', hg4l⟩
  · refine ⟨ht8.os.trans (ht4.os.trans ht7.os), ht8.tape.trans (ht4.tape.trans ht7.tape), ht8.output.trans (ht4.output.trans ht7.output), Nat.le_trans hs67 (Nat.le_trans ht4.size ht8.size), fun b hb hn => ?_, fun b hb => ?_⟩
    · rw [hk8 b (fun e => hn (.inr (.inr e))), ht4.block b (by omega) (fun h => hn (h.imp id (fun h => .inl h)))]
      exact ht7.block b hb (fun h => hn (.inl h))
    · rcases hF3 b hb with h | h
      · exact .inl (h.imp id (fun h => .inl h))
      · exact .inr (by omega)
end Go.Proofs.YtclpmkinjjhncaaGreat

/- Pin, of a pool whose pages are all clean. -/
namespace Go.Proofs.YtclpmkinjjhncaaGreat
open Go.RowKit Go.Conc

namespace Sp
/-- a page set last in the row. -/
def Pl.last (p : Pl) (id : Nat) : Pl := { p with items := p.items.filter (fun x => x.page.id != id) ++ p.items.filter (fun x => x.page.id == id) }
theorem Pl.last_perm (p : Pl) (id : Nat) : (p.last id).items.Perm p.items := by
  unfold Pl.last
  have h := List.filter_append_perm (fun x : It => x.page.id != id) p.items
  have e : (fun x : It => !(x.page.id != id)) = fun x => x.page.id == id := by funext x; simp [bne]
  rw [e] at h
  exact h
theorem filter_one : ∀ {l : List Nat} {a : Nat}, l.Nodup → a ∈ l → l.filter (fun x => x == a) = [a]
  | x :: l, a, hn, hm => by
    rw [List.nodup_cons] at hn
    by_cases e : x = a
    · subst e
      rw [List.filter_cons_of_pos (by simp), List.filter_eq_nil_iff.2]
      intro y hy
      have : y ≠ x := fun e => hn.1 (e ▸ hy)
      simpa using this
    · rw [List.filter_cons_of_neg (by simpa using e)]
      rcases List.mem_cons.1 hm with h | h
      · exact absurd h.symm e
      · exact filter_one hn.2 h
theorem Pl.last_ids {p : Pl} (h : (p.items.map (·.page.id)).Nodup) {id : Nat} (hm : id ∈ p.items.map (·.page.id)) : (p.last id).items.map (·.page.id) = (p.items.map (·.page.id)).filter (fun x => !(x == id)) ++ [id] := by
  unfold Pl.last
  rw [List.map_append]
  congr 1
  · rw [List.filter_map]; rfl
  · have := filter_one h hm
    rw [List.filter_map] at this
    exact this
end Sp

/-- Pin of a page that is in. -/
theorem pool_pin_in' {F : Foot} {w : World} {gp gd gl at_ base : Nat} {p : Sp.Pl} (h : IsPl F w gp gd gl at_ base p) {id : Nat} (hid : id < 4294967296) {it : Sp.It} (hf : p.find id = some it) (hp : it.pins < 1000000000) :
    Calls Tryz.prog 41 #[ptr gp, u32v id] w fun e w' => ∃ F' A c, e = .returned (.tuple #[pgV it.page A c, .int .i64 0]) ∧ OkAddr A ∧ RowsAt (fun b => w.heap.size ≤ b ∧ ¬ F' b) w' A it.page.rows ∧
      IsPl F' w' gp gd gl at_ base ((p.pinUp id).last id) ∧ Turns F F' w w' := by
  obtain ⟨hit, rfl⟩ := Sp.Pl.find_mem hf
  obtain ⟨R, fb, cb, mb, v, s, r, cs, h⟩ := h
  have hlen : (p.items.map (·.page.id)).length ≤ 64 := by
    have := h.wf.len; have := h.wf.n64
    rw [List.length_map]; omega
  refine (pool_pin_in h hid hf hp hlen).mono ?_
  rintro e w' ⟨F', v', cs', A, c, rfl, hA, hR, h', ht⟩
  refine ⟨F', A, c, rfl, hA, hR, ⟨R, fb, cb, mb, v', s, r, cs', ?_⟩, ht⟩
  have eu : ((p.pinUp it.page.id).items.map (·.page.id)) = p.items.map (·.page.id) := Sp.Pl.upd_ids ⟨fun _ => rfl, fun _ => rfl⟩
  have e1 := Sp.Pl.last_ids (p := p.pinUp it.page.id) h'.wf.ids (id := it.page.id) (by rw [eu]; exact List.mem_map.2 ⟨it, hit, rfl⟩)
  rw [eu] at e1
  have := h'.perm (Sp.Pl.last_perm (p.pinUp it.page.id) it.page.id)
  rw [← e1] at this
  exact this

/-- What take leaves of a pool whose pages are all clean. -/
def ZClean (p : Sp.Pl) (ids : List Nat) : Nat → Sp.Pl → List Nat → Foot → Foot → World → Prop := fun _ p' ids' _ _ _ =>
  (p' = p ∧ ids' = ids) ∨ ∃ pre it post, p.free = [] ∧ ids = pre ++ it.page.id :: post ∧ (∀ n ∈ pre, ∃ y, p.find n = some y ∧ 0 < y.pins) ∧ p.find it.page.id = some it ∧ it.pins = 0 ∧ p' = p.drop it.page.id it.idx ∧ ids' = ids.filter (fun x => !(x == it.page.id))
def Z4Clean (w : World) (p : Sp.Pl) (ids : List Nat) : Nat → World → Prop := fun c4 w2 => c4 = 4 ∧ p.free = [] ∧ (∀ n ∈ ids, ∃ it, p.find n = some it ∧ 0 < it.pins) ∧ Below w.heap.size w w2

theorem take_clean {F R : Foot} {w : World} {gp gd gl at_ base fb cb mb s r : Nat} {v : Value} {cs : Array Value} {ids : List Nat} {p : Sp.Pl} (hclean : ∀ it ∈ p.items, it.dirty = false) (hids : ids = p.items.map (·.page.id)) {id : Nat} (hf : p.find id = none)
    (W : World) (hb : Below w.heap.size w W) (h : IsPlAt F R W gp gd gl at_ base fb cb mb v s r cs p.free ids p) :
    Calls Tryz.prog 170 #[ptr gp] W (TookPost (ZClean p ids) (Z4Clean w p ids) F R W gp gd gl at_ base fb cb mb id) := by
  have hlen : ids.length ≤ 64 := by
    have := h.wf.len; have := h.wf.n64
    rw [hids, List.length_map]; omega
  have hids32 : ∀ it ∈ p.items, it.page.id < 4294967296 := fun it hit => (h.wf.pg it hit).1.2.2.1
  cases hfr : p.free with
  | cons i rest =>
    refine (pool_take_free h hfr).mono ?_
    rintro e w' ⟨rfl, F', v', s', r', cs', h', ht⟩
    exact .inr ⟨i, p, F', F', v', s', r', cs', ids, rest, rfl, h', hfr, hf, ht, fun _ h => h, .inl ⟨rfl, rfl⟩⟩
  | nil =>
    have hin : ∀ n ∈ ids, n < 4294967296 ∧ ∃ it, p.find n = some it := fun n hn => by
      rw [hids] at hn
      obtain ⟨it, hit, rfl⟩ := List.mem_map.1 hn
      exact ⟨hids32 it hit, it, Sp.Pl.find_of h.wf hit⟩
    refine (pool_take_scan h hfr hin hlen (fun _ F' W1 w1 => Turns F F' W1 w1) (fun _ _ _ _ => False) (fun it hit hp W1 h1 ht1 => ?_)).mono ?_
    · refine (pool_drops_clean h1 (hids32 it hit) (Sp.Pl.find_of h.wf hit) (hclean it hit)).mono ?_
      rintro e w' ⟨rfl, F', v', cs', h', ht'⟩
      exact .inr ⟨rfl, F', v', _, _, cs', h', ht'⟩
    · rintro e w' (⟨rfl, hall, ht⟩ | ⟨_, _, _, _, _, _, _, _, _, _, _, _, hF⟩ | ⟨pre, it, post, hsp, hpre, hfi, hp0, rfl, W1, w1, F', v', s', r', cs', ht1, hX, h', ht2⟩)
      · exact .inl ⟨4, by decide, rfl, ⟨rfl, hfr, hall, hb.trans ((ht.below_none).mono hb.size)⟩, ht.wider (fun _ h => h.elim) (fun b hb => .inl hb)⟩
      · exact hF.elim
      · refine .inr ⟨it.idx, p.drop it.page.id it.idx, F', F', v', s', r', cs', _, [], rfl, h', ?_, ?_, ?_, fun _ h => h, .inr ⟨pre, it, post, hfr, hsp, hpre, hfi, hp0, rfl, rfl⟩⟩
        · simp [Sp.Pl.drop, hfr]
        · rw [Sp.Pl.find_none] at hf ⊢
          exact fun y hy => hf y (List.mem_filter.1 hy).1
        · have hcb := h'.foot.2.2.1
          refine ⟨ht2.os.trans (hX.os.trans ht1.os), ht2.tape.trans (hX.tape.trans ht1.tape), ht2.output.trans (hX.output.trans ht1.output), Nat.le_trans ht1.size (Nat.le_trans hX.size ht2.size), fun b hb hn => ?_, fun b hb => ?_⟩
          · have hz1 := ht1.size
            have hz2 := hX.size
            rw [ht2.block b (by omega) (fun e => by
              have e : b = cb := e
              rcases hX.foot cb hcb with h | h
              · exact hn (e ▸ h)
              · omega), hX.block b (by omega) hn]
            exact ht1.block b hb (fun e => e)
          · rcases hX.foot b hb with h | h
            · exact .inl h
            · exact .inr (Nat.le_trans ht1.size h)

/-- Pin of a page that is not in, of a pool whose pages are all clean. -/
theorem pool_pin_out' {F D : Foot} {w : World} {gp gd gl at_ base : Nat} {p : Sp.Pl} (h : IsPl F w gp gd gl at_ base p) (hclean : ∀ it ∈ p.items, it.dirty = false) {x : Sp.Pg} (hx : x.wf ∧ x.may) (hf : p.find x.id = none)
    {dk : Sp.Dk} (hdk : IsDk D w gd dk) (hfu : dk.fuse ≠ 0) (hlo : dk.loose = []) (hi : base + x.id * 4 + 4 ≤ dk.sure.length) (hpg : Sp.pageAt dk.sure (base + x.id * 4) = pgBytes x) :
    Calls Tryz.prog 41 #[ptr gp, u32v x.id] w fun e w' =>
      (e = .returned (.tuple #[zeroPgV, .int .i64 4]) ∧ p.free = [] ∧ (∀ it ∈ p.items, 0 < it.pins) ∧ IsPl F w' gp gd gl at_ base p ∧ Turns F F w w') ∨
      ∃ F' A c p' i rest, e = .returned (.tuple #[pgV x A c, .int .i64 0]) ∧ OkAddr A ∧ RowsAt (fun b => w.heap.size ≤ b ∧ ¬ F' b) w' A x.rows ∧ p'.free = i :: rest ∧ p'.find x.id = none ∧
        IsPl F' w' gp gd gl at_ base ((p'.bring x i rest).pinUp x.id) ∧ Turns F F' w w' ∧
        (p' = p ∨ (p.free = [] ∧ ∃ pre it post, p.items = pre ++ it :: post ∧ (∀ y ∈ pre, 0 < y.pins) ∧ it.pins = 0 ∧ p' = p.drop it.page.id it.idx)) := by
  obtain ⟨R, fb, cb, mb, v, s, r, cs, h⟩ := h
  have hlen : (p.items.map (·.page.id)).length ≤ 64 := by
    have := h.wf.len; have := h.wf.n64
    rw [List.length_map]; omega
  refine (pool_pin_out (H := F) h hx hf hdk hfu hlo hi hpg h.lt (ZClean p (p.items.map (·.page.id))) (Z4Clean w p (p.items.map (·.page.id))) (fun W hb hW => take_clean hclean rfl hf W hb hW) (fun i p' ids' F' H' w2 hZ => ?_)).mono ?_
  · rcases hZ with ⟨_, rfl⟩ | ⟨pre, it, post, _, _, _, _, _, _, rfl⟩
    · exact hlen
    · exact Nat.le_trans (List.length_filter_le _ _) hlen
  rintro e w' (⟨c4, hc4, rfl, w2, g4, ⟨rfl, hfr, hall, hb⟩, hg4, ht⟩ | ⟨i, p', F', H', ids', rest, w2, F3, R3, v3, s3, r3, cs3, A, c, rfl, hA, hR, h', hfree, hnone, hZ, hF', ht, G, hG, ht3⟩)
  · have hsz := hb.size
    have hb' : Below w.heap.size w w' := hb.trans (ht.below hsz (fun b e => by have e : b = g4 := e; omega))
    refine .inl ⟨rfl, hfr, fun it hit => ?_, ⟨R, fb, cb, mb, v, s, r, cs, h.keep hb'.size (fun b hF => hb'.block b (h.lt b hF))⟩, Turns.of_below hb' F⟩
    obtain ⟨y, hy, hp⟩ := hall it.page.id (List.mem_map.2 ⟨it, hit, rfl⟩)
    rw [Sp.Pl.find_of h.wf hit] at hy
    injection hy with hy
    rw [hy]; exact hp
  · refine .inr ⟨F3, A, c, p', i, rest, rfl, hA, hR.mono (fun b hb => ⟨hb.1, hb.2.1⟩), hfree, hnone, ⟨R3, fb, cb, mb, v3, s3, r3, cs3, ?_⟩, ?_, ?_⟩
    · have hids : ids' = p'.items.map (·.page.id) := by
        rcases hZ with ⟨rfl, rfl⟩ | ⟨pre, it, post, _, _, _, _, _, rfl, rfl⟩
        · rfl
        · simp only [Sp.Pl.drop]
          rw [List.filter_map]
          rfl
      have hnot : ids'.filter (fun y => !(y == x.id)) = ids' := by
        rw [List.filter_eq_self]
        intro a ha
        rw [hids] at ha
        obtain ⟨y, hy, rfl⟩ := List.mem_map.1 ha
        have := Sp.Pl.find_none.1 hnone y hy
        simpa using this
      have e2 : (((p'.bring x i rest).pinUp x.id).items.map (·.page.id)) = ids'.filter (fun y => !(y == x.id)) ++ [x.id] := by
        rw [hnot, hids]
        refine (Sp.Pl.upd_ids (p := p'.bring x i rest) (id := x.id) (f := fun y => { y with pins := y.pins + 1 }) ⟨fun _ => rfl, fun _ => rfl⟩).trans ?_
        simp [Sp.Pl.bring]
      rw [e2]
      exact h'
    · refine ⟨ht3.os.trans ht.os, ht3.tape.trans ht.tape, ht3.output.trans ht.output, Nat.le_trans ht.size ht3.size, fun b hb hn => ?_, fun b hb => ?_⟩
      · have hz := ht.size
        rw [ht3.block b (by omega) (fun hh => by
          rcases hh with hh | hh
          · rcases ht.foot b (hF' b hh) with h1 | h1
            · exact hn h1
            · omega
          · have := (hG b hh).2; omega)]
        exact ht.block b hb hn
      · rcases ht3.foot b hb with hh | hh
        · rcases hh with hh | hh
          · exact ht.foot b (hF' b hh)
          · exact .inr (hG b hh).2
        · exact .inr (Nat.le_trans ht.size hh)
    · rcases hZ with ⟨rfl, _⟩ | ⟨pre, it, post, hfr, hsp, hpre, hfi, hp0, rfl, _⟩
      · exact .inl rfl
      · refine .inr ⟨hfr, ?_⟩
        obtain ⟨l1, l2, e1, e2, e3⟩ := List.map_eq_append_iff.1 hsp
        obtain ⟨y, l3, e4, e5, e6⟩ := List.map_eq_cons_iff.1 e3
        have hy : y ∈ p.items := by rw [e1, e4]; simp
        have hye : y = it := by
          have := Sp.Pl.find_of h.wf hy
          rw [e5, hfi] at this
          injection this with this
          exact this.symm
        subst hye
        refine ⟨l1, y, l3, by rw [e1, e4], fun z hz => ?_, hp0, rfl⟩
        obtain ⟨q, hq, hqp⟩ := hpre z.page.id (by rw [← e2]; exact List.mem_map.2 ⟨z, hz, rfl⟩)
        rw [Sp.Pl.find_of h.wf (by rw [e1]; exact List.mem_append_left _ hz)] at hq
        injection hq with hq
        rw [hq]; exact hqp
end Go.Proofs.YtclpmkinjjhncaaGreat

/- A pool's rows as a plain list of (page, how often pinned); the blocks that are kept. No law's function is named here. -/
namespace Go.Proofs.YtclpmkinjjhncaaGreat
open Go.RowKit

namespace Sp
/-- the plain list. -/
def Pl.abs (p : Pl) : List (Nat × Nat) := p.items.map fun it => (it.page.id, it.pins)
def aHas (L : List (Nat × Nat)) (k : Nat) : Bool := L.any fun x => x.1 == k
/-- one more pin: it stands last. -/
def aUp (L : List (Nat × Nat)) (k : Nat) : List (Nat × Nat) := L.filter (fun x => x.1 != k) ++ (L.filter (fun x => x.1 == k)).map fun x => (x.1, x.2 + 1)
/-- the first that is not pinned goes. -/
def aDrop : List (Nat × Nat) → Option (List (Nat × Nat))
  | [] => none
  | x :: L => if x.2 = 0 then some L else (aDrop L).map (x :: ·)
/-- Pin: none: there is no room. -/
def aPin (n : Nat) (L : List (Nat × Nat)) (k : Nat) : Option (List (Nat × Nat)) :=
  if aHas L k then some (aUp L k) else if L.length < n then some (L ++ [(k, 1)]) else (aDrop L).map (· ++ [(k, 1)])
def aUnpin (L : List (Nat × Nat)) (k : Nat) : List (Nat × Nat) := L.map fun x => if x.1 = k then (x.1, x.2 - 1) else x

theorem aHas_iff {p : Pl} {k : Nat} : aHas p.abs k = true ↔ (p.find k).isSome := by
  unfold aHas Pl.abs Pl.find
  rw [List.any_map, List.find?_isSome, List.any_eq_true]
  rfl

theorem abs_last {p : Pl} (k : Nat) : ((p.pinUp k).last k).abs = aUp p.abs k := by
  unfold Pl.last Pl.pinUp Pl.upd Pl.abs aUp
  simp only [List.map_append, List.filter_map, List.map_map]
  congr 1
  · have e : ((fun x : It => x.page.id != k) ∘ fun x => if x.page.id = k then { x with pins := x.pins + 1 } else x) = ((fun x : Nat × Nat => x.1 != k) ∘ fun it : It => (it.page.id, it.pins)) := by
      funext x
      simp only [Function.comp]
      split <;> simp_all
    rw [e]
    apply List.map_congr_left
    intro x hx
    have hne : x.page.id ≠ k := by simpa using (List.mem_filter.1 hx).2
    simp [Function.comp, hne]
  · have e : ((fun x : It => x.page.id == k) ∘ fun x => if x.page.id = k then { x with pins := x.pins + 1 } else x) = ((fun x : Nat × Nat => x.1 == k) ∘ fun it : It => (it.page.id, it.pins)) := by
      funext x
      simp only [Function.comp]
      split <;> simp_all
    rw [e]
    apply List.map_congr_left
    intro x hx
    have he : x.page.id = k := by simpa using (List.mem_filter.1 hx).2
    simp [Function.comp, he]
theorem abs_bring {p : Pl} {x : Pg} {i : Nat} {rest : List Nat} (hn : p.find x.id = none) : ((p.bring x i rest).pinUp x.id).abs = p.abs ++ [(x.id, 1)] := by
  have hn' := Pl.find_none.1 hn
  unfold Pl.bring Pl.pinUp Pl.upd Pl.abs
  simp only [List.map_append, List.map_map, List.map_cons, List.map_nil]
  congr 1
  · apply List.map_congr_left
    intro y hy
    simp [Function.comp, hn' y hy]
theorem abs_unpin {p : Pl} (k : Nat) : (p.upd k fun x => { x with pins := x.pins - 1 }).abs = aUnpin p.abs k := by
  unfold Pl.upd Pl.abs aUnpin
  simp only [List.map_map]
  apply List.map_congr_left
  intro x _
  simp only [Function.comp]
  split <;> rfl
theorem aDrop_split : ∀ (pre : List (Nat × Nat)) (x : Nat × Nat) (post : List (Nat × Nat)), (∀ y ∈ pre, 0 < y.2) → x.2 = 0 → aDrop (pre ++ x :: post) = some (pre ++ post)
  | [], x, post, _, h => by simp [aDrop, h]
  | y :: pre, x, post, hp, h => by
    have hy := hp y (List.mem_cons_self)
    have ih := aDrop_split pre x post (fun z hz => hp z (List.mem_cons_of_mem _ hz)) h
    simp only [List.cons_append, aDrop]
    rw [if_neg (by omega), ih]; rfl
theorem aDrop_none : ∀ (L : List (Nat × Nat)), (∀ y ∈ L, 0 < y.2) → aDrop L = none
  | [], _ => rfl
  | y :: L, h => by
    have hy := h y (List.mem_cons_self)
    simp only [aDrop]
    rw [if_neg (by omega), aDrop_none L (fun z hz => h z (List.mem_cons_of_mem _ hz))]; rfl
theorem abs_drop {p : Pl} (h : p.wf) {pre post : List It} {it : It} (e : p.items = pre ++ it :: post) : (p.drop it.page.id it.idx).abs = (pre ++ post).map fun it => (it.page.id, it.pins) := by
  have hn := h.ids
  rw [e, List.map_append, List.map_cons, List.nodup_append] at hn
  obtain ⟨_, h2, h3⟩ := hn
  rw [List.nodup_cons] at h2
  unfold Pl.drop Pl.abs
  simp only [e, List.filter_append]
  rw [List.filter_cons_of_neg (by simp)]
  congr 2
  · rw [List.filter_eq_self]
    intro y hy
    have := h3 _ (List.mem_map.2 ⟨y, hy, rfl⟩) it.page.id (List.mem_cons_self)
    simpa using this
  · rw [List.filter_eq_self]
    intro y hy
    have : y.page.id ≠ it.page.id := fun e => h2.1 (List.mem_map.2 ⟨y, hy, e⟩)
    simpa using this
end Sp

/-- The blocks of K are kept. -/
structure Kept (K : Foot) (w w' : World) : Prop where
  os : w'.os = w.os
  tape : w'.tape = w.tape
  output : w'.output = w.output
  size : w.heap.size ≤ w'.heap.size
  block : ∀ b, K b → w'.heap[b]? = w.heap[b]?
theorem Kept.refl (K : Foot) (w : World) : Kept K w w := ⟨rfl, rfl, rfl, Nat.le_refl _, fun _ _ => rfl⟩
theorem Kept.trans {K : Foot} {w w' w'' : World} (h : Kept K w w') (h' : Kept K w' w'') : Kept K w w'' :=
  ⟨h'.os.trans h.os, h'.tape.trans h.tape, h'.output.trans h.output, Nat.le_trans h.size h'.size, fun b hb => (h'.block b hb).trans (h.block b hb)⟩
theorem Kept.mono {K K' : Foot} {w w' : World} (h : Kept K w w') (hk : ∀ b, K' b → K b) : Kept K' w w' := ⟨h.os, h.tape, h.output, h.size, fun b hb => h.block b (hk b hb)⟩
theorem Kept.below {K : Foot} {w w' : World} (h : Kept K w w') {B : Nat} (hk : ∀ b, b < B → K b) : Below B w w' := ⟨h.os, h.tape, h.output, h.size, fun b hb => h.block b (hk b hb)⟩
theorem Kept.of_below {K : Foot} {w w' : World} {B : Nat} (h : Below B w w') (hk : ∀ b, K b → b < B) : Kept K w w' := ⟨h.os, h.tape, h.output, h.size, fun b hb => h.block b (hk b hb)⟩
theorem Kept.of_turns {K F F' : Foot} {w w' : World} (h : Turns F F' w w') (hk : ∀ b, K b → b < w.heap.size ∧ ¬ F b) : Kept K w w' := ⟨h.os, h.tape, h.output, h.size, fun b hb => h.block b (hk b hb).1 (hk b hb).2⟩
theorem Blk.kept {K : Foot} {w w' : World} {g : Nat} {t : TypeId} {cs : Array Value} (h : Blk w g t cs) (hk : Kept K w w') (hg : K g) : Blk w' g t cs := (hk.block g hg).trans h
end Go.Proofs.YtclpmkinjjhncaaGreat

/- Maps from uint32 to values of a struct type, as functions; a range over one. No program is named here. -/
namespace Go.Proofs.YtclpmkinjjhncaaGreat
open Go.RowKit Go.Maps

def heldElem (v : Value) : Option (DataW Value × List MemPlace) := some (.held v, [])

def VIs (D : DataW Value) (lk : Nat → Option Value) : Prop := ∀ p, (∀ v, lk p = some v → has D (uKey p) = true ∧ ∀ z, D.atKey (uKey p) z = .held v) ∧ (lk p = none → has D (uKey p) = false)
/-- Block b is a map of at most m entries that is this function. -/
def VMap (P : Program) (k : TypeId) (w : World) (b m : Nat) (lk : Nat → Option Value) : Prop :=
  ∃ D : DataW Value, w.ownsMap P k heldElem b m D ∧ VIs D lk

section
variable {P : Program} {k e t : TypeId} {w w' : World} {b m : Nat} {lk : Nat → Option Value}
theorem VMap.lt (h : VMap P k w b m lk) : b < w.heap.size := by obtain ⟨D, h1, _⟩ := h; exact World.ownsMap.lt h1
theorem VMap.keep (h : VMap P k w b m lk) (hk : w'.heap[b]? = w.heap[b]?) : VMap P k w' b m lk := by
  obtain ⟨D, ⟨es, clock, h1, rest⟩, h2⟩ := h
  exact ⟨D, ⟨es, clock, hk.trans h1, rest⟩, h2⟩
theorem VMap.below {B : Nat} (h : VMap P k w b m lk) (hb : Below B w w') (hlt : b < B) : VMap P k w' b m lk := h.keep (hb.block b hlt)
theorem VMap.kept {K : Foot} (h : VMap P k w b m lk) (hk : Kept K w w') (hb : K b) : VMap P k w' b m lk := h.keep (hk.block b hb)
theorem VMap.made (w : World) : VMap P k (w.alloc (.map #[] 0)) w.heap.size 0 (fun _ => none) :=
  ⟨.map [], World.ownsMap_made w P k _, fun p => ⟨fun i h => by simp at h, fun _ => rfl⟩⟩

theorem VMap.look (h : VMap P k w b m lk) (hk : P.underlying k = some (.int .u32)) (ht : P.underlying t = some (.map k e)) {z : Value} (hz : (zeroValue e).run P w = .ok z w) {p : Nat} {v : Value} (hp : p < 4294967296) (hi : lk p = some v) :
    (Instr.lookup t (.map (some b)) (.int .u32 (p : Int)) false).run P w = .ok v w := by
  obtain ⟨D, h1, h2⟩ := h
  obtain ⟨v', ps, hrun, hv⟩ := World.ownsMap.lookup h1 (int_keyed hk) ht hz (zd := .held z) (zp := []) rfl (keyOf_int_mk hk (uKey_wf hp))
  rw [((h2 p).1 v hi).2] at hv
  injection hv with hv
  injection hv with hv _
  injection hv with hv
  rw [hrun, hv]

def vPut (lk : Nat → Option Value) (p : Nat) (v : Value) : Nat → Option Value := fun q => if q = p then some v else lk q
theorem VMap.put (h : VMap P k w b m lk) (hk : P.underlying k = some (.int .u32)) (ht : P.underlying t = some (.map k e)) (hm : m < 1000000000) {p : Nat} (hp : p < 4294967296) (v : Value) :
    ∃ w', (Instr.mapUpdate t (.map (some b)) (.int .u32 (p : Int)) v).run P w = .ok () w' ∧ VMap P k w' b (m + 1) (vPut lk p v) ∧ w.grownBy w' (some b) := by
  obtain ⟨D, h1, h3⟩ := h
  obtain ⟨w', r1, r2, r3⟩ := World.ownsMap.update h1 (int_keyed hk) ht (by unfold maxLen; omega) (keyOf_int_mk hk (uKey_wf hp)) (val := v) (d := .held v) (ps := []) rfl
  have hT := World.ownsMap.tidy h1 (int_keyed hk)
  refine ⟨w', r1, ⟨_, r2, fun q => ?_⟩, r3⟩
  by_cases hq : q = p
  · subst hq
    simp only [vPut, if_pos]
    refine ⟨fun j hj => ?_, fun hc => by cases hc⟩
    injection hj with hj
    subst hj
    exact ⟨has_put_same hT.isMap (uKey_lit q) _, fun z => atKey_put_same hT.isMap (uKey_lit q) _ z⟩
  · have hne : uKey q ≠ uKey p := fun e => hq (uKey_inj e)
    simp only [vPut, if_neg hq]
    refine ⟨fun j hj => ?_, fun hc => ?_⟩
    · rw [has_put_other hne]
      exact ⟨((h3 q).1 j hj).1, fun z => by rw [atKey_put_other hne]; exact ((h3 q).1 j hj).2 z⟩
    · rw [has_put_other hne]; exact (h3 q).2 hc
end

theorem keyOf_u32v {P : Program} {k : TypeId} (hk : P.underlying k = some (.int .u32)) {key : Value} {kl : Lit} (h : keyOf P k key = some kl) : ∃ x : Nat, key = .int .u32 (x : Int) ∧ kl = uKey x ∧ x < 4294967296 := by
  cases key <;> simp [keyOf, hk, mapKey] at h
  rename_i q a
  obtain ⟨⟨rfl, hw⟩, rfl⟩ := h
  have e1 : IntKind.u32.min = 0 := rfl
  have e2 : IntKind.u32.max = 4294967295 := rfl
  simp [Lit.wf, e1, e2] at hw
  obtain ⟨x, rfl⟩ := Int.eq_ofNat_of_zero_le hw.1
  exact ⟨x, rfl, rfl, by omega⟩

/-- the keys that have come. -/
def CameV (D0 : DataW Value) (left : Lit → Bool) (ss : List Nat) : Prop := ss.Nodup ∧ (∀ x, x ∈ ss ↔ (has D0 (uKey x) = true ∧ left (uKey x) = false)) ∧ ∀ x ∈ ss, x < 4294967296
section
variable {D0 : DataW Value} {left : Lit → Bool} {ss : List Nat}
theorem CameV.start (D0 : DataW Value) : CameV D0 (has D0) [] := ⟨List.nodup_nil, fun x => by cases has D0 (uKey x) <;> simp, by simp⟩
theorem CameV.step (h : CameV D0 left ss) {x : Nat} {y : DataW Value} (hx32 : x < 4294967296) (hlk : left (uKey x) = true) (hat : ∀ zd, D0.atKey (uKey x) zd = y) : CameV D0 (fun z => left z && !z.sameKey (uKey x)) (ss ++ [x]) := by
  have hhas : has D0 (uKey x) = true := has_true_of_atKey hat
  have hnew : x ∉ ss := fun hx => by have := ((h.2.1 x).1 hx).2; rw [hlk] at this; cases this
  refine ⟨List.nodup_append.2 ⟨h.1, by simp, fun a ha b hb => by simp at hb; subst hb; exact fun e => hnew (e ▸ ha)⟩, fun y => ?_, fun y hy => ?_⟩
  · by_cases hy : y = x
    · subst hy
      simp [hhas, WideAt.sameKey_self (uKey_lit y)]
    · have hs : (uKey y).sameKey (uKey x) = false := by
        cases he : (uKey y).sameKey (uKey x) with
        | false => rfl
        | true => exact absurd (uKey_inj ((WideAt.sameKey_iff (uKey_lit x)).1 he)) hy
      simp [h.2.1 y, hy, hs]
  · rcases List.mem_append.1 hy with hy | hy
    · exact h.2.2 y hy
    · simp at hy; subst hy; exact hx32
/-- All have come. -/
theorem CameV.all {lk : Nat → Option Value} (h : CameV D0 left ss) (hl : ∀ kl, left kl = false) (hv : VIs D0 lk) : ss.Nodup ∧ (∀ x, x ∈ ss ↔ (lk x).isSome) ∧ ∀ x ∈ ss, x < 4294967296 := by
  refine ⟨h.1, fun x => ?_, h.2.2⟩
  rw [h.2.1 x, hl]
  cases hx : lk x with
  | none => simp [(hv x).2 hx]
  | some v => simp [((hv x).1 v hx).1]
end
end Go.Proofs.YtclpmkinjjhncaaGreat

/- Plain laws on what twin.Write leaves on a disk. -/
namespace Go.Proofs.YtclpmkinjjhncaaGreat
open Go.RowKit
namespace Sp

def wrs : List TAct → List (Nat × Bs)
  | [] => []
  | .wr k s :: l => (k, s) :: wrs l
  | .sync :: l => wrs l
theorem wrs_app : ∀ (a b : List TAct), wrs (a ++ b) = wrs a ++ wrs b
  | [], _ => rfl
  | .wr k s :: a, b => by simp [wrs, wrs_app a b]
  | .sync :: a, b => by simp [wrs, wrs_app a b]

theorem view_put (d : Dk) (k : Nat) (s : Bs) : (d.put k s).view = lay [(k, s)] d.view := by simp [Dk.put, Dk.view, lay_append]
theorem view_synced (d : Dk) : d.synced.view = d.view := by simp [Dk.synced, Dk.view, lay]
theorem view_acts (d : Dk) : ∀ l, (d.acts l).view = lay (wrs l) d.view := fun l => by
  induction l generalizing d with
  | nil => rfl
  | cons a l ih =>
    show (Dk.acts (d.act a) l).view = _
    rw [ih]
    cases a with
    | wr k s => simp only [Dk.act, view_put, wrs]; rfl
    | sync => simp only [Dk.act, view_synced, wrs]
/-- behind a list that ends with a Sync. -/
theorem acts_synced (d : Dk) (l : List TAct) : (d.acts (l ++ [.sync])).loose = [] ∧ (d.acts (l ++ [.sync])).sure = lay (wrs l) d.view := by
  rw [acts_snoc]
  exact ⟨rfl, view_acts d l⟩

theorem lay_other : ∀ (l : List (Nat × Bs)) (s : List Bs) (k : Nat), (∀ x ∈ l, x.1 ≠ k) → (lay l s)[k]? = s[k]?
  | [], _, _, _ => rfl
  | x :: l, s, k, h => by
    show (lay l (s.set x.1 x.2))[k]? = _
    rw [lay_other l _ k (fun y hy => h y (List.mem_cons_of_mem _ hy)), List.getElem?_set_ne (h x (List.mem_cons_self))]
/-- read where the last that is written there says t. -/
theorem lay_at (a b : List (Nat × Bs)) (s : List Bs) (k : Nat) (t : Bs) (hk : k < s.length) (hb : ∀ x ∈ b, x.1 ≠ k) : (lay (a ++ (k, t) :: b) s)[k]? = some t := by
  rw [lay_append]
  show (lay b ((lay a s).set k t))[k]? = _
  rw [lay_other b _ k hb, List.getElem?_set_self (by simpa using hk)]

theorem wrs_home (base : Nat) (x : Nat × Bs) : wrs (homeActs base x) = (List.range 4).map fun j => (base + x.1 * 4 + j, (x.2.drop (j * 128)).take 128) := rfl
theorem wrs_homes (base : Nat) : ∀ l, wrs (homesActs base l) = (l.map fun x => (List.range 4).map fun j => (base + x.1 * 4 + j, (x.2.drop (j * 128)).take 128)).flatten
  | [] => rfl
  | x :: l => by
    show wrs (homeActs base x ++ homesActs base l) = _
    rw [wrs_app, wrs_home, wrs_homes base l]; rfl
theorem mem_wrs_homes {base : Nat} {l : List (Nat × Bs)} {y : Nat × Bs} (h : y ∈ wrs (homesActs base l)) : ∃ x ∈ l, ∃ j, j < 4 ∧ y.1 = base + x.1 * 4 + j := by
  rw [wrs_homes] at h
  obtain ⟨z, hz, hy⟩ := List.mem_flatten.1 h
  obtain ⟨x, hx, rfl⟩ := List.mem_map.1 hz
  obtain ⟨j, hj, rfl⟩ := List.mem_map.1 hy
  exact ⟨x, hx, j, List.mem_range.1 hj, rfl⟩

theorem range4 {α : Type} (f : Nat → α) : (List.range 4).map f = [f 0, f 1, f 2, f 3] := rfl

/-- One page written: the disk behind it. -/
theorem twin_one (d : Dk) (hlo : d.loose = []) (hf : d.fuse = -1) (at_ base p : Nat) (t : Bs) (ht : t.length = 512) (hin : inside d.sure.length at_ base p) :
    (d.acts (twinActs at_ base [(p, t)])).loose = [] ∧ (d.acts (twinActs at_ base [(p, t)])).fuse = -1 ∧ (d.acts (twinActs at_ base [(p, t)])).sure.length = d.sure.length ∧
    pageAt (d.acts (twinActs at_ base [(p, t)])).sure (base + p * 4) = t ∧
    ∀ q, q ≠ p → at_ + 33 ≤ base + q * 4 → base + q * 4 + 4 ≤ d.sure.length → pageAt (d.acts (twinActs at_ base [(p, t)])).sure (base + q * 4) = pageAt d.sure (base + q * 4) := by
  obtain ⟨hi1, hi2⟩ := hin
  have hview : d.view = d.sure := by simp [Dk.view, hlo, lay]
  have hw : ∃ a c, twinActs at_ base [(p, t)] = (a ++ homesActs base [(p, t)] ++ c) ++ [.sync] ∧ (∀ x ∈ wrs a, x.1 < at_ + 33) ∧ (∀ x ∈ wrs c, x.1 < at_ + 33) := by
    refine ⟨(homesActs (at_ + 1) (areaOf [(p, t)]) ++ [.sync]) ++ [.wr at_ (markBs [(p, t)]), .sync], [.sync, .wr at_ (zeros 128)], by simp [twinActs], fun x hx => ?_, fun x hx => ?_⟩
    · rw [wrs_app, wrs_app] at hx
      simp only [wrs, List.append_nil, List.mem_append, List.mem_singleton] at hx
      rcases hx with hx | rfl
      · obtain ⟨y, hy, j, hj, e⟩ := mem_wrs_homes hx
        have : y.1 = 0 := by
          simp [areaOf] at hy
          rw [hy]
        omega
      · show at_ < at_ + 33; omega
    · simp [wrs] at hx
      rw [hx]; show at_ < at_ + 33; omega
  obtain ⟨a, c, hw, ha, hc⟩ := hw
  have hs := acts_synced d (a ++ homesActs base [(p, t)] ++ c)
  rw [← hw, hview, wrs_app, wrs_app] at hs
  have hlen := acts_sure d (twinActs at_ base [(p, t)])
  have hh : wrs (homesActs base [(p, t)]) = [(base + p * 4 + 0, (t.drop 0).take 128), (base + p * 4 + 1, (t.drop 128).take 128), (base + p * 4 + 2, (t.drop 256).take 128), (base + p * 4 + 3, (t.drop 384).take 128)] := by
    rw [wrs_homes]; rfl
  refine ⟨hs.1, acts_fuse d hf _, hlen, ?_, fun q hq h1 h2 => ?_⟩
  · rw [hs.2, hh]
    generalize hL : lay (wrs a ++ [(base + p * 4 + 0, (t.drop 0).take 128), (base + p * 4 + 1, (t.drop 128).take 128), (base + p * 4 + 2, (t.drop 256).take 128), (base + p * 4 + 3, (t.drop 384).take 128)] ++ wrs c) d.sure = L
    have g0 : L[base + p * 4 + 0]? = some ((t.drop 0).take 128) := by
      rw [← hL]
      have := lay_at (wrs a) ([(base + p * 4 + 1, (t.drop 128).take 128), (base + p * 4 + 2, (t.drop 256).take 128), (base + p * 4 + 3, (t.drop 384).take 128)] ++ wrs c) d.sure (base + p * 4 + 0) ((t.drop 0).take 128) (by omega) (fun x hx => by
        rcases List.mem_append.1 hx with hx | hx
        · simp at hx; rcases hx with rfl | rfl | rfl <;> simp
        · have := hc x hx; omega)
      simpa using this
    have g1 : L[base + p * 4 + 1]? = some ((t.drop 128).take 128) := by
      rw [← hL]
      have := lay_at (wrs a ++ [(base + p * 4 + 0, (t.drop 0).take 128)]) ([(base + p * 4 + 2, (t.drop 256).take 128), (base + p * 4 + 3, (t.drop 384).take 128)] ++ wrs c) d.sure (base + p * 4 + 1) ((t.drop 128).take 128) (by omega) (fun x hx => by
        rcases List.mem_append.1 hx with hx | hx
        · simp at hx; rcases hx with rfl | rfl <;> simp
        · have := hc x hx; omega)
      simpa using this
    have g2 : L[base + p * 4 + 2]? = some ((t.drop 256).take 128) := by
      rw [← hL]
      have := lay_at (wrs a ++ [(base + p * 4 + 0, (t.drop 0).take 128), (base + p * 4 + 1, (t.drop 128).take 128)]) ([(base + p * 4 + 3, (t.drop 384).take 128)] ++ wrs c) d.sure (base + p * 4 + 2) ((t.drop 256).take 128) (by omega) (fun x hx => by
        rcases List.mem_append.1 hx with hx | hx
        · simp at hx; rw [hx]; simp
        · have := hc x hx; omega)
      simpa using this
    have g3 : L[base + p * 4 + 3]? = some ((t.drop 384).take 128) := by
      rw [← hL]
      have := lay_at (wrs a ++ [(base + p * 4 + 0, (t.drop 0).take 128), (base + p * 4 + 1, (t.drop 128).take 128), (base + p * 4 + 2, (t.drop 256).take 128)]) (wrs c) d.sure (base + p * 4 + 3) ((t.drop 384).take 128) (by omega) (fun x hx => by have := hc x hx; omega)
      simpa using this
    have hd : (L.drop (base + p * 4)).take 4 = [(t.drop 0).take 128, (t.drop 128).take 128, (t.drop 256).take 128, (t.drop 384).take 128] := by
      apply List.ext_getElem?
      intro k
      rw [List.getElem?_take]
      match k with
      | 0 => simpa using g0
      | 1 => simpa using g1
      | 2 => simpa using g2
      | 3 => simpa using g3
      | k + 4 =>
        rw [if_neg (by omega)]
        simp
    unfold pageAt
    rw [hd]
    simp only [List.flatten_cons, List.flatten_nil, List.append_nil, List.drop_zero]
    have e3 : (t.drop 384).take 128 = t.drop 384 := List.take_of_length_le (by simp; omega)
    have e2 : (t.drop 256).take 128 ++ t.drop 384 = t.drop 256 := by
      have := List.take_append_drop 128 (t.drop 256); rwa [List.drop_drop] at this
    have e1 : (t.drop 128).take 128 ++ t.drop 256 = t.drop 128 := by
      have := List.take_append_drop 128 (t.drop 128); rwa [List.drop_drop] at this
    rw [e3, e2, e1, List.take_append_drop]
  · rw [hs.2]
    unfold pageAt
    congr 1
    apply List.ext_getElem?
    intro k
    rw [List.getElem?_take, List.getElem?_take]
    split
    · rename_i hk
      rw [List.getElem?_drop, List.getElem?_drop]
      refine lay_other _ _ _ (fun x hx => ?_)
      rw [hh] at hx
      rcases List.mem_append.1 hx with hx | hx
      · rcases List.mem_append.1 hx with hx | hx
        · have := ha x hx; omega
        · simp at hx
          rcases hx with rfl | rfl | rfl | rfl <;> simp <;> omega
      · have := hc x hx; omega
    · rfl
end Sp
end Go.Proofs.YtclpmkinjjhncaaGreat

/- Plain words on a log: what is appended, forced, kept; which sectors a forced log writes. No program is named here. -/
namespace Go.Proofs.YtclpmkinjjhncaaGreat.Sp

/-- A record's frame. -/
def frame (lsn : Nat) (s : Bs) : Bs := be 2 s.length ++ be 8 lsn ++ sumBytes (be 2 s.length ++ be 8 lsn ++ s) ++ s
theorem frame_length (lsn : Nat) (s : Bs) : (frame lsn s).length = 14 + s.length := by simp [frame]; omega
/-- Where a stretch begins. -/
def bg (k : Nat) : Nat := k - k % 110
theorem bg_le (k : Nat) : bg k ≤ k := Nat.sub_le _ _
theorem bg_mono {a b : Nat} (h : a ≤ b) : bg a ≤ bg b := by unfold bg; omega
theorem bg_mod (k : Nat) : bg k % 110 = 0 := by unfold bg; omega
/-- A log: where it is, how many sectors; its bytes from the first stretch on, where frames begin. -/
structure Lg where
  at_ : Nat
  n : Nat
  life : Nat
  bytes : Bs
  starts : List Nat
  first : Nat
  next : Nat
  forced : Nat
  reserved : Nat
structure Lg.wf (l : Lg) : Prop where
  n4 : 4 ≤ l.n
  n4k : l.n ≤ 4096
  life1 : 1 ≤ l.life
  life64 : l.life < 18446744073709551616
  lo : 110 ≤ l.first
  ff : l.first ≤ l.forced
  fn : l.forced ≤ l.next
  len : l.bytes.length + bg l.first = l.next
  room : l.bytes.length ≤ l.n * 110
  rise : l.starts.Pairwise (· < ·)
  starts : ∀ x ∈ l.starts, l.first ≤ x ∧ x < l.next
theorem Lg.wf.few {l : Lg} (h : l.wf) : l.starts.length ≤ l.bytes.length := by
  have key : ∀ (s : List Nat) (a b : Nat), s.Pairwise (· < ·) → (∀ x ∈ s, a ≤ x ∧ x < b) → s.length ≤ b - a := fun s => by
    induction s with
    | nil => intro a b _ _; simp
    | cons x s ih =>
      intro a b hp hx
      have h1 := hx x List.mem_cons_self
      have h2 := (List.pairwise_cons.1 hp)
      have := ih (x + 1) b h2.2 (fun y hy => ⟨h2.1 y hy, (hx y (List.mem_cons_of_mem _ hy)).2⟩)
      simp only [List.length_cons]; omega
  have h1 := key l.starts l.first l.next h.rise h.starts
  have h2 := h.len
  have := bg_le l.first
  omega
def Lg.left (l : Lg) : Nat := l.n * 110 - l.bytes.length - l.reserved
def Lg.append (l : Lg) (s : Bs) : Lg := { l with bytes := l.bytes ++ frame l.next s, starts := l.starts ++ [l.next], next := l.next + (14 + s.length) }
theorem Lg.append_wf {l : Lg} (h : l.wf) {s : Bs} (hs : 14 + s.length ≤ l.left) : (l.append s).wf := by
  have h1 := h.len
  have h2 := h.room
  have h3 := h.ff
  have h4 := h.fn
  unfold Lg.left at hs
  refine ⟨h.n4, h.n4k, h.life1, h.life64, h.lo, h.ff, ?_, ?_, ?_, ?_, fun x hx => ?_⟩
  · show l.forced ≤ l.next + (14 + s.length); omega
  · show (l.bytes ++ frame l.next s).length + bg l.first = l.next + (14 + s.length)
    rw [List.length_append, frame_length]; omega
  · show (l.bytes ++ frame l.next s).length ≤ l.n * 110
    rw [List.length_append, frame_length]; omega
  · show (l.starts ++ [l.next]).Pairwise (· < ·)
    refine List.pairwise_append.2 ⟨h.rise, by simp, fun a ha b hb => ?_⟩
    rw [List.mem_singleton.1 hb]
    exact (h.starts a ha).2
  · show l.first ≤ x ∧ x < l.next + (14 + s.length)
    rcases List.mem_append.1 hx with hx | hx
    · have := h.starts x hx; omega
    · rw [List.mem_singleton.1 hx]; omega
/-- The sector of a stretch; its bytes. -/
def Lg.sector (l : Lg) (k : Nat) : Nat := l.at_ + k / 110 % l.n
def Lg.part (l : Lg) (k : Nat) : Bs := (l.bytes.drop (k - bg l.first)).take 110
def Lg.sec (l : Lg) (k : Nat) : Bs := be 8 k ++ be 8 l.life ++ be 2 (l.part k).length ++ l.part k ++ zeros (110 - (l.part k).length)
theorem Lg.part_le (l : Lg) (k : Nat) : (l.part k).length ≤ 110 := by simp [Lg.part]; omega
theorem Lg.sec_length (l : Lg) (k : Nat) : (l.sec k).length = 128 := by
  have := l.part_le k
  simp [Lg.sec, zeros]; omega
theorem Lg.sector_lt {l : Lg} (h : l.wf) (k : Nat) : l.at_ ≤ l.sector k ∧ l.sector k < l.at_ + l.n := by
  have := Nat.mod_lt (k / 110) (show 0 < l.n by have := h.n4; omega)
  unfold Lg.sector; omega
/-- How many stretches a force writes; what it does. -/
def Lg.strs (l : Lg) : Nat := (l.next - bg l.forced + 109) / 110
def Lg.forceWrs (l : Lg) (m : Nat) : List TAct := (List.range m).map fun j => .wr (l.sector (bg l.forced + j * 110)) (l.sec (bg l.forced + j * 110))
def Lg.forceActs (l : Lg) : List TAct := l.forceWrs l.strs ++ [.sync]
def Lg.forces (l : Lg) : Lg := { l with forced := l.next }
theorem Lg.forces_wf {l : Lg} (h : l.wf) : l.forces.wf := ⟨h.n4, h.n4k, h.life1, h.life64, h.lo, Nat.le_trans h.ff h.fn, Nat.le_refl _, h.len, h.room, h.rise, h.starts⟩
theorem Lg.forceWrs_succ (l : Lg) (m : Nat) : l.forceWrs (m + 1) = l.forceWrs m ++ [.wr (l.sector (bg l.forced + m * 110)) (l.sec (bg l.forced + m * 110))] := by
  unfold Lg.forceWrs; rw [List.range_succ, List.map_append]; rfl
theorem Lg.strs_lt {l : Lg} {j : Nat} (hf : l.forced ≤ l.next) : j < l.strs ↔ bg l.forced + j * 110 < l.next := by
  have := bg_le l.forced
  unfold Lg.strs
  omega
theorem Lg.strs_le {l : Lg} (h : l.wf) : l.strs ≤ l.n + 1 := by
  have h1 := h.len
  have h2 := h.room
  have h3 := bg_mono h.ff
  unfold Lg.strs
  have : l.next - bg l.forced ≤ l.n * 110 := by omega
  omega
/-- What Keep leaves. -/
def Lg.keep (l : Lg) (k : Nat) : Lg := { l with bytes := l.bytes.drop (bg k - bg l.first), starts := l.starts.filter (fun x => decide (k ≤ x)), first := k }
theorem Lg.keep_wf {l : Lg} (h : l.wf) {k : Nat} (h1 : l.first ≤ k) (h2 : k ≤ l.forced) : (l.keep k).wf := by
  have e1 := bg_mono h1
  have e2 := bg_le k
  have e3 := h.len
  have e4 := h.fn
  have e5 := h.lo
  have e6 := h.room
  refine ⟨h.n4, h.n4k, h.life1, h.life64, ?_, h2, h.fn, ?_, ?_, ?_, fun x hx => ?_⟩
  · show 110 ≤ k; omega
  · show (l.bytes.drop (bg k - bg l.first)).length + bg k = l.next
    rw [List.length_drop]; omega
  · show (l.bytes.drop (bg k - bg l.first)).length ≤ l.n * 110
    rw [List.length_drop]; omega
  · exact h.rise.filter _
  · have hx' := List.mem_filter.1 hx
    exact ⟨by show k ≤ x; simpa using hx'.2, (h.starts x hx'.1).2⟩

theorem wrs_force (l : Lg) (m : Nat) : wrs (l.forceWrs m) = (List.range m).map fun j => (l.sector (bg l.forced + j * 110), l.sec (bg l.forced + j * 110)) := by
  induction m with
  | zero => rfl
  | succ m ih => rw [Lg.forceWrs_succ, wrs_app, ih, List.range_succ, List.map_append]; rfl
/-- A force turns the log's sectors alone. -/
theorem force_disk (d : Dk) (hlo : d.loose = []) (hf : d.fuse = -1) {l : Lg} (h : l.wf) : (d.acts l.forceActs).loose = [] ∧ (d.acts l.forceActs).fuse = -1 ∧ (d.acts l.forceActs).sure.length = d.sure.length ∧
    ∀ a, (a + 4 ≤ l.at_ ∨ l.at_ + l.n ≤ a) → pageAt (d.acts l.forceActs).sure a = pageAt d.sure a := by
  have hview : d.view = d.sure := by simp [Dk.view, hlo, lay]
  have hs := acts_synced d (l.forceWrs l.strs)
  rw [hview] at hs
  refine ⟨hs.1, acts_fuse d hf _, acts_sure d _, fun a ha => ?_⟩
  show pageAt (d.acts (l.forceWrs l.strs ++ [.sync])).sure a = _
  rw [hs.2, wrs_force]
  unfold pageAt
  congr 1
  apply List.ext_getElem?
  intro k
  rw [List.getElem?_take, List.getElem?_take]
  split
  · rename_i hk
    rw [List.getElem?_drop, List.getElem?_drop]
    refine lay_other _ _ _ (fun x hx => ?_)
    obtain ⟨j, _, rfl⟩ := List.mem_map.1 hx
    have := Lg.sector_lt h (bg l.forced + j * 110)
    show l.sector _ ≠ _
    omega
  · rfl
end Go.Proofs.YtclpmkinjjhncaaGreat.Sp

/- A log in memory; the methods that answer without a loop: Next, First, Forced, made, Room; frame.Size, frame.Encode. -/
namespace Go.Proofs.YtclpmkinjjhncaaGreat
open Go.RowKit

/-- LSNs as cells. -/
def lsns (l : List Nat) : List Value := l.map fun (n : Nat) => Value.int .u64 (n : Int)
@[simp] theorem lsns_length (l : List Nat) : (lsns l).length = l.length := by simp [lsns]
theorem lsns_append (a b : List Nat) : lsns (a ++ b) = lsns a ++ lsns b := by simp [lsns]

/-- A log in memory: its struct in block gl; F is all its blocks. -/
structure IsLg (F : Foot) (w : World) (gl gd : Nat) (l : Sp.Lg) : Prop where
  wf : l.wf
  mem : ∃ bv sv, Blk w gl 105 (lgCells gd l.at_ l.n l.life bv sv l.first l.next l.forced l.reserved) ∧ w.ownsRow 0 5 1 bv l.bytes.length (bcs l.bytes) ∧
    w.ownsRow 0 29 1 sv l.starts.length (lsns l.starts) ∧ ∀ b, F b ↔ b = gl ∨ bv.ownBlock = some b ∨ sv.ownBlock = some b

theorem own_keep {w w' : World} {base e size n : Nat} {v : Value} {xs : List Value} (h : w.ownsRow base e size v n xs) (hk : ∀ b, v.ownBlock = some b → w'.heap[b]? = w.heap[b]?) : w'.ownsRow base e size v n xs := by
  refine ⟨h.1, ?_⟩
  rcases h.2 with h' | ⟨b, cap, cur, rfl, hb, hh, rest⟩
  · exact .inl h'
  · exact .inr ⟨b, cap, cur, rfl, hb, (hk b rfl).trans hh, rest⟩
theorem IsLg.keep {F : Foot} {w w' : World} {gl gd : Nat} {l : Sp.Lg} (h : IsLg F w gl gd l) (hk : ∀ b, F b → w'.heap[b]? = w.heap[b]?) : IsLg F w' gl gd l := by
  obtain ⟨h1, bv, sv, h3, h4, h5, h6⟩ := h
  exact ⟨h1, bv, sv, h3.keep (hk _ ((h6 _).2 (.inl rfl))), own_keep h4 (fun b hb => hk b ((h6 b).2 (.inr (.inl hb)))), own_keep h5 (fun b hb => hk b ((h6 b).2 (.inr (.inr hb)))), h6⟩
theorem IsLg.in_ {F : Foot} {w : World} {gl gd : Nat} {l : Sp.Lg} (h : IsLg F w gl gd l) : ∀ b, F b → b < w.heap.size := by
  obtain ⟨h1, bv, sv, h3, h4, h5, h6⟩ := h
  intro b hb
  rcases (h6 b).1 hb with rfl | hb | hb
  · exact h3.lt
  · exact (h4.lt b hb).2
  · exact (h5.lt b hb).2
theorem IsLg.below {F : Foot} {w w' : World} {gl gd : Nat} {l : Sp.Lg} (h : IsLg F w gl gd l) (hb : Below w.heap.size w w') : IsLg F w' gl gd l := h.keep (fun b hF => hb.block b (h.in_ b hF))
theorem IsLg.turns {F G G' : Foot} {w w' : World} {gl gd : Nat} {l : Sp.Lg} (h : IsLg F w gl gd l) (ht : Turns G G' w w') (hG : ∀ b, F b → ¬ G b) : IsLg F w' gl gd l := h.keep (fun b hF => ht.block b (h.in_ b hF) (hG b hF))

/-- A log just made. -/
def Sp.newLg (at_ n life : Nat) : Sp.Lg := ⟨at_, n, life, [], [], 110, 110, 110, 0⟩
theorem Sp.newLg_wf {at_ n life : Nat} (h1 : 4 ≤ n) (h2 : n ≤ 4096) (h3 : 1 ≤ life) (h4 : life < 18446744073709551616) : (Sp.newLg at_ n life).wf :=
  ⟨h1, h2, h3, h4, Nat.le_refl _, Nat.le_refl _, Nat.le_refl _, by simp [Sp.newLg, Sp.bg], by simp [Sp.newLg], List.Pairwise.nil, fun _ h => (by cases h)⟩
theorem newLg_mem {w : World} {gd at_ n life : Nat} (h1 : 4 ≤ n) (h2 : n ≤ 4096) (h3 : 1 ≤ life) (h4 : life < 18446744073709551616) {gl : Nat}
    (hB : Blk w gl 105 (lgCells gd at_ n life (.slice none 0 0) (.slice none 0 0) 110 110 110 0)) : IsLg (only gl) w gl gd (Sp.newLg at_ n life) :=
  ⟨Sp.newLg_wf h1 h2 h3 h4, .slice none 0 0, .slice none 0 0, hB, World.ownsRow_nil _ _ _ _, World.ownsRow_nil _ _ _ _, fun b => by simp [Value.ownBlock]⟩

/-- The cells of the struct. -/
theorem Blk.lg {w : World} {gl gd at_ n life first next forced reserved : Nat} {bv sv : Value} (h : Blk w gl 105 (lgCells gd at_ n life bv sv first next forced reserved)) :
    w.cell? ⟨gl, 0, none⟩ = some (ptr gd) ∧ w.cell? ⟨gl, 1, none⟩ = some (.int .i64 at_) ∧ w.cell? ⟨gl, 2, none⟩ = some (.int .i64 n) ∧ w.cell? ⟨gl, 3, none⟩ = some (.int .u64 life) ∧ w.cell? ⟨gl, 4, none⟩ = some bv ∧
    w.cell? ⟨gl, 5, none⟩ = some sv ∧ w.cell? ⟨gl, 6, none⟩ = some (.int .u64 first) ∧ w.cell? ⟨gl, 7, none⟩ = some (.int .u64 next) ∧ w.cell? ⟨gl, 8, none⟩ = some (.int .u64 forced) ∧ w.cell? ⟨gl, 9, none⟩ = some (.int .i64 reserved) :=
  ⟨h.cell 0, h.cell 1, h.cell 2, h.cell 3, h.cell 4, h.cell 5, h.cell 6, h.cell 7, h.cell 8, h.cell 9⟩

section
variable {F : Foot} {w : World} {gl gd : Nat} {l : Sp.Lg}
set_option maxRecDepth 100000 in
set_option maxHeartbeats 2000000 in
theorem log_next (h : IsLg F w gl gd l) : Calls Tryz.prog 8 #[ptr gl] w fun e w' => e = .returned (.int .u64 l.next) ∧ w' = w := by
  obtain ⟨h1, bv, sv, h3, h4, h5, h6⟩ := h
  obtain ⟨c0, c1, c2, c3, c4, c5, c6, c7, c8, c9⟩ := h3.lg
  clear c0 c1 c2 c3 c4 c5 c6 c8 c9 h3 h4 h5 h6 h1
  go_enter Tryz.func8, Tryz.ntmps8
  go_wp2_with fail
  go_ret
  exact ⟨rfl, rfl⟩
set_option maxRecDepth 100000 in
set_option maxHeartbeats 2000000 in
theorem log_forced (h : IsLg F w gl gd l) : Calls Tryz.prog 22 #[ptr gl] w fun e w' => e = .returned (.int .u64 l.forced) ∧ w' = w := by
  obtain ⟨h1, bv, sv, h3, h4, h5, h6⟩ := h
  obtain ⟨c0, c1, c2, c3, c4, c5, c6, c7, c8, c9⟩ := h3.lg
  clear c0 c1 c2 c3 c4 c5 c6 c7 c9 h3 h4 h5 h6 h1
  go_enter Tryz.func22, Tryz.ntmps22
  go_wp2_with fail
  go_ret
  exact ⟨rfl, rfl⟩
set_option maxRecDepth 100000 in
set_option maxHeartbeats 2000000 in
theorem log_made {g : Nat} (c0 : w.cell? ⟨gl, 0, none⟩ = some (ptr g)) : Calls Tryz.prog 88 #[ptr gl] w fun e w' => e = .returned (.bool true) ∧ w' = w := by
  go_enter Tryz.func88, Tryz.ntmps88
  go_wp2_with fail
  go_ret
  exact ⟨rfl, rfl⟩
end

theorem bg_cast (n : Nat) : (n : Int) - (n : Int) % 110 = (Sp.bg n : Nat) := by unfold Sp.bg; omega
theorem log_begin (n : Nat) (hn : n < 18446744073709551616) (w : World) : Calls Tryz.prog 68 #[.int .u64 n] w fun e w' => e = .returned (.int .u64 (Sp.bg n)) ∧ w' = w := by
  have hb := Sp.bg_le n
  have hw : IntKind.u64.wrap ((n : Int) - (n : Int) % 110) = (Sp.bg n : Nat) := by rw [bg_cast, IntKind.wrap_u64]; omega
  go_enter Tryz.func68, Tryz.ntmps68
  go_wp2_with fail
  go_ret
  exact ⟨rfl, rfl⟩

set_option maxRecDepth 100000 in
set_option maxHeartbeats 2000000 in
theorem frame_size (n : Nat) (w : World) (hn : n < 1000000000) : Calls Tryz.prog 71 #[.int .i64 n] w fun e w' => e = .returned (.int .i64 (if 1 ≤ n ∧ n ≤ 4096 then 14 + n else 0 : Nat)) ∧ w' = w := by
  by_cases h1 : 1 ≤ n
  · have d1 : decide ((n : Int) < 1) = false := by rw [decide_eq_false_iff_not]; omega
    by_cases h2 : n ≤ 4096
    · have d2 : decide ((4096 : Int) < n) = false := by rw [decide_eq_false_iff_not]; omega
      rw [if_pos ⟨h1, h2⟩]
      go_enter Tryz.func71, Tryz.ntmps71
      go_wp2_with fail
      go_ret
      exact ⟨by go_num, rfl⟩
    · have d2 : decide ((4096 : Int) < n) = true := by rw [decide_eq_true_iff]; omega
      rw [if_neg (fun h => h2 h.2)]
      go_enter Tryz.func71, Tryz.ntmps71
      go_wp2_with fail
      go_ret
      exact ⟨rfl, rfl⟩
  · have d1 : decide ((n : Int) < 1) = true := by rw [decide_eq_true_iff]; omega
    rw [if_neg (fun h => h1 h.1)]
    go_enter Tryz.func71, Tryz.ntmps71
    go_wp2_with fail
    go_ret
    exact ⟨rfl, rfl⟩

set_option maxRecDepth 100000 in
set_option maxHeartbeats 2000000 in
theorem frame_sealed (h s : Sp.Bs) (w : World) (hl : h.length + s.length ≤ 1000000) : Calls Tryz.prog 176 #[str h, str s] w fun e w' => e = .returned (str (Sp.sumBytes (h ++ s))) ∧ Below w.heap.size w w' := by
  have HS := Lib.hid (sum_seal (h ++ s) w (by simp; omega))
  have hsl : (Sp.sealed (h ++ s)).length = h.length + s.length + 4 := by simp
  have hd : ((Sp.sealed (h ++ s)).drop (h.length + s.length)).take 4 = Sp.sumBytes (h ++ s) := by
    have e : h.length + s.length = (h ++ s).length := by simp
    rw [Sp.sealed, e, List.drop_left]
    exact List.take_of_length_le (by simp)
  go_enter Tryz.func176, Tryz.ntmps176
  go_wp2_with fail
  refine HS.out.mono ?_
  rintro e w1 ⟨rfl, hb⟩
  go_wp2_with fail
  go_ret
  refine ⟨?_, hb⟩
  show Ending.returned (Value.string (ByteArray.extract ⟨(Sp.sealed (h ++ s)).toArray⟩ _ _)) = _
  rw [str_extract, Nat.add_sub_cancel_left, hd]
end Go.Proofs.YtclpmkinjjhncaaGreat

/- append of a string's bytes to an owned row of bytes, with where the row lies afterwards. No program is named here. -/
namespace Go.Proofs.YtclpmkinjjhncaaGreat
open Go.RowKit

section
variable {P : Program} (w : World)
theorem run_append_str2 (base : Nat) (t u ty e : TypeId) (i : TypeInfo) (ht : P.underlying t = some (.slice e)) (hu : P.underlying u = some .string) (hi : P.info? e = some i) (hz : i.zero = some (.int .u8 0))
    (hsize : i.size = 1) (hby : i.bytes = 1) (v : Value) (n : Nat) (xs : List Value) (hown : w.ownsRow base e 1 v n xs) (s : ByteArray)
    (h63 : n + s.size ≤ maxLen) (hbytes : n + s.size ≤ 140737488355328) (hbase : base ≤ w.heap.size) :
    ∃ v' w', (Builtin.append_ #[t, u] ty #[v, .string s]).run P w = .ok v' w' ∧ w'.ownsRow base e 1 v' (n + s.size) (xs ++ Lib.strCells s) ∧ w.grownBy w' v.ownBlock ∧ (∀ k, v'.ownBlock = some k → v.ownBlock = some k ∨ w.heap.size ≤ k) := by
  obtain ⟨v', w', hr, h2, h3, _⟩ := Lib.run_append_own_string (P := P) w base t u ty e i ht hu hi hz hsize hby v n xs hown s h63 hbytes hbase
  refine ⟨v', w', hr, h2, h3, fun k hk => ?_⟩
  rcases hown.2 with ⟨rfl, rfl⟩ | ⟨g, cap, cur, rfl, hbg, hg, hnc, hcm, hcs, htake⟩
  · have hx : xs = [] := List.eq_nil_of_length_eq_zero (by simpa using hown.1)
    subst hx
    obtain ⟨v2, w2, hr2, h22, _, _⟩ := Lib.run_append_own_string (P := P) w w.heap.size t u ty e i ht hu hi hz hsize hby _ 0 [] (World.ownsRow_nil w w.heap.size e 1) s h63 hbytes (Nat.le_refl _)
    rw [hr] at hr2
    injection hr2 with hv hw
    subst hv hw
    exact .inr (h22.lt k hk).1
  · by_cases hroom : n + s.size ≤ cap
    · have hr2 := Lib.run_append_room_string (P := P) w t u ty e i ht hu hi hsize g n cap cur hg s hroom (by rw [hcs]; omega)
      rw [hr] at hr2
      injection hr2 with hv _
      subst hv
      exact .inl hk
    · have holds : ∀ j u, xs[j]? = some u → w.cell? ((⟨g, 0, none⟩ : Addr).add j) = some u := hown.cells (g := g) rfl
      have hr2 := Lib.run_append_grow_string (P := P) w t u ty e i _ ht hu hi hz ⟨g, 0, none⟩ n cap xs (by rw [hsize]; exact hown.1) holds s (by omega) (by simp only [maxLen] at h63; omega) (growslice_fits (by omega) (by rw [hby]; omega))
      rw [hr] at hr2
      injection hr2 with hv _
      subst hv
      refine .inr ?_
      simp only [Value.ownBlock, Option.some.injEq] at hk
      omega
theorem wpList_append_str2 {ops : Array Oper} {rest : List Oper} {o : Oper} {a : Act} {Q : Exit → Act → World → Prop} (hgd : o.guard = none) (sl x : Operand) (t u : TypeId)
    (ho : o.op = .call { callee := .builtin .append, args := #[sl, x], argTypes := #[t, u] })
    (base : Nat) (e : TypeId) (i : TypeInfo) (ht : P.underlying t = some (.slice e)) (hu : P.underlying u = some .string) (hi : P.info? e = some i) (hz : i.zero = some (.int .u8 0))
    (hsize : i.size = 1) (hby : i.bytes = 1) (v : Value) (n : Nat) (xs : List Value) (hs : a.eval sl = v) (hown : w.ownsRow base e 1 v n xs) (s : ByteArray) (hx : a.eval x = .string s)
    (h63 : n + s.size ≤ maxLen) (hbytes : n + s.size ≤ 140737488355328) (hbase : base ≤ w.heap.size)
    (h : ∀ v' w', w'.ownsRow base e 1 v' (n + s.size) (xs ++ Lib.strCells s) → w.grownBy w' v.ownBlock → (∀ k, v'.ownBlock = some k → v.ownBlock = some k ∨ w.heap.size ≤ k) → wpList P ops Q rest (a.put o.dst v') w') : wpList P ops Q (o :: rest) a w := by
  refine wpList_plain hgd fun K hK => ?_
  obtain ⟨v', w', hr, h2, h3, h4⟩ := run_append_str2 (P := P) w base t u o.type e i ht hu hi hz hsize hby v n xs hown s h63 hbytes hbase
  unfold Oper.wp execOp
  simp only [ho, resolve, invoke, builtin, Sem.run_bind, Sem.run_pure, Result.andThen_ok, List.map_toArray, List.map_cons, List.map_nil, hs, hx, hr]
  exact hK _ _ (h v' w' h2 h3 h4)
end
end Go.Proofs.YtclpmkinjjhncaaGreat

/- Taking an operation first, in one word: the sides are proved by themselves. No program is named here. -/
namespace Go.Proofs.YtclpmkinjjhncaaGreat
open Go.RowKit

section
variable {P : Program} {ops : Array Oper} {Q : Exit → Act → World → Prop} {md : Region.Mode} {S : World → Prop} {X : Nat → Bool}
theorem R_tk (i : Nat) (t : Tmp) {v : Value} {oi : Oper} {fuel : Nat} {listed : Array Bool} {a : Act} {w : World} (hS : S w)
    (h : wpAnyL P md ops Q S X fuel (listed.setIfInBounds i true) { tmps := a.tmps.setIfInBounds t v, defers := a.defers } w)
    (hi : ops[i]? = some oi := by rfl) (hd : oi.dst = some t := by rfl)
    (hw : Region.wanted oi (yielded ops a.tmps) = true := by rfl)
    (hb : (Region.noSelect ops && Region.free md ops listed i && (Region.ready md ops listed).contains i && allWait md ops X i) = true := by kernel_rfl)
    (hQ : ∀ c a w, Q (.panic c) (a.put (some t) v) w → Q (.panic c) a w := by exact fun _ _ _ h => h)
    (hy : ∀ w, S w → (execOp a.eval oi).run P w = .ok (.value v) w := by intro w hSw; (try dsimp only at hSw); (try simp only [List.setIfInBounds_toArray, List.set_cons_zero, List.set_cons_succ]); go_simp; (try with_reducible rfl)) :
    wpAnyL P md ops Q S X (fuel + 1) listed a w := R_take i t hi hd hw hb hQ hS hy h
end
/-- The operations not yet listed that wait for i, directly or through others. -/
def waitT (md : Region.Mode) (ops : Array Oper) (listed : Array Bool) (i : Nat) : List Nat :=
  (List.range ops.size).foldl (fun T j => if (!(listed.getD j true) && (match ops[j]? with | some o => o.after.any fun e => Region.binds md e && (e.on == i || T.contains e.on) | none => false)) = true then j :: T else T) []
def allWaitT (md : Region.Mode) (ops : Array Oper) (listed : Array Bool) (X : Nat → Bool) (i : Nat) : Bool :=
  !X i && ((List.range ops.size).all fun j => !X j || listed.getD j false || (waitT md ops listed i).contains j) &&
    (waitT md ops listed i).all fun j => !(listed.getD j true) && (match ops[j]? with | some o => o.after.any fun e => Region.binds md e && (e.on == i || (waitT md ops listed i).contains e.on) | none => false)
theorem allWaitT_spec {ops : Array Oper} {md : Region.Mode} {X : Nat → Bool} {listed : Array Bool} {i : Nat} (h : allWaitT md ops listed X i = true) :
    X i = false ∧ (∀ j oj, ops[j]? = some oj → X j = true → listed.getD j false = true ∨ j ∈ waitT md ops listed i) ∧
      ∀ j ∈ waitT md ops listed i, listed.getD j true = false ∧ ∃ oj, ops[j]? = some oj ∧ ∃ e ∈ oj.after, Region.binds md e = true ∧ (e.on = i ∨ e.on ∈ waitT md ops listed i) := by
  unfold allWaitT at h
  rw [Bool.and_eq_true, Bool.and_eq_true, List.all_eq_true, List.all_eq_true] at h
  obtain ⟨⟨h1, h2⟩, h3⟩ := h
  refine ⟨by simpa using h1, fun j oj hj hx => ?_, fun j hj => ?_⟩
  · have hlt : j < ops.size := (Array.getElem?_eq_some_iff.1 hj).1
    have := h2 j (List.mem_range.2 hlt)
    rw [hx, Bool.not_true, Bool.false_or, Bool.or_eq_true] at this
    exact this.imp id (fun h => by simpa using h)
  · have h4 := h3 j hj
    rw [Bool.and_eq_true] at h4
    refine ⟨by simpa using h4.1, ?_⟩
    cases ho : ops[j]? with
    | none => rw [ho] at h4; exact absurd h4.2 (by simp)
    | some o =>
      rw [ho] at h4
      refine ⟨o, rfl, ?_⟩
      obtain ⟨e, he, hb⟩ := Array.any_eq_true'.1 h4.2
      rw [Bool.and_eq_true, Bool.or_eq_true] at hb
      refine ⟨e, he, hb.1, ?_⟩
      rcases hb.2 with h5 | h5
      · exact .inl (by simpa using h5)
      · exact .inr (by simpa using h5)

section
variable {P : Program} {ops : Array Oper} {Q : Exit → Act → World → Prop} {md : Region.Mode} {S : World → Prop} {X : Nat → Bool}
theorem wpAnyL_firstT {T : List Nat} {i : Nat} {oi : Oper} {v : Value} (hi : ops[i]? = some oi) (hsel : ∀ (j : Nat) (o : Oper) cs b, ops[j]? = some o → o.op ≠ .select cs b)
    (hQ : ∀ c a w, Q (.panic c) (a.put oi.dst v) w → Q (.panic c) a w) (hXi : X i = false)
    :
    ∀ (fuel : Nat) (listed : Array Bool) (a : Act) (w : World),
      (∀ j oj, ops[j]? = some oj → X j = true → listed.getD j false = true ∨ j ∈ T) →
      (∀ j ∈ T, listed.getD j true = false ∧ ∃ oj, ops[j]? = some oj ∧ ∃ e ∈ oj.after, Region.binds md e = true ∧ (e.on = i ∨ e.on ∈ T)) →
      (∀ j oj, ops[j]? = some oj → j ≠ i → listed.getD j true = false → (∀ e ∈ oj.after, Region.binds md e = true → e.on ≠ i) → oi.apart ops oj = true) →
      i ∈ Region.ready md ops listed → YieldsIf P ops S oi v a → S w →
      wpAnyL P md ops Q S X fuel (listed.setIfInBounds i true) (a.put oi.dst v) w → wpAnyL P md ops Q S X (fuel + 1) listed a w := by
  intro fuel
  induction fuel with
  | zero =>
    intro listed a w _ _ _ hr hy hS H
    refine ⟨fun h => (by rw [h] at hr; cases hr), fun j hj => ?_⟩
    by_cases hji : j = i
    · subst hji; exact hy.wpOp hi hS ⟨fun _ => hS, H⟩
    · have := ready_mono hj hji
      rw [H.1] at this
      cases this
  | succ fuel ih =>
    intro listed a w hX hT hfree hr hy hS H
    have hun : ∀ k, listed.getD k true = false → listed.getD k false = true → False := fun k h0 h1 => by
      rcases Nat.lt_or_ge k listed.size with h' | h'
      · simp [h'] at h0 h1; rw [h0] at h1; cases h1
      · simp [Array.getElem?_eq_none h'] at h1
    refine ⟨fun h => (by rw [h] at hr; cases hr), fun j hj => ?_⟩
    by_cases hji : j = i
    · subst hji; exact hy.wpOp hi hS ⟨fun _ => hS, H⟩
    · have h1 := H.2 j (ready_mono hj hji)
      obtain ⟨hjun, oj, hoj, hall⟩ := mem_ready.1 hj
      have hnot : ∀ e ∈ oj.after, Region.binds md e = true → e.on ≠ i := fun e he hb heq => by
        have h1 := hall e he hb
        rw [heq] at h1
        exact hun i (mem_ready.1 hr).1 h1
      have hnT : j ∉ T := fun hjT => by
        obtain ⟨_, oj', hoj', e, he, hb, hon⟩ := hT j hjT
        rw [hoj] at hoj'
        injection hoj' with hoj'
        subst hoj'
        have h1 := hall e he hb
        rcases hon with hon | hon
        · exact hnot e he hb hon
        · exact hun _ (hT _ hon).1 h1
      have hXj : X j = false := by
        cases hx : X j with
        | false => rfl
        | true =>
          rcases hX j oj hoj hx with h | h
          · exact (hun j hjun h).elim
          · exact absurd h hnT
      have h2 := wpOp_putIf hoj (hfree j oj hoj hji hjun hnot) (fun cs b => hsel i oi cs b hi) (fun cs b => hsel j oj cs b hoj) hQ hy h1
      have hfree' : ∀ k ok, ops[k]? = some ok → k ≠ i → (listed.setIfInBounds j true).getD k true = false →
          (∀ e ∈ ok.after, Region.binds md e = true → e.on ≠ i) → oi.apart ops ok = true := fun k ok hk hki hun hno => by
        refine hfree k ok hk hki ?_ hno
        by_cases hjk : j = k
        · subst hjk; exact hjun
        · rw [getD_set_ne true hjk] at hun; exact hun
      have hT' : ∀ k ∈ T, (listed.setIfInBounds j true).getD k true = false ∧ ∃ oj, ops[k]? = some oj ∧ ∃ e ∈ oj.after, Region.binds md e = true ∧ (e.on = i ∨ e.on ∈ T) := fun k hk => by
        refine ⟨?_, (hT k hk).2⟩
        rw [getD_set_ne true (fun e => hnT (by rw [e]; exact hk))]
        exact (hT k hk).1
      have hX' : ∀ k ok, ops[k]? = some ok → X k = true → (listed.setIfInBounds j true).getD k false = true ∨ k ∈ T := fun k ok hk hx => by
        by_cases hjk : j = k
        · subst hjk; rw [hXj] at hx; cases hx
        · rw [getD_set_ne false hjk]; exact hX k ok hk hx
      refine wpOp_mono (fun a' w' h3 => ⟨h3.2.1, ih (listed.setIfInBounds j true) a' w' hX' hT' hfree' (ready_mono hr (Ne.symm hji)) h3.1 (h3.2.1 hXj) ?_⟩) h2
      rw [Array.setIfInBounds_comm _ _ hji]
      exact h3.2.2

/-- As R_tk, where the operations of X wait for it through others. -/
theorem R_tt (i : Nat) (t : Tmp) {v : Value} {oi : Oper} {fuel : Nat} {listed : Array Bool} {a : Act} {w : World} (hS : S w)
    (h : wpAnyL P md ops Q S X fuel (listed.setIfInBounds i true) { tmps := a.tmps.setIfInBounds t v, defers := a.defers } w)
    (hi : ops[i]? = some oi := by rfl) (hd : oi.dst = some t := by rfl)
    (hw : Region.wanted oi (yielded ops a.tmps) = true := by rfl)
    (hb : (Region.noSelect ops && Region.free md ops listed i && (Region.ready md ops listed).contains i && allWaitT md ops listed X i) = true := by kernel_rfl)
    (hQ : ∀ c a w, Q (.panic c) (a.put (some t) v) w → Q (.panic c) a w := by exact fun _ _ _ h => h)
    (hy : ∀ w, S w → (execOp a.eval oi).run P w = .ok (.value v) w := by intro w hSw; (try dsimp only at hSw); (try simp only [List.setIfInBounds_toArray, List.set_cons_zero, List.set_cons_succ]); go_simp; (try with_reducible rfl)) :
    wpAnyL P md ops Q S X (fuel + 1) listed a w := by
  simp only [Bool.and_eq_true] at hb
  obtain ⟨⟨⟨hs, hf⟩, hr⟩, hx⟩ := hb
  obtain ⟨h1, h2, h3⟩ := allWaitT_spec hx
  exact wpAnyL_firstT hi (Region.noSelect_spec hs) (by rw [hd]; exact hQ) h1 fuel listed a w h2 h3 (Region.free_spec hi hf) (by simpa using hr) (.inl ⟨hw, hy⟩) hS (by rw [hd]; exact h)

/-- An operation that hangs on no world is taken first, whatever else is under way; it is of X. -/
theorem wpAnyL_pure {i : Nat} {oi : Oper} {v : Value} (hi : ops[i]? = some oi) (hsel : ∀ (j : Nat) (o : Oper) cs b, ops[j]? = some o → o.op ≠ .select cs b)
    (hQ : ∀ c a w, Q (.panic c) (a.put oi.dst v) w → Q (.panic c) a w) (hXi : X i = true) :
    ∀ (fuel : Nat) (listed : Array Bool) (a : Act) (w : World),
      (∀ j oj, ops[j]? = some oj → j ≠ i → listed.getD j true = false → (∀ e ∈ oj.after, Region.binds md e = true → e.on ≠ i) → oi.apart ops oj = true) →
      i ∈ Region.ready md ops listed → YieldsIf P ops (fun _ => True) oi v a →
      wpAnyL P md ops Q S X fuel (listed.setIfInBounds i true) (a.put oi.dst v) w → wpAnyL P md ops Q S X (fuel + 1) listed a w := by
  intro fuel
  induction fuel with
  | zero =>
    intro listed a w _ hr hy H
    refine ⟨fun h => (by rw [h] at hr; cases hr), fun j hj => ?_⟩
    by_cases hji : j = i
    · subst hji; exact hy.wpOp hi trivial ⟨fun h => absurd h (by rw [hXi]; decide), H⟩
    · have := ready_mono hj hji
      rw [H.1] at this
      cases this
  | succ fuel ih =>
    intro listed a w hfree hr hy H
    have hun : ∀ k, listed.getD k true = false → listed.getD k false = true → False := fun k h0 h1 => by
      rcases Nat.lt_or_ge k listed.size with h' | h'
      · simp [h'] at h0 h1; rw [h0] at h1; cases h1
      · simp [Array.getElem?_eq_none h'] at h1
    refine ⟨fun h => (by rw [h] at hr; cases hr), fun j hj => ?_⟩
    by_cases hji : j = i
    · subst hji; exact hy.wpOp hi trivial ⟨fun h => absurd h (by rw [hXi]; decide), H⟩
    · have h1 := H.2 j (ready_mono hj hji)
      obtain ⟨hjun, oj, hoj, hall⟩ := mem_ready.1 hj
      have hnot : ∀ e ∈ oj.after, Region.binds md e = true → e.on ≠ i := fun e he hb heq => by
        have h1 := hall e he hb
        rw [heq] at h1
        exact hun i (mem_ready.1 hr).1 h1
      have h2 := wpOp_putIf hoj (hfree j oj hoj hji hjun hnot) (fun cs b => hsel i oi cs b hi) (fun cs b => hsel j oj cs b hoj) hQ hy h1
      have hfree' : ∀ k ok, ops[k]? = some ok → k ≠ i → (listed.setIfInBounds j true).getD k true = false →
          (∀ e ∈ ok.after, Region.binds md e = true → e.on ≠ i) → oi.apart ops ok = true := fun k ok hk hki hun hno => by
        refine hfree k ok hk hki ?_ hno
        by_cases hjk : j = k
        · subst hjk; exact hjun
        · rw [getD_set_ne true hjk] at hun; exact hun
      refine wpOp_mono (fun a' w' h3 => ⟨h3.2.1, ih (listed.setIfInBounds j true) a' w' hfree' (ready_mono hr (Ne.symm hji)) h3.1 ?_⟩) h2
      rw [Array.setIfInBounds_comm _ _ hji]
      exact h3.2.2
theorem R_pp (i : Nat) (t : Tmp) {v : Value} {oi : Oper} {fuel : Nat} {listed : Array Bool} {a : Act} {w : World}
    (h : wpAnyL P md ops Q S X fuel (listed.setIfInBounds i true) { tmps := a.tmps.setIfInBounds t v, defers := a.defers } w)
    (hi : ops[i]? = some oi := by rfl) (hd : oi.dst = some t := by rfl)
    (hw : Region.wanted oi (yielded ops a.tmps) = true := by rfl)
    (hb : (Region.noSelect ops && Region.free md ops listed i && (Region.ready md ops listed).contains i && X i) = true := by kernel_rfl)
    (hQ : ∀ c a w, Q (.panic c) (a.put (some t) v) w → Q (.panic c) a w := by exact fun _ _ _ h => h)
    (hy : ∀ w, True → (execOp a.eval oi).run P w = .ok (.value v) w := by intro w _; (try simp only [List.setIfInBounds_toArray, List.set_cons_zero, List.set_cons_succ]); go_simp; (try with_reducible rfl)) :
    wpAnyL P md ops Q S X (fuel + 1) listed a w := by
  simp only [Bool.and_eq_true] at hb
  obtain ⟨⟨⟨hs, hf⟩, hr⟩, hx⟩ := hb
  exact wpAnyL_pure hi (Region.noSelect_spec hs) (by rw [hd]; exact hQ) hx fuel listed a w (Region.free_spec hi hf) (by simpa using hr) (.inl ⟨hw, hy⟩) (by rw [hd]; exact h)
end
end Go.Proofs.YtclpmkinjjhncaaGreat

/- The walks of package log: Room, Append; frame.Encode. -/
namespace Go.Proofs.YtclpmkinjjhncaaGreat
open Go.RowKit

set_option maxRecDepth 100000 in
set_option maxHeartbeats 2000000 in
theorem frame_encode (lsn : Nat) (s : Sp.Bs) (w : World) (h1 : 1 ≤ s.length) (h2 : s.length ≤ 4096) (hl1 : 1 ≤ lsn) (hl : lsn < 18446744073709551616) :
    Calls Tryz.prog 109 #[.int .u64 lsn, str s] w fun e w' => e = .returned (.tuple #[str (Sp.frame lsn s), .int .i64 0]) ∧ Below w.heap.size w w' := by
  have HZ := Lib.hid fun (W : World) => frame_size s.length W (by omega)
  rw [if_pos ⟨h1, h2⟩] at HZ
  have d0 : (((14 + s.length : Nat) : Int) == 0) = false := by simp; omega
  have d1 : ((lsn : Int) == 0) = false := by simp; omega
  have hcv : IntKind.u64.wrap (s.length : Int) = (s.length : Nat) := by rw [IntKind.wrap_u64]; omega
  have HN := Lib.hid fun (W : World) => word_put s.length 2 W (by omega) (by omega) (by omega) (by omega)
  have HA := Lib.hid fun (W : World) => word_put lsn 8 W (by omega) (by omega) (by omega) hl
  have HS := Lib.hid fun (W : World) => frame_sealed (Sp.be 2 s.length ++ Sp.be 8 lsn) s W (by simp; omega)
  have hfr : Hid (Sp.be 2 s.length ++ Sp.be 8 lsn ++ Sp.sumBytes (Sp.be 2 s.length ++ Sp.be 8 lsn ++ s) ++ s = Sp.frame lsn s) := rfl
  have hsm : (Sp.sumBytes (Sp.be 2 s.length ++ Sp.be 8 lsn ++ s)).length = 4 := rfl
  have hbn : (Sp.be 2 s.length).length = 2 := Sp.be_length _ _
  have hba : (Sp.be 8 lsn).length = 8 := Sp.be_length _ _
  generalize Sp.sumBytes (Sp.be 2 s.length ++ Sp.be 8 lsn ++ s) = sm at *
  generalize Sp.be 2 s.length = bn at *
  generalize Sp.be 8 lsn = ba at *
  go_enter Tryz.func109, Tryz.ntmps109
  go_wp2_with fail
  refine (HZ.out _).mono ?_
  rintro e w1 ⟨rfl, hw⟩
  subst w1
  go_wp2_with fail
  refine (HN.out _).mono ?_
  rintro e w1 ⟨rfl, hb1⟩
  go_wp2_with fail
  refine (HA.out _).mono ?_
  rintro e w2 ⟨rfl, hb2⟩
  go_wp2_with fail
  refine (HS.out _).mono ?_
  rintro e w3 ⟨rfl, hb3⟩
  go_wp2_with fail
  go_ret2
  have hb := (hb1.trans (hb2.mono hb1.size)).trans (hb3.mono (Nat.le_trans hb1.size hb2.size))
  exact ⟨by rw [← hfr.out]; simp [str_append], hb⟩

set_option maxRecDepth 100000 in
set_option maxHeartbeats 2000000 in
theorem frame_encode_bad (lsn : Nat) (s : Sp.Bs) (w : World) (h : s.length = 0 ∨ 4096 < s.length) (hl9 : s.length < 1000000000) :
    Calls Tryz.prog 109 #[.int .u64 lsn, str s] w fun e w' => e = .returned (.tuple #[str [], .int .i64 2]) ∧ w' = w := by
  have HZ := Lib.hid fun (W : World) => frame_size s.length W hl9
  rw [if_neg (by omega)] at HZ
  go_enter Tryz.func109, Tryz.ntmps109
  go_wp2_with fail
  refine (HZ.out _).mono ?_
  rintro e w1 ⟨rfl, hw⟩
  subst w1
  go_wp2_with fail
  go_ret2
  exact ⟨rfl, rfl⟩

section
variable {F : Foot} {w : World} {gl gd : Nat} {l : Sp.Lg}
set_option maxRecDepth 100000 in
set_option maxHeartbeats 2000000 in
theorem log_room (h : IsLg F w gl gd l) (hn : l.next < 4611686018427387904) (hr : l.reserved < 1000000000) :
    Calls Tryz.prog 110 #[ptr gl] w fun e w' => e = .returned (.int .i64 l.left) ∧ Below w.heap.size w w' := by
  obtain ⟨h1, bv, sv, h3, h4, h5, h6⟩ := h
  obtain ⟨c0, c1, c2, c3, c4, c5, c6, c7, c8, c9⟩ := h3.lg
  have HM := Lib.hid (log_made (w := w) c0)
  have hff := h1.ff
  have hfn := h1.fn
  have hlen := h1.len
  have hbl := Sp.bg_le l.first
  have hn4 := h1.n4k
  have hroom := h1.room
  have HB := Lib.hid fun (W : World) => log_begin l.first (by omega) W
  have e1 : (l.next : Int) - (Sp.bg l.first : Nat) = (l.bytes.length : Nat) := by omega
  have hw1 : IntKind.u64.wrap ((l.next : Int) - (Sp.bg l.first : Nat)) = (l.bytes.length : Nat) := by rw [e1, IntKind.wrap_u64]; omega
  have hw1' : IntKind.u64.wrap ((l.bytes.length : Nat) : Int) = (l.bytes.length : Nat) := by rw [IntKind.wrap_u64]; omega
  have hw2 : IntKind.i64.wrap (l.bytes.length : Nat) = (l.bytes.length : Nat) := IntWalk.i64_in _ (by omega)
  have hw3 : IntKind.i64.wrap ((l.n : Int) * 110) = (l.n : Int) * 110 := IntWalk.i64_in _ (by omega)
  have hw4 : IntKind.i64.wrap ((l.n : Int) * 110 - (l.bytes.length : Nat)) = (l.n : Int) * 110 - (l.bytes.length : Nat) := IntWalk.i64_in _ (by omega)
  have hw5 : IntKind.i64.wrap ((l.n : Int) * 110 - (l.bytes.length : Nat) - (l.reserved : Nat)) = (l.n : Int) * 110 - (l.bytes.length : Nat) - (l.reserved : Nat) := IntWalk.i64_in _ (by omega)
  clear c0 c1 c3 c4 c5 c8
  go_enter Tryz.func110, Tryz.ntmps110
  go_wp2_with fail
  refine HM.out.mono ?_
  rintro e w1 ⟨rfl, hw⟩
  subst w1
  go_wp2_with fail
  have hS := Lib.hid (show w.drew.cell? ⟨gl, 2, none⟩ = some (.int .i64 l.n) ∧ w.drew.cell? ⟨gl, 6, none⟩ = some (.int .u64 l.first) ∧ w.drew.cell? ⟨gl, 7, none⟩ = some (.int .u64 l.next) ∧ w.drew.cell? ⟨gl, 9, none⟩ = some (.int .i64 l.reserved) from ⟨c2, c6, c7, c9⟩)
  refine R_begin (fun W => W.cell? ⟨gl, 2, none⟩ = some (.int .i64 l.n) ∧ W.cell? ⟨gl, 6, none⟩ = some (.int .u64 l.first) ∧ W.cell? ⟨gl, 7, none⟩ = some (.int .u64 l.next) ∧ W.cell? ⟨gl, 9, none⟩ = some (.int .i64 l.reserved)) (fun _ => false) rfl ?_
  refine R_tk 0 6 hS.out ?_
  refine R_tk 1 7 hS.out ?_
  refine R_tk 2 8 hS.out ?_
  refine R_tk 3 9 hS.out ?_
  refine R_tk 4 10 hS.out ?_
  simp only [List.setIfInBounds_toArray, List.set_cons_zero, List.set_cons_succ]
  refine R_tk 5 11 hS.out ?_
  refine R_tk 6 12 hS.out ?_
  refine R_tk 7 13 hS.out ?_
  refine R_tk 8 14 hS.out ?_
  simp only [List.setIfInBounds_toArray, List.set_cons_zero, List.set_cons_succ]
  refine R_tk 9 15 hS.out ?_
  refine R_tk 10 16 hS.out ?_
  refine R_tk 11 17 hS.out ?_
  refine R_tk 12 18 hS.out ?_
  simp only [List.setIfInBounds_toArray, List.set_cons_zero, List.set_cons_succ]
  refine R_tk 17 23 hS.out ?_
  refine R_tk 18 24 hS.out ?_
  refine R_tk 19 25 hS.out ?_
  refine R_tk 20 26 hS.out ?_
  simp only [List.setIfInBounds_toArray, List.set_cons_zero, List.set_cons_succ]
  refine R_call 13 19 (w' := w.drew) rfl rfl (by rfl) (by kernel_rfl) ?_ (HB.out _) ?_
  · go_simp
  rintro e w2 ⟨rfl, hw⟩
  subst w2
  refine ⟨_, rfl, fun _ => hS.out, ?_⟩
  simp only [List.setIfInBounds_toArray, List.set_cons_zero, List.set_cons_succ]
  refine R_tk 14 20 hS.out ?_
  simp only [List.setIfInBounds_toArray, List.set_cons_zero, List.set_cons_succ]
  refine R_tk 15 21 hS.out ?_
  simp only [List.setIfInBounds_toArray, List.set_cons_zero, List.set_cons_succ]
  refine R_tk 16 22 hS.out ?_
  simp only [List.setIfInBounds_toArray, List.set_cons_zero, List.set_cons_succ]
  refine R_tk 21 27 hS.out ?_
  simp only [List.setIfInBounds_toArray, List.set_cons_zero, List.set_cons_succ]
  refine R_tk 22 28 hS.out ?_
  simp only [List.setIfInBounds_toArray, List.set_cons_zero, List.set_cons_succ]
  refine R_tk 23 2 hS.out ?_
  simp only [List.setIfInBounds_toArray, List.set_cons_zero, List.set_cons_succ]
  refine R_done (by kernel_rfl) ?_ _
  have hmx : max 0 ((l.n : Int) * 110 - (l.bytes.length : Nat) - (l.reserved : Nat)) = (l.left : Nat) := by unfold Sp.Lg.left; omega
  rw [hmx]
  rename_i K9 hK9
  refine hK9 _ _ ?_
  clear hK9 hS
  go_wp2_with fail
  go_ret
  exact ⟨rfl, (Below.refl w.heap.size w).drew⟩

theorem byte_info : (Tryz.prog.info? 5).map (fun i => (i.zero, i.size, i.bytes)) = some (some (.int .u8 0), 1, 1) := by kernel_rfl
theorem u64_info : (Tryz.prog.info? 29).map (fun i => (i.zero, i.size, i.bytes)) = some (some (.int .u64 0), 1, 8) := by kernel_rfl
theorem run_op_append {P : Program} {o : Oper} {a : Act} {w w' : World} {v u v' : Value} (sl x : Operand) (ts : Array TypeId) (ho : o.op = .call { callee := .builtin .append, args := #[sl, x], argTypes := ts }) (hs : a.eval sl = v) (hx : a.eval x = u)
    (hr : (Builtin.append_ ts o.type #[v, u]).run P w = .ok v' w') : (execOp a.eval o).run P w = .ok (.value v') w' := by
  unfold execOp
  simp only [ho, resolve, invoke, builtin, Sem.run_bind, Sem.run_pure, Result.andThen_ok, List.map_toArray, List.map_cons, List.map_nil, hs, hx, hr]

theorem own_heap {w : World} {e : TypeId} {k n : Nat} {v : Value} {xs : List Value} {b : Nat} (h : w.ownsRow b e k v n xs) {g : Nat} (hg : v.ownBlock = some g) : ∃ cur, Blk w g e cur := by
  rcases h.2 with ⟨rfl, _⟩ | ⟨g', cap, cur, rfl, _, hh, _⟩
  · simp [Value.ownBlock] at hg
  · simp only [Value.ownBlock, Option.some.injEq] at hg
    subst hg
    exact ⟨cur, hh⟩

theorem lsns_one (l : List Nat) (n : Nat) : lsns (l ++ [n]) = lsns l ++ [.int .u64 (n : Int)] := by simp [lsns]

/-- What holds behind the append of a frame's bytes and the making of the row that has its LSN. -/
structure AppMid (w1 W : World) (bv v7 : Value) (g8 n lsn : Nat) (bs : Sp.Bs) (f : Sp.Bs) : Prop where
  row : W.ownsRow 0 5 1 v7 n (bcs (bs ++ f))
  sub : ∀ k, v7.ownBlock = some k → bv.ownBlock = some k ∨ w1.heap.size ≤ k
  one : Blk W g8 29 #[.int .u64 lsn]
  fresh : w1.heap.size ≤ g8
  turns : Turns (fun b => bv.ownBlock = some b) (fun b => bv.ownBlock = some b) w1 W

def AppPost (G : Foot) (w : World) (gl gd : Nat) (l : Sp.Lg) (s : Sp.Bs) (e : Ending) (w' : World) : Prop :=
  ∃ G', e = .returned (.tuple #[.int .u64 l.next, .int .i64 0]) ∧ IsLg G' w' gl gd (l.append s) ∧ Turns G G' w w'

set_option maxRecDepth 100000 in
set_option maxHeartbeats 4000000 in
theorem log_append (h : IsLg F w gl gd l) (hn : l.next < 4611686018427387904) (hr : l.reserved < 1000000000) (s : Sp.Bs) (hs1 : 1 ≤ s.length) (hs2 : s.length ≤ 4096) (hfit : 14 + s.length ≤ l.left) :
    Calls Tryz.prog 43 #[ptr gl, str s] w (AppPost F w gl gd l s) := by
  have HR := Lib.hid fun (W : World) (h : IsLg F W gl gd l) => log_room h hn hr
  have hin := h.in_
  have HI := Lib.hid h
  obtain ⟨h1, bv, sv, h3, h4, h5, h6⟩ := h
  obtain ⟨c0, c1, c2, c3, c4, c5, c6, c7, c8, c9⟩ := h3.lg
  have HM := Lib.hid (log_made (w := w) c0)
  have hlen := h1.len
  have hlo := h1.lo
  have hff := h1.ff
  have hfn := h1.fn
  have hbl := Sp.bg_le l.first
  have hn4 := h1.n4k
  have hroom := h1.room
  have hwf2 := Lib.hid (Sp.Lg.append_wf h1 hfit)
  have hfew := h1.few
  have HE := Lib.hid fun (W : World) => frame_encode l.next s W hs1 hs2 (by omega) (by omega)
  have hfl := Sp.frame_length l.next s
  have hap : Hid (l.append s = { l with bytes := l.bytes ++ Sp.frame l.next s, starts := l.starts ++ [l.next], next := l.next + (14 + s.length) }) := rfl
  generalize Sp.frame l.next s = f at *
  have df : decide (l.left < f.length) = false := by rw [decide_eq_false_iff_not]; omega
  have hw1 : IntKind.u64.wrap ((l.next : Int) + (f.length : Nat)) = ((l.next + (14 + s.length) : Nat) : Int) := by rw [IntKind.wrap_u64]; omega
  have hw2 : IntKind.u64.wrap ((f.length : Nat) : Int) = (f.length : Nat) := by rw [IntKind.wrap_u64]; omega
  have hflm : f.length ≤ 4110 := by omega
  have hfl1 : 14 ≤ f.length := by omega
  have HFL := Lib.hid hfl
  clear hfl
  clear c1 c2 c3 c4 c5 c6 c8 c9 c0
  go_enter Tryz.func43, Tryz.ntmps43
  go_wp2_with fail
  refine HM.out.mono ?_
  rintro e w1 ⟨rfl, hw⟩
  subst w1
  go_wp2_with fail
  refine (HE.out _).mono ?_
  rintro e w1 ⟨rfl, hb1⟩
  go_wp2_with fail
  refine (HR.out _ (HI.out.below hb1)).mono ?_
  rintro e w2 ⟨rfl, hb2'⟩
  have hb2 : Below w.heap.size w w2 := hb1.trans (hb2'.mono hb1.size)
  have h32 := h3.below hb2 h3.lt
  have c7' := h32.lg.2.2.2.2.2.2.2.1
  clear c7 hb1 hb2' HE HR HM
  go_wp2_with fail
  have hin2 : ∀ b, F b → w2.heap[b]? = w.heap[b]? := fun b hb => hb2.block b (hin b hb)
  have h42 := own_keep h4 (w' := w2) (fun b hb => hin2 b ((h6 b).2 (.inr (.inl hb))))
  have h52 := own_keep h5 (w' := w2) (fun b hb => hin2 b ((h6 b).2 (.inr (.inr hb))))
  have hne4 : bv.ownBlock ≠ some gl := own_ne h42 h32 (by decide)
  have hne5 : sv.ownBlock ≠ some gl := own_ne h52 h32 (by decide)
  have hne45 : ∀ k, bv.ownBlock = some k → sv.ownBlock ≠ some k := fun k e1 e2 => by
    obtain ⟨cur, hc⟩ := own_heap h42 e1
    exact own_ne h52 hc (by decide) e2
  have hbl2 : ∀ b, bv.ownBlock = some b → b < w2.heap.size := fun b hb => (h42.lt b hb).2
  have hgl2 := h32.lt
  obtain ⟨ib, hib, hzb0, hzb1, hzb2⟩ := info_parts byte_info
  obtain ⟨iu, hiu, hzu0, hzu1, hzu2⟩ := info_parts u64_info
  go_upto_region 9 with fail
  go_cut [] (fun wx => ∃ v7 v9, Blk wx gl 105 (lgCells gd l.at_ l.n l.life v7 v9 l.first l.next l.forced l.reserved) ∧ wx.ownsRow 0 5 1 v7 (l.bytes.length + f.length) (bcs (l.bytes ++ f)) ∧
    wx.ownsRow 0 29 1 v9 (l.starts.length + 1) (lsns (l.starts ++ [l.next])) ∧ (∀ k, v7.ownBlock = some k → F k ∨ w.heap.size ≤ k) ∧ (∀ k, v9.ownBlock = some k → F k ∨ w.heap.size ≤ k) ∧ Turns F F w wx)
  case first =>
    have c4 := h32.lg.2.2.2.2.1
    have c5 := h32.lg.2.2.2.2.2.1
    go_wp2_with fail
    have hS : w2.drew.cell? ⟨gl, 4, none⟩ = some bv ∧ w2.drew.cell? ⟨gl, 5, none⟩ = some sv := ⟨c4, c5⟩
    refine R_begin (fun W => W.cell? ⟨gl, 4, none⟩ = some bv ∧ W.cell? ⟨gl, 5, none⟩ = some sv) (fun j => j == 1 || decide (17 ≤ j)) rfl ?_
    refine R_pp 1 36 ?_
    refine R_tt 0 35 hS ?_
    refine R_tt 2 37 hS ?_
    refine R_tt 3 38 hS ?_
    refine R_tt 4 39 hS ?_
    refine R_tt 5 40 hS ?_
    refine R_tt 6 41 hS ?_
    refine R_tt 8 43 hS ?_
    refine R_tt 9 44 hS ?_
    refine R_tt 10 45 hS ?_
    refine R_tt 11 46 hS ?_
    refine R_tt 12 47 hS ?_
    simp only [List.setIfInBounds_toArray, List.set_cons_zero, List.set_cons_succ]
    refine R_all (rs := [7, 13]) (by kernel_rfl) (by simp) (fun i hi => ?_)
    simp only [List.mem_cons, List.not_mem_nil, or_false] at hi
    have T0 : Turns (fun b => bv.ownBlock = some b) (fun b => bv.ownBlock = some b) w2 w2.drew := (Turns.refl _ _).drew
    rcases hi with rfl | rfl
    obtain ⟨v7, W, hr7, hO7, hg7, hk7⟩ := run_append_str2 (P := Tryz.prog) w2.drew 0 102 9 102 5 ib Tryz.underlying102 Tryz.underlying9 hib hzb0 hzb1 hzb2 bv _ _ h42 ⟨f.toArray⟩ (by show _ + f.toArray.size ≤ _; unfold maxLen; simp; omega) (by show _ + f.toArray.size ≤ _; simp; omega) (Nat.zero_le _)
    have T1 := T0.grown hg7 (fun k hk => .inl hk)
    refine op_run 42 rfl rfl (by rfl) (run_op_append _ _ _ rfl rfl rfl hr7) ⟨fun _ => ⟨((h32.turns T1 hne4).cell 4).trans rfl, ((h32.turns T1 hne4).cell 5).trans rfl⟩, ?_⟩
    simp only [List.setIfInBounds_toArray, List.set_cons_zero, List.set_cons_succ]
    refine R_run 13 48 (v := .slice (some ⟨W.heap.size, 0, none⟩) 1 1) (w' := W.alloc (.cells #[.int .u64 l.next] 29)) rfl rfl (by rfl) (by kernel_rfl) (by go_simp) ?_ ?_
    · have T2 := T1.alloc (.cells #[.int .u64 l.next] 29)
      exact fun _ => ⟨((h32.turns T2 hne4).cell 4).trans rfl, ((h32.turns T2 hne4).cell 5).trans rfl⟩
    simp only [List.setIfInBounds_toArray, List.set_cons_zero, List.set_cons_succ]
    have hm : AppMid w2 (W.alloc (.cells #[.int .u64 l.next] 29)) bv v7 W.heap.size (l.bytes.length + f.length) l.next l.bytes f :=
      ⟨by rw [bcs_append]; exact own_keep hO7 (fun b hb => Below.heap_alloc W _ b (hO7.lt b hb).2), hk7, Blk.new _ _ _, T1.size, T1.alloc _⟩
    obtain ⟨g8, hg8⟩ : ∃ g, g = W.heap.size := ⟨_, rfl⟩
    obtain ⟨W1, hW1⟩ : ∃ W1, W1 = W.alloc (.cells #[.int .u64 l.next] 29) := ⟨_, rfl⟩
    rw [← hW1, ← hg8] at hm ⊢
    clear hW1 hg8 hO7 hg7 hk7 T1 hr7
    rotate_left
    refine op_run 48 (v := .slice (some ⟨w2.drew.heap.size, 0, none⟩) 1 1) (w' := w2.drew.alloc (.cells #[.int .u64 l.next] 29)) rfl rfl (by rfl) (by go_simp) ⟨?_, ?_⟩
    · have T2 := T0.alloc (.cells #[.int .u64 l.next] 29)
      exact fun _ => ⟨((h32.turns T2 hne4).cell 4).trans rfl, ((h32.turns T2 hne4).cell 5).trans rfl⟩
    simp only [List.setIfInBounds_toArray, List.set_cons_zero, List.set_cons_succ]
    have T2 := T0.alloc (.cells #[.int .u64 l.next] 29)
    have h42' := own_keep h42 (w' := w2.drew.alloc (.cells #[.int .u64 l.next] 29)) (fun b hb => Below.heap_alloc w2.drew _ b (hbl2 b hb))
    have hg8b := Blk.new w2.drew 29 #[.int .u64 l.next]
    have hg8l : w2.heap.size ≤ w2.drew.heap.size := Nat.le_refl _
    obtain ⟨g8, hg8⟩ : ∃ g, g = w2.drew.heap.size := ⟨_, rfl⟩
    obtain ⟨W, hW⟩ : ∃ W, W = w2.drew.alloc (.cells #[.int .u64 l.next] 29) := ⟨_, rfl⟩
    rw [← hW, ← hg8] at hg8b ⊢
    rw [← hW] at T2 h42'
    rw [← hg8] at hg8l
    clear hW hg8
    obtain ⟨v7, W1, hr7, hO7, hg7, hk7⟩ := run_append_str2 (P := Tryz.prog) W 0 102 9 102 5 ib Tryz.underlying102 Tryz.underlying9 hib hzb0 hzb1 hzb2 bv _ _ h42' ⟨f.toArray⟩ (by show _ + f.toArray.size ≤ _; unfold maxLen; simp; omega) (by show _ + f.toArray.size ≤ _; simp; omega) (Nat.zero_le _)
    have T1 := T2.grown hg7 (fun k hk => .inl hk)
    refine R_run 7 42 rfl rfl (by rfl) (by kernel_rfl) (run_op_append _ _ _ rfl rfl rfl hr7) (fun _ => ⟨((h32.turns T1 hne4).cell 4).trans rfl, ((h32.turns T1 hne4).cell 5).trans rfl⟩) ?_
    simp only [List.setIfInBounds_toArray, List.set_cons_zero, List.set_cons_succ]
    have hm : AppMid w2 W1 bv v7 g8 (l.bytes.length + f.length) l.next l.bytes f :=
      ⟨by rw [bcs_append]; exact hO7, fun k hk => (hk7 k hk).imp id (fun h => Nat.le_trans T2.size h), hg8b.grown hg7 (fun e => by have := hbl2 g8 e.symm; omega), hg8l, T1⟩
    clear hO7 hg7 hk7 T1 T2 hr7 h42' hg8b hg8l
    all_goals
      have hsv := own_keep h52 (w' := W1) (fun b hb => hm.turns.block b (h52.lt b hb).2 (fun e => hne45 b e hb))
      have hmt := hm.turns
      refine R_step 14 rfl (by rfl) (by kernel_rfl) ?_
      refine wp_append_own2 _ _ _ _ rfl 0 29 iu _ 1 8 Tryz.underlying103 hiu hzu0 hzu1 hzu2 rfl (by decide) sv l.starts.length (lsns l.starts) rfl hsv ⟨g8, 0, none⟩ 1 1 [.int .u64 l.next] rfl rfl (fun j u hu => ?_) (fun x hx => by simp at hx; subst hx; rfl) (by unfold maxLen; omega) (by omega) (Nat.zero_le _) ?_
      · cases j with
        | zero => exact (hm.one.cell 0).trans hu
        | succ j => simp at hu
      intro v9 W2 q1 q2 q3
      have T2 : Turns (fun b => bv.ownBlock = some b ∨ sv.ownBlock = some b) (fun b => bv.ownBlock = some b ∨ sv.ownBlock = some b) w2 W2 := (hmt.wider (fun b hb => .inl hb) (fun b hb => .inl hb)).grown q2 (fun k hk => .inl (.inr hk))
      have hB2 := h32.turns T2 (fun e => e.elim hne4 hne5)
      have hO7 := own_keep hm.row (w' := W2) (fun b hb => q2.block b (hm.row.lt b hb).2 (fun e => by
        rcases hm.sub b hb with h | h
        · exact hne45 b h e.symm
        · have := (h52.lt b e.symm).2; omega))
      obtain ⟨x0, x2, rfl⟩ := own_form' q1 (by omega)
      obtain ⟨y0, y2, rfl⟩ := own_form' hO7 (by omega)
      have hx0 : x0 ≠ gl := fun e => own_ne q1 hB2 (by decide) (by rw [e]; rfl)
      have hy0 : y0 ≠ gl := fun e => own_ne hO7 hB2 (by decide) (by rw [e]; rfl)
      have hsub := hm.sub
      refine ⟨fun _ => ⟨(hB2.cell 4).trans rfl, (hB2.cell 5).trans rfl⟩, R_put 49 rfl ?_⟩
      simp only [List.setIfInBounds_toArray, List.set_cons_zero, List.set_cons_succ]
      refine R_run 15 50 (v := ptr gl) (w' := W2) rfl rfl (by rfl) (by kernel_rfl) (by go_simp) (fun _ => ⟨(hB2.cell 4).trans rfl, (hB2.cell 5).trans rfl⟩) ?_
      simp only [List.setIfInBounds_toArray, List.set_cons_zero, List.set_cons_succ]
      refine R_run 16 51 (v := .pointer (some ⟨gl, 4, none⟩)) (w' := W2) rfl rfl (by rfl) (by kernel_rfl) (by go_simp) (fun _ => ⟨(hB2.cell 4).trans rfl, (hB2.cell 5).trans rfl⟩) ?_
      simp only [List.setIfInBounds_toArray, List.set_cons_zero, List.set_cons_succ]
      have f4 := hB2.frozen 4
      have b4 := (hB2.cell 4).trans rfl
      refine R_store 17 (n := .skip) (w' := W2.setCell ⟨gl, 4, none⟩ (.slice (some ⟨y0, 0, none⟩) (l.bytes.length + f.length) y2)) rfl rfl (by rfl) (by kernel_rfl) (by go_simp) (.inl rfl) (fun h => nomatch h) ?_
      have hB3 := hB2.set_ 4 (.slice (some ⟨y0, 0, none⟩) (l.bytes.length + f.length) y2)
      have b53 := (hB3.cell 5).trans rfl
      have f5 := hB3.frozen 5
      refine R_run 18 52 (v := ptr gl) rfl rfl (by rfl) (by kernel_rfl) (by go_simp; rfl) (fun h => nomatch h) ?_
      simp only [List.setIfInBounds_toArray, List.set_cons_zero, List.set_cons_succ]
      refine R_run 19 53 (v := .pointer (some ⟨gl, 5, none⟩)) rfl rfl (by rfl) (by kernel_rfl) (by go_simp; rfl) (fun h => nomatch h) ?_
      simp only [List.setIfInBounds_toArray, List.set_cons_zero, List.set_cons_succ]
      refine R_store 20 (n := .skip) (w' := (W2.setCell ⟨gl, 4, none⟩ (.slice (some ⟨y0, 0, none⟩) (l.bytes.length + f.length) y2)).setCell ⟨gl, 5, none⟩ (.slice (some ⟨x0, 0, none⟩) (l.starts.length + 1) x2)) rfl rfl (by rfl) (by kernel_rfl) (by go_simp) (.inl rfl) (fun h => nomatch h) ?_
      have hB4 := hB3.set_ 5 (.slice (some ⟨x0, 0, none⟩) (l.starts.length + 1) x2)
      have T3 := ((T2.wider (F := F) (F' := F) (fun b hb => (h6 b).2 (.inr hb)) (fun b hb => .inl hb)).setCell (p := ⟨gl, 4, none⟩) (.inl ((h6 gl).2 (.inl rfl))) (.slice (some ⟨y0, 0, none⟩) (l.bytes.length + f.length) y2)).setCell (p := ⟨gl, 5, none⟩) (.inl ((h6 gl).2 (.inl rfl))) (.slice (some ⟨x0, 0, none⟩) (l.starts.length + 1) x2)
      have k2 : ∀ b, b ≠ gl → ((W2.setCell ⟨gl, 4, none⟩ (.slice (some ⟨y0, 0, none⟩) (l.bytes.length + f.length) y2)).setCell ⟨gl, 5, none⟩ (.slice (some ⟨x0, 0, none⟩) (l.starts.length + 1) x2)).heap[b]? = W2.heap[b]? := fun b hb => (Below.heap_setCell _ _ _ b hb).trans (Below.heap_setCell _ _ _ b hb)
      have o7 := own_keep hO7 (fun b hb => k2 b (fun e => hy0 (by simpa [Value.ownBlock, e] using hb)))
      have o9 := own_keep q1 (fun b hb => k2 b (fun e => hx0 (by simpa [Value.ownBlock, e] using hb)))
      rw [← lsns_one] at o9
      refine R_done (by kernel_rfl) ?_ _
      rename_i J9 K9 hJ9 hK9
      refine hK9 _ _ ?_
      clear hK9
      go_meet
      have hz2 := hb2.size
      refine ⟨_, _, hB4, o7, by simpa using o9, fun k hk => ?_, fun k hk => ?_, ?_⟩
      · rcases hsub k hk with h | h
        · exact .inl ((h6 k).2 (.inr (.inl h)))
        · exact .inr (by omega)
      · rcases q3 k hk with h | h
        · exact .inl ((h6 k).2 (.inr (.inr h)))
        · exact .inr (by have := hmt.size; omega)
      · exact (Turns.of_below hb2 F).trans T3
  case rest =>
    obtain ⟨v7, v9, hB, hO7, hO9, s7, s9, ht⟩ := hcut
    clear hb2 hin2 h42 h52 c7' h32
    have c7 := hB.lg.2.2.2.2.2.2.2.1
    have f7 := hB.frozen 7
    have hg7 : v7.ownBlock ≠ some gl := own_ne hO7 hB (by decide)
    have hg9 : v9.ownBlock ≠ some gl := own_ne hO9 hB (by decide)
    have hB7 := Lib.hid (hB.set_ 7 (.int .u64 ((l.next + (14 + s.length) : Nat) : Int)))
    have ht7 := Lib.hid (ht.setCell (p := ⟨gl, 7, none⟩) (.inl ((h6 gl).2 (.inl rfl))) (.int .u64 ((l.next + (14 + s.length) : Nat) : Int)))
    have o7 := Lib.hid (own_keep hO7 (w' := wc.setCell ⟨gl, 7, none⟩ (.int .u64 ((l.next + (14 + s.length) : Nat) : Int))) (fun b hb => Below.heap_setCell _ _ _ b (fun e => hg7 (by rw [hb]; exact congrArg some e))))
    have o9 := Lib.hid (own_keep hO9 (w' := wc.setCell ⟨gl, 7, none⟩ (.int .u64 ((l.next + (14 + s.length) : Nat) : Int))) (fun b hb => Below.heap_setCell _ _ _ b (fun e => hg9 (by rw [hb]; exact congrArg some e))))
    clear hB ht hO7 hO9
    go_wp2_with fail
    go_ret2
    refine ⟨fun b => b = gl ∨ v7.ownBlock = some b ∨ v9.ownBlock = some b, rfl, ?_, ?_⟩
    · have hwf3 := hwf2.out
      rw [hap.out] at hwf3 ⊢
      refine ⟨hwf3, v7, v9, hB7.out, ?_, ?_, fun b => Iff.rfl⟩
      · have := o7.out
        rwa [show (l.bytes ++ f).length = l.bytes.length + f.length by simp]
      · have := o9.out
        rwa [show (l.starts ++ [l.next]).length = l.starts.length + 1 by simp]
    · have h := ht7.out
      refine ⟨h.os, h.tape, h.output, h.size, h.block, fun b hb => ?_⟩
      rcases hb with rfl | hb | hb
      · exact .inl ((h6 b).2 (.inl rfl))
      · exact s7 b hb
      · exact s9 b hb
end
end Go.Proofs.YtclpmkinjjhncaaGreat
