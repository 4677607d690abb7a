/- The walks of package pool: pins. -/
import Derived.Test.YtphkggcdfkcidaaGreatMAE
import Derived.Shelf.Small.Bits
import Derived.Ground.Names2Prog
import Derived.Test.YtphkggcdfkcidaaGreatProg
import Derived.Sort.WalkA
import Derived.Sort.LotA
import Derived.Test.YtphkggcdfkcidaaGreatMAC

namespace Go.Proofs.YtphkggcdfkcidaaGreat
open Go.RowKit Go.Conc

section
variable {P : Program} {ops : Array Oper} {Q : Exit → Act → World → Prop}
/-- One of several that may come up: a call of a Go function. -/
theorem op_call {i : Nat} (t : Tmp) {f : FuncId} {args : Array Value} {R : Ending → World → Prop} {oi : Oper} {a : Act} {w w' : World} {K : Act → World → Prop} (hi : ops[i]? = some oi) (hd : oi.dst = some t)
    (hw : Region.wanted oi (yielded ops a.tmps) = true) (hy : (execOp a.eval oi).run P w = .ok (.enter f args) w') (hc : Calls P f args w' R)
    (h : ∀ e w'', R e w'' → ∃ v, e = .returned v ∧ K { tmps := a.tmps.setIfInBounds t v, defers := a.defers } w'') : wpOp P ops Q i K a w := by
  unfold wpOp
  simp only [hi]
  rw [if_pos hw]
  refine .inl ?_
  unfold Oper.wp
  rw [hy]
  refine hc.mono fun e w'' hR => ?_
  obtain ⟨v, rfl, h1⟩ := h e w'' hR
  show K (a.put oi.dst v) w''
  rw [hd]
  exact h1
end

/-- the block of a row. -/
abbrev own (v : Value) : Foot := fun b => v.ownBlock = some b

/-- What holds behind a row's DeleteFunc and the making of the row that is appended. -/
structure PinMid (w1 W : World) (v v' : Value) (g8 id : Nat) (ids : List Nat) : Prop where
  row : W.ownsRow 0 23 1 v' (ids.filter (fun x => !(x == id))).length ((ids.filter (fun x => !(x == id))).map u32v)
  sub : ∀ k, v'.ownBlock = some k → v.ownBlock = some k
  one : Blk W g8 23 #[u32v id]
  fresh : w1.heap.size ≤ g8
  turns : Turns (own v) (own v) w1 W

/-- What holds behind the append. -/
structure PinRow (w1 W : World) (v v2 : Value) (id : Nat) (ids : List Nat) : Prop where
  row : W.ownsRow 0 23 1 v2 (ids.filter (fun x => !(x == id)) ++ [id]).length ((ids.filter (fun x => !(x == id)) ++ [id]).map u32v)
  sub : ∀ k, v2.ownBlock = some k → v.ownBlock = some k ∨ w1.heap.size ≤ k
  turns : Turns (own v) (own v) w1 W

/-- A page pinned once more: it stands last. -/
def Sp.Pl.pinUp (p : Sp.Pl) (id : Nat) : Sp.Pl := p.upd id fun x => { x with pins := x.pins + 1 }
def PinsPost (F R : Foot) (w : World) (gp gd gl at_ base fb cb mb s r : Nat) (fl ids : List Nat) (p : Sp.Pl) (it : Sp.It) (e : Ending) (w' : World) : Prop :=
  ∃ F' v' cs', e = .returned (.pointer (some ⟨fb, it.idx * 9, none⟩)) ∧ IsPlAt F' R w' gp gd gl at_ base fb cb mb v' s r cs' fl (ids.filter (fun x => !(x == it.page.id)) ++ [it.page.id]) (p.pinUp it.page.id) ∧ Turns F F' w w'

set_option maxRecDepth 100000 in
set_option maxHeartbeats 1000000 in
theorem pool_pins_walk {F R : Foot} {w : World} {gp gd gl at_ base fb cb mb s r : Nat} {v : Value} {cs : Array Value} {fl ids : List Nat} {p : Sp.Pl} (h : IsPlAt F R w gp gd gl at_ base fb cb mb v s r cs fl ids p) {id : Nat} (hid : id < 4294967296) {it : Sp.It} (hf : p.find id = some it) (hp : it.pins < 1000000000) (hl : ids.length ≤ 64) :
    Calls Tryz.prog 56 #[ptr gp, u32v id] w (PinsPost F R w gp gd gl at_ base fb cb mb s r fl ids p it) := by
  obtain ⟨hit, rfl⟩ := Sp.Pl.find_mem hf
  obtain ⟨iu, hiu, hzu0, hzu1, hzu2⟩ := info_parts u32_info
  have hown := h.own_ne
  have hlv : ∀ b, v.ownBlock = some b → b < w.heap.size := fun b hb => by
    obtain ⟨cur, hc⟩ := ownsRow_heap h.row hb
    exact (Array.getElem?_eq_some_iff.1 hc).1
  have h1 := Lib.hid (h.keep (w' := w.alloc (.cells #[u32v it.page.id] 23)) (by simp) (fun b hb => Below.heap_alloc w _ b (h.lt b hb)))
  have hid1 := Lib.hid (Blk.new w 23 #[u32v it.page.id])
  go_enter Tryz.func56, Tryz.ntmps56
  go_wp2_with fail
  have e1 : (w.alloc (.cells #[u32v it.page.id] 23)).heap.size = w.heap.size + 1 := by simp
  obtain ⟨w1, hw1⟩ : ∃ w1, w1 = w.alloc (.cells #[u32v it.page.id] 23) := ⟨_, rfl⟩
  rw [← hw1] at h1 hid1 e1 ⊢
  obtain ⟨b3, hb3⟩ : ∃ b3, b3 = w.heap.size := ⟨_, rfl⟩
  have hlt3 : ∀ b, v.ownBlock = some b → b ≠ b3 := fun b hb e => by have := hlv b hb; omega
  have hn3 : v.ownBlock ≠ some b3 := fun e => hlt3 _ e rfl
  rw [← hb3] at hid1 ⊢
  have hb3l : w.heap.size ≤ b3 := by omega
  have e2 : w.heap.size ≤ w1.heap.size := by omega
  have ht01 : Turns F F w w1 := by rw [hw1]; exact (Turns.refl F w).alloc _
  have hgw : gp < w.heap.size := h.lt gp h.foot.1
  clear hw1 h hb3 e1
  rename_i K hK
  have HK : ∀ (v' v2 : Value) (g8 : Nat) (W2 : World), PinRow w1 W2 v v2 it.page.id ids → K { tmps := #[ptr gp, u32v it.page.id, undef, ptr b3, .pointer none, undef, ptr gp, ptr gp, ptr gp, .pointer (some ⟨gp, 7, none⟩), v, .func (.func 97) #[] #[ptr b3], v', u32v it.page.id, .slice (some ⟨g8, 0, none⟩) 1 1, v2, ptr gp, .pointer (some ⟨gp, 7, none⟩), undef, undef, undef, undef, undef, undef, undef, undef, undef, undef, undef, undef, undef, undef, undef, undef, undef, undef, undef], defers := [] } (W2.setCell ⟨gp, 7, none⟩ v2) := by
    intro v' v2 g8 W2 ⟨hrow, hsub, htu⟩
    refine hK _ _ ?_
    have hgpb := h1.out.blk
    have hgl : gp < w1.heap.size := hgpb.lt
    have hlF := h1.out.lt
    have hrd := Lib.hid (h1.out.rowed (w' := W2.setCell ⟨gp, 7, none⟩ v2) (v' := v2) (ids' := ids.filter (fun x => !(x == it.page.id)) ++ [it.page.id]) (by simp [World.setCell]; exact htu.size)
      (fun b hb h1 h2 => (Below.heap_setCell W2 _ _ b h1).trans (htu.block b (hlF b hb) h2)) ((hgpb.turns htu hown.1).set_ 7 v2)
      (row_keep hrow (fun b hb => Below.heap_setCell W2 _ _ b (fun e => by
        have e : b = gp := e
        subst e
        rcases hsub _ hb with h | h
        · exact hown.1 h
        · omega))) hsub)
    have hb3 := Lib.hid ((hid1.out.turns htu hn3).far (p := ⟨gp, 7, none⟩) (show b3 ≠ gp from fun e => by omega) v2)
    have htt : Turns F (fun b => F b ∨ v2.ownBlock = some b) w (W2.setCell ⟨gp, 7, none⟩ v2) := by
      have t : Turns F F w (W2.setCell ⟨gp, 7, none⟩ v2) := (ht01.trans (htu.wider (fun b hb => h1.out.foot.2.2.2.2 b hb) (fun b hb => .inl hb))).setCell (p := ⟨gp, 7, none⟩) (.inl h1.out.foot.1) _
      refine ⟨t.os, t.tape, t.output, t.size, t.block, fun b hb => ?_⟩
      rcases hb with hb | hb
      · exact .inl hb
      · rcases hsub b hb with h | h
        · exact .inl (h1.out.foot.2.2.2.2 b h)
        · exact .inr (by omega)
    obtain ⟨W3, hW3⟩ : ∃ W3, W3 = W2.setCell ⟨gp, 7, none⟩ v2 := ⟨_, rfl⟩
    rw [← hW3] at hrd hb3 htt ⊢
    clear hW3 hrow htu hK
    obtain ⟨c0, c1, c2, c3, c4, c5, c6, c7⟩ := hrd.out.cells
    have hld := (hrd.out.keep (w' := W3.drew) (Nat.le_refl _) (fun _ _ => rfl)).look hid hf
    have hlt := hrd.out.wf.idx_lt hit
    have cp := hrd.out.pins hit
    have hn := hrd.out.wf.n64
    have hz := hrd.out.pins_frozen (it.idx * 9 + 6)
    have cid := hb3.out.cell 0
    simp only [List.getElem?_toArray, List.getElem?_cons_zero] at cid
    have HP := Lib.hid ((hrd.out.keep (w' := W3.drew) (Nat.le_refl _) (fun _ _ => rfl)).pinned hit (fun k => k + 1) (by omega))
    clear c0 c1 c2 c3 c5 c7
    go_wp2_with fail
    refine R_begin (fun W => W.cell? ⟨gp, 4, none⟩ = some (.slice (some ⟨fb, 0, none⟩) p.n p.n) ∧ W.cell? ⟨gp, 6, none⟩ = some (.map (some mb)) ∧ W.cell? ⟨b3, 0, none⟩ = some (u32v it.page.id) ∧
      (Instr.lookup 97 (.map (some mb)) (u32v it.page.id) false).run Tryz.prog W = .ok (.int .i64 it.idx) W) (fun _ => false) rfl ?_
    have hS := Lib.hid (⟨c4, c6, cid, hld⟩ : W3.drew.cell? ⟨gp, 4, none⟩ = some (.slice (some ⟨fb, 0, none⟩) p.n p.n) ∧ W3.drew.cell? ⟨gp, 6, none⟩ = some (.map (some mb)) ∧ W3.drew.cell? ⟨b3, 0, none⟩ = some (u32v it.page.id) ∧
      (Instr.lookup 97 (.map (some mb)) (u32v it.page.id) false).run Tryz.prog W3.drew = .ok (.int .i64 it.idx) W3.drew)
    clear hld
    refine R_take 0 18 (v := ?_) rfl rfl (by rfl) (by kernel_rfl) (fun _ _ _ h => h) hS.out ?_ ?_
    rotate_left
    · intro w hSw; (try dsimp only at hSw); go_simp; (try with_reducible rfl)
    simp only [List.setIfInBounds_toArray, List.set_cons_zero, List.set_cons_succ]
    refine R_take 1 19 (v := ?_) rfl rfl (by rfl) (by kernel_rfl) (fun _ _ _ h => h) hS.out ?_ ?_
    rotate_left
    · intro w hSw; (try dsimp only at hSw); go_simp; (try with_reducible rfl)
    simp only [List.setIfInBounds_toArray, List.set_cons_zero, List.set_cons_succ]
    refine R_take 2 20 (v := ?_) rfl rfl (by rfl) (by kernel_rfl) (fun _ _ _ h => h) hS.out ?_ ?_
    rotate_left
    · intro w hSw; (try dsimp only at hSw); go_simp; (try with_reducible rfl)
    simp only [List.setIfInBounds_toArray, List.set_cons_zero, List.set_cons_succ]
    refine R_take 3 21 (v := ?_) rfl rfl (by rfl) (by kernel_rfl) (fun _ _ _ h => h) hS.out ?_ ?_
    rotate_left
    · intro w hSw; (try dsimp only at hSw); go_simp; (try with_reducible rfl)
    simp only [List.setIfInBounds_toArray, List.set_cons_zero, List.set_cons_succ]
    refine R_take 4 22 (v := ?_) rfl rfl (by rfl) (by kernel_rfl) (fun _ _ _ h => h) hS.out ?_ ?_
    rotate_left
    · intro w hSw; (try dsimp only at hSw); go_simp; (try with_reducible rfl)
    simp only [List.setIfInBounds_toArray, List.set_cons_zero, List.set_cons_succ]
    refine R_take 5 23 (v := ?_) rfl rfl (by rfl) (by kernel_rfl) (fun _ _ _ h => h) hS.out ?_ ?_
    rotate_left
    · intro w hSw; (try dsimp only at hSw); go_simp; (try with_reducible rfl)
    simp only [List.setIfInBounds_toArray, List.set_cons_zero, List.set_cons_succ]
    refine R_take 6 24 (v := ?_) rfl rfl (by rfl) (by kernel_rfl) (fun _ _ _ h => h) hS.out ?_ ?_
    rotate_left
    · intro w hSw; (try dsimp only at hSw); go_simp; (try with_reducible rfl)
    simp only [List.setIfInBounds_toArray, List.set_cons_zero, List.set_cons_succ]
    refine R_take 7 25 (v := ?_) rfl rfl (by rfl) (by kernel_rfl) (fun _ _ _ h => h) hS.out ?_ ?_
    rotate_left
    · intro w hSw; (try dsimp only at hSw); go_simp; (try with_reducible rfl)
    simp only [List.setIfInBounds_toArray, List.set_cons_zero, List.set_cons_succ]
    refine R_take 8 26 (v := ?_) rfl rfl (by rfl) (by kernel_rfl) (fun _ _ _ h => h) hS.out ?_ ?_
    rotate_left
    · intro w hSw; (try dsimp only at hSw); go_simp; (try with_reducible rfl)
    simp only [List.setIfInBounds_toArray, List.set_cons_zero, List.set_cons_succ]
    refine R_take 9 27 (v := ?_) rfl rfl (by rfl) (by kernel_rfl) (fun _ _ _ h => h) hS.out ?_ ?_
    rotate_left
    · intro w hSw; (try dsimp only at hSw); go_simp; (try with_reducible rfl)
    simp only [List.setIfInBounds_toArray, List.set_cons_zero, List.set_cons_succ]
    refine R_take 10 28 (v := ?_) rfl rfl (by rfl) (by kernel_rfl) (fun _ _ _ h => h) hS.out ?_ ?_
    rotate_left
    · intro w hSw; (try dsimp only at hSw); go_simp; (try with_reducible rfl)
    simp only [List.setIfInBounds_toArray, List.set_cons_zero, List.set_cons_succ]
    refine R_take 11 5 (v := ?_) rfl rfl (by rfl) (by kernel_rfl) (fun _ _ _ h => h) hS.out ?_ ?_
    rotate_left
    · intro w hSw; (try dsimp only at hSw); go_simp; (try with_reducible rfl)
    simp only [List.setIfInBounds_toArray, List.set_cons_zero, List.set_cons_succ]
    refine R_done (by kernel_rfl) ?_ _
    rename_i K2 hK2
    refine hK2 _ _ ?_
    have cp : W3.drew.cell? ⟨fb, it.idx * 9 + 6, none⟩ = some (.int .i64 it.pins) := cp
    have hz : W3.drew.frozen? ⟨fb, it.idx * 9 + 6, none⟩ = false := hz
    have htt := htt.drew
    have hfF : F fb := h1.out.foot.2.1
    clear hK2 K2 hS c4 c6 cid hrd hb3
    obtain ⟨W4, hW4⟩ : ∃ W4, W4 = W3.drew := ⟨_, rfl⟩
    rw [← hW4] at cp hz htt HP ⊢
    clear hW4
    go_wp2_with fail
    go_ret
    exact ⟨_, v2, _, rfl, HP.out, htt.setCell (p := ⟨fb, it.idx * 9 + 6, none⟩) (.inl hfF) _⟩
  have HKH := Lib.hid HK
  clear HK hK
  have c7 := h1.out.cells.2.2.2.2.2.2.2
  have c3 := hid1.out.cell 0
  simp only [List.getElem?_toArray, List.getElem?_cons_zero] at c3
  refine R_begin (fun W => W.cell? ⟨gp, 7, none⟩ = some v ∧ W.cell? ⟨b3, 0, none⟩ = some (u32v it.page.id)) (fun j => decide (10 ≤ j)) rfl ?_
  have hS : w1.drew.cell? ⟨gp, 7, none⟩ = some v ∧ w1.drew.cell? ⟨b3, 0, none⟩ = some (u32v it.page.id) := ⟨c7, c3⟩
  refine R_take 0 6 (v := ?_) rfl rfl (by rfl) (by kernel_rfl) (fun _ _ _ h => h) hS ?_ ?_
  rotate_left
  · intro w hSw; (try dsimp only at hSw); go_simp; (try with_reducible rfl)
  simp only [List.setIfInBounds_toArray, List.set_cons_zero, List.set_cons_succ]
  refine R_take 1 7 (v := ?_) rfl rfl (by rfl) (by kernel_rfl) (fun _ _ _ h => h) hS ?_ ?_
  rotate_left
  · intro w hSw; (try dsimp only at hSw); go_simp; (try with_reducible rfl)
  simp only [List.setIfInBounds_toArray, List.set_cons_zero, List.set_cons_succ]
  refine R_take 2 8 (v := ?_) rfl rfl (by rfl) (by kernel_rfl) (fun _ _ _ h => h) hS ?_ ?_
  rotate_left
  · intro w hSw; (try dsimp only at hSw); go_simp; (try with_reducible rfl)
  simp only [List.setIfInBounds_toArray, List.set_cons_zero, List.set_cons_succ]
  refine R_take 3 9 (v := ?_) rfl rfl (by rfl) (by kernel_rfl) (fun _ _ _ h => h) hS ?_ ?_
  rotate_left
  · intro w hSw; (try dsimp only at hSw); go_simp; (try with_reducible rfl)
  simp only [List.setIfInBounds_toArray, List.set_cons_zero, List.set_cons_succ]
  refine R_take 4 10 (v := ?_) rfl rfl (by rfl) (by kernel_rfl) (fun _ _ _ h => h) hS ?_ ?_
  rotate_left
  · intro w hSw; (try dsimp only at hSw); go_simp; (try with_reducible rfl)
  simp only [List.setIfInBounds_toArray, List.set_cons_zero, List.set_cons_succ]
  refine R_take 5 11 (v := ?_) rfl rfl (by rfl) (by kernel_rfl) (fun _ _ _ h => h) hS ?_ ?_
  rotate_left
  · intro w hSw; (try dsimp only at hSw); go_simp; (try with_reducible rfl)
  simp only [List.setIfInBounds_toArray, List.set_cons_zero, List.set_cons_succ]
  refine R_take 7 13 (v := ?_) rfl rfl (by rfl) (by kernel_rfl) (fun _ _ _ h => h) hS ?_ ?_
  rotate_left
  · intro w hSw; (try dsimp only at hSw); go_simp; (try with_reducible rfl)
  simp only [List.setIfInBounds_toArray, List.set_cons_zero, List.set_cons_succ]
  refine R_all (rs := [6, 8]) (by kernel_rfl) (by simp) (fun i hi => ?_)
  simp only [List.mem_cons, List.not_mem_nil, or_false] at hi
  have hrow1 := h1.out.row
  have hgpb := h1.out.blk
  have hgl : gp < w1.heap.size := hgpb.lt
  have hbl : b3 < w1.heap.size := hid1.out.lt
  have T0 : Turns (own v) (own v) w1 w1.drew := (Turns.refl _ _).drew
  have hlv1 : ∀ b, v.ownBlock = some b → b < w1.heap.size := fun b hb => Nat.lt_of_lt_of_le (hlv b hb) e2
  rcases hi with rfl | rfl
  refine op_call 12 (w' := w1.drew) rfl rfl (by rfl) ?_ (delete_row (w := w1.drew) (asks_pins it.page.id b3) hrow1 hid1.out hn3) ?_
  · go_simp
  rintro e W ⟨v', rfl, r1, r2, r3⟩
  have T1 := T0.grown r2 (fun k hk => .inl hk)
  refine ⟨v', rfl, fun _ => ⟨((hgpb.turns T1 hown.1).cell 7).trans rfl, ((hid1.out.turns T1 hn3).cell 0).trans rfl⟩, ?_⟩
  simp only [List.setIfInBounds_toArray, List.set_cons_zero, List.set_cons_succ]
  refine R_run 8 14 (v := .slice (some ⟨W.heap.size, 0, none⟩) 1 1) (w' := W.alloc (.cells #[u32v it.page.id] 23)) rfl rfl (by rfl) (by kernel_rfl) (by go_simp) ?_ ?_
  · have T2 := T1.alloc (.cells #[u32v it.page.id] 23)
    exact fun _ => ⟨((hgpb.turns T2 hown.1).cell 7).trans rfl, ((hid1.out.turns T2 hn3).cell 0).trans rfl⟩
  simp only [List.setIfInBounds_toArray, List.set_cons_zero, List.set_cons_succ]
  have hm : PinMid w1 (W.alloc (.cells #[u32v it.page.id] 23)) v v' W.heap.size it.page.id ids := ⟨row_keep r1 (fun b hb => Below.heap_alloc W _ b (by have := T1.size; have := hlv1 b (r3 b hb); omega)), r3, Blk.new _ _ _, T1.size, T1.alloc _⟩
  obtain ⟨g8, hg8⟩ : ∃ g, g = W.heap.size := ⟨_, rfl⟩
  obtain ⟨W1, hW1⟩ : ∃ W1, W1 = W.alloc (.cells #[u32v it.page.id] 23) := ⟨_, rfl⟩
  rw [← hW1, ← hg8] at hm ⊢
  clear hW1 hg8 r1 r2 r3 T1
  rotate_left
  refine op_run 14 (v := .slice (some ⟨w1.drew.heap.size, 0, none⟩) 1 1) (w' := w1.drew.alloc (.cells #[u32v it.page.id] 23)) rfl rfl (by rfl) (by go_simp) ⟨?_, ?_⟩
  · have T2 := T0.alloc (.cells #[u32v it.page.id] 23)
    exact fun _ => ⟨((hgpb.turns T2 hown.1).cell 7).trans rfl, ((hid1.out.turns T2 hn3).cell 0).trans rfl⟩
  simp only [List.setIfInBounds_toArray, List.set_cons_zero, List.set_cons_succ]
  have T2 := T0.alloc (.cells #[u32v it.page.id] 23)
  have T2n := (Turns.refl noFoot w1).drew.alloc (.cells #[u32v it.page.id] 23)
  have hg8b := Blk.new w1.drew 23 #[u32v it.page.id]
  have hg8l : w1.heap.size ≤ w1.drew.heap.size := Nat.le_refl _
  obtain ⟨g8, hg8⟩ : ∃ g, g = w1.drew.heap.size := ⟨_, rfl⟩
  obtain ⟨W, hW⟩ : ∃ W, W = w1.drew.alloc (.cells #[u32v it.page.id] 23) := ⟨_, rfl⟩
  rw [← hW, ← hg8] at hg8b ⊢
  rw [← hW] at T2 T2n
  rw [← hg8] at hg8l
  clear hW hg8
  refine R_call 6 12 (w' := W) rfl rfl (by rfl) (by kernel_rfl) ?_ (delete_row (w := W) (asks_pins it.page.id b3) (row_keep hrow1 (fun b hb => T2n.block b (hlv1 b hb) (fun e => e))) (hid1.out.turns T2 hn3) hn3) ?_
  · go_simp
  rintro e W1 ⟨v', rfl, r1, r2, r3⟩
  have T1 := T2.grown r2 (fun k hk => .inl hk)
  refine ⟨v', rfl, fun _ => ⟨((hgpb.turns T1 hown.1).cell 7).trans rfl, ((hid1.out.turns T1 hn3).cell 0).trans rfl⟩, ?_⟩
  simp only [List.setIfInBounds_toArray, List.set_cons_zero, List.set_cons_succ]
  have hm : PinMid w1 W1 v v' g8 it.page.id ids := ⟨r1, r3, hg8b.grown r2 (fun e => by have := hlv1 g8 e.symm; omega), hg8l, T1⟩
  clear r1 r2 r3 T1 T2 T2n hg8b hg8l
  all_goals
    have hmt := hm.turns
    refine R_step 9 rfl (by rfl) (by kernel_rfl) ?_
    refine wp_append_own2 _ _ _ _ rfl 0 23 iu _ 1 4 Tryz.underlying98 hiu hzu0 hzu1 hzu2 rfl (by decide) _ _ _ rfl hm.row ⟨g8, 0, none⟩ 1 1 [u32v it.page.id] rfl rfl (fun j u hu => ?_) (fun x hx => by simp at hx; subst hx; rfl) ?_ ?_ (Nat.zero_le _) ?_
    · cases j with
      | zero => exact (hm.one.cell 0).trans hu
      | succ j => simp at hu
    · have := List.length_filter_le (fun x => !(x == it.page.id)) ids
      unfold maxLen; omega
    · have := List.length_filter_le (fun x => !(x == it.page.id)) ids
      omega
    intro v2 W2 q1 q2 q3
    have T2 := hmt.grown q2 (fun k hk => .inl (hm.sub k hk))
    obtain ⟨x0, x1, x2, rfl⟩ : ∃ g n c, v2 = .slice (some ⟨g, 0, none⟩) n c := by
      rcases q1.2 with ⟨_, h0⟩ | ⟨g6, c6, _, h0, _⟩
      · omega
      · exact ⟨g6, _, c6, h0⟩
    have hPR : PinRow w1 W2 v (.slice (some ⟨x0, 0, none⟩) x1 x2) it.page.id ids := ⟨by simpa using q1, fun k hk => (q3 k hk).imp (hm.sub k) (fun h => Nat.le_trans hmt.size h), T2⟩
    have f7 := (hgpb.turns T2 hown.1).frozen 7
    have c7 := (hgpb.turns T2 hown.1).cell 7
    simp only [plCells, List.getElem?_toArray, List.getElem?_cons_succ, List.getElem?_cons_zero] at c7
    have hSS : W2.cell? ⟨gp, 7, none⟩ = some v ∧ W2.cell? ⟨b3, 0, none⟩ = some (u32v it.page.id) := ⟨c7, ((hid1.out.turns T2 hn3).cell 0).trans rfl⟩
    clear q1 q2 q3 T2 hm hmt
    refine ⟨fun _ => hSS, ?_⟩
    refine R_put 15 rfl ?_
    simp only [List.setIfInBounds_toArray, List.set_cons_zero, List.set_cons_succ]
    refine R_run 10 16 (v := ptr gp) (w' := W2) rfl rfl (by rfl) (by kernel_rfl) (by go_simp) (fun h => nomatch h) ?_
    simp only [List.setIfInBounds_toArray, List.set_cons_zero, List.set_cons_succ]
    refine R_run 11 17 (v := .pointer (some ⟨gp, 7, none⟩)) (w' := W2) rfl rfl (by rfl) (by kernel_rfl) (by go_simp) (fun h => nomatch h) ?_
    simp only [List.setIfInBounds_toArray, List.set_cons_zero, List.set_cons_succ]
    refine R_store 12 (n := .skip) (w' := W2.setCell ⟨gp, 7, none⟩ (.slice (some ⟨x0, 0, none⟩) x1 x2)) rfl rfl (by rfl) (by kernel_rfl) (by go_simp) (.inl rfl) (fun h => nomatch h) ?_
    refine R_done (by kernel_rfl) ?_ _
    exact HKH.out v' _ g8 W2 hPR
end Go.Proofs.YtphkggcdfkcidaaGreat

/-
  DERIVED: THE SHELF's CONTRACTS AT THIS DUMP, IN PLAIN WORDS (tools/lay-plain.mjs out of 'TryzShel3.lean', which tools/lay-shelf.mjs wrote): THE SAME DECLARATIONS UNDER THE SAME NAMES: 'import', 'namespace', 'open', 'def', 'theorem' AND NOTHING ELSE: no command of the shelf's: FOR A HAND-IN. Each laying: the table of numbers ('.._ren') and one theorem, a field a fact of the dump's own or the kernel's comparison; each contract: ONE APPLICATION.
-/
namespace Go.Proofs
open Go.Shelf
def Tryz.lays125_ren : Go.Shelf.Ren := ⟨fun | 125 => 130 | 128 => 151 | 129 => 152 | n => n, fun | 46 => 161 | 3 => 3 | 51 => 23 | 53 => 27 | 4 => 4 | 5 => 5 | 9 => 9 | n => n, fun | n => n⟩
theorem Tryz.lays125 : Go.Proofs.Lays.n125 Tryz.prog Tryz.lays125_ren := {
  mixed := by kernel_rfl
  f125 := Tryz.func130.trans (congrArg some (by kernel_rfl))
  f128 := Tryz.func151.trans (congrArg some (by kernel_rfl))
  f129 := Tryz.func152.trans (congrArg some (by kernel_rfl))
  t3 := Tryz.underlying3
  a3 := Tryz.isAgg3
  z3 := Tryz.sizeOf3
  v3 := Tryz.zeroValue3
  t4 := Tryz.underlying4
  a4 := Tryz.isAgg4
  z4 := Tryz.sizeOf4
  v4 := Tryz.zeroValue4
  t5 := Tryz.underlying5
  a5 := Tryz.isAgg5
  z5 := Tryz.sizeOf5
  v5 := Tryz.zeroValue5
  t9 := Tryz.underlying9
  a9 := Tryz.isAgg9
  z9 := Tryz.sizeOf9
  v9 := Tryz.zeroValue9
  t46 := Tryz.underlying161
  a46 := Tryz.isAgg161
  z46 := Tryz.sizeOf161
  v46 := Tryz.zeroValue161
  t51 := Tryz.underlying23
  a51 := Tryz.isAgg23
  z51 := Tryz.sizeOf23
  v51 := Tryz.zeroValue23
  t53 := Tryz.underlying27
  a53 := Tryz.isAgg27
  z53 := Tryz.sizeOf27
  v53 := Tryz.zeroValue27 }
/-- bits.Len: "Len returns the minimum number of bits required to represent x; the result is 0 for x == 0.": IT RETURNS 'Lib.bitLen x'; the world is as it was. (A uint has 64 bits in the model.) ITS CALLEE bits.Len64 IS MET BY ITS OWN CONTRACT OFF THE SHELF (lay that first). (LAID: no walk: one application.) -/
theorem Tryz.bits_Len (x : Int) (w : World) (h0 : 0 ≤ x) (h1 : x ≤ 18446744073709551615) :
    Calls Tryz.prog 130 #[.int .u64 x] w fun e w' => e = .returned (.int .i64 (Lib.bitLen x.toNat)) ∧ w' = w := Any.bits_Len Tryz.lays125 x w h0 h1
end Go.Proofs

/- slices.Sort of at most 12 numbers (uint32): the insertion sort of the library, walked at this element type (after the kit's worked walk at int). -/
namespace Go.Proofs.YtphkggcdfkcidaaGreat
open Go.RowKit Go.Sort

def ltN (x y : Nat) : Bool := decide (x < y)
theorem cmp_isNaN_u32 (x : Nat) (w : World) : Calls Tryz.prog 164 #[u32v x] w fun e w' => e = .returned (.bool false) ∧ w' = w := by
  go_enter Tryz.func164, Tryz.ntmps164
  go_wp2_with fail
  go_ret
  exact ⟨by simp, rfl⟩
theorem cmp_Less_u32 (x y : Nat) (w : World) : Calls Tryz.prog 148 #[u32v x, u32v y] w fun e w' => e = .returned (.bool (ltN x y)) ∧ w' = w := by
  go_enter Tryz.func148, Tryz.ntmps148
  go_wp2_with (go_at_call 164; refine (cmp_isNaN_u32 _ _).mono ?_; rintro e w' ⟨rfl, rfl⟩)
  go_ret
  exact ⟨rfl, rfl⟩

set_option maxRecDepth 100000 in
set_option maxHeartbeats 1000000 in
theorem insertion_u32 (blk off cap a b : Nat) (d : Array Nat) (w : World) (hH : Holds u32v w blk off d) (hab : a ≤ b) (hb : b ≤ d.size) (hsz : d.size < 4611686018427387904) :
    Calls Tryz.prog 142 #[.slice (some ⟨blk, off, none⟩) d.size cap, .int .i64 a, .int .i64 b] w fun e w' =>
      e = .returned (.tuple #[]) ∧ ∃ n, w' = putRow u32v (Sort.ahead w n) blk off (Sort.insertionSort ltN d a b) := by
  go_enter Tryz.func142, Tryz.ntmps142
  go_wp2_with fail
  go_loopw [6] (fun vi wr => ∃ (i n : Nat) (dk : Array Nat), vi = .int .i64 i ∧ a < i ∧ i ≤ b + 1 ∧ dk.size = d.size ∧ wr = putRow u32v (Sort.ahead w n) blk off dk ∧
      insOuter ltN a b i dk = insOuter ltN a b (a + 1) d) (fun vi _ => b + 1 - (intOf vi).toNat)
  case atStart => exact ⟨a + 1, 0, d, by go_num, by omega, by omega, rfl, (putRow_self _ _ _ _ _ hH).symm, rfl⟩
  case round =>
    obtain ⟨i, n, dk, rfl, hai, hib, hsk, hwr, hO⟩ := hrel
    have HO : Hid (insOuter ltN a b i dk = insOuter ltN a b (a + 1) d) := hO
    clear hO
    go_wp2_with fail
    · go_loopw [7] (fun vj wr2 => ∃ (j m : Nat) (dj : Array Nat), vj = .int .i64 j ∧ a ≤ j ∧ j ≤ i ∧ dj.size = d.size ∧ wr2 = putRow u32v (Sort.ahead w m) blk off dj ∧
          insInner ltN a j dj = insInner ltN a i dk) (fun vj _ => (intOf vj).toNat)
      case atStart => exact ⟨i, n, dk, rfl, by omega, Nat.le_refl _, hsk, rfl, rfl⟩
      case round =>
        obtain ⟨j, m, dj, rfl, haj, hji, hsj, hw2, hI⟩ := hrel
        have hlt : i < b := by assumption
        obtain ⟨G, hG⟩ : ∃ G : Nat → Nat, ∀ t, G t = dj[t]! := ⟨fun t => dj[t]!, fun _ => rfl⟩
        have hcw : ∀ t, t < d.size → wr.cell? ⟨blk, off + t, none⟩ = some (u32v (G t)) := fun t ht => by
          rw [hw2, hG]; exact cell?_putRow _ _ _ _ d dj (holds_ahead _ _ _ _ _ _ hH) hsj t (by omega)
        have hfw : ∀ t, t < d.size → wr.frozen? ⟨blk, off + t, none⟩ = false := fun t ht => by
          rw [hw2, frozen?_putRow]; exact ((holds_ahead _ _ m _ _ _ hH) t ht).2
        have HW : Hid (wr = putRow u32v (Sort.ahead w m) blk off dj) := hw2
        have HG : Hid (∀ t, G t = dj[t]!) := hG
        have HI : Hid (insInner ltN a j dj = insInner ltN a i dk) := hI
        clear hw2 hG hI hH
        have out : (j ≤ a ∨ ltN dj[j]! dj[j - 1]! = false) → ∀ q, ∃ i' n' dk', Value.int .i64 ((i : Int) + 1) = .int .i64 (i' : Nat) ∧ a < i' ∧ i' ≤ b + 1 ∧ dk'.size = d.size ∧
            wr.drewN q = putRow u32v (Sort.ahead w n') blk off dk' ∧ insOuter ltN a b i' dk' = insOuter ltN a b (a + 1) d := fun hs q =>
          ⟨i + 1, m + q, dj, by go_num, by omega, by omega, hsj, by rw [HW.out]; exact putRow_drewN _ _ _ _ _ _ _,
            by rw [← HO.out, insOuter_go _ _ _ _ _ hlt, ← HI.out, insInner_stop _ _ _ _ hs]⟩
        have OUT : Hid _ := out
        clear out
        go_wp2_with fail
        by_cases hja : a < j
        · go_quiet (first | (go_at_call 148; refine Calls.quiet_of_same (cmp_Less_u32 _ _ _)))
          go_wp2_with fail
          · have hl : ltN (G j) (G (j - 1)) = true := by assumption
            go_region
            all_goals go_wp2_with fail
            go_roundw
            case rel =>
              refine ⟨j - 1, m + (nq + 1), swp dj j (j - 1), by congr 1; omega, by omega, by omega, by rw [size_swp]; exact hsj, ?_, ?_⟩
              · rw [HW.out, HG.out, HG.out]
                exact swap_worldA _ w m (nq + 1) blk off dj j (j - 1) (by omega) (by omega)
              · rw [← HI.out, insInner_go ltN a j dj hja (by rw [← HG.out, ← HG.out]; exact hl)]
            case measure => simp [intOf]; omega
          · have hl : ltN (G j) (G (j - 1)) = false := by assumption
            go_roundw
            case rel => exact OUT.out (Or.inr (by rw [← HG.out, ← HG.out]; exact hl)) nq
            case measure => simp [intOf]; omega
        · go_quiet (first | (go_at_call 148; refine Calls.quiet_of_same (cmp_Less_u32 _ _ _)))
          go_wp2_with fail
          go_roundw
          case rel => exact OUT.out (Or.inl (by omega)) nq
          case measure => simp [intOf]; omega
    · have hge : ¬ i < b := by assumption
      go_end0
      exact ⟨rfl, n, by unfold Sort.insertionSort; rw [← HO.out, insOuter_stop _ _ _ _ _ hge]⟩

set_option maxRecDepth 100000 in
set_option maxHeartbeats 1000000 in
/-- Of at most 12 elements the library's sort is the insertion sort. -/
theorem pdq_u32 (blk off cap : Nat) (d : Array Nat) (w : World) (hH : Holds u32v w blk off d) (h12 : d.size ≤ 12) (lim : Int) :
    Calls Tryz.prog 129 #[.slice (some ⟨blk, off, none⟩) d.size cap, .int .i64 0, .int .i64 d.size, .int .i64 lim] w fun e w' =>
      e = .returned (.tuple #[]) ∧ ∃ n, w' = putRow u32v (Sort.ahead w n) blk off (Sort.insertionSort ltN d 0 d.size) := by
  have HI := Lib.hid (insertion_u32 blk off cap 0 d.size d w hH (Nat.zero_le _) (Nat.le_refl _) (by omega))
  have d1 : decide ((d.size : Int) ≤ 12) = true := by rw [decide_eq_true_eq]; omega
  clear hH
  go_enter Tryz.func129, Tryz.ntmps129
  go_wp2_with fail
  refine wp_loop_rounds 1 ?_
  rw [rounds_succ]
  go_wp2_with fail
  refine HI.out.mono ?_
  rintro e w1 ⟨rfl, n, hw⟩
  go_wp2_with fail
  refine bodyPost_ret (results_none rfl _ _ _) rfl ?_
  exact ⟨rfl, n, rfl⟩

set_option maxRecDepth 100000 in
set_option maxHeartbeats 1000000 in
theorem sort_u32 (blk off cap : Nat) (d : Array Nat) (w : World) (hH : Holds u32v w blk off d) (h12 : d.size ≤ 12) :
    Calls Tryz.prog 104 #[.slice (some ⟨blk, off, none⟩) d.size cap] w fun e w' =>
      e = .returned (.tuple #[]) ∧ ∃ n, w' = putRow u32v (Sort.ahead w n) blk off (Sort.insertionSort ltN d 0 d.size) := by
  have HP := Lib.hid (pdq_u32 blk off cap d w hH h12)
  have HL := Lib.hid fun (x : Int) (W : World) (h0 : 0 ≤ x) (h1 : x ≤ 18446744073709551615) => Tryz.bits_Len x W h0 h1
  clear hH
  go_enter Tryz.func104, Tryz.ntmps104
  go_wp2_with fail
  refine (HL.out _ _ (by omega) (by omega)).mono ?_
  rintro e w1 ⟨rfl, hw⟩
  subst w1
  go_wp2_with fail
  refine (HP.out _).mono ?_
  rintro e w1 ⟨rfl, n, hw⟩
  go_wp2_with fail
  go_end0
  exact ⟨rfl, n, rfl⟩

/-- A list of numbers, sorted as the library does. -/
def Sp.sorted (l : List Nat) : List Nat := (Sort.insertionSort ltN l.toArray 0 l.length).toList
theorem ltN_swo : SWO ltN := by
  constructor <;> simp [ltN] <;> omega
theorem Sp.sorted_spec (l : List Nat) : (Sp.sorted l).Perm l ∧ (Sp.sorted l).Pairwise (· ≤ ·) := by
  obtain ⟨⟨h1, h2, h3⟩, h4⟩ := insertionSort_holds ltN_swo l.toArray 0 l.length (Nat.zero_le _) (by simp)
  refine ⟨?_, ?_⟩
  · unfold Sp.sorted
    have e1 : (Sort.insertionSort ltN l.toArray 0 l.length).extract 0 l.length = Sort.insertionSort ltN l.toArray 0 l.length := by
      apply Array.ext
      · simp [h1]
      · intro i _ _; simp
    have e2 : l.toArray.extract 0 l.length = l.toArray := by
      apply Array.ext
      · simp
      · intro i _ _; simp
    rw [e1, e2] at h3
    simpa using h3
  · unfold Sp.sorted
    rw [List.pairwise_iff_getElem]
    intro i j hi hj hij
    have hsz : (Sort.insertionSort ltN l.toArray 0 l.length).size = l.length := by rw [h1]; simp
    have := h4 i j (Nat.zero_le _) hij (by simpa [hsz] using hj)
    rw [getElem!_pos _ i (by simpa using hi), getElem!_pos _ j (by simpa using hj)] at this
    simpa [ltN] using this
theorem Sp.sorted_one (x : Nat) : Sp.sorted [x] = [x] := by
  have := (Sp.sorted_spec [x]).1
  exact List.perm_singleton.1 this

/-- slices.Sort of a row of numbers from a block's beginning on. -/
theorem sort_row {w : World} {g cap : Nat} {cs : Array Value} {l : List Nat} (hb : Blk w g 23 cs) (hl : l.length ≤ 12) (hc : ∀ j, j < l.length → cs[j]? = some (u32v l[j]!)) :
    Calls Tryz.prog 104 #[.slice (some ⟨g, 0, none⟩) l.length cap] w fun e w' => e = .returned (.tuple #[]) ∧
      ∃ cs', Blk w' g 23 cs' ∧ cs'.size = cs.size ∧ (∀ j, j < l.length → cs'[j]? = some (u32v (Sp.sorted l)[j]!)) ∧ w.grownBy w' (some g) := by
  have hH : Holds u32v w g 0 l.toArray := by
    intro j hj
    have hj' : j < l.length := by simpa using hj
    rw [Nat.zero_add]
    refine ⟨(hb.cell j).trans ?_, hb.frozen j⟩
    rw [hc j hj']
    simp [hj']
  have hs := sort_u32 g 0 cap l.toArray w hH (by simpa using hl)
  have hsz : l.toArray.size = l.length := by simp
  rw [hsz] at hs
  have hps : (Sp.sorted l).length = l.length := (Sp.sorted_spec l).1.length_eq
  refine hs.mono ?_
  rintro e w' ⟨rfl, n, rfl⟩
  refine ⟨rfl, _, putRow_heap w n g _ cs _ hb, by simp [Go.Sort.putCells], fun j hj => ?_, putRow_grown w n g _⟩
  have hjc : j < cs.size := by
    rcases Nat.lt_or_ge j cs.size with h | h
    · exact h
    · have := hc j hj; rw [Array.getElem?_eq_none h] at this; cases this
  have hlen : (Sort.insertionSort ltN l.toArray 0 l.length).size = l.length := hps
  simp only [Go.Sort.putCells, Array.getElem?_mapIdx]
  rw [Array.getElem?_eq_getElem hjc]
  simp only [Option.map_some, Nat.zero_le, Nat.zero_add, true_and, Nat.sub_zero]
  rw [if_pos (by rw [hlen]; exact hj)]
  unfold Sp.sorted
  rw [getElem!_pos _ j (by rw [hlen]; exact hj), getElem!_pos _ j (by simpa [hlen] using hj)]
  simp
end Go.Proofs.YtphkggcdfkcidaaGreat

/- The walks of package pool: writes of pages that are clean. -/
namespace Go.Proofs.YtphkggcdfkcidaaGreat
open Go.RowKit Go.Conc

theorem frCells_one (it : Sp.It) (A : Option Addr) (c : Nat) : (frCells it A c).toArray.all (·.oneCell') = true := by simp [frCells, Value.oneCell']
theorem fr_size : (Tryz.prog.info? 102).map (·.size) = some 9 := by kernel_rfl

section
variable {fb : Nat} {cs : Array Value}
/-- A frame, loaded whole. -/
theorem load_frame {W : World} {i : Nat} {L : List Value} (hb : Blk W fb 102 cs) (hL : L.length = 9) (hc : ∀ j, j < 9 → cs[i * 9 + j]? = L[j]?) :
    (loadVar 102 ⟨fb, i * 9, none⟩).run Tryz.prog W = .ok (.agg L.toArray) W := by
  refine run_loadVar_part W _ _ _ _ (fun j u hu => ?_) Tryz.underlying102 rfl (by rw [hL]; exact fr_size)
  have hj : j < 9 := by have := (List.getElem?_eq_some_iff.1 hu).1; omega
  have e : (⟨fb, i * 9, none⟩ : Addr).add j = ⟨fb, i * 9 + j, none⟩ := by cases j <;> simp [Addr.add]
  rw [e, hb.cell, hc j hj, hu]
end

set_option maxRecDepth 100000 in
set_option maxHeartbeats 2000000 in
theorem pool_writes_clean {F R : Foot} {w : World} {gp gd gl at_ base fb cb mb s r : Nat} {v : Value} {cs : Array Value} {fl ids : List Nat} {p : Sp.Pl} (h : IsPlAt F R w gp gd gl at_ base fb cb mb v s r cs fl ids p)
    {l : List Nat} {gx cap : Nat} {xs : Array Value} (hb : Blk w gx 23 xs) (hgx : ¬ F gx) (hl : l.length ≤ 12) (hxs : ∀ j, j < l.length → xs[j]? = some (u32v l[j]!))
    (hin : ∀ n ∈ l, n < 4294967296 ∧ ∃ it, p.find n = some it ∧ it.dirty = false) :
    Calls Tryz.prog 139 #[ptr gp, .slice (some ⟨gx, 0, none⟩) l.length cap] w fun e w' => e = .returned (.int .i64 0) ∧ Turns (only gx) (only gx) w w' := by
  have HS := Lib.hid (sort_row (cap := cap) hb hl hxs)
  have H := Lib.hid h
  have hgl : gx < w.heap.size := hb.lt
  have hperm := (Sp.sorted_spec l).1
  have hin2 : ∀ n ∈ Sp.sorted l, n < 4294967296 ∧ ∃ it, p.find n = some it ∧ it.dirty = false := fun n hn => hin n (hperm.mem_iff.1 hn)
  have hps := hperm.length_eq
  have HIN := Lib.hid hin2
  have hn64 := h.wf.n64
  obtain ⟨i9, hi9, hz9, hz91, hz92⟩ := info_parts fr_info
  clear h hb hxs hin hin2
  go_enter Tryz.func139, Tryz.ntmps139
  go_wp2_with fail
  refine HS.out.mono ?_
  rintro e w1 ⟨rfl, cs1, hb1, hcs1, hc1, hg1⟩
  rw [← hps] at hc1
  have ht1 : Turns (only gx) (only gx) w w1 := (Turns.refl (only gx) w).grown hg1 (fun k hk => .inl (by injection hk with hk; exact hk.symm))
  have H1 := Lib.hid (H.out.keep ht1.size (fun b hb => ht1.block b (H.out.lt b hb) (fun e => hgx (by have e : b = gx := e; rw [← e]; exact hb))))
  have HC1 := Lib.hid hc1
  have HB1 := Lib.hid hb1
  have HG := Lib.hid hgx
  clear HS H hg1 hc1 hb1 hperm hgx
  generalize Sp.sorted l = q at *
  rw [← hps] at hl ⊢
  clear hps
  go_wp2_with fail
  go_loopw [5, 6, 21] (fun v5 v6 i wr => ∃ k : Nat, k ≤ q.length ∧ v5 = .slice none 0 0 ∧ v6 = .int .u64 0 ∧ i = .int .i64 k ∧ Turns noFoot noFoot w1 wr) (fun _ _ i _ => q.length - (intOf i).toNat)
  case atStart => exact ⟨0, by omega, rfl, rfl, rfl, Turns.refl _ _⟩
  case round =>
    obtain ⟨k, hk, rfl, rfl, rfl, htr⟩ := hrel
    have H2 := Lib.hid (H1.out.keep htr.size (fun b hb => htr.block b (H1.out.lt b hb) (fun e => e)))
    have hB2 := HB1.out.turns htr (fun e => e)
    by_cases hlt : k < q.length
    · have hcell := (hB2.cell k).trans (HC1.out k hlt)
      obtain ⟨hid, it, hf, hd⟩ := HIN.out q[k]! (by rw [getElem!_pos _ k hlt]; exact List.getElem_mem hlt)
      have hmeas : k + 1 ≤ q.length := hlt
      clear hB2
      generalize q[k]! = id at *
      obtain ⟨hit, rfl⟩ := Sp.Pl.find_mem hf
      obtain ⟨A, c, hA, hR, hc⟩ := H2.out.fr.item it hit
      have hlt9 := H2.out.wf.idx_lt hit
      have hload := fun (W : World) (hb : Blk W fb 102 cs) => load_frame hb rfl hc
      have HSS : ∀ W, IsPlAt F R W gp gd gl at_ base fb cb mb v s r cs fl ids p → W.cell? ⟨gp, 4, none⟩ = some (.slice (some ⟨fb, 0, none⟩) p.n p.n) ∧ W.cell? ⟨gp, 6, none⟩ = some (.map (some mb)) ∧
          (Instr.lookup 97 (.map (some mb)) (u32v it.page.id) false).run Tryz.prog W = .ok (.int .i64 it.idx) W ∧ Blk W fb 102 cs := fun W h => by
        obtain ⟨c0, c1, c2, c3, c4, c5, c6, c7⟩ := h.cells
        exact ⟨c4, c6, h.look hid hf, h.fr.blk⟩
      have HSSH := Lib.hid HSS
      have HL := Lib.hid hload
      clear HSS hload hc hA hR hf
      go_wp2_with fail
      refine R_begin (fun W => W.cell? ⟨gp, 4, none⟩ = some (.slice (some ⟨fb, 0, none⟩) p.n p.n) ∧ W.cell? ⟨gp, 6, none⟩ = some (.map (some mb)) ∧
          (Instr.lookup 97 (.map (some mb)) (u32v it.page.id) false).run Tryz.prog W = .ok (.int .i64 it.idx) W ∧ Blk W fb 102 cs) (fun j => j == 13) rfl ?_
      have hS := Lib.hid (HSSH.out wr.drew (H2.out.keep (Nat.le_refl _) (fun _ _ => rfl)))
      refine R_take 0 25 (v := ?_) rfl rfl (by rfl) (by kernel_rfl) (fun _ _ _ h => h) hS.out ?_ ?_
      rotate_left
      · intro w hSw; (try dsimp only at hSw); go_simp; (try with_reducible rfl)
      simp only [List.setIfInBounds_toArray, List.set_cons_zero, List.set_cons_succ]
      refine R_take 1 26 (v := ?_) rfl rfl (by rfl) (by kernel_rfl) (fun _ _ _ h => h) hS.out ?_ ?_
      rotate_left
      · intro w hSw; (try dsimp only at hSw); go_simp; (try with_reducible rfl)
      simp only [List.setIfInBounds_toArray, List.set_cons_zero, List.set_cons_succ]
      refine R_take 2 27 (v := ?_) rfl rfl (by rfl) (by kernel_rfl) (fun _ _ _ h => h) hS.out ?_ ?_
      rotate_left
      · intro w hSw; (try dsimp only at hSw); go_simp; (try with_reducible rfl)
      simp only [List.setIfInBounds_toArray, List.set_cons_zero, List.set_cons_succ]
      refine R_take 3 28 (v := ?_) rfl rfl (by rfl) (by kernel_rfl) (fun _ _ _ h => h) hS.out ?_ ?_
      rotate_left
      · intro w hSw; (try dsimp only at hSw); go_simp; (try with_reducible rfl)
      simp only [List.setIfInBounds_toArray, List.set_cons_zero, List.set_cons_succ]
      refine R_take 4 29 (v := ?_) rfl rfl (by rfl) (by kernel_rfl) (fun _ _ _ h => h) hS.out ?_ ?_
      rotate_left
      · intro w hSw; (try dsimp only at hSw); go_simp; (try with_reducible rfl)
      simp only [List.setIfInBounds_toArray, List.set_cons_zero, List.set_cons_succ]
      refine R_take 5 30 (v := ?_) rfl rfl (by rfl) (by kernel_rfl) (fun _ _ _ h => h) hS.out ?_ ?_
      rotate_left
      · intro w hSw; (try dsimp only at hSw); go_simp; (try with_reducible rfl)
      simp only [List.setIfInBounds_toArray, List.set_cons_zero, List.set_cons_succ]
      refine R_take 6 31 (v := ?_) rfl rfl (by rfl) (by kernel_rfl) (fun _ _ _ h => h) hS.out ?_ ?_
      rotate_left
      · intro w hSw; (try dsimp only at hSw); go_simp; (try with_reducible rfl)
      simp only [List.setIfInBounds_toArray, List.set_cons_zero, List.set_cons_succ]
      refine R_take 7 32 (v := ?_) rfl rfl (by rfl) (by kernel_rfl) (fun _ _ _ h => h) hS.out ?_ ?_
      rotate_left
      · intro w hSw; (try dsimp only at hSw); go_simp; (try with_reducible rfl)
      simp only [List.setIfInBounds_toArray, List.set_cons_zero, List.set_cons_succ]
      refine R_take 8 33 (v := ?_) rfl rfl (by rfl) (by kernel_rfl) (fun _ _ _ h => h) hS.out ?_ ?_
      rotate_left
      · intro w hSw; (try dsimp only at hSw); go_simp; (try with_reducible rfl)
      simp only [List.setIfInBounds_toArray, List.set_cons_zero, List.set_cons_succ]
      refine R_take 9 34 (v := ?_) rfl rfl (by rfl) (by kernel_rfl) (fun _ _ _ h => h) hS.out ?_ ?_
      rotate_left
      · intro w hSw; (try dsimp only at hSw); go_simp; (try with_reducible rfl)
      simp only [List.setIfInBounds_toArray, List.set_cons_zero, List.set_cons_succ]
      refine R_take 10 35 (v := ?_) rfl rfl (by rfl) (by kernel_rfl) (fun _ _ _ h => h) hS.out ?_ ?_
      rotate_left
      · intro w hSw; (try dsimp only at hSw); go_simp; (try with_reducible rfl)
      simp only [List.setIfInBounds_toArray, List.set_cons_zero, List.set_cons_succ]
      refine R_take 11 36 (v := .agg (frCells it A c).toArray) rfl rfl (by rfl) (by kernel_rfl) (fun _ _ _ h => h) hS.out ?_ ?_
      · intro w hSw
        exact run_op_load _ _ _ rfl rfl (HL.out w hSw.2.2.2)
      simp only [List.setIfInBounds_toArray, List.set_cons_zero, List.set_cons_succ]
      have hk3 := H2.out.keep (w' := wr.drew.alloc (.cells zeroFr.toArray 102)) (by simp) (fun b hb => Below.heap_alloc wr.drew _ b (H2.out.lt b hb))
      refine R_run 12 9 (v := .pointer (some ⟨wr.drew.heap.size, 0, none⟩)) (w' := wr.drew.alloc (.cells zeroFr.toArray 102)) rfl rfl (by rfl) (by kernel_rfl) (run_op_alloc _ i9 _ _ rfl hi9 hz9 rfl) (fun _ => HSSH.out _ hk3) ?_
      simp only [List.setIfInBounds_toArray, List.set_cons_zero, List.set_cons_succ]
      have hB9 := Blk.new wr.drew 102 zeroFr.toArray
      have ht9 := htr.drew.alloc (.cells zeroFr.toArray 102)
      have hl9 : w1.heap.size ≤ wr.drew.heap.size := htr.size
      obtain ⟨g9, hg9⟩ : ∃ g, g = wr.drew.heap.size := ⟨_, rfl⟩
      obtain ⟨w3, hw3⟩ : ∃ w3, w3 = wr.drew.alloc (.cells zeroFr.toArray 102) := ⟨_, rfl⟩
      rw [← hw3, ← hg9] at hB9 ⊢
      rw [← hw3] at ht9
      rw [← hg9] at hl9
      clear hw3 hg9 hk3 hS HL HSSH
      refine R_store 13 (n := .skip) (w' := w3.setRow g9 (frCells it A c).toArray) rfl rfl (by rfl) (by kernel_rfl) (run_op_store _ _ _ _ _ rfl rfl rfl (run_storeVar_part w3 g9 0 _ _ _ (frCells it A c).toArray hB9 fr_size (by show 0 + 9 ≤ 9; omega) (frCells_one it A c))) (.inl rfl) (fun h => nomatch h) ?_
      refine R_done (by kernel_rfl) ?_ _
      rename_i K9 hK9
      refine hK9 _ _ ?_
      have hB9 := hB9.setRow (frCells it A c).toArray
      have ht9 := ht9.setRow (g := g9) (.inr hl9) (frCells it A c).toArray
      obtain ⟨w4, hw4⟩ : ∃ w4, w4 = w3.setRow g9 (frCells it A c).toArray := ⟨_, rfl⟩
      rw [← hw4] at hB9 ht9 ⊢
      clear hw4
      have f7 := hB9.cell 7
      simp only [frCells, List.getElem?_toArray, List.getElem?_cons_succ, List.getElem?_cons_zero, hd] at f7
      clear hB9 hcell
      go_wp2_with fail
      go_roundw
      case rel => exact ⟨k + 1, hmeas, rfl, rfl, by go_num, ht9⟩
      case measure => simp [intOf]; omega
    · obtain rfl : k = q.length := by omega
      clear hB2
      go_wp2_with fail
      go_ret
      exact ⟨rfl, ht1.trans (htr.wider (fun b h => h.elim) (fun b hb => .inl hb))⟩
end Go.Proofs.YtphkggcdfkcidaaGreat

/- The walks of package pool: drops of a page that is clean. -/
namespace Go.Proofs.YtphkggcdfkcidaaGreat
open Go.RowKit Go.Conc

def DropPost (F R : Foot) (w : World) (gp gd gl at_ base fb cb mb s r : Nat) (fl ids : List Nat) (p : Sp.Pl) (it : Sp.It) (e : Ending) (w' : World) : Prop :=
  e = .returned (.int .i64 0) ∧ ∃ F' v' cs', IsPlAt F' R w' gp gd gl at_ base fb cb mb v' (s + 1) r cs' (fl ++ [it.idx]) (ids.filter (fun x => !(x == it.page.id))) (p.drop it.page.id it.idx) ∧ Turns F F' w w'

set_option maxRecDepth 100000 in
set_option maxHeartbeats 2000000 in
theorem pool_drops_clean {F R : Foot} {w : World} {gp gd gl at_ base fb cb mb s r : Nat} {v : Value} {cs : Array Value} {ids : List Nat} {p : Sp.Pl} (h : IsPlAt F R w gp gd gl at_ base fb cb mb v s r cs p.free ids p)
    {id : Nat} (hid : id < 4294967296) {it : Sp.It} (hf : p.find id = some it) (hd : it.dirty = false) :
    Calls Tryz.prog 120 #[ptr gp, u32v id] w (DropPost F R w gp gd gl at_ base fb cb mb s r p.free ids p it) := by
  obtain ⟨hit, rfl⟩ := Sp.Pl.find_mem hf
  refine calls_of_wpN Tryz.func120 rfl ?_
  simp only [Tryz.ntmps120, List.size_toArray, List.length_cons, List.length_nil, Nat.reduceAdd, Nat.reduceSub, Array.replicate_succ, Array.replicate_zero, List.push_toArray, List.append_toArray, List.nil_append, List.cons_append]
  have hb0 := Blk.new w 23 #[u32v it.page.id]
  have h0 := h.keep (w' := w.alloc (.cells #[u32v it.page.id] 23)) (by simp) (fun b hb => Below.heap_alloc w _ b (h.lt b hb))
  have ht0 := (Turns.refl F w).alloc (.cells #[u32v it.page.id] 23)
  have ht0n := (Turns.refl noFoot w).alloc (.cells #[u32v it.page.id] 23)
  have hFl := h.lt
  refine wpN_seq_k ?_
  intro K hK
  go_wp2_with fail
  have hl0 : w.heap.size ≤ w.heap.size := Nat.le_refl _
  obtain ⟨w1, hw1⟩ : ∃ w1, w1 = w.alloc (.cells #[u32v it.page.id] 23) := ⟨_, rfl⟩
  rw [← hw1] at h0 hb0 ht0 ht0n ⊢
  obtain ⟨b3, hb3⟩ : ∃ b3, b3 = w.heap.size := ⟨_, rfl⟩
  rw [← hb3] at hb0 ⊢
  have hl3 : w.heap.size ≤ b3 := by omega
  clear hw1 hb3 hl0
  have H0 := Lib.hid h0
  have HB0 := Lib.hid hb0
  have c3 := hb0.cell 0
  simp only [List.getElem?_toArray, List.getElem?_cons_zero] at c3
  -- region 1 to 3: writes
  have hb1 := Blk.new w1 23 #[u32v it.page.id]
  have h1 := h0.keep (w' := w1.alloc (.cells #[u32v it.page.id] 23)) (by simp) (fun b hb => Below.heap_alloc w1 _ b (h0.lt b hb))
  have HWR := Lib.hid (pool_writes_clean (l := [it.page.id]) (gx := w1.heap.size) (cap := 1) h1 hb1 (fun hF => by have := h0.lt _ hF; omega) (by simp) (fun j hj => by
    have : j = 0 := by simpa using hj
    subst this; rfl) (fun n hn => by
      rw [List.mem_singleton.1 hn]
      exact ⟨hid, it, hf, hd⟩))
  clear h0 h1 hb0 hb1
  refine wpN_seq_k ?_
  intro K hK
  go_wp2_with fail
  refine HWR.out.mono ?_
  rintro e w2 ⟨rfl, ht2⟩
  have hbl3 : b3 < w1.heap.size := HB0.out.lt
  have hn2 : Turns noFoot noFoot w w2 := by
    have hz := ht0.size
    refine ⟨ht2.os.trans ht0.os, ht2.tape.trans ht0.tape, ht2.output.trans ht0.output, ?_, fun b hb _ => ?_, fun b hb => hb.elim⟩
    · have := ht2.size; simp at this; omega
    · rw [ht2.block b (by simp; omega) (fun e => by have e : b = w1.heap.size := e; omega), Below.heap_alloc w1 _ b (by omega)]
      exact ht0n.block b hb (fun e => e)
  have hb2 := (HB0.out.alloc (.cells #[u32v it.page.id] 23)).turns ht2 (fun e => by have e : b3 = w1.heap.size := e; omega)
  have h2 := h.keep hn2.size (fun b hb => hn2.block b (hFl b hb) (fun e => e))
  clear ht2 HWR HB0 H0 c3 ht0 ht0n
  go_wp2_with fail
  have hkd := fun (W : World) (hs : w2.heap.size ≤ W.heap.size) (hk : ∀ b, F b → W.heap[b]? = w2.heap[b]?) => (h2.keep hs hk).look hid hf
  obtain ⟨c0, c1, c2, c3, c4, c5, c6, c7⟩ := h2.cells
  have cb3 := hb2.cell 0
  simp only [List.getElem?_toArray, List.getElem?_cons_zero] at cb3
  have hS := Lib.hid (⟨c6, cb3, hkd w2.drew (Nat.le_refl _) (fun _ _ => rfl)⟩ : w2.drew.cell? ⟨gp, 6, none⟩ = some (.map (some mb)) ∧ w2.drew.cell? ⟨b3, 0, none⟩ = some (u32v it.page.id) ∧
      (Instr.lookup 97 (.map (some mb)) (u32v it.page.id) false).run Tryz.prog w2.drew = .ok (.int .i64 it.idx) w2.drew)
  clear hkd c0 c1 c2 c3 c4 c5 c6 c7 cb3
  refine wpN_seq_k ?_
  intro K hK
  refine R_begin (fun W => W.cell? ⟨gp, 6, none⟩ = some (.map (some mb)) ∧ W.cell? ⟨b3, 0, none⟩ = some (u32v it.page.id) ∧
      (Instr.lookup 97 (.map (some mb)) (u32v it.page.id) false).run Tryz.prog W = .ok (.int .i64 it.idx) W) (fun _ => false) rfl ?_
  refine R_take 0 14 (v := ?_) rfl rfl (by rfl) (by kernel_rfl) (fun _ _ _ h => h) hS.out ?_ ?_
  rotate_left
  · intro w hSw; (try dsimp only at hSw); go_simp; (try with_reducible rfl)
  simp only [List.setIfInBounds_toArray, List.set_cons_zero, List.set_cons_succ]
  refine R_take 1 15 (v := ?_) rfl rfl (by rfl) (by kernel_rfl) (fun _ _ _ h => h) hS.out ?_ ?_
  rotate_left
  · intro w hSw; (try dsimp only at hSw); go_simp; (try with_reducible rfl)
  simp only [List.setIfInBounds_toArray, List.set_cons_zero, List.set_cons_succ]
  refine R_take 2 16 (v := ?_) rfl rfl (by rfl) (by kernel_rfl) (fun _ _ _ h => h) hS.out ?_ ?_
  rotate_left
  · intro w hSw; (try dsimp only at hSw); go_simp; (try with_reducible rfl)
  simp only [List.setIfInBounds_toArray, List.set_cons_zero, List.set_cons_succ]
  refine R_take 3 17 (v := ?_) rfl rfl (by rfl) (by kernel_rfl) (fun _ _ _ h => h) hS.out ?_ ?_
  rotate_left
  · intro w hSw; (try dsimp only at hSw); go_simp; (try with_reducible rfl)
  simp only [List.setIfInBounds_toArray, List.set_cons_zero, List.set_cons_succ]
  refine R_take 4 18 (v := ?_) rfl rfl (by rfl) (by kernel_rfl) (fun _ _ _ h => h) hS.out ?_ ?_
  rotate_left
  · intro w hSw; (try dsimp only at hSw); go_simp; (try with_reducible rfl)
  simp only [List.setIfInBounds_toArray, List.set_cons_zero, List.set_cons_succ]
  refine R_take 5 19 (v := ?_) rfl rfl (by rfl) (by kernel_rfl) (fun _ _ _ h => h) hS.out ?_ ?_
  rotate_left
  · intro w hSw; (try dsimp only at hSw); go_simp; (try with_reducible rfl)
  simp only [List.setIfInBounds_toArray, List.set_cons_zero, List.set_cons_succ]
  refine R_take 6 6 (v := ?_) rfl rfl (by rfl) (by kernel_rfl) (fun _ _ _ h => h) hS.out ?_ ?_
  rotate_left
  · intro w hSw; (try dsimp only at hSw); go_simp; (try with_reducible rfl)
  simp only [List.setIfInBounds_toArray, List.set_cons_zero, List.set_cons_succ]
  refine R_done (by kernel_rfl) ?_ _
  refine hK _ _ ?_
  have h3 := h2.keep (w' := w2.drew) (Nat.le_refl _) (fun _ _ => rfl)
  have hb3' := hb2.drew
  have hn3 := hn2.drew
  obtain ⟨w3, hw3⟩ : ∃ w3, w3 = w2.drew := ⟨_, rfl⟩
  rw [← hw3] at h3 hb3' hn3 ⊢
  clear hw3 hS h2 hb2 hn2 hK K h
  -- region 5: the frame is made empty
  obtain ⟨c0, c1, c2, c3, c4, c5, c6, c7⟩ := h3.cells
  have hbz : ∀ W, (Instr.build 102 #[]).run Tryz.prog W = .ok (.agg zeroFr.toArray) W := fun W => by kernel_rfl
  have hlt9 := h3.wf.idx_lt hit
  have hn64 := h3.wf.n64
  have H3 := Lib.hid h3
  have hcs := h3.fr.size
  clear c0 c1 c2 c3 c5 c6 c7 h3
  have hB3 := H3.out.fr.blk
  have HST := run_storeVar_part (P := Tryz.prog) w3 fb (it.idx * 9) 102 102 cs zeroFr.toArray hB3 fr_size (by rw [hcs]; show it.idx * 9 + 9 ≤ p.n * 9; omega) (by simp [zeroFr, Value.oneCell'])
  refine wpN_seq_k ?_
  intro K hK
  go_wp2_with (first | ((with_reducible refine wpList_skip (w' := w3.setRow fb (partRow cs (it.idx * 9) zeroFr)) rfl rfl ?_ ?_); exact run_op_store _ _ _ ⟨fb, it.idx * 9, none⟩ (.agg zeroFr.toArray) rfl rfl rfl HST))
  clear HST
  obtain ⟨f1, f2, f3, f4, f5⟩ := H3.out.foot
  obtain ⟨n1, n2, n3, n4, n5, n6⟩ := H3.out.ne
  obtain ⟨o1, o2, o3, o4⟩ := H3.out.own_ne
  have hB4 := hB3.setRow (partRow cs (it.idx * 9) zeroFr)
  have hk4 : ∀ b, b ≠ fb → (w3.setRow fb (partRow cs (it.idx * 9) zeroFr)).heap[b]? = w3.heap[b]? := fun b hb => setRow_other w3 fb b _ hb
  have ht4 := (Turns.refl F w3).setRow (g := fb) (.inl f2) (partRow cs (it.idx * 9) zeroFr)
  have hb34 : b3 ≠ fb := fun e => by have := hFl fb f2; omega
  have hb4' := hb3'.keep (hk4 b3 hb34)
  have hP4 := H3.out.blk.keep (hk4 gp n1)
  have hM4 := H3.out.map.keep (hk4 mb (Ne.symm n5))
  obtain ⟨w4, hw4⟩ : ∃ w4, w4 = w3.setRow fb (partRow cs (it.idx * 9) zeroFr) := ⟨_, rfl⟩
  rw [← hw4] at hB4 hk4 ht4 hb4' hP4 hM4 ⊢
  clear hw4
  -- region 6: delete
  have c6 := hP4.cell 6
  simp only [plCells, List.getElem?_toArray, List.getElem?_cons_succ, List.getElem?_cons_zero] at c6
  have cb3 := hb4'.cell 0
  simp only [List.getElem?_toArray, List.getElem?_cons_zero] at cb3
  have hS := Lib.hid (⟨c6, cb3⟩ : w4.drew.cell? ⟨gp, 6, none⟩ = some (.map (some mb)) ∧ w4.drew.cell? ⟨b3, 0, none⟩ = some (u32v it.page.id))
  clear c6 cb3
  refine wpN_seq_k ?_
  intro K hK
  refine R_begin (fun W => W.cell? ⟨gp, 6, none⟩ = some (.map (some mb)) ∧ W.cell? ⟨b3, 0, none⟩ = some (u32v it.page.id)) (fun _ => false) rfl ?_
  refine R_take 0 27 (v := ?_) rfl rfl (by rfl) (by kernel_rfl) (fun _ _ _ h => h) hS.out ?_ ?_
  rotate_left
  · intro w hSw; (try dsimp only at hSw); go_simp; (try with_reducible rfl)
  simp only [List.setIfInBounds_toArray, List.set_cons_zero, List.set_cons_succ]
  refine R_take 1 28 (v := ?_) rfl rfl (by rfl) (by kernel_rfl) (fun _ _ _ h => h) hS.out ?_ ?_
  rotate_left
  · intro w hSw; (try dsimp only at hSw); go_simp; (try with_reducible rfl)
  simp only [List.setIfInBounds_toArray, List.set_cons_zero, List.set_cons_succ]
  refine R_take 2 29 (v := ?_) rfl rfl (by rfl) (by kernel_rfl) (fun _ _ _ h => h) hS.out ?_ ?_
  rotate_left
  · intro w hSw; (try dsimp only at hSw); go_simp; (try with_reducible rfl)
  simp only [List.setIfInBounds_toArray, List.set_cons_zero, List.set_cons_succ]
  refine R_take 3 30 (v := ?_) rfl rfl (by rfl) (by kernel_rfl) (fun _ _ _ h => h) hS.out ?_ ?_
  rotate_left
  · intro w hSw; (try dsimp only at hSw); go_simp; (try with_reducible rfl)
  simp only [List.setIfInBounds_toArray, List.set_cons_zero, List.set_cons_succ]
  refine R_take 4 31 (v := ?_) rfl rfl (by rfl) (by kernel_rfl) (fun _ _ _ h => h) hS.out ?_ ?_
  rotate_left
  · intro w hSw; (try dsimp only at hSw); go_simp; (try with_reducible rfl)
  simp only [List.setIfInBounds_toArray, List.set_cons_zero, List.set_cons_succ]
  obtain ⟨w5, hdel, hM5, hg5⟩ := UMap.del (w := w4.drew) hM4.drew Tryz.underlying23 Tryz.underlying97 hid (i := it.idx) (by simp [Sp.Pl.lk, hf]) 0
  have hP5 := hP4.drew.grown hg5 (fun e => n3 (by injection e))
  have hbm : b3 ≠ mb := fun e => by have := hFl mb f4; omega
  have hb5 := hb4'.drew.grown hg5 (fun e => hbm (by injection e))
  have ht5 := ht4.drew.grown hg5 (fun k hk => .inl (by injection hk with hk; rw [← hk]; exact f4))
  have hB5 := hB4.drew.grown hg5 (fun e => n5 (by injection e))
  refine R_store 5 (n := .value (.tuple #[])) (w' := w5) rfl rfl (by rfl) (by kernel_rfl) (by go_simp) (.inr ⟨_, rfl⟩) (fun _ => ⟨(hP5.cell 6).trans rfl, (hb5.cell 0).trans rfl⟩) ?_
  refine R_done (by kernel_rfl) ?_ _
  refine hK _ _ ?_
  have hsz9 : it.idx * 9 + 9 ≤ cs.size := by omega
  have h5 := H3.out.drop (w' := w5) hit ht5.size (fun b hb h1 h2 => (hg5.block b (by have := H3.out.lt b hb; have := ht4.size; simp; omega) (fun e => h2 (by injection e))).trans (hk4 b h1)) hB5 (Framed.part rfl hsz9) (fun j hj => part_at rfl hsz9 hj) hM5
  have hc5 := h5.chan
  have hrow5 := h5.row
  have hF5 := h5.lt
  have c7 := hP5.cell 7
  have f7 := hP5.frozen 7
  simp only [plCells, List.getElem?_toArray, List.getElem?_cons_succ, List.getElem?_cons_zero] at c7
  have hn3v : v.ownBlock ≠ some b3 := fun e => by have := hFl b3 (f5 b3 e); omega
  have HDR := Lib.hid (delete_row (w := w5) (asks_drops it.page.id b3) hrow5 hb5 hn3v)
  have H5 := Lib.hid h5
  have hlen := H3.out.wf.len
  have hit1 : 0 < p.items.length := List.length_pos_of_mem hit
  clear h5 hrow5 hdel hg5 hM5 hM4 hP4 hb4' ht4 hB4 hk4 hB3 hb3' hS hK K hB5 hc5 c4 hb5
  refine wpN_seq_k ?_
  intro K hK
  go_wp2_with fail
  refine HDR.out.mono ?_
  rintro e w6 ⟨v', rfl, r1, r2, r3⟩
  have ht6 : Turns F F w3 w6 := ht5.grown r2 (fun k hk => .inl (f5 k hk))
  have hP6 := hP5.grown r2 (fun e => o1 e.symm)
  have c7 := hP6.cell 7
  have f7 := hP6.frozen 7
  simp only [plCells, List.getElem?_toArray, List.getElem?_cons_succ, List.getElem?_cons_zero] at c7
  have hrd := Lib.hid (H5.out.rowed (w' := w6.setCell ⟨gp, 7, none⟩ v') (v' := v') (ids' := ids.filter (fun x => !(x == it.page.id))) (by have := r2.size; simpa [World.setCell] using this)
    (fun b hb h1 h2 => (Below.heap_setCell w6 _ _ b h1).trans (r2.block b (hF5 b hb) (fun e => h2 e.symm))) (hP6.set_ 7 v')
    (row_keep r1 (fun b hb => Below.heap_setCell w6 _ _ b (fun e => o1 (by rw [r3 b hb, e])))) (fun b hb => .inl (r3 b hb)))
  have ht7 := ht6.setCell (p := ⟨gp, 7, none⟩) (.inl f1) v'
  obtain ⟨Av, nv, cv, rfl⟩ : ∃ A n c, v' = .slice A n c := by
    rcases r1.2 with ⟨h0, _⟩ | ⟨g6, c6, _, h0, _⟩
    · exact ⟨_, _, _, h0⟩
    · exact ⟨_, _, _, h0⟩
  clear r1 r2 HDR hP6 hP5 H5 H3 ht6
  go_wp2_with fail
  obtain ⟨w7, hw7⟩ : ∃ w7, w7 = w6.setCell ⟨gp, 7, none⟩ (.slice Av nv cv) := ⟨_, rfl⟩
  rw [← hw7] at hrd ht7 ⊢
  clear hw7
  have hc7 := hrd.out.chan
  obtain ⟨c0, c1, c2, c3, c4, c5, c6, c7'⟩ := hrd.out.cells
  clear c0 c1 c2 c3 c4 c6 c7'
  refine wpN_seq ?_
  refine wpN_region ?_
  change wpT _ _ _ [0, 1, 2, 3, 4, 5] _ _
  refine T_value 0 41 (v := ptr gp) (w' := w7) rfl rfl (by rfl) (by go_simp) ?_
  simp only [List.setIfInBounds_toArray, List.set_cons_zero, List.set_cons_succ]
  refine T_value 1 42 (v := ptr gp) (w' := w7) rfl rfl (by rfl) (by go_simp) ?_
  simp only [List.setIfInBounds_toArray, List.set_cons_zero, List.set_cons_succ]
  refine T_value 2 43 (v := .pointer (some ⟨gp, 5, none⟩)) (w' := w7) rfl rfl (by rfl) (by go_simp) ?_
  simp only [List.setIfInBounds_toArray, List.set_cons_zero, List.set_cons_succ]
  refine T_value 3 44 (v := .chan (some cb)) (w' := w7) rfl rfl (by rfl) (by go_simp) ?_
  simp only [List.setIfInBounds_toArray, List.set_cons_zero, List.set_cons_succ]
  refine T_value 4 45 (v := .int .i64 it.idx) (w' := w7) rfl rfl (by rfl) (by go_simp) ?_
  simp only [List.setIfInBounds_toArray, List.set_cons_zero, List.set_cons_succ]
  refine T_send 5 (c := cb) (cap := p.n) (buf := (p.free.map fun (i : Nat) => Value.int .i64 (i : Int)).toArray) (s := s) (r := r) (tm := false) (v := .int .i64 it.idx) (z := .tuple #[]) (w' := w7) rfl rfl (by rfl) (by simp [execOp, scase, Act.eval]) hc7 (by simp; omega) ?_
  refine T_done ?_
  simp only [Exit.then]
  refine wpN_of_wp ?_
  have hch := hrd.out.chans (fl' := p.free ++ [it.idx]) (s' := s + 1) (r' := r)
  change IsPlAt _ _ (w7.setChan cb p.n _ _ _ _ _) _ _ _ _ _ _ _ _ _ _ _ _ _ _ _ at hch
  have hgr := grown_setChan w7 cb p.n ((p.free ++ [it.idx]).map fun (i : Nat) => Value.int .i64 (i : Int)).toArray false (s + 1) r false
  have ht8 := ht7.grown hgr (fun k hk => .inl (by injection hk with hk; rw [← hk]; exact f3))
  have eb : ((p.free.map fun (i : Nat) => Value.int .i64 (i : Int)).toArray).push (.int .i64 (it.idx : Int)) = ((p.free ++ [it.idx]).map fun (i : Nat) => Value.int .i64 (i : Int)).toArray := by simp
  rw [eb]
  have HCH := Lib.hid hch
  clear hch hgr hrd hc7 ht7 eb
  generalize w7.setChan cb p.n ((p.free ++ [it.idx]).map fun (i : Nat) => Value.int .i64 (i : Int)).toArray false (s + 1) r false = w8 at *
  go_wp2_with fail
  go_ret
  refine ⟨rfl, _, _, _, HCH.out, ?_⟩
  have hn3z := hn3.size
  refine ⟨ht8.os.trans hn3.os, ht8.tape.trans hn3.tape, ht8.output.trans hn3.output, Nat.le_trans hn3z ht8.size, fun b hb hn => ?_, fun b hb => ?_⟩
  · rw [ht8.block b (by omega) hn]; exact hn3.block b hb (fun e => e)
  · rcases hb with hb | hb
    · exact .inl hb
    · exact .inl (f5 b (r3 b hb))
end Go.Proofs.YtphkggcdfkcidaaGreat

/- The walks of package pool: take. -/
namespace Go.Proofs.YtphkggcdfkcidaaGreat
open Go.RowKit Go.Conc

def TakePost (F R : Foot) (w : World) (gp gd gl at_ base fb cb mb : Nat) (i : Nat) (fl ids : List Nat) (p : Sp.Pl) (e : Ending) (w' : World) : Prop :=
  e = .returned (.tuple #[.int .i64 i, .int .i64 0]) ∧ ∃ F' v' s' r' cs', IsPlAt F' R w' gp gd gl at_ base fb cb mb v' s' r' cs' fl ids p ∧ Turns F F' w w'

theorem chan_pop (i : Nat) (rest : List Nat) : ((i :: rest).map fun (i : Nat) => Value.int .i64 (i : Int)).toArray.getD 0 undef = .int .i64 i ∧
    ((i :: rest).map fun (i : Nat) => Value.int .i64 (i : Int)).toArray.extract 1 ((i :: rest).map fun (i : Nat) => Value.int .i64 (i : Int)).toArray.size = (rest.map fun (i : Nat) => Value.int .i64 (i : Int)).toArray := by
  constructor
  · simp
  · simp only [List.map_cons, List.extract_toArray, List.size_toArray, List.length_cons, List.length_map]
    congr 1
    simp [List.take_of_length_le]

set_option maxRecDepth 100000 in
set_option maxHeartbeats 2000000 in
theorem pool_take_free {F R : Foot} {w : World} {gp gd gl at_ base fb cb mb s r : Nat} {v : Value} {cs : Array Value} {ids : List Nat} {p : Sp.Pl} (h : IsPlAt F R w gp gd gl at_ base fb cb mb v s r cs p.free ids p)
    {i : Nat} {rest : List Nat} (hfree : p.free = i :: rest) :
    Calls Tryz.prog 94 #[ptr gp] w (TakePost F R w gp gd gl at_ base fb cb mb i rest ids p) := by
  refine calls_of_wpN Tryz.func94 rfl ?_
  simp only [Tryz.ntmps94, List.size_toArray, List.length_cons, List.length_nil, Nat.reduceAdd, Nat.reduceSub, Array.replicate_succ, Array.replicate_zero, List.push_toArray, List.append_toArray, List.nil_append, List.cons_append]
  obtain ⟨c0, c1, c2, c3, c4, c5, c6, c7⟩ := h.cells
  have hc := h.chan
  rw [hfree] at hc
  have hch := h.chans (fl' := rest) (s' := s) (r' := r + 1)
  have hgr := grown_setChan w cb p.n (rest.map fun (i : Nat) => Value.int .i64 (i : Int)).toArray false s (r + 1) false
  have ht := (Turns.refl F w).grown hgr (fun k hk => .inl (by injection hk with hk; rw [← hk]; exact h.foot.2.2.1))
  have HCH := Lib.hid hch
  clear c0 c1 c2 c3 c4 c6 c7 hch hgr h
  refine wpN_seq_k ?_
  intro K hK
  go_wp2_with fail
  refine wpN_seq ?_
  refine wpN_seq_k ?_
  intro K hK
  go_wp2_with fail
  refine wpN_seq ?_
  refine wpN_region ?_
  change wpT _ _ _ [0, 1, 2] _ _
  refine T_select_recv 0 12 (c := cb) (cap := p.n) (buf := ((i :: rest).map fun (i : Nat) => Value.int .i64 (i : Int)).toArray) (s := s) (r := r) (closed := false) (tm := false) (z := .int .i64 0) (w' := w) rfl rfl (by rfl) ?_ hc (by simp) ?_
  · go_simp
    rfl
  simp only [List.setIfInBounds_toArray, List.set_cons_zero, List.set_cons_succ]
  obtain ⟨e1, e2⟩ := chan_pop i rest
  rw [e1, e2]
  clear e1 e2 hc c5
  generalize w.setChan cb p.n (rest.map fun (i : Nat) => Value.int .i64 (i : Int)).toArray false s (r + 1) false = w8 at *
  refine T_value 1 13 (v := .int .i64 0) (w' := w8) rfl rfl (by rfl) (by go_simp) ?_
  simp only [List.setIfInBounds_toArray, List.set_cons_zero, List.set_cons_succ]
  refine T_value 2 14 (v := .bool true) (w' := w8) rfl rfl (by rfl) (by go_simp) ?_
  simp only [List.setIfInBounds_toArray, List.set_cons_zero, List.set_cons_succ]
  refine T_done ?_
  simp only [Exit.then]
  refine wpN_of_wp ?_
  go_wp2_with fail
  go_ret2
  exact ⟨rfl, _, _, _, _, _, HCH.out, ht⟩

theorem row_cell {w : World} {b cap : Nat} {ids : List Nat} (h : w.ownsRow 0 23 1 (.slice (some ⟨b, 0, none⟩) ids.length cap) ids.length (ids.map fun (i : Nat) => Value.int .u32 (i : Int))) {k : Nat} (hk : k < ids.length) : w.cell? ⟨b, k, none⟩ = some (u32v ids[k]!) := by
  rcases h.2 with ⟨h0, _⟩ | ⟨g, c, cur, h0, _, hh, h1, h2, h3, h4⟩
  · cases h0
  · injection h0 with a1 a2 a3
    injection a1 with a1
    injection a1 with a1
    subst a1
    rw [cell_of_row w b k cur _ (0, 0) hh]
    have := congrArg (fun l => l[k]?) h4
    simp only [Nat.mul_one, List.getElem?_take, hk, if_true] at this
    rw [Array.getElem?_toList] at this
    rw [this]
    simp [hk]

/-- What holds behind the drop of a page: what X says of it. -/
def DropX (X : Sp.It → Foot → World → World → Prop) (R : Foot) (w : World) (gp gd gl at_ base fb cb mb : Nat) (fl ids : List Nat) (p : Sp.Pl) (it : Sp.It) (e : Ending) (w' : World) : Prop :=
  e = .returned (.int .i64 0) ∧ ∃ F' v' s' r' cs', IsPlAt F' R w' gp gd gl at_ base fb cb mb v' s' r' cs' (fl ++ [it.idx]) (ids.filter (fun x => !(x == it.page.id))) (p.drop it.page.id it.idx) ∧ X it F' w w'

/-- take, where no frame is free: the first of the row that is not pinned goes. -/
def ScanPost (X : Sp.It → Foot → World → World → Prop) (R : Foot) (w : World) (gp gd gl at_ base fb cb mb : Nat) (ids : List Nat) (p : Sp.Pl) (e : Ending) (w' : World) : Prop :=
  (e = .returned (.tuple #[.int .i64 0, .int .i64 4]) ∧ (∀ n ∈ ids, ∃ it, p.find n = some it ∧ 0 < it.pins) ∧ Turns noFoot noFoot w w') ∨
  ∃ pre it post, ids = pre ++ it.page.id :: post ∧ (∀ n ∈ pre, ∃ y, p.find n = some y ∧ 0 < y.pins) ∧ p.find it.page.id = some it ∧ it.pins = 0 ∧ e = .returned (.tuple #[.int .i64 it.idx, .int .i64 0]) ∧
    ∃ W w1 F' v' s' r' cs', Turns noFoot noFoot w W ∧ X it F' W w1 ∧ IsPlAt F' R w' gp gd gl at_ base fb cb mb v' s' r' cs' [] (ids.filter (fun x => !(x == it.page.id))) (p.drop it.page.id it.idx) ∧ Turns (only cb) (only cb) w1 w'

set_option maxRecDepth 100000 in
set_option maxHeartbeats 4000000 in
theorem pool_take_scan {F R : Foot} {w : World} {gp gd gl at_ base fb cb mb s r : Nat} {v : Value} {cs : Array Value} {ids : List Nat} {p : Sp.Pl} (h : IsPlAt F R w gp gd gl at_ base fb cb mb v s r cs p.free ids p)
    (hfree : p.free = []) (hin : ∀ n ∈ ids, n < 4294967296 ∧ ∃ it, p.find n = some it) (hl : ids.length ≤ 64) (X : Sp.It → Foot → World → World → Prop)
    (hD : ∀ it ∈ p.items, it.pins = 0 → ∀ W, IsPlAt F R W gp gd gl at_ base fb cb mb v s r cs p.free ids p → Turns noFoot noFoot w W → Calls Tryz.prog 120 #[ptr gp, u32v it.page.id] W (DropX X R W gp gd gl at_ base fb cb mb p.free ids p it)) :
    Calls Tryz.prog 94 #[ptr gp] w (ScanPost X R w gp gd gl at_ base fb cb mb ids p) := by
  refine calls_of_wpN Tryz.func94 rfl ?_
  simp only [Tryz.ntmps94, List.size_toArray, List.length_cons, List.length_nil, Nat.reduceAdd, Nat.reduceSub, Array.replicate_succ, Array.replicate_zero, List.push_toArray, List.append_toArray, List.nil_append, List.cons_append]
  have hc := h.chan
  rw [hfree] at hc
  obtain ⟨c0, c1, c2, c3, c4, c5, c6, c7⟩ := h.cells
  have H := Lib.hid h
  have HD := Lib.hid hD
  have HIN := Lib.hid hin
  have hids : ids = [] ∨ ∃ b cap, v = .slice (some ⟨b, 0, none⟩) ids.length cap ∧ ids.length ≤ cap := by
    rcases h.row.2 with ⟨_, h0⟩ | ⟨g, cap, cur, h0, _, hh, h1, h2, h3, h4⟩
    · exact .inl (List.eq_nil_of_length_eq_zero h0)
    · exact .inr ⟨g, cap, h0, h1⟩
  have hv : ∃ A n c, v = .slice A n c ∧ n = ids.length := by
    rcases h.row.2 with ⟨h0, h1⟩ | ⟨g, cap, cur, h0, _⟩
    · exact ⟨_, _, _, h0, h1.symm⟩
    · exact ⟨_, _, _, h0, rfl⟩
  obtain ⟨Av, nv, cv, rfl, rfl⟩ := hv
  clear c0 c1 c2 c3 c4 c6 h hD hin
  refine wpN_seq_k ?_
  intro K hK
  go_wp2_with fail
  refine wpN_seq ?_
  refine wpN_seq_k ?_
  intro K hK
  go_wp2_with fail
  refine wpN_seq ?_
  refine wpN_region ?_
  change wpT _ _ _ [0, 1, 2] _ _
  refine T_select_default 0 12 (c := cb) (cap := p.n) (s := s) (r := r) (tm := false) (z := .int .i64 0) (w' := w) rfl rfl (by rfl) ?_ hc ?_
  · go_simp
    rfl
  simp only [List.setIfInBounds_toArray, List.set_cons_zero, List.set_cons_succ]
  refine T_value 1 13 (v := .int .i64 (-1)) (w' := w) rfl rfl (by rfl) (by go_simp) ?_
  simp only [List.setIfInBounds_toArray, List.set_cons_zero, List.set_cons_succ]
  refine T_value 2 14 (v := .bool false) (w' := w) rfl rfl (by rfl) (by go_simp) ?_
  simp only [List.setIfInBounds_toArray, List.set_cons_zero, List.set_cons_succ]
  refine T_done ?_
  simp only [Exit.then]
  refine wpN_of_wp ?_
  go_wp2_with fail
  refine wpN_seq ?_
  refine wpN_seq_k ?_
  intro K hK
  go_wp2_with fail
  refine wpN_block ?_
  refine wpN_loop (fun a wr => ∃ (k : Nat) (u6 u23 u24 u25 u26 u27 u28 u29 u30 u31 u32 u33 u34 u35 u36 u37 u38 u39 u51 : Value), k ≤ ids.length ∧ a = { tmps := #[ptr gp, undef, .int .i64 0, .int .i64 0, undef, undef, u6, undef, ptr gp, .pointer (some ⟨gp, 0, none⟩), .pointer (some ⟨gp, 5, none⟩), .chan (some cb), .tuple #[goInt (-1), .bool false, .int .i64 0], .int .i64 (-1), .bool false, undef, undef, ptr gp, .pointer (some ⟨gp, 0, none⟩), .pointer (some ⟨gp, 7, none⟩), .slice Av ids.length cv, .int .i64 ids.length, .int .i64 (k : Nat), u23, u24, u25, u26, u27, u28, u29, u30, u31, u32, u33, u34, u35, u36, u37, u38, u39, undef, undef, undef, undef, undef, undef, undef, undef, undef, undef, undef, u51], defers := [] } ∧ Turns noFoot noFoot w wr ∧ ∀ n ∈ ids.take k, ∃ it, p.find n = some it ∧ 0 < it.pins) (fun a _ => ids.length - (intOf (a.tmps.getD 22 undef)).toNat) ?_ ?_
  · exact ⟨0, undef, undef, undef, undef, undef, undef, undef, undef, undef, undef, undef, undef, undef, undef, undef, undef, undef, undef, undef, Nat.zero_le _, rfl, Turns.refl _ _, by simp⟩
  rintro a wr ⟨k, u6, u23, u24, u25, u26, u27, u28, u29, u30, u31, u32, u33, u34, u35, u36, u37, u38, u39, u51, hk, rfl, htr, hpre⟩
  have hkp := H.out.keep htr.size (fun b hb => htr.block b (H.out.lt b hb) (fun e => e))
  by_cases hlt : k < ids.length
  · rcases hids with h0 | ⟨rb, rc, hv, hcap⟩
    · rw [h0] at hlt; exact absurd hlt (by simp)
    obtain ⟨rfl, rfl⟩ : Av = some ⟨rb, 0, none⟩ ∧ cv = rc := by injection hv with a1 a2 a3; exact ⟨a1, a3⟩
    have hck : wr.cell? ⟨rb, k, none⟩ = some (u32v ids[k]!) := by
      have := row_cell hkp.row hlt
      exact this
    obtain ⟨hid, it, hf⟩ := HIN.out ids[k]! (by rw [getElem!_pos _ k hlt]; exact List.getElem_mem hlt)
    have htk : ids.take (k + 1) = ids.take k ++ [ids[k]!] := by rw [List.take_succ_eq_append_getElem hlt, getElem!_pos _ k hlt]
    have hsplit : ids = ids.take k ++ ids[k]! :: ids.drop (k + 1) := by
      conv => lhs; rw [← List.take_append_drop k ids, List.drop_eq_getElem_cons hlt]
      rw [getElem!_pos _ k hlt]
    have hmeas : k + 1 ≤ ids.length := hlt
    have HTK := Lib.hid htk
    have HSP := Lib.hid hsplit
    clear htk hsplit
    generalize ids[k]! = id at *
    obtain ⟨hit, rfl⟩ := Sp.Pl.find_mem hf
    clear hv
    refine wpN_seq_k ?_
    intro K hK
    go_wp2_with fail
    refine wpN_seq_k ?_
    intro K hK
    go_wp2_with fail
    refine wpN_seq ?_
    refine wpN_block ?_
    refine wpN_seq_k ?_
    intro K hK
    go_wp2_with fail
    obtain ⟨c0, c1, c2, c3, c4, c5', c6, c7'⟩ := hkp.cells
    have cp := hkp.pins hit
    have hlk := (hkp.keep (w' := wr.drew) (Nat.le_refl _) (fun _ _ => rfl)).look hid hf
    have hlt9 := hkp.wf.idx_lt hit
    have hn64 := hkp.wf.n64
    have hS := Lib.hid (⟨c4, c6, hlk, cp⟩ : wr.drew.cell? ⟨gp, 4, none⟩ = some (.slice (some ⟨fb, 0, none⟩) p.n p.n) ∧ wr.drew.cell? ⟨gp, 6, none⟩ = some (.map (some mb)) ∧
      (Instr.lookup 97 (.map (some mb)) (u32v it.page.id) false).run Tryz.prog wr.drew = .ok (.int .i64 it.idx) wr.drew ∧ wr.drew.cell? ⟨fb, it.idx * 9 + 6, none⟩ = some (.int .i64 it.pins))
    have HKP := Lib.hid hkp
    clear c0 c1 c2 c3 c4 c5' c6 c7' cp hlk hkp hck
    refine wpN_seq_k ?_
    intro K hK
    go_wp2_with fail
    refine R_begin (fun W => W.cell? ⟨gp, 4, none⟩ = some (.slice (some ⟨fb, 0, none⟩) p.n p.n) ∧ W.cell? ⟨gp, 6, none⟩ = some (.map (some mb)) ∧
      (Instr.lookup 97 (.map (some mb)) (u32v it.page.id) false).run Tryz.prog W = .ok (.int .i64 it.idx) W ∧ W.cell? ⟨fb, it.idx * 9 + 6, none⟩ = some (.int .i64 it.pins)) (fun _ => false) rfl ?_
    refine R_take 0 26 (v := ?_) rfl rfl (by rfl) (by kernel_rfl) (fun _ _ _ h => h) hS.out ?_ ?_
    rotate_left
    · intro w hSw; (try dsimp only at hSw); go_simp; (try with_reducible rfl)
    simp only [List.setIfInBounds_toArray, List.set_cons_zero, List.set_cons_succ]
    refine R_take 1 27 (v := ?_) rfl rfl (by rfl) (by kernel_rfl) (fun _ _ _ h => h) hS.out ?_ ?_
    rotate_left
    · intro w hSw; (try dsimp only at hSw); go_simp; (try with_reducible rfl)
    simp only [List.setIfInBounds_toArray, List.set_cons_zero, List.set_cons_succ]
    refine R_take 2 28 (v := ?_) rfl rfl (by rfl) (by kernel_rfl) (fun _ _ _ h => h) hS.out ?_ ?_
    rotate_left
    · intro w hSw; (try dsimp only at hSw); go_simp; (try with_reducible rfl)
    simp only [List.setIfInBounds_toArray, List.set_cons_zero, List.set_cons_succ]
    refine R_take 3 29 (v := ?_) rfl rfl (by rfl) (by kernel_rfl) (fun _ _ _ h => h) hS.out ?_ ?_
    rotate_left
    · intro w hSw; (try dsimp only at hSw); go_simp; (try with_reducible rfl)
    simp only [List.setIfInBounds_toArray, List.set_cons_zero, List.set_cons_succ]
    refine R_take 4 30 (v := ?_) rfl rfl (by rfl) (by kernel_rfl) (fun _ _ _ h => h) hS.out ?_ ?_
    rotate_left
    · intro w hSw; (try dsimp only at hSw); go_simp; (try with_reducible rfl)
    simp only [List.setIfInBounds_toArray, List.set_cons_zero, List.set_cons_succ]
    refine R_take 5 31 (v := ?_) rfl rfl (by rfl) (by kernel_rfl) (fun _ _ _ h => h) hS.out ?_ ?_
    rotate_left
    · intro w hSw; (try dsimp only at hSw); go_simp; (try with_reducible rfl)
    simp only [List.setIfInBounds_toArray, List.set_cons_zero, List.set_cons_succ]
    refine R_take 6 32 (v := ?_) rfl rfl (by rfl) (by kernel_rfl) (fun _ _ _ h => h) hS.out ?_ ?_
    rotate_left
    · intro w hSw; (try dsimp only at hSw); go_simp; (try with_reducible rfl)
    simp only [List.setIfInBounds_toArray, List.set_cons_zero, List.set_cons_succ]
    refine R_take 7 33 (v := ?_) rfl rfl (by rfl) (by kernel_rfl) (fun _ _ _ h => h) hS.out ?_ ?_
    rotate_left
    · intro w hSw; (try dsimp only at hSw); go_simp; (try with_reducible rfl)
    simp only [List.setIfInBounds_toArray, List.set_cons_zero, List.set_cons_succ]
    refine R_take 8 34 (v := ?_) rfl rfl (by rfl) (by kernel_rfl) (fun _ _ _ h => h) hS.out ?_ ?_
    rotate_left
    · intro w hSw; (try dsimp only at hSw); go_simp; (try with_reducible rfl)
    simp only [List.setIfInBounds_toArray, List.set_cons_zero, List.set_cons_succ]
    refine R_take 9 35 (v := ?_) rfl rfl (by rfl) (by kernel_rfl) (fun _ _ _ h => h) hS.out ?_ ?_
    rotate_left
    · intro w hSw; (try dsimp only at hSw); go_simp; (try with_reducible rfl)
    simp only [List.setIfInBounds_toArray, List.set_cons_zero, List.set_cons_succ]
    refine R_take 10 36 (v := ?_) rfl rfl (by rfl) (by kernel_rfl) (fun _ _ _ h => h) hS.out ?_ ?_
    rotate_left
    · intro w hSw; (try dsimp only at hSw); go_simp; (try with_reducible rfl)
    simp only [List.setIfInBounds_toArray, List.set_cons_zero, List.set_cons_succ]
    refine R_take 11 37 (v := ?_) rfl rfl (by rfl) (by kernel_rfl) (fun _ _ _ h => h) hS.out ?_ ?_
    rotate_left
    · intro w hSw; (try dsimp only at hSw); go_simp; (try with_reducible rfl)
    simp only [List.setIfInBounds_toArray, List.set_cons_zero, List.set_cons_succ]
    refine R_take 12 38 (v := ?_) rfl rfl (by rfl) (by kernel_rfl) (fun _ _ _ h => h) hS.out ?_ ?_
    rotate_left
    · intro w hSw; (try dsimp only at hSw); go_simp; (try with_reducible rfl)
    simp only [List.setIfInBounds_toArray, List.set_cons_zero, List.set_cons_succ]
    refine R_take 13 39 (v := .bool (decide (0 < it.pins))) rfl rfl (by rfl) (by kernel_rfl) (fun _ _ _ h => h) hS.out ?_ ?_
    · intro w hSw; (try dsimp only at hSw); go_simp
    simp only [List.setIfInBounds_toArray, List.set_cons_zero, List.set_cons_succ]
    refine R_done (by kernel_rfl) ?_ _
    rename_i K9 hK9
    refine hK9 _ _ ?_
    have htd := htr.drew
    have hkd := HKP.out.keep (w' := wr.drew) (Nat.le_refl _) (fun _ _ => rfl)
    clear hS HKP htr
    generalize wr.drew = wd at *
    have HKD := Lib.hid hkd
    clear hkd
    go_wp2_with fail
    · rename_i hp
      refine wpN_of_wp ?_
      go_wp2_with fail
      refine ⟨⟨k + 1, hmeas, ⟨_, _, _, _, _, _, _, _, _, _, _, _, _, _, _, _, _, _, _, rfl⟩, htd, fun n hn => ?_⟩, by simp [intOf]; omega⟩
      rw [HTK.out] at hn
      rcases List.mem_append.1 hn with hn | hn
      · exact hpre n hn
      · rw [List.mem_singleton.1 hn]
        exact ⟨it, hf, hp⟩
    · rename_i hp
      have hp0 : it.pins = 0 := by omega
      have HDD := Lib.hid (HD.out it hit hp0 wd HKD.out htd)
      clear HD HKD
      refine wpN_seq_k ?_
      intro K hK
      go_wp2_with fail
      refine HDD.out.mono ?_
      rintro e w1 ⟨rfl, F', v', s', r', cs', h1, hX⟩
      rw [hfree, List.nil_append] at h1
      go_wp2_with fail
      obtain ⟨c0, c1, c2, c3, c4, c5', c6, c7'⟩ := h1.cells
      have hc1 := h1.chan
      have hch := h1.chans (fl' := []) (s' := s') (r' := r' + 1)
      change IsPlAt _ _ (w1.setChan cb p.n _ _ _ _ _) _ _ _ _ _ _ _ _ _ _ _ _ _ _ _ at hch
      have hgr := grown_setChan w1 cb p.n (([] : List Nat).map fun (i : Nat) => Value.int .i64 (i : Int)).toArray false s' (r' + 1) false
      have ht9 := (Turns.refl (only cb) w1).grown hgr (fun k hk => .inl (by injection hk with hk; exact hk.symm))
      have HCH := Lib.hid hch
      clear c0 c1 c2 c3 c4 c6 c7' hch hgr h1
      refine wpN_seq ?_
      refine wpN_region ?_
      change wpT _ _ _ [0, 1, 2, 3, 4, 5, 6] _ _
      refine T_value 0 46 (v := ptr gp) (w' := w1) rfl rfl (by rfl) (by go_simp) ?_
      simp only [List.setIfInBounds_toArray, List.set_cons_zero, List.set_cons_succ]
      refine T_value 1 47 (v := ptr gp) (w' := w1) rfl rfl (by rfl) (by go_simp) ?_
      simp only [List.setIfInBounds_toArray, List.set_cons_zero, List.set_cons_succ]
      refine T_value 2 48 (v := .pointer (some ⟨gp, 5, none⟩)) (w' := w1) rfl rfl (by rfl) (by go_simp) ?_
      simp only [List.setIfInBounds_toArray, List.set_cons_zero, List.set_cons_succ]
      refine T_value 3 49 (v := .chan (some cb)) (w' := w1) rfl rfl (by rfl) (by go_simp) ?_
      simp only [List.setIfInBounds_toArray, List.set_cons_zero, List.set_cons_succ]
      refine T_recv 4 50 (c := cb) (cap := p.n) (buf := ([it.idx].map fun (i : Nat) => Value.int .i64 (i : Int)).toArray) (s := s') (r := r') (closed := false) (tm := false) (z := .int .i64 0) (w' := w1) rfl rfl (by rfl) ?_ hc1 (by simp) ?_
      · go_simp
        rfl
      simp only [List.setIfInBounds_toArray, List.set_cons_zero, List.set_cons_succ]
      obtain ⟨e1, e2⟩ := chan_pop it.idx []
      rw [e1, e2]
      clear e1 e2 hc1 c5'
      generalize w1.setChan cb p.n (([] : List Nat).map fun (i : Nat) => Value.int .i64 (i : Int)).toArray false s' (r' + 1) false = w9 at *
      refine T_value 5 2 (v := .int .i64 it.idx) (w' := w9) rfl rfl (by rfl) (by go_simp) ?_
      simp only [List.setIfInBounds_toArray, List.set_cons_zero, List.set_cons_succ]
      refine T_value 6 3 (v := .int .i64 0) (w' := w9) rfl rfl (by rfl) (by go_simp) ?_
      simp only [List.setIfInBounds_toArray, List.set_cons_zero, List.set_cons_succ]
      refine T_done ?_
      simp only [Exit.then]
      refine wpN_of_wp ?_
      go_wp2_with fail
      go_ret2
      exact .inr ⟨ids.take k, it, ids.drop (k + 1), HSP.out, hpre, hf, hp0, rfl, wd, w1, F', v', s', r' + 1, cs', htd, hX, HCH.out, ht9⟩
  · obtain rfl : k = ids.length := by omega
    rw [List.take_length] at hpre
    clear hkp
    refine wpN_seq_k ?_
    intro K hK
    go_wp2_with fail
    refine wpN_seq_k ?_
    intro K hK
    go_wp2_with fail
    refine wpN_of_wp ?_
    go_wp2_with fail
    go_ret2
    exact .inl ⟨rfl, hpre, htr⟩
end Go.Proofs.YtphkggcdfkcidaaGreat

/- The walks of package pool: brings. -/
namespace Go.Proofs.YtphkggcdfkcidaaGreat
open Go.RowKit Go.Conc

abbrev pgCs (x : Sp.Pg) (A : Option Addr) (c : Nat) : Array Value := #[.int .u8 x.kind, .int .u8 x.level, .int .u32 x.id, .int .u64 x.lsn, .int .u32 x.next, .slice A x.rows.length c]

/-- What brings asks of take: a frame, and what Z says; or none. -/
def TookPost (Z : Nat → Sp.Pl → List Nat → Foot → World → Prop) (Z4 : World → Prop) (H R : Foot) (w : World) (gp gd gl at_ base fb cb mb id : Nat) (e : Ending) (w' : World) : Prop :=
  (e = .returned (.tuple #[.int .i64 0, .int .i64 4]) ∧ Z4 w' ∧ Turns H H w w') ∨
  ∃ (i : Nat) (p' : Sp.Pl) (F' H' : Foot) (v' : Value) (s' r' : Nat) (cs' : Array Value) (ids' rest : List Nat), e = .returned (.tuple #[.int .i64 i, .int .i64 0]) ∧ IsPlAt F' R w' gp gd gl at_ base fb cb mb v' s' r' cs' rest ids' p' ∧ p'.free = i :: rest ∧ p'.find id = none ∧ Turns H H' w w' ∧ (∀ b, F' b → H' b) ∧ Z i p' ids' H' w'

def BringPost (Z : Nat → Sp.Pl → List Nat → Foot → World → Prop) (Z4 : World → Prop) (H R G : Foot) (w : World) (gp gd gl at_ base fb cb mb : Nat) (x : Sp.Pg) (e : Ending) (w' : World) : Prop :=
  (e = .returned (.int .i64 4) ∧ Z4 w' ∧ Turns H H w w') ∨
  ∃ (i : Nat) (p' : Sp.Pl) (F' H' : Foot) (v' : Value) (s' r' : Nat) (cs' : Array Value) (ids' rest : List Nat) (w2 : World), e = .returned (.int .i64 0) ∧ IsPlAt (fun b => F' b ∨ G b) (fun b => R b ∨ G b) w' gp gd gl at_ base fb cb mb v' s' r' cs' rest ids' (p'.bring x i rest) ∧ p'.free = i :: rest ∧ p'.find x.id = none ∧ Turns H H' w w2 ∧ (∀ b, F' b → H' b) ∧ Z i p' ids' H' w2 ∧ Turns F' F' w2 w'

set_option maxRecDepth 100000 in
set_option maxHeartbeats 4000000 in
theorem pool_brings {H R G : Foot} {w : World} {gp gd gl at_ base fb cb mb : Nat} {x : Sp.Pg} {A : Option Addr} {c : Nat} (hx : x.wf ∧ x.may) (hA : OkAddr A) (hR : RowsAt G w A x.rows) (hG : ∀ b, G b → ¬ H b ∧ b < w.heap.size) (hH : ∀ b, H b → b < w.heap.size)
    (Z : Nat → Sp.Pl → List Nat → Foot → World → Prop) (Z4 : World → Prop)
    (hT : Calls Tryz.prog 94 #[ptr gp] (w.alloc (.cells (pgCs x A c) 53)) (TookPost Z Z4 H R (w.alloc (.cells (pgCs x A c) 53)) gp gd gl at_ base fb cb mb x.id)) :
    Calls Tryz.prog 54 #[ptr gp, pgV x A c] w (BringPost Z Z4 H R G w gp gd gl at_ base fb cb mb x) := by
  have HT := Lib.hid hT
  have hb0 := Blk.new w 53 (pgCs x A c)
  have hR0 := Reads.below hR ((Below.refl w.heap.size w).alloc (Nat.le_refl _) (.cells (pgCs x A c) 53))
  have ht0 := (Turns.refl H w).alloc (.cells (pgCs x A c) 53)
  clear hT hR
  go_enter Tryz.func54, Tryz.ntmps54
  go_wp2_with fail
  obtain ⟨w1, hw1⟩ : ∃ w1, w1 = w.alloc (.cells (pgCs x A c) 53) := ⟨_, rfl⟩
  rw [← hw1] at HT hb0 hR0 ht0 ⊢
  obtain ⟨g3, hg3⟩ : ∃ g, g = w.heap.size := ⟨_, rfl⟩
  have hg3l : w.heap.size ≤ g3 := by omega
  rw [← hg3] at hb0 ⊢
  clear hw1 hg3
  refine HT.out.mono ?_
  rintro e w2 (⟨rfl, hz, htz⟩ | ⟨i, p', F', H', v', s', r', cs', ids', rest, rfl, h2, hfree, hnone, ht2, hF', hZ⟩)
  · go_wp2_with fail
    go_ret
    exact .inl ⟨rfl, hz, ht0.trans htz⟩
  have hnH : ¬ H g3 := fun h => by have := hH g3 h; omega
  have hb2 := hb0.turns ht2 hnH
  have hR2 := hR0.keep ht2.size (fun b hb => ht2.block b (by have := (hG b hb).2; have := ht0.size; omega) (hG b hb).1)
  have hGF : ∀ b, G b → ¬ F' b ∧ b < w2.heap.size := fun b hb => by
    have h1 := hG b hb
    have h2 := ht0.size
    have h3 := ht2.size
    refine ⟨fun hf => ?_, by omega⟩
    rcases ht2.foot b (hF' b hf) with h | h
    · exact h1.1 h
    · omega
  have hg3F : ¬ F' g3 := fun hf => by
    have := hb0.lt
    rcases ht2.foot g3 (hF' g3 hf) with h | h
    · exact hnH h
    · omega
  have hlt9 := h2.wf.free_lt (i := i) (by rw [hfree]; simp)
  have hn64 := h2.wf.n64
  have hlen := h2.wf.len
  obtain ⟨c0, c1, c2, c3, c4, c5, c6, c7⟩ := h2.cells
  have hcs := h2.fr.size
  have hB2 := h2.fr.blk
  have H2 := Lib.hid h2
  have hS := Lib.hid (⟨c4, hb2⟩ : w2.drew.cell? ⟨gp, 4, none⟩ = some (.slice (some ⟨fb, 0, none⟩) p'.n p'.n) ∧ Blk w2.drew g3 53 (pgCs x A c))
  clear c0 c1 c2 c3 c4 c5 c6 c7 h2 HT hb0 hR0
  go_wp2_with fail
  refine R_begin (fun W => W.cell? ⟨gp, 4, none⟩ = some (.slice (some ⟨fb, 0, none⟩) p'.n p'.n) ∧ Blk W g3 53 (pgCs x A c)) (fun j => j == 8) rfl ?_
  refine R_take 0 15 (v := ?_) rfl rfl (by rfl) (by kernel_rfl) (fun _ _ _ h => h) hS.out ?_ ?_
  rotate_left
  · intro w hSw; (try dsimp only at hSw); go_simp; (try with_reducible rfl)
  simp only [List.setIfInBounds_toArray, List.set_cons_zero, List.set_cons_succ]
  refine R_take 1 16 (v := ?_) rfl rfl (by rfl) (by kernel_rfl) (fun _ _ _ h => h) hS.out ?_ ?_
  rotate_left
  · intro w hSw; (try dsimp only at hSw); go_simp; (try with_reducible rfl)
  simp only [List.setIfInBounds_toArray, List.set_cons_zero, List.set_cons_succ]
  refine R_take 2 17 (v := ?_) rfl rfl (by rfl) (by kernel_rfl) (fun _ _ _ h => h) hS.out ?_ ?_
  rotate_left
  · intro w hSw; (try dsimp only at hSw); go_simp; (try with_reducible rfl)
  simp only [List.setIfInBounds_toArray, List.set_cons_zero, List.set_cons_succ]
  refine R_take 3 18 (v := ?_) rfl rfl (by rfl) (by kernel_rfl) (fun _ _ _ h => h) hS.out ?_ ?_
  rotate_left
  · intro w hSw; (try dsimp only at hSw); go_simp; (try with_reducible rfl)
  simp only [List.setIfInBounds_toArray, List.set_cons_zero, List.set_cons_succ]
  refine R_take 4 19 (v := ?_) rfl rfl (by rfl) (by kernel_rfl) (fun _ _ _ h => h) hS.out ?_ ?_
  rotate_left
  · intro w hSw; (try dsimp only at hSw); go_simp; (try with_reducible rfl)
  simp only [List.setIfInBounds_toArray, List.set_cons_zero, List.set_cons_succ]
  refine R_take 5 20 (v := pgV x A c) rfl rfl (by rfl) (by kernel_rfl) (fun _ _ _ h => h) hS.out ?_ ?_
  · intro w hSw
    exact run_op_load _ _ _ rfl rfl (run_loadVar_row w g3 _ _ _ _ _ hSw.2 Tryz.underlying53 rfl rfl)
  simp only [List.setIfInBounds_toArray, List.set_cons_zero, List.set_cons_succ]
  refine R_take 6 21 (v := .agg (frCells ⟨x, 0, false, 0, i⟩ A c).toArray) rfl rfl (by rfl) (by kernel_rfl) (fun _ _ _ h => h) hS.out ?_ ?_
  · intro w hSw
    go_simp
    rfl
  simp only [List.setIfInBounds_toArray, List.set_cons_zero, List.set_cons_succ]
  refine R_take 7 22 (v := ?_) rfl rfl (by rfl) (by kernel_rfl) (fun _ _ _ h => h) hS.out ?_ ?_
  rotate_left
  · intro w hSw; (try dsimp only at hSw); go_simp; (try with_reducible rfl)
  simp only [List.setIfInBounds_toArray, List.set_cons_zero, List.set_cons_succ]
  refine R_store 8 (n := .skip) (w' := w2.drew.setRow fb (partRow cs' (i * 9) (frCells ⟨x, 0, false, 0, i⟩ A c))) rfl rfl (by rfl) (by kernel_rfl) (run_op_store _ _ _ _ _ rfl rfl rfl (run_storeVar_part w2.drew fb (i * 9) _ _ cs' (frCells ⟨x, 0, false, 0, i⟩ A c).toArray hB2 fr_size (by rw [hcs]; show i * 9 + 9 ≤ p'.n * 9; omega) (frCells_one _ A c))) (.inl rfl) (fun h => nomatch h) ?_
  refine R_done (by kernel_rfl) ?_ _
  rename_i K9 hK9
  refine hK9 _ _ ?_
  obtain ⟨f1, f2, f3, f4, f5⟩ := H2.out.foot
  obtain ⟨n1, n2, n3, n4, n5, n6⟩ := H2.out.ne
  have hB4 := Blk.setRow (w := w2.drew) hB2 (partRow cs' (i * 9) (frCells ⟨x, 0, false, 0, i⟩ A c))
  have hk4 : ∀ b, b ≠ fb → (w2.drew.setRow fb (partRow cs' (i * 9) (frCells ⟨x, 0, false, 0, i⟩ A c))).heap[b]? = w2.heap[b]? := fun b hb => setRow_other w2.drew fb b _ hb
  have ht4 := (Turns.refl F' w2).drew.setRow (g := fb) (.inl f2) (partRow cs' (i * 9) (frCells ⟨x, 0, false, 0, i⟩ A c))
  have hg3b : g3 ≠ fb := fun e => hg3F (e ▸ f2)
  have hb4 := hb2.keep (hk4 g3 hg3b)
  have hP4 := H2.out.blk.keep (hk4 gp n1)
  have hM4 := H2.out.map.keep (hk4 mb (Ne.symm n5))
  obtain ⟨w4, hw4⟩ : ∃ w4, w4 = w2.drew.setRow fb (partRow cs' (i * 9) (frCells ⟨x, 0, false, 0, i⟩ A c)) := ⟨_, rfl⟩
  rw [← hw4] at hB4 hk4 ht4 hb4 hP4 hM4 ⊢
  clear hw4 hS
  have c6 := hP4.cell 6
  have ci := hb4.cell 2
  simp only [plCells, pgCs, List.getElem?_toArray, List.getElem?_cons_succ, List.getElem?_cons_zero] at c6 ci
  have hS := Lib.hid (⟨c6, ci⟩ : w4.drew.cell? ⟨gp, 6, none⟩ = some (.map (some mb)) ∧ w4.drew.cell? ⟨g3, 2, none⟩ = some (u32v x.id))
  have hid : x.id < 4294967296 := hx.1.2.2.1
  clear c6 ci
  go_wp2_with fail
  refine R_begin (fun W => W.cell? ⟨gp, 6, none⟩ = some (.map (some mb)) ∧ W.cell? ⟨g3, 2, none⟩ = some (u32v x.id)) (fun j => j == 7) rfl ?_
  refine R_take 0 23 (v := ?_) rfl rfl (by rfl) (by kernel_rfl) (fun _ _ _ h => h) hS.out ?_ ?_
  rotate_left
  · intro w hSw; (try dsimp only at hSw); go_simp; (try with_reducible rfl)
  simp only [List.setIfInBounds_toArray, List.set_cons_zero, List.set_cons_succ]
  refine R_take 1 24 (v := ?_) rfl rfl (by rfl) (by kernel_rfl) (fun _ _ _ h => h) hS.out ?_ ?_
  rotate_left
  · intro w hSw; (try dsimp only at hSw); go_simp; (try with_reducible rfl)
  simp only [List.setIfInBounds_toArray, List.set_cons_zero, List.set_cons_succ]
  refine R_take 2 25 (v := ?_) rfl rfl (by rfl) (by kernel_rfl) (fun _ _ _ h => h) hS.out ?_ ?_
  rotate_left
  · intro w hSw; (try dsimp only at hSw); go_simp; (try with_reducible rfl)
  simp only [List.setIfInBounds_toArray, List.set_cons_zero, List.set_cons_succ]
  refine R_take 3 26 (v := ?_) rfl rfl (by rfl) (by kernel_rfl) (fun _ _ _ h => h) hS.out ?_ ?_
  rotate_left
  · intro w hSw; (try dsimp only at hSw); go_simp; (try with_reducible rfl)
  simp only [List.setIfInBounds_toArray, List.set_cons_zero, List.set_cons_succ]
  refine R_take 4 27 (v := ?_) rfl rfl (by rfl) (by kernel_rfl) (fun _ _ _ h => h) hS.out ?_ ?_
  rotate_left
  · intro w hSw; (try dsimp only at hSw); go_simp; (try with_reducible rfl)
  simp only [List.setIfInBounds_toArray, List.set_cons_zero, List.set_cons_succ]
  refine R_take 5 28 (v := ?_) rfl rfl (by rfl) (by kernel_rfl) (fun _ _ _ h => h) hS.out ?_ ?_
  rotate_left
  · intro w hSw; (try dsimp only at hSw); go_simp; (try with_reducible rfl)
  simp only [List.setIfInBounds_toArray, List.set_cons_zero, List.set_cons_succ]
  refine R_take 6 29 (v := ?_) rfl rfl (by rfl) (by kernel_rfl) (fun _ _ _ h => h) hS.out ?_ ?_
  rotate_left
  · intro w hSw; (try dsimp only at hSw); go_simp; (try with_reducible rfl)
  simp only [List.setIfInBounds_toArray, List.set_cons_zero, List.set_cons_succ]
  obtain ⟨w5, hput, hM5, hg5⟩ := UMap.put (w := w4.drew) hM4.drew Tryz.underlying23 Tryz.underlying3 Tryz.underlying97 (by omega) hid (i := i) (by omega) (by simp [Sp.Pl.lk, hnone])
  refine R_store 7 (n := .skip) (w' := w5) rfl rfl (by rfl) (by kernel_rfl) (by go_simp) (.inl rfl) (fun h => nomatch h) ?_
  refine R_done (by kernel_rfl) ?_ _
  rename_i K8 hK8
  refine hK8 _ _ ?_
  have ht5 := ht4.drew.grown hg5 (fun k hk => .inl (by injection hk with hk; rw [← hk]; exact f4))
  have hB5 := hB4.drew.grown hg5 (fun e => n5 (by injection e))
  have hsz9 : i * 9 + 9 ≤ cs'.size := by omega
  have hR5 := hR2.keep ht5.size (fun b hb => (ht5.block b (hGF b hb).2 (hGF b hb).1))
  have hbr := H2.out.bring (w' := w5) (x := x) (A := A) (c := c) (G := G) hfree hnone hx ht5.size (fun b hb h1 h2 => (hg5.block b (by have := H2.out.lt b hb; have := ht4.size; simp; omega) (fun e => h2 (by injection e))).trans (hk4 b h1)) hB5 (Framed.part rfl hsz9) hA hR5 (fun b hb => ⟨(hGF b hb).1, Nat.lt_of_lt_of_le (hGF b hb).2 ht5.size⟩) (fun j hj => part_at rfl hsz9 hj) hM5
  have HB := Lib.hid hbr
  clear hbr hg5 hput hM5 hM4 hP4 hB4 hB5 hk4 H2 hS
  go_wp2_with fail
  go_ret
  refine .inr ⟨i, p', F', H', v', s', r', _, ids', rest, w2, rfl, HB.out, hfree, hnone, ?_, hF', hZ, ht5⟩
  exact ht0.trans ht2
end Go.Proofs.YtphkggcdfkcidaaGreat

/- The walks of package pool: Pin of a page that is in. -/
namespace Go.Proofs.YtphkggcdfkcidaaGreat
open Go.RowKit Go.Conc

theorem Turns.then_new {F F' X : Foot} {w w1 w2 : World} {g : Nat} (h : Turns F F' w w1) (k : Turns (only g) X w1 w2) (hg : w.heap.size ≤ g) : Turns F F' w w2 :=
  ⟨k.os.trans h.os, k.tape.trans h.tape, k.output.trans h.output, Nat.le_trans h.size k.size, fun b hb hn => (k.block b (Nat.lt_of_lt_of_le hb h.size) (fun e => by have e : b = g := e; omega)).trans (h.block b hb hn), h.foot⟩

def PinInPost (F R : Foot) (w : World) (gp gd gl at_ base fb cb mb s r : Nat) (fl ids : List Nat) (p : Sp.Pl) (it : Sp.It) (e : Ending) (w' : World) : Prop :=
  ∃ F' v' cs' A c, e = .returned (.tuple #[pgV it.page A c, .int .i64 0]) ∧ OkAddr A ∧ RowsAt (fun b => w.heap.size ≤ b) w' A it.page.rows ∧
    IsPlAt F' R w' gp gd gl at_ base fb cb mb v' s r cs' fl (ids.filter (fun x => !(x == it.page.id)) ++ [it.page.id]) (p.pinUp it.page.id) ∧ Turns F F' w w'

set_option maxRecDepth 100000 in
set_option maxHeartbeats 2000000 in
theorem pool_pin_in {F R : Foot} {w : World} {gp gd gl at_ base fb cb mb s r : Nat} {v : Value} {cs : Array Value} {fl ids : List Nat} {p : Sp.Pl} (h : IsPlAt F R w gp gd gl at_ base fb cb mb v s r cs fl ids p) {id : Nat} (hid : id < 4294967296) {it : Sp.It} (hf : p.find id = some it) (hp : it.pins < 1000000000) (hl : ids.length ≤ 64) :
    Calls Tryz.prog 23 #[ptr gp, u32v id] w (PinInPost F R w gp gd gl at_ base fb cb mb s r fl ids p it) := by
  obtain ⟨hit, rfl⟩ := Sp.Pl.find_mem hf
  have hb2 := Blk.new w 53 #[.int .u8 0, .int .u8 0, .int .u32 0, .int .u64 0, .int .u32 0, .slice none 0 0]
  have h2 := h.keep (w' := w.alloc (.cells #[.int .u8 0, .int .u8 0, .int .u32 0, .int .u64 0, .int .u32 0, .slice none 0 0] 53)) (by simp) (fun b hb => Below.heap_alloc w _ b (h.lt b hb))
  have ht0 := (Turns.refl F w).alloc (.cells #[.int .u8 0, .int .u8 0, .int .u32 0, .int .u64 0, .int .u32 0, .slice none 0 0] 53)
  have hg4 : ¬ F w.heap.size := fun hF => by have := h.lt _ hF; omega
  obtain ⟨c0, c1, c2, c3, c4, c5, c6, c7⟩ := h2.cells
  have HM := Lib.hid (pool_made c6)
  have hlk := h2.look_in hid hf
  have HPN := Lib.hid (pool_pins_walk h2 hid hf hp hl)
  have hlt9 := h2.wf.idx_lt hit
  have hn64 := h2.wf.n64
  clear h2 c0 c1 c2 c3 c4 c5 c7 h
  go_enter Tryz.func23, Tryz.ntmps23
  go_wp2_with fail
  have hg4l : w.heap.size ≤ w.heap.size := Nat.le_refl _
  obtain ⟨w2, hw2⟩ : ∃ w2, w2 = w.alloc (.cells #[.int .u8 0, .int .u8 0, .int .u32 0, .int .u64 0, .int .u32 0, .slice none 0 0] 53) := ⟨_, rfl⟩
  rw [← hw2] at HM HPN hlk hb2 ht0 c6 ⊢
  obtain ⟨g4, hg⟩ : ∃ g, g = w.heap.size := ⟨_, rfl⟩
  rw [← hg] at hb2 hg4 ⊢
  have hg4l : w.heap.size ≤ g4 := by omega
  clear hw2 hg
  refine HM.out.mono ?_
  rintro e w1 ⟨rfl, hw⟩
  subst w1
  go_wp2_with fail
  refine (HPN.out).mono ?_
  rintro e w3 ⟨F3, v3, cs3, rfl, h3, ht3⟩
  have hit3 : ({ it with pins := it.pins + 1 } : Sp.It) ∈ (p.pinUp it.page.id).items := List.mem_map.2 ⟨it, hit, by simp⟩
  obtain ⟨A, c, hA, hR, hc⟩ := h3.fr.item _ hit3
  have k0 := (h3.fr.blk.cell _).trans (hc 0 (by omega))
  have k1 := (h3.fr.blk.cell _).trans (hc 1 (by omega))
  have k2 := (h3.fr.blk.cell _).trans (hc 2 (by omega))
  have k3 := (h3.fr.blk.cell _).trans (hc 3 (by omega))
  have k4 := (h3.fr.blk.cell _).trans (hc 4 (by omega))
  have k5 := (h3.fr.blk.cell _).trans (hc 5 (by omega))
  simp only [frCells, List.getElem?_cons_succ, List.getElem?_cons_zero, Nat.add_zero] at k0 k1 k2 k3 k4 k5
  have hlr : it.page.rows.length ≤ 1000000 := by
    have := (h3.wf.pg _ hit3).2.2.2.2.2
    have : 4 * it.page.rows.length + Sp.total it.page.rows ≤ 484 := this
    omega
  have HCP := Lib.hid (pool_copied (c := c) hA hR hlr)
  have hg42 := hb2.lt
  have hb3 := hb2.turns ht3 hg4
  have H3 := Lib.hid h3
  clear hA hR hc h3 hb2 HPN
  go_wp2_with fail
  refine HCP.out.mono ?_
  rintro e w4 ⟨A', c', rfl, hA', hR', hb4⟩
  have hB4 := hb3.below hb4 hb3.lt
  have z0 := hB4.cell 0
  have z1 := hB4.cell 1
  have z2 := hB4.cell 2
  have z3 := hB4.cell 3
  have z4 := hB4.cell 4
  have z5 := hB4.cell 5
  have f0 := hB4.frozen 0
  have f1 := hB4.frozen 1
  have f2 := hB4.frozen 2
  have f3 := hB4.frozen 3
  have f4 := hB4.frozen 4
  have f5 := hB4.frozen 5
  simp only [List.getElem?_toArray, List.getElem?_cons_succ, List.getElem?_cons_zero] at z0 z1 z2 z3 z4 z5
  have h4 := H3.out.keep hb4.size (fun b hb => hb4.block b (H3.out.lt b hb))
  have HR := Lib.hid hR'
  have HA := Lib.hid hA'
  have H4 := Lib.hid h4
  have ht4 := ht3.next hb4
  have HB4 := Lib.hid hB4
  have hg4k := hb3.lt
  clear hR' hA' h4 hB4 H3 HCP k0 k1 k2 k3 k4 k5 hb3
  go_wp2_with fail
  obtain ⟨W8, hW8, hX8, ht8, hk8⟩ := six_set HB4.out (.int .u8 it.page.kind) (.int .u8 it.page.level) (.int .u32 it.page.id) (.int .u64 it.page.lsn) (.int .u32 it.page.next) (.slice A' it.page.rows.length c')
  rw [hW8]
  have z0 := hX8.cell 0
  have z1 := hX8.cell 1
  have z2 := hX8.cell 2
  have z3 := hX8.cell 3
  have z4 := hX8.cell 4
  have z5 := hX8.cell 5
  simp only [List.getElem?_toArray, List.getElem?_cons_succ, List.getElem?_cons_zero] at z0 z1 z2 z3 z4 z5
  clear f0 f1 f2 f3 f4 f5 hW8
  refine bodyPost_ret (v := .tuple #[pgV it.page A' c', .int .i64 0]) (by rw [results_cell_tmp rfl]; go_simp) rfl ⟨F3, v3, cs3, A', c', rfl, HA.out, ?_, ?_, ?_⟩
  · have hz2 : w.heap.size ≤ w2.heap.size := ht0.size
    have hz3 := ht3.size
    exact (HR.out.keep ht8.size (fun b hb => hk8 b (fun e => by have hb : w3.heap.size ≤ b := hb; omega))).mono (fun b hb => by have hb : w3.heap.size ≤ b := hb; omega)
  · refine H4.out.keep ht8.size (fun b hb => hk8 b (fun e => ?_))
    rcases ht3.foot b hb with h | h
    · exact hg4 (e ▸ h)
    · omega
  · exact (ht0.trans ht4).then_new ht8 hg4l
end Go.Proofs.YtphkggcdfkcidaaGreat
