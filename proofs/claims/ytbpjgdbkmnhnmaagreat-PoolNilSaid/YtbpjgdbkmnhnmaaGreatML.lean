/- The walks of package pool: pins. -/
import Derived.Test.YtbpjgdbkmnhnmaaGreatMK
import Derived.Test.YtbpjgdbkmnhnmaaGreatMJ
import Derived.Test.YtbpjgdbkmnhnmaaGreatMI
import Derived.Sort.WalkA
import Derived.Sort.LotA
import Derived.Test.YtbpjgdbkmnhnmaaGreatMB

namespace Go.Proofs.YtbpjgdbkmnhnmaaGreat
open Go.RowKit Go.Conc

section
variable {P : Program} {ops : Array Oper} {Q : Exit → Act → World → Prop}
/-- One of several that may come up: a call of a Go function. -/
theorem op_call {i : Nat} (t : Tmp) {f : FuncId} {args : Array Value} {R : Ending → World → Prop} {oi : Oper} {a : Act} {w w' : World} {K : Act → World → Prop} (hi : ops[i]? = some oi) (hd : oi.dst = some t)
    (hw : Region.wanted oi (yielded ops a.tmps) = true) (hy : (execOp a.eval oi).run P w = .ok (.enter f args) w') (hc : Calls P f args w' R)
    (h : ∀ e w'', R e w'' → ∃ v, e = .returned v ∧ K { tmps := a.tmps.setIfInBounds t v, defers := a.defers } w'') : wpOp P ops Q i K a w := by
  unfold wpOp
  simp only [hi]
  rw [if_pos hw]
  refine .inl ?_
  unfold Oper.wp
  rw [hy]
  refine hc.mono fun e w'' hR => ?_
  obtain ⟨v, rfl, h1⟩ := h e w'' hR
  show K (a.put oi.dst v) w''
  rw [hd]
  exact h1
end

/-- the block of a row. -/
abbrev own (v : Value) : Foot := fun b => v.ownBlock = some b

/-- What holds behind a row's DeleteFunc and the making of the row that is appended. -/
structure PinMid (w1 W : World) (v v' : Value) (g8 id : Nat) (ids : List Nat) : Prop where
  row : W.ownsRow 0 26 1 v' (ids.filter (fun x => !(x == id))).length ((ids.filter (fun x => !(x == id))).map u32v)
  sub : ∀ k, v'.ownBlock = some k → v.ownBlock = some k
  one : Blk W g8 26 #[u32v id]
  fresh : w1.heap.size ≤ g8
  turns : Turns (own v) (own v) w1 W

/-- What holds behind the append. -/
structure PinRow (w1 W : World) (v v2 : Value) (id : Nat) (ids : List Nat) : Prop where
  row : W.ownsRow 0 26 1 v2 (ids.filter (fun x => !(x == id)) ++ [id]).length ((ids.filter (fun x => !(x == id)) ++ [id]).map u32v)
  sub : ∀ k, v2.ownBlock = some k → v.ownBlock = some k ∨ w1.heap.size ≤ k
  turns : Turns (own v) (own v) w1 W

/-- A page pinned once more: it stands last. -/
def Sp.Pl.pinUp (p : Sp.Pl) (id : Nat) : Sp.Pl := p.upd id fun x => { x with pins := x.pins + 1 }
def PinsPost (F R : Foot) (w : World) (gp gd gl at_ base fb cb mb s r : Nat) (fl ids : List Nat) (p : Sp.Pl) (it : Sp.It) (e : Ending) (w' : World) : Prop :=
  ∃ F' v' cs', e = .returned (.pointer (some ⟨fb, it.idx * 9, none⟩)) ∧ IsPlAt F' R w' gp gd gl at_ base fb cb mb v' s r cs' fl (ids.filter (fun x => !(x == it.page.id)) ++ [it.page.id]) (p.pinUp it.page.id) ∧ Turns F F' w w'

set_option maxRecDepth 100000 in
set_option maxHeartbeats 1000000 in
theorem pool_pins_walk {F R : Foot} {w : World} {gp gd gl at_ base fb cb mb s r : Nat} {v : Value} {cs : Array Value} {fl ids : List Nat} {p : Sp.Pl} (h : IsPlAt F R w gp gd gl at_ base fb cb mb v s r cs fl ids p) {id : Nat} (hid : id < 4294967296) {it : Sp.It} (hf : p.find id = some it) (hp : it.pins < 1000000000) (hl : ids.length ≤ 64) :
    Calls Tryz.prog 38 #[ptr gp, u32v id] w (PinsPost F R w gp gd gl at_ base fb cb mb s r fl ids p it) := by
  obtain ⟨hit, rfl⟩ := Sp.Pl.find_mem hf
  obtain ⟨iu, hiu, hzu0, hzu1, hzu2⟩ := info_parts u32_info
  have hown := h.own_ne
  have hlv : ∀ b, v.ownBlock = some b → b < w.heap.size := fun b hb => by
    obtain ⟨cur, hc⟩ := ownsRow_heap h.row hb
    exact (Array.getElem?_eq_some_iff.1 hc).1
  have h1 := Lib.hid (h.keep (w' := w.alloc (.cells #[u32v it.page.id] 26)) (by simp) (fun b hb => Below.heap_alloc w _ b (h.lt b hb)))
  have hid1 := Lib.hid (Blk.new w 26 #[u32v it.page.id])
  go_enter Tryz.func38, Tryz.ntmps38
  go_wp2_with fail
  have e1 : (w.alloc (.cells #[u32v it.page.id] 26)).heap.size = w.heap.size + 1 := by simp
  obtain ⟨w1, hw1⟩ : ∃ w1, w1 = w.alloc (.cells #[u32v it.page.id] 26) := ⟨_, rfl⟩
  rw [← hw1] at h1 hid1 e1 ⊢
  obtain ⟨b3, hb3⟩ : ∃ b3, b3 = w.heap.size := ⟨_, rfl⟩
  have hlt3 : ∀ b, v.ownBlock = some b → b ≠ b3 := fun b hb e => by have := hlv b hb; omega
  have hn3 : v.ownBlock ≠ some b3 := fun e => hlt3 _ e rfl
  rw [← hb3] at hid1 ⊢
  have hb3l : w.heap.size ≤ b3 := by omega
  have e2 : w.heap.size ≤ w1.heap.size := by omega
  have ht01 : Turns F F w w1 := by rw [hw1]; exact (Turns.refl F w).alloc _
  have hgw : gp < w.heap.size := h.lt gp h.foot.1
  clear hw1 h hb3 e1
  rename_i K hK
  have HK : ∀ (v' v2 : Value) (g8 : Nat) (W2 : World), PinRow w1 W2 v v2 it.page.id ids → K { tmps := #[ptr gp, u32v it.page.id, undef, ptr b3, .pointer none, undef, ptr gp, ptr gp, ptr gp, .pointer (some ⟨gp, 7, none⟩), v, .func (.func 90) #[] #[ptr b3], v', u32v it.page.id, .slice (some ⟨g8, 0, none⟩) 1 1, v2, ptr gp, .pointer (some ⟨gp, 7, none⟩), undef, undef, undef, undef, undef, undef, undef, undef, undef, undef, undef, undef, undef, undef, undef, undef, undef, undef, undef], defers := [] } (W2.setCell ⟨gp, 7, none⟩ v2) := by
    intro v' v2 g8 W2 ⟨hrow, hsub, htu⟩
    refine hK _ _ ?_
    have hgpb := h1.out.blk
    have hgl : gp < w1.heap.size := hgpb.lt
    have hlF := h1.out.lt
    have hrd := Lib.hid (h1.out.rowed (w' := W2.setCell ⟨gp, 7, none⟩ v2) (v' := v2) (ids' := ids.filter (fun x => !(x == it.page.id)) ++ [it.page.id]) (by simp [World.setCell]; exact htu.size)
      (fun b hb h1 h2 => (Below.heap_setCell W2 _ _ b h1).trans (htu.block b (hlF b hb) h2)) ((hgpb.turns htu hown.1).set_ 7 v2)
      (row_keep hrow (fun b hb => Below.heap_setCell W2 _ _ b (fun e => by
        have e : b = gp := e
        subst e
        rcases hsub _ hb with h | h
        · exact hown.1 h
        · omega))) hsub)
    have hb3 := Lib.hid ((hid1.out.turns htu hn3).far (p := ⟨gp, 7, none⟩) (show b3 ≠ gp from fun e => by omega) v2)
    have htt : Turns F (fun b => F b ∨ v2.ownBlock = some b) w (W2.setCell ⟨gp, 7, none⟩ v2) := by
      have t : Turns F F w (W2.setCell ⟨gp, 7, none⟩ v2) := (ht01.trans (htu.wider (fun b hb => h1.out.foot.2.2.2.2 b hb) (fun b hb => .inl hb))).setCell (p := ⟨gp, 7, none⟩) (.inl h1.out.foot.1) _
      refine ⟨t.os, t.tape, t.output, t.size, t.block, fun b hb => ?_⟩
      rcases hb with hb | hb
      · exact .inl hb
      · rcases hsub b hb with h | h
        · exact .inl (h1.out.foot.2.2.2.2 b h)
        · exact .inr (by omega)
    obtain ⟨W3, hW3⟩ : ∃ W3, W3 = W2.setCell ⟨gp, 7, none⟩ v2 := ⟨_, rfl⟩
    rw [← hW3] at hrd hb3 htt ⊢
    clear hW3 hrow htu hK
    obtain ⟨c0, c1, c2, c3, c4, c5, c6, c7⟩ := hrd.out.cells
    have hld := (hrd.out.keep (w' := W3.drew) (Nat.le_refl _) (fun _ _ => rfl)).look hid hf
    have hlt := hrd.out.wf.idx_lt hit
    have cp := hrd.out.pins hit
    have hn := hrd.out.wf.n64
    have hz := hrd.out.pins_frozen (it.idx * 9 + 6)
    have cid := hb3.out.cell 0
    simp only [List.getElem?_toArray, List.getElem?_cons_zero] at cid
    have HP := Lib.hid ((hrd.out.keep (w' := W3.drew) (Nat.le_refl _) (fun _ _ => rfl)).pinned hit (fun k => k + 1) (by omega))
    clear c0 c1 c2 c3 c5 c7
    go_wp2_with fail
    refine R_begin (fun W => W.cell? ⟨gp, 4, none⟩ = some (.slice (some ⟨fb, 0, none⟩) p.n p.n) ∧ W.cell? ⟨gp, 6, none⟩ = some (.map (some mb)) ∧ W.cell? ⟨b3, 0, none⟩ = some (u32v it.page.id) ∧
      (Instr.lookup 81 (.map (some mb)) (u32v it.page.id) false).run Tryz.prog W = .ok (.int .i64 it.idx) W) (fun _ => false) rfl ?_
    have hS := Lib.hid (⟨c4, c6, cid, hld⟩ : W3.drew.cell? ⟨gp, 4, none⟩ = some (.slice (some ⟨fb, 0, none⟩) p.n p.n) ∧ W3.drew.cell? ⟨gp, 6, none⟩ = some (.map (some mb)) ∧ W3.drew.cell? ⟨b3, 0, none⟩ = some (u32v it.page.id) ∧
      (Instr.lookup 81 (.map (some mb)) (u32v it.page.id) false).run Tryz.prog W3.drew = .ok (.int .i64 it.idx) W3.drew)
    clear hld
    refine R_take 0 18 (v := ?_) rfl rfl (by rfl) (by kernel_rfl) (fun _ _ _ h => h) hS.out ?_ ?_
    rotate_left
    · intro w hSw; (try dsimp only at hSw); go_simp; (try with_reducible rfl)
    simp only [List.setIfInBounds_toArray, List.set_cons_zero, List.set_cons_succ]
    refine R_take 1 19 (v := ?_) rfl rfl (by rfl) (by kernel_rfl) (fun _ _ _ h => h) hS.out ?_ ?_
    rotate_left
    · intro w hSw; (try dsimp only at hSw); go_simp; (try with_reducible rfl)
    simp only [List.setIfInBounds_toArray, List.set_cons_zero, List.set_cons_succ]
    refine R_take 2 20 (v := ?_) rfl rfl (by rfl) (by kernel_rfl) (fun _ _ _ h => h) hS.out ?_ ?_
    rotate_left
    · intro w hSw; (try dsimp only at hSw); go_simp; (try with_reducible rfl)
    simp only [List.setIfInBounds_toArray, List.set_cons_zero, List.set_cons_succ]
    refine R_take 3 21 (v := ?_) rfl rfl (by rfl) (by kernel_rfl) (fun _ _ _ h => h) hS.out ?_ ?_
    rotate_left
    · intro w hSw; (try dsimp only at hSw); go_simp; (try with_reducible rfl)
    simp only [List.setIfInBounds_toArray, List.set_cons_zero, List.set_cons_succ]
    refine R_take 4 22 (v := ?_) rfl rfl (by rfl) (by kernel_rfl) (fun _ _ _ h => h) hS.out ?_ ?_
    rotate_left
    · intro w hSw; (try dsimp only at hSw); go_simp; (try with_reducible rfl)
    simp only [List.setIfInBounds_toArray, List.set_cons_zero, List.set_cons_succ]
    refine R_take 5 23 (v := ?_) rfl rfl (by rfl) (by kernel_rfl) (fun _ _ _ h => h) hS.out ?_ ?_
    rotate_left
    · intro w hSw; (try dsimp only at hSw); go_simp; (try with_reducible rfl)
    simp only [List.setIfInBounds_toArray, List.set_cons_zero, List.set_cons_succ]
    refine R_take 6 24 (v := ?_) rfl rfl (by rfl) (by kernel_rfl) (fun _ _ _ h => h) hS.out ?_ ?_
    rotate_left
    · intro w hSw; (try dsimp only at hSw); go_simp; (try with_reducible rfl)
    simp only [List.setIfInBounds_toArray, List.set_cons_zero, List.set_cons_succ]
    refine R_take 7 25 (v := ?_) rfl rfl (by rfl) (by kernel_rfl) (fun _ _ _ h => h) hS.out ?_ ?_
    rotate_left
    · intro w hSw; (try dsimp only at hSw); go_simp; (try with_reducible rfl)
    simp only [List.setIfInBounds_toArray, List.set_cons_zero, List.set_cons_succ]
    refine R_take 8 26 (v := ?_) rfl rfl (by rfl) (by kernel_rfl) (fun _ _ _ h => h) hS.out ?_ ?_
    rotate_left
    · intro w hSw; (try dsimp only at hSw); go_simp; (try with_reducible rfl)
    simp only [List.setIfInBounds_toArray, List.set_cons_zero, List.set_cons_succ]
    refine R_take 9 27 (v := ?_) rfl rfl (by rfl) (by kernel_rfl) (fun _ _ _ h => h) hS.out ?_ ?_
    rotate_left
    · intro w hSw; (try dsimp only at hSw); go_simp; (try with_reducible rfl)
    simp only [List.setIfInBounds_toArray, List.set_cons_zero, List.set_cons_succ]
    refine R_take 10 28 (v := ?_) rfl rfl (by rfl) (by kernel_rfl) (fun _ _ _ h => h) hS.out ?_ ?_
    rotate_left
    · intro w hSw; (try dsimp only at hSw); go_simp; (try with_reducible rfl)
    simp only [List.setIfInBounds_toArray, List.set_cons_zero, List.set_cons_succ]
    refine R_take 11 5 (v := ?_) rfl rfl (by rfl) (by kernel_rfl) (fun _ _ _ h => h) hS.out ?_ ?_
    rotate_left
    · intro w hSw; (try dsimp only at hSw); go_simp; (try with_reducible rfl)
    simp only [List.setIfInBounds_toArray, List.set_cons_zero, List.set_cons_succ]
    refine R_done (by kernel_rfl) ?_ _
    rename_i K2 hK2
    refine hK2 _ _ ?_
    have cp : W3.drew.cell? ⟨fb, it.idx * 9 + 6, none⟩ = some (.int .i64 it.pins) := cp
    have hz : W3.drew.frozen? ⟨fb, it.idx * 9 + 6, none⟩ = false := hz
    have htt := htt.drew
    have hfF : F fb := h1.out.foot.2.1
    clear hK2 K2 hS c4 c6 cid hrd hb3
    obtain ⟨W4, hW4⟩ : ∃ W4, W4 = W3.drew := ⟨_, rfl⟩
    rw [← hW4] at cp hz htt HP ⊢
    clear hW4
    go_wp2_with fail
    go_ret
    exact ⟨_, v2, _, rfl, HP.out, htt.setCell (p := ⟨fb, it.idx * 9 + 6, none⟩) (.inl hfF) _⟩
  have HKH := Lib.hid HK
  clear HK hK
  have c7 := h1.out.cells.2.2.2.2.2.2.2
  have c3 := hid1.out.cell 0
  simp only [List.getElem?_toArray, List.getElem?_cons_zero] at c3
  refine R_begin (fun W => W.cell? ⟨gp, 7, none⟩ = some v ∧ W.cell? ⟨b3, 0, none⟩ = some (u32v it.page.id)) (fun j => decide (10 ≤ j)) rfl ?_
  have hS : w1.drew.cell? ⟨gp, 7, none⟩ = some v ∧ w1.drew.cell? ⟨b3, 0, none⟩ = some (u32v it.page.id) := ⟨c7, c3⟩
  refine R_take 0 6 (v := ?_) rfl rfl (by rfl) (by kernel_rfl) (fun _ _ _ h => h) hS ?_ ?_
  rotate_left
  · intro w hSw; (try dsimp only at hSw); go_simp; (try with_reducible rfl)
  simp only [List.setIfInBounds_toArray, List.set_cons_zero, List.set_cons_succ]
  refine R_take 1 7 (v := ?_) rfl rfl (by rfl) (by kernel_rfl) (fun _ _ _ h => h) hS ?_ ?_
  rotate_left
  · intro w hSw; (try dsimp only at hSw); go_simp; (try with_reducible rfl)
  simp only [List.setIfInBounds_toArray, List.set_cons_zero, List.set_cons_succ]
  refine R_take 2 8 (v := ?_) rfl rfl (by rfl) (by kernel_rfl) (fun _ _ _ h => h) hS ?_ ?_
  rotate_left
  · intro w hSw; (try dsimp only at hSw); go_simp; (try with_reducible rfl)
  simp only [List.setIfInBounds_toArray, List.set_cons_zero, List.set_cons_succ]
  refine R_take 3 9 (v := ?_) rfl rfl (by rfl) (by kernel_rfl) (fun _ _ _ h => h) hS ?_ ?_
  rotate_left
  · intro w hSw; (try dsimp only at hSw); go_simp; (try with_reducible rfl)
  simp only [List.setIfInBounds_toArray, List.set_cons_zero, List.set_cons_succ]
  refine R_take 4 10 (v := ?_) rfl rfl (by rfl) (by kernel_rfl) (fun _ _ _ h => h) hS ?_ ?_
  rotate_left
  · intro w hSw; (try dsimp only at hSw); go_simp; (try with_reducible rfl)
  simp only [List.setIfInBounds_toArray, List.set_cons_zero, List.set_cons_succ]
  refine R_take 5 11 (v := ?_) rfl rfl (by rfl) (by kernel_rfl) (fun _ _ _ h => h) hS ?_ ?_
  rotate_left
  · intro w hSw; (try dsimp only at hSw); go_simp; (try with_reducible rfl)
  simp only [List.setIfInBounds_toArray, List.set_cons_zero, List.set_cons_succ]
  refine R_take 7 13 (v := ?_) rfl rfl (by rfl) (by kernel_rfl) (fun _ _ _ h => h) hS ?_ ?_
  rotate_left
  · intro w hSw; (try dsimp only at hSw); go_simp; (try with_reducible rfl)
  simp only [List.setIfInBounds_toArray, List.set_cons_zero, List.set_cons_succ]
  refine R_all (rs := [6, 8]) (by kernel_rfl) (by simp) (fun i hi => ?_)
  simp only [List.mem_cons, List.not_mem_nil, or_false] at hi
  have hrow1 := h1.out.row
  have hgpb := h1.out.blk
  have hgl : gp < w1.heap.size := hgpb.lt
  have hbl : b3 < w1.heap.size := hid1.out.lt
  have T0 : Turns (own v) (own v) w1 w1.drew := (Turns.refl _ _).drew
  have hlv1 : ∀ b, v.ownBlock = some b → b < w1.heap.size := fun b hb => Nat.lt_of_lt_of_le (hlv b hb) e2
  rcases hi with rfl | rfl
  refine op_call 12 (w' := w1.drew) rfl rfl (by rfl) ?_ (delete_row (w := w1.drew) (asks_pins it.page.id b3) hrow1 hid1.out hn3) ?_
  · go_simp
  rintro e W ⟨v', rfl, r1, r2, r3⟩
  have T1 := T0.grown r2 (fun k hk => .inl hk)
  refine ⟨v', rfl, fun _ => ⟨((hgpb.turns T1 hown.1).cell 7).trans rfl, ((hid1.out.turns T1 hn3).cell 0).trans rfl⟩, ?_⟩
  simp only [List.setIfInBounds_toArray, List.set_cons_zero, List.set_cons_succ]
  refine R_run 8 14 (v := .slice (some ⟨W.heap.size, 0, none⟩) 1 1) (w' := W.alloc (.cells #[u32v it.page.id] 26)) rfl rfl (by rfl) (by kernel_rfl) (by go_simp) ?_ ?_
  · have T2 := T1.alloc (.cells #[u32v it.page.id] 26)
    exact fun _ => ⟨((hgpb.turns T2 hown.1).cell 7).trans rfl, ((hid1.out.turns T2 hn3).cell 0).trans rfl⟩
  simp only [List.setIfInBounds_toArray, List.set_cons_zero, List.set_cons_succ]
  have hm : PinMid w1 (W.alloc (.cells #[u32v it.page.id] 26)) v v' W.heap.size it.page.id ids := ⟨row_keep r1 (fun b hb => Below.heap_alloc W _ b (by have := T1.size; have := hlv1 b (r3 b hb); omega)), r3, Blk.new _ _ _, T1.size, T1.alloc _⟩
  obtain ⟨g8, hg8⟩ : ∃ g, g = W.heap.size := ⟨_, rfl⟩
  obtain ⟨W1, hW1⟩ : ∃ W1, W1 = W.alloc (.cells #[u32v it.page.id] 26) := ⟨_, rfl⟩
  rw [← hW1, ← hg8] at hm ⊢
  clear hW1 hg8 r1 r2 r3 T1
  rotate_left
  refine op_run 14 (v := .slice (some ⟨w1.drew.heap.size, 0, none⟩) 1 1) (w' := w1.drew.alloc (.cells #[u32v it.page.id] 26)) rfl rfl (by rfl) (by go_simp) ⟨?_, ?_⟩
  · have T2 := T0.alloc (.cells #[u32v it.page.id] 26)
    exact fun _ => ⟨((hgpb.turns T2 hown.1).cell 7).trans rfl, ((hid1.out.turns T2 hn3).cell 0).trans rfl⟩
  simp only [List.setIfInBounds_toArray, List.set_cons_zero, List.set_cons_succ]
  have T2 := T0.alloc (.cells #[u32v it.page.id] 26)
  have T2n := (Turns.refl noFoot w1).drew.alloc (.cells #[u32v it.page.id] 26)
  have hg8b := Blk.new w1.drew 26 #[u32v it.page.id]
  have hg8l : w1.heap.size ≤ w1.drew.heap.size := Nat.le_refl _
  obtain ⟨g8, hg8⟩ : ∃ g, g = w1.drew.heap.size := ⟨_, rfl⟩
  obtain ⟨W, hW⟩ : ∃ W, W = w1.drew.alloc (.cells #[u32v it.page.id] 26) := ⟨_, rfl⟩
  rw [← hW, ← hg8] at hg8b ⊢
  rw [← hW] at T2 T2n
  rw [← hg8] at hg8l
  clear hW hg8
  refine R_call 6 12 (w' := W) rfl rfl (by rfl) (by kernel_rfl) ?_ (delete_row (w := W) (asks_pins it.page.id b3) (row_keep hrow1 (fun b hb => T2n.block b (hlv1 b hb) (fun e => e))) (hid1.out.turns T2 hn3) hn3) ?_
  · go_simp
  rintro e W1 ⟨v', rfl, r1, r2, r3⟩
  have T1 := T2.grown r2 (fun k hk => .inl hk)
  refine ⟨v', rfl, fun _ => ⟨((hgpb.turns T1 hown.1).cell 7).trans rfl, ((hid1.out.turns T1 hn3).cell 0).trans rfl⟩, ?_⟩
  simp only [List.setIfInBounds_toArray, List.set_cons_zero, List.set_cons_succ]
  have hm : PinMid w1 W1 v v' g8 it.page.id ids := ⟨r1, r3, hg8b.grown r2 (fun e => by have := hlv1 g8 e.symm; omega), hg8l, T1⟩
  clear r1 r2 r3 T1 T2 T2n hg8b hg8l
  all_goals
    have hmt := hm.turns
    refine R_step 9 rfl (by rfl) (by kernel_rfl) ?_
    refine wp_append_own2 _ _ _ _ rfl 0 26 iu _ 1 4 Tryz.underlying40 hiu hzu0 hzu1 hzu2 rfl (by decide) _ _ _ rfl hm.row ⟨g8, 0, none⟩ 1 1 [u32v it.page.id] rfl rfl (fun j u hu => ?_) (fun x hx => by simp at hx; subst hx; rfl) ?_ ?_ (Nat.zero_le _) ?_
    · cases j with
      | zero => exact (hm.one.cell 0).trans hu
      | succ j => simp at hu
    · have := List.length_filter_le (fun x => !(x == it.page.id)) ids
      unfold maxLen; omega
    · have := List.length_filter_le (fun x => !(x == it.page.id)) ids
      omega
    intro v2 W2 q1 q2 q3
    have T2 := hmt.grown q2 (fun k hk => .inl (hm.sub k hk))
    obtain ⟨x0, x1, x2, rfl⟩ : ∃ g n c, v2 = .slice (some ⟨g, 0, none⟩) n c := by
      rcases q1.2 with ⟨_, h0⟩ | ⟨g6, c6, _, h0, _⟩
      · omega
      · exact ⟨g6, _, c6, h0⟩
    have hPR : PinRow w1 W2 v (.slice (some ⟨x0, 0, none⟩) x1 x2) it.page.id ids := ⟨by simpa using q1, fun k hk => (q3 k hk).imp (hm.sub k) (fun h => Nat.le_trans hmt.size h), T2⟩
    have f7 := (hgpb.turns T2 hown.1).frozen 7
    have c7 := (hgpb.turns T2 hown.1).cell 7
    simp only [plCells, List.getElem?_toArray, List.getElem?_cons_succ, List.getElem?_cons_zero] at c7
    have hSS : W2.cell? ⟨gp, 7, none⟩ = some v ∧ W2.cell? ⟨b3, 0, none⟩ = some (u32v it.page.id) := ⟨c7, ((hid1.out.turns T2 hn3).cell 0).trans rfl⟩
    clear q1 q2 q3 T2 hm hmt
    refine ⟨fun _ => hSS, ?_⟩
    refine R_put 15 rfl ?_
    simp only [List.setIfInBounds_toArray, List.set_cons_zero, List.set_cons_succ]
    refine R_run 10 16 (v := ptr gp) (w' := W2) rfl rfl (by rfl) (by kernel_rfl) (by go_simp) (fun h => nomatch h) ?_
    simp only [List.setIfInBounds_toArray, List.set_cons_zero, List.set_cons_succ]
    refine R_run 11 17 (v := .pointer (some ⟨gp, 7, none⟩)) (w' := W2) rfl rfl (by rfl) (by kernel_rfl) (by go_simp) (fun h => nomatch h) ?_
    simp only [List.setIfInBounds_toArray, List.set_cons_zero, List.set_cons_succ]
    refine R_store 12 (n := .skip) (w' := W2.setCell ⟨gp, 7, none⟩ (.slice (some ⟨x0, 0, none⟩) x1 x2)) rfl rfl (by rfl) (by kernel_rfl) (by go_simp) (.inl rfl) (fun h => nomatch h) ?_
    refine R_done (by kernel_rfl) ?_ _
    exact HKH.out v' _ g8 W2 hPR
end Go.Proofs.YtbpjgdbkmnhnmaaGreat

/- slices.Sort of at most 12 numbers (uint32): the insertion sort of the library, walked at this element type (after the kit's worked walk at int). -/
namespace Go.Proofs.YtbpjgdbkmnhnmaaGreat
open Go.RowKit Go.Sort

def ltN (x y : Nat) : Bool := decide (x < y)
theorem cmp_isNaN_u32 (x : Nat) (w : World) : Calls Tryz.prog 174 #[u32v x] w fun e w' => e = .returned (.bool false) ∧ w' = w := by
  go_enter Tryz.func174, Tryz.ntmps174
  go_wp2_with fail
  go_ret
  exact ⟨by simp, rfl⟩
theorem cmp_Less_u32 (x y : Nat) (w : World) : Calls Tryz.prog 155 #[u32v x, u32v y] w fun e w' => e = .returned (.bool (ltN x y)) ∧ w' = w := by
  go_enter Tryz.func155, Tryz.ntmps155
  go_wp2_with (go_at_call 174; refine (cmp_isNaN_u32 _ _).mono ?_; rintro e w' ⟨rfl, rfl⟩)
  go_ret
  exact ⟨rfl, rfl⟩

set_option maxRecDepth 100000 in
set_option maxHeartbeats 1000000 in
theorem insertion_u32 (blk off cap a b : Nat) (d : Array Nat) (w : World) (hH : Holds u32v w blk off d) (hab : a ≤ b) (hb : b ≤ d.size) (hsz : d.size < 4611686018427387904) :
    Calls Tryz.prog 149 #[.slice (some ⟨blk, off, none⟩) d.size cap, .int .i64 a, .int .i64 b] w fun e w' =>
      e = .returned (.tuple #[]) ∧ ∃ n, w' = putRow u32v (Sort.ahead w n) blk off (Sort.insertionSort ltN d a b) := by
  go_enter Tryz.func149, Tryz.ntmps149
  go_wp2_with fail
  go_loopw [6] (fun vi wr => ∃ (i n : Nat) (dk : Array Nat), vi = .int .i64 i ∧ a < i ∧ i ≤ b + 1 ∧ dk.size = d.size ∧ wr = putRow u32v (Sort.ahead w n) blk off dk ∧
      insOuter ltN a b i dk = insOuter ltN a b (a + 1) d) (fun vi _ => b + 1 - (intOf vi).toNat)
  case atStart => exact ⟨a + 1, 0, d, by go_num, by omega, by omega, rfl, (putRow_self _ _ _ _ _ hH).symm, rfl⟩
  case round =>
    obtain ⟨i, n, dk, rfl, hai, hib, hsk, hwr, hO⟩ := hrel
    have HO : Hid (insOuter ltN a b i dk = insOuter ltN a b (a + 1) d) := hO
    clear hO
    go_wp2_with fail
    · go_loopw [7] (fun vj wr2 => ∃ (j m : Nat) (dj : Array Nat), vj = .int .i64 j ∧ a ≤ j ∧ j ≤ i ∧ dj.size = d.size ∧ wr2 = putRow u32v (Sort.ahead w m) blk off dj ∧
          insInner ltN a j dj = insInner ltN a i dk) (fun vj _ => (intOf vj).toNat)
      case atStart => exact ⟨i, n, dk, rfl, by omega, Nat.le_refl _, hsk, rfl, rfl⟩
      case round =>
        obtain ⟨j, m, dj, rfl, haj, hji, hsj, hw2, hI⟩ := hrel
        have hlt : i < b := by assumption
        obtain ⟨G, hG⟩ : ∃ G : Nat → Nat, ∀ t, G t = dj[t]! := ⟨fun t => dj[t]!, fun _ => rfl⟩
        have hcw : ∀ t, t < d.size → wr.cell? ⟨blk, off + t, none⟩ = some (u32v (G t)) := fun t ht => by
          rw [hw2, hG]; exact cell?_putRow _ _ _ _ d dj (holds_ahead _ _ _ _ _ _ hH) hsj t (by omega)
        have hfw : ∀ t, t < d.size → wr.frozen? ⟨blk, off + t, none⟩ = false := fun t ht => by
          rw [hw2, frozen?_putRow]; exact ((holds_ahead _ _ m _ _ _ hH) t ht).2
        have HW : Hid (wr = putRow u32v (Sort.ahead w m) blk off dj) := hw2
        have HG : Hid (∀ t, G t = dj[t]!) := hG
        have HI : Hid (insInner ltN a j dj = insInner ltN a i dk) := hI
        clear hw2 hG hI hH
        have out : (j ≤ a ∨ ltN dj[j]! dj[j - 1]! = false) → ∀ q, ∃ i' n' dk', Value.int .i64 ((i : Int) + 1) = .int .i64 (i' : Nat) ∧ a < i' ∧ i' ≤ b + 1 ∧ dk'.size = d.size ∧
            wr.drewN q = putRow u32v (Sort.ahead w n') blk off dk' ∧ insOuter ltN a b i' dk' = insOuter ltN a b (a + 1) d := fun hs q =>
          ⟨i + 1, m + q, dj, by go_num, by omega, by omega, hsj, by rw [HW.out]; exact putRow_drewN _ _ _ _ _ _ _,
            by rw [← HO.out, insOuter_go _ _ _ _ _ hlt, ← HI.out, insInner_stop _ _ _ _ hs]⟩
        have OUT : Hid _ := out
        clear out
        go_wp2_with fail
        by_cases hja : a < j
        · go_quiet (first | (go_at_call 155; refine Calls.quiet_of_same (cmp_Less_u32 _ _ _)))
          go_wp2_with fail
          · have hl : ltN (G j) (G (j - 1)) = true := by assumption
            go_region
            all_goals go_wp2_with fail
            go_roundw
            case rel =>
              refine ⟨j - 1, m + (nq + 1), swp dj j (j - 1), by congr 1; omega, by omega, by omega, by rw [size_swp]; exact hsj, ?_, ?_⟩
              · rw [HW.out, HG.out, HG.out]
                exact swap_worldA _ w m (nq + 1) blk off dj j (j - 1) (by omega) (by omega)
              · rw [← HI.out, insInner_go ltN a j dj hja (by rw [← HG.out, ← HG.out]; exact hl)]
            case measure => simp [intOf]; omega
          · have hl : ltN (G j) (G (j - 1)) = false := by assumption
            go_roundw
            case rel => exact OUT.out (Or.inr (by rw [← HG.out, ← HG.out]; exact hl)) nq
            case measure => simp [intOf]; omega
        · go_quiet (first | (go_at_call 155; refine Calls.quiet_of_same (cmp_Less_u32 _ _ _)))
          go_wp2_with fail
          go_roundw
          case rel => exact OUT.out (Or.inl (by omega)) nq
          case measure => simp [intOf]; omega
    · have hge : ¬ i < b := by assumption
      go_end0
      exact ⟨rfl, n, by unfold Sort.insertionSort; rw [← HO.out, insOuter_stop _ _ _ _ _ hge]⟩

set_option maxRecDepth 100000 in
set_option maxHeartbeats 1000000 in
/-- Of at most 12 elements the library's sort is the insertion sort. -/
theorem pdq_u32 (blk off cap : Nat) (d : Array Nat) (w : World) (hH : Holds u32v w blk off d) (h12 : d.size ≤ 12) (lim : Int) :
    Calls Tryz.prog 136 #[.slice (some ⟨blk, off, none⟩) d.size cap, .int .i64 0, .int .i64 d.size, .int .i64 lim] w fun e w' =>
      e = .returned (.tuple #[]) ∧ ∃ n, w' = putRow u32v (Sort.ahead w n) blk off (Sort.insertionSort ltN d 0 d.size) := by
  have HI := Lib.hid (insertion_u32 blk off cap 0 d.size d w hH (Nat.zero_le _) (Nat.le_refl _) (by omega))
  have d1 : decide ((d.size : Int) ≤ 12) = true := by rw [decide_eq_true_eq]; omega
  clear hH
  go_enter Tryz.func136, Tryz.ntmps136
  go_wp2_with fail
  refine wp_loop_rounds 1 ?_
  rw [rounds_succ]
  go_wp2_with fail
  refine HI.out.mono ?_
  rintro e w1 ⟨rfl, n, hw⟩
  go_wp2_with fail
  refine bodyPost_ret (results_none rfl _ _ _) rfl ?_
  exact ⟨rfl, n, rfl⟩

set_option maxRecDepth 100000 in
set_option maxHeartbeats 1000000 in
theorem sort_u32 (blk off cap : Nat) (d : Array Nat) (w : World) (hH : Holds u32v w blk off d) (h12 : d.size ≤ 12) :
    Calls Tryz.prog 92 #[.slice (some ⟨blk, off, none⟩) d.size cap] w fun e w' =>
      e = .returned (.tuple #[]) ∧ ∃ n, w' = putRow u32v (Sort.ahead w n) blk off (Sort.insertionSort ltN d 0 d.size) := by
  have HP := Lib.hid (pdq_u32 blk off cap d w hH h12)
  have HL := Lib.hid fun (x : Int) (W : World) (h0 : 0 ≤ x) (h1 : x ≤ 18446744073709551615) => Tryz.bits_Len x W h0 h1
  clear hH
  go_enter Tryz.func92, Tryz.ntmps92
  go_wp2_with fail
  refine (HL.out _ _ (by omega) (by omega)).mono ?_
  rintro e w1 ⟨rfl, hw⟩
  subst w1
  go_wp2_with fail
  refine (HP.out _).mono ?_
  rintro e w1 ⟨rfl, n, hw⟩
  go_wp2_with fail
  go_end0
  exact ⟨rfl, n, rfl⟩

/-- A list of numbers, sorted as the library does. -/
def Sp.sorted (l : List Nat) : List Nat := (Sort.insertionSort ltN l.toArray 0 l.length).toList
theorem ltN_swo : SWO ltN := by
  constructor <;> simp [ltN] <;> omega
theorem Sp.sorted_spec (l : List Nat) : (Sp.sorted l).Perm l ∧ (Sp.sorted l).Pairwise (· ≤ ·) := by
  obtain ⟨⟨h1, h2, h3⟩, h4⟩ := insertionSort_holds ltN_swo l.toArray 0 l.length (Nat.zero_le _) (by simp)
  refine ⟨?_, ?_⟩
  · unfold Sp.sorted
    have e1 : (Sort.insertionSort ltN l.toArray 0 l.length).extract 0 l.length = Sort.insertionSort ltN l.toArray 0 l.length := by
      apply Array.ext
      · simp [h1]
      · intro i _ _; simp
    have e2 : l.toArray.extract 0 l.length = l.toArray := by
      apply Array.ext
      · simp
      · intro i _ _; simp
    rw [e1, e2] at h3
    simpa using h3
  · unfold Sp.sorted
    rw [List.pairwise_iff_getElem]
    intro i j hi hj hij
    have hsz : (Sort.insertionSort ltN l.toArray 0 l.length).size = l.length := by rw [h1]; simp
    have := h4 i j (Nat.zero_le _) hij (by simpa [hsz] using hj)
    rw [getElem!_pos _ i (by simpa using hi), getElem!_pos _ j (by simpa using hj)] at this
    simpa [ltN] using this
theorem Sp.sorted_one (x : Nat) : Sp.sorted [x] = [x] := by
  have := (Sp.sorted_spec [x]).1
  exact List.perm_singleton.1 this

/-- slices.Sort of a row of numbers from a block's beginning on. -/
theorem sort_row {w : World} {g cap : Nat} {cs : Array Value} {l : List Nat} (hb : Blk w g 26 cs) (hl : l.length ≤ 12) (hc : ∀ j, j < l.length → cs[j]? = some (u32v l[j]!)) :
    Calls Tryz.prog 92 #[.slice (some ⟨g, 0, none⟩) l.length cap] w fun e w' => e = .returned (.tuple #[]) ∧
      ∃ cs', Blk w' g 26 cs' ∧ cs'.size = cs.size ∧ (∀ j, j < l.length → cs'[j]? = some (u32v (Sp.sorted l)[j]!)) ∧ w.grownBy w' (some g) := by
  have hH : Holds u32v w g 0 l.toArray := by
    intro j hj
    have hj' : j < l.length := by simpa using hj
    rw [Nat.zero_add]
    refine ⟨(hb.cell j).trans ?_, hb.frozen j⟩
    rw [hc j hj']
    simp [hj']
  have hs := sort_u32 g 0 cap l.toArray w hH (by simpa using hl)
  have hsz : l.toArray.size = l.length := by simp
  rw [hsz] at hs
  have hps : (Sp.sorted l).length = l.length := (Sp.sorted_spec l).1.length_eq
  refine hs.mono ?_
  rintro e w' ⟨rfl, n, rfl⟩
  refine ⟨rfl, _, putRow_heap w n g _ cs _ hb, by simp [Go.Sort.putCells], fun j hj => ?_, putRow_grown w n g _⟩
  have hjc : j < cs.size := by
    rcases Nat.lt_or_ge j cs.size with h | h
    · exact h
    · have := hc j hj; rw [Array.getElem?_eq_none h] at this; cases this
  have hlen : (Sort.insertionSort ltN l.toArray 0 l.length).size = l.length := hps
  simp only [Go.Sort.putCells, Array.getElem?_mapIdx]
  rw [Array.getElem?_eq_getElem hjc]
  simp only [Option.map_some, Nat.zero_le, Nat.zero_add, true_and, Nat.sub_zero]
  rw [if_pos (by rw [hlen]; exact hj)]
  unfold Sp.sorted
  rw [getElem!_pos _ j (by rw [hlen]; exact hj), getElem!_pos _ j (by simpa [hlen] using hj)]
  simp
end Go.Proofs.YtbpjgdbkmnhnmaaGreat

/- The walks of package pool: writes of pages that are clean. -/
namespace Go.Proofs.YtbpjgdbkmnhnmaaGreat
open Go.RowKit Go.Conc

theorem frCells_one (it : Sp.It) (A : Option Addr) (c : Nat) : (frCells it A c).toArray.all (·.oneCell') = true := by simp [frCells, Value.oneCell']
theorem fr_size : (Tryz.prog.info? 88).map (·.size) = some 9 := by kernel_rfl

section
variable {fb : Nat} {cs : Array Value}
/-- A frame, loaded whole. -/
theorem load_frame {W : World} {i : Nat} {L : List Value} (hb : Blk W fb 88 cs) (hL : L.length = 9) (hc : ∀ j, j < 9 → cs[i * 9 + j]? = L[j]?) :
    (loadVar 88 ⟨fb, i * 9, none⟩).run Tryz.prog W = .ok (.agg L.toArray) W := by
  refine run_loadVar_part W _ _ _ _ (fun j u hu => ?_) Tryz.underlying88 rfl (by rw [hL]; exact fr_size)
  have hj : j < 9 := by have := (List.getElem?_eq_some_iff.1 hu).1; omega
  have e : (⟨fb, i * 9, none⟩ : Addr).add j = ⟨fb, i * 9 + j, none⟩ := by cases j <;> simp [Addr.add]
  rw [e, hb.cell, hc j hj, hu]
end

set_option maxRecDepth 100000 in
set_option maxHeartbeats 2000000 in
theorem pool_writes_clean {F R : Foot} {w : World} {gp gd gl at_ base fb cb mb s r : Nat} {v : Value} {cs : Array Value} {fl ids : List Nat} {p : Sp.Pl} (h : IsPlAt F R w gp gd gl at_ base fb cb mb v s r cs fl ids p)
    {l : List Nat} {gx cap : Nat} {xs : Array Value} (hb : Blk w gx 26 xs) (hgx : ¬ F gx) (hl : l.length ≤ 12) (hxs : ∀ j, j < l.length → xs[j]? = some (u32v l[j]!))
    (hin : ∀ n ∈ l, n < 4294967296 ∧ ∃ it, p.find n = some it ∧ it.dirty = false) :
    Calls Tryz.prog 42 #[ptr gp, .slice (some ⟨gx, 0, none⟩) l.length cap] w fun e w' => e = .returned (.int .i64 0) ∧ Turns (only gx) (only gx) w w' := by
  have HS := Lib.hid (sort_row (cap := cap) hb hl hxs)
  have H := Lib.hid h
  have hgl : gx < w.heap.size := hb.lt
  have hperm := (Sp.sorted_spec l).1
  have hin2 : ∀ n ∈ Sp.sorted l, n < 4294967296 ∧ ∃ it, p.find n = some it ∧ it.dirty = false := fun n hn => hin n (hperm.mem_iff.1 hn)
  have hps := hperm.length_eq
  have HIN := Lib.hid hin2
  have hn64 := h.wf.n64
  obtain ⟨i9, hi9, hz9, hz91, hz92⟩ := info_parts fr_info
  clear h hb hxs hin hin2
  go_enter Tryz.func42, Tryz.ntmps42
  go_wp2_with fail
  refine HS.out.mono ?_
  rintro e w1 ⟨rfl, cs1, hb1, hcs1, hc1, hg1⟩
  rw [← hps] at hc1
  have ht1 : Turns (only gx) (only gx) w w1 := (Turns.refl (only gx) w).grown hg1 (fun k hk => .inl (by injection hk with hk; exact hk.symm))
  have H1 := Lib.hid (H.out.keep ht1.size (fun b hb => ht1.block b (H.out.lt b hb) (fun e => hgx (by have e : b = gx := e; rw [← e]; exact hb))))
  have HC1 := Lib.hid hc1
  have HB1 := Lib.hid hb1
  have HG := Lib.hid hgx
  clear HS H hg1 hc1 hb1 hperm hgx
  generalize Sp.sorted l = q at *
  rw [← hps] at hl ⊢
  clear hps
  go_wp2_with fail
  go_loopw [5, 6, 21] (fun v5 v6 i wr => ∃ k : Nat, k ≤ q.length ∧ v5 = .slice none 0 0 ∧ v6 = .int .u64 0 ∧ i = .int .i64 k ∧ Turns noFoot noFoot w1 wr) (fun _ _ i _ => q.length - (intOf i).toNat)
  case atStart => exact ⟨0, by omega, rfl, rfl, rfl, Turns.refl _ _⟩
  case round =>
    obtain ⟨k, hk, rfl, rfl, rfl, htr⟩ := hrel
    have H2 := Lib.hid (H1.out.keep htr.size (fun b hb => htr.block b (H1.out.lt b hb) (fun e => e)))
    have hB2 := HB1.out.turns htr (fun e => e)
    by_cases hlt : k < q.length
    · have hcell := (hB2.cell k).trans (HC1.out k hlt)
      obtain ⟨hid, it, hf, hd⟩ := HIN.out q[k]! (by rw [getElem!_pos _ k hlt]; exact List.getElem_mem hlt)
      have hmeas : k + 1 ≤ q.length := hlt
      clear hB2
      generalize q[k]! = id at *
      obtain ⟨hit, rfl⟩ := Sp.Pl.find_mem hf
      obtain ⟨A, c, hA, hR, hc⟩ := H2.out.fr.item it hit
      have hlt9 := H2.out.wf.idx_lt hit
      have hload := fun (W : World) (hb : Blk W fb 88 cs) => load_frame hb rfl hc
      have HSS : ∀ W, IsPlAt F R W gp gd gl at_ base fb cb mb v s r cs fl ids p → W.cell? ⟨gp, 4, none⟩ = some (.slice (some ⟨fb, 0, none⟩) p.n p.n) ∧ W.cell? ⟨gp, 6, none⟩ = some (.map (some mb)) ∧
          (Instr.lookup 81 (.map (some mb)) (u32v it.page.id) false).run Tryz.prog W = .ok (.int .i64 it.idx) W ∧ Blk W fb 88 cs := fun W h => by
        obtain ⟨c0, c1, c2, c3, c4, c5, c6, c7⟩ := h.cells
        exact ⟨c4, c6, h.look hid hf, h.fr.blk⟩
      have HSSH := Lib.hid HSS
      have HL := Lib.hid hload
      clear HSS hload hc hA hR hf
      go_wp2_with fail
      refine R_begin (fun W => W.cell? ⟨gp, 4, none⟩ = some (.slice (some ⟨fb, 0, none⟩) p.n p.n) ∧ W.cell? ⟨gp, 6, none⟩ = some (.map (some mb)) ∧
          (Instr.lookup 81 (.map (some mb)) (u32v it.page.id) false).run Tryz.prog W = .ok (.int .i64 it.idx) W ∧ Blk W fb 88 cs) (fun j => j == 13) rfl ?_
      have hS := Lib.hid (HSSH.out wr.drew (H2.out.keep (Nat.le_refl _) (fun _ _ => rfl)))
      refine R_take 0 25 (v := ?_) rfl rfl (by rfl) (by kernel_rfl) (fun _ _ _ h => h) hS.out ?_ ?_
      rotate_left
      · intro w hSw; (try dsimp only at hSw); go_simp; (try with_reducible rfl)
      simp only [List.setIfInBounds_toArray, List.set_cons_zero, List.set_cons_succ]
      refine R_take 1 26 (v := ?_) rfl rfl (by rfl) (by kernel_rfl) (fun _ _ _ h => h) hS.out ?_ ?_
      rotate_left
      · intro w hSw; (try dsimp only at hSw); go_simp; (try with_reducible rfl)
      simp only [List.setIfInBounds_toArray, List.set_cons_zero, List.set_cons_succ]
      refine R_take 2 27 (v := ?_) rfl rfl (by rfl) (by kernel_rfl) (fun _ _ _ h => h) hS.out ?_ ?_
      rotate_left
      · intro w hSw; (try dsimp only at hSw); go_simp; (try with_reducible rfl)
      simp only [List.setIfInBounds_toArray, List.set_cons_zero, List.set_cons_succ]
      refine R_take 3 28 (v := ?_) rfl rfl (by rfl) (by kernel_rfl) (fun _ _ _ h => h) hS.out ?_ ?_
      rotate_left
      · intro w hSw; (try dsimp only at hSw); go_simp; (try with_reducible rfl)
      simp only [List.setIfInBounds_toArray, List.set_cons_zero, List.set_cons_succ]
      refine R_take 4 29 (v := ?_) rfl rfl (by rfl) (by kernel_rfl) (fun _ _ _ h => h) hS.out ?_ ?_
      rotate_left
      · intro w hSw; (try dsimp only at hSw); go_simp; (try with_reducible rfl)
      simp only [List.setIfInBounds_toArray, List.set_cons_zero, List.set_cons_succ]
      refine R_take 5 30 (v := ?_) rfl rfl (by rfl) (by kernel_rfl) (fun _ _ _ h => h) hS.out ?_ ?_
      rotate_left
      · intro w hSw; (try dsimp only at hSw); go_simp; (try with_reducible rfl)
      simp only [List.setIfInBounds_toArray, List.set_cons_zero, List.set_cons_succ]
      refine R_take 6 31 (v := ?_) rfl rfl (by rfl) (by kernel_rfl) (fun _ _ _ h => h) hS.out ?_ ?_
      rotate_left
      · intro w hSw; (try dsimp only at hSw); go_simp; (try with_reducible rfl)
      simp only [List.setIfInBounds_toArray, List.set_cons_zero, List.set_cons_succ]
      refine R_take 7 32 (v := ?_) rfl rfl (by rfl) (by kernel_rfl) (fun _ _ _ h => h) hS.out ?_ ?_
      rotate_left
      · intro w hSw; (try dsimp only at hSw); go_simp; (try with_reducible rfl)
      simp only [List.setIfInBounds_toArray, List.set_cons_zero, List.set_cons_succ]
      refine R_take 8 33 (v := ?_) rfl rfl (by rfl) (by kernel_rfl) (fun _ _ _ h => h) hS.out ?_ ?_
      rotate_left
      · intro w hSw; (try dsimp only at hSw); go_simp; (try with_reducible rfl)
      simp only [List.setIfInBounds_toArray, List.set_cons_zero, List.set_cons_succ]
      refine R_take 9 34 (v := ?_) rfl rfl (by rfl) (by kernel_rfl) (fun _ _ _ h => h) hS.out ?_ ?_
      rotate_left
      · intro w hSw; (try dsimp only at hSw); go_simp; (try with_reducible rfl)
      simp only [List.setIfInBounds_toArray, List.set_cons_zero, List.set_cons_succ]
      refine R_take 10 35 (v := ?_) rfl rfl (by rfl) (by kernel_rfl) (fun _ _ _ h => h) hS.out ?_ ?_
      rotate_left
      · intro w hSw; (try dsimp only at hSw); go_simp; (try with_reducible rfl)
      simp only [List.setIfInBounds_toArray, List.set_cons_zero, List.set_cons_succ]
      refine R_take 11 36 (v := .agg (frCells it A c).toArray) rfl rfl (by rfl) (by kernel_rfl) (fun _ _ _ h => h) hS.out ?_ ?_
      · intro w hSw
        exact run_op_load _ _ _ rfl rfl (HL.out w hSw.2.2.2)
      simp only [List.setIfInBounds_toArray, List.set_cons_zero, List.set_cons_succ]
      have hk3 := H2.out.keep (w' := wr.drew.alloc (.cells zeroFr.toArray 88)) (by simp) (fun b hb => Below.heap_alloc wr.drew _ b (H2.out.lt b hb))
      refine R_run 12 9 (v := .pointer (some ⟨wr.drew.heap.size, 0, none⟩)) (w' := wr.drew.alloc (.cells zeroFr.toArray 88)) rfl rfl (by rfl) (by kernel_rfl) (run_op_alloc _ i9 _ _ rfl hi9 hz9 rfl) (fun _ => HSSH.out _ hk3) ?_
      simp only [List.setIfInBounds_toArray, List.set_cons_zero, List.set_cons_succ]
      have hB9 := Blk.new wr.drew 88 zeroFr.toArray
      have ht9 := htr.drew.alloc (.cells zeroFr.toArray 88)
      have hl9 : w1.heap.size ≤ wr.drew.heap.size := htr.size
      obtain ⟨g9, hg9⟩ : ∃ g, g = wr.drew.heap.size := ⟨_, rfl⟩
      obtain ⟨w3, hw3⟩ : ∃ w3, w3 = wr.drew.alloc (.cells zeroFr.toArray 88) := ⟨_, rfl⟩
      rw [← hw3, ← hg9] at hB9 ⊢
      rw [← hw3] at ht9
      rw [← hg9] at hl9
      clear hw3 hg9 hk3 hS HL HSSH
      refine R_store 13 (n := .skip) (w' := w3.setRow g9 (frCells it A c).toArray) rfl rfl (by rfl) (by kernel_rfl) (run_op_store _ _ _ _ _ rfl rfl rfl (run_storeVar_part w3 g9 0 _ _ _ (frCells it A c).toArray hB9 fr_size (by show 0 + 9 ≤ 9; omega) (frCells_one it A c))) (.inl rfl) (fun h => nomatch h) ?_
      refine R_done (by kernel_rfl) ?_ _
      rename_i K9 hK9
      refine hK9 _ _ ?_
      have hB9 := hB9.setRow (frCells it A c).toArray
      have ht9 := ht9.setRow (g := g9) (.inr hl9) (frCells it A c).toArray
      obtain ⟨w4, hw4⟩ : ∃ w4, w4 = w3.setRow g9 (frCells it A c).toArray := ⟨_, rfl⟩
      rw [← hw4] at hB9 ht9 ⊢
      clear hw4
      have f7 := hB9.cell 7
      simp only [frCells, List.getElem?_toArray, List.getElem?_cons_succ, List.getElem?_cons_zero, hd] at f7
      clear hB9 hcell
      go_wp2_with fail
      go_roundw
      case rel => exact ⟨k + 1, hmeas, rfl, rfl, by go_num, ht9⟩
      case measure => simp [intOf]; omega
    · obtain rfl : k = q.length := by omega
      clear hB2
      go_wp2_with fail
      go_ret
      exact ⟨rfl, ht1.trans (htr.wider (fun b h => h.elim) (fun b hb => .inl hb))⟩
end Go.Proofs.YtbpjgdbkmnhnmaaGreat

/- The walks of package pool: drops of a page that is clean. -/
namespace Go.Proofs.YtbpjgdbkmnhnmaaGreat
open Go.RowKit Go.Conc

def DropPost (F R : Foot) (w : World) (gp gd gl at_ base fb cb mb s r : Nat) (fl ids : List Nat) (p : Sp.Pl) (it : Sp.It) (e : Ending) (w' : World) : Prop :=
  e = .returned (.int .i64 0) ∧ ∃ F' v' cs', IsPlAt F' R w' gp gd gl at_ base fb cb mb v' (s + 1) r cs' (fl ++ [it.idx]) (ids.filter (fun x => !(x == it.page.id))) (p.drop it.page.id it.idx) ∧ Turns F F' w w'

set_option maxRecDepth 100000 in
set_option maxHeartbeats 2000000 in
theorem pool_drops_clean {F R : Foot} {w : World} {gp gd gl at_ base fb cb mb s r : Nat} {v : Value} {cs : Array Value} {ids : List Nat} {p : Sp.Pl} (h : IsPlAt F R w gp gd gl at_ base fb cb mb v s r cs p.free ids p)
    {id : Nat} (hid : id < 4294967296) {it : Sp.It} (hf : p.find id = some it) (hd : it.dirty = false) :
    Calls Tryz.prog 44 #[ptr gp, u32v id] w (DropPost F R w gp gd gl at_ base fb cb mb s r p.free ids p it) := by
  obtain ⟨hit, rfl⟩ := Sp.Pl.find_mem hf
  refine calls_of_wpN Tryz.func44 rfl ?_
  simp only [Tryz.ntmps44, List.size_toArray, List.length_cons, List.length_nil, Nat.reduceAdd, Nat.reduceSub, Array.replicate_succ, Array.replicate_zero, List.push_toArray, List.append_toArray, List.nil_append, List.cons_append]
  have hb0 := Blk.new w 26 #[u32v it.page.id]
  have h0 := h.keep (w' := w.alloc (.cells #[u32v it.page.id] 26)) (by simp) (fun b hb => Below.heap_alloc w _ b (h.lt b hb))
  have ht0 := (Turns.refl F w).alloc (.cells #[u32v it.page.id] 26)
  have ht0n := (Turns.refl noFoot w).alloc (.cells #[u32v it.page.id] 26)
  have hFl := h.lt
  refine wpN_seq_k ?_
  intro K hK
  go_wp2_with fail
  have hl0 : w.heap.size ≤ w.heap.size := Nat.le_refl _
  obtain ⟨w1, hw1⟩ : ∃ w1, w1 = w.alloc (.cells #[u32v it.page.id] 26) := ⟨_, rfl⟩
  rw [← hw1] at h0 hb0 ht0 ht0n ⊢
  obtain ⟨b3, hb3⟩ : ∃ b3, b3 = w.heap.size := ⟨_, rfl⟩
  rw [← hb3] at hb0 ⊢
  have hl3 : w.heap.size ≤ b3 := by omega
  clear hw1 hb3 hl0
  have H0 := Lib.hid h0
  have HB0 := Lib.hid hb0
  have c3 := hb0.cell 0
  simp only [List.getElem?_toArray, List.getElem?_cons_zero] at c3
  -- region 1 to 3: writes
  have hb1 := Blk.new w1 26 #[u32v it.page.id]
  have h1 := h0.keep (w' := w1.alloc (.cells #[u32v it.page.id] 26)) (by simp) (fun b hb => Below.heap_alloc w1 _ b (h0.lt b hb))
  have HWR := Lib.hid (pool_writes_clean (l := [it.page.id]) (gx := w1.heap.size) (cap := 1) h1 hb1 (fun hF => by have := h0.lt _ hF; omega) (by simp) (fun j hj => by
    have : j = 0 := by simpa using hj
    subst this; rfl) (fun n hn => by
      rw [List.mem_singleton.1 hn]
      exact ⟨hid, it, hf, hd⟩))
  clear h0 h1 hb0 hb1
  refine wpN_seq_k ?_
  intro K hK
  go_wp2_with fail
  refine HWR.out.mono ?_
  rintro e w2 ⟨rfl, ht2⟩
  have hbl3 : b3 < w1.heap.size := HB0.out.lt
  have hn2 : Turns noFoot noFoot w w2 := by
    have hz := ht0.size
    refine ⟨ht2.os.trans ht0.os, ht2.tape.trans ht0.tape, ht2.output.trans ht0.output, ?_, fun b hb _ => ?_, fun b hb => hb.elim⟩
    · have := ht2.size; simp at this; omega
    · rw [ht2.block b (by simp; omega) (fun e => by have e : b = w1.heap.size := e; omega), Below.heap_alloc w1 _ b (by omega)]
      exact ht0n.block b hb (fun e => e)
  have hb2 := (HB0.out.alloc (.cells #[u32v it.page.id] 26)).turns ht2 (fun e => by have e : b3 = w1.heap.size := e; omega)
  have h2 := h.keep hn2.size (fun b hb => hn2.block b (hFl b hb) (fun e => e))
  clear ht2 HWR HB0 H0 c3 ht0 ht0n
  go_wp2_with fail
  have hkd := fun (W : World) (hs : w2.heap.size ≤ W.heap.size) (hk : ∀ b, F b → W.heap[b]? = w2.heap[b]?) => (h2.keep hs hk).look hid hf
  obtain ⟨c0, c1, c2, c3, c4, c5, c6, c7⟩ := h2.cells
  have cb3 := hb2.cell 0
  simp only [List.getElem?_toArray, List.getElem?_cons_zero] at cb3
  have hS := Lib.hid (⟨c6, cb3, hkd w2.drew (Nat.le_refl _) (fun _ _ => rfl)⟩ : w2.drew.cell? ⟨gp, 6, none⟩ = some (.map (some mb)) ∧ w2.drew.cell? ⟨b3, 0, none⟩ = some (u32v it.page.id) ∧
      (Instr.lookup 81 (.map (some mb)) (u32v it.page.id) false).run Tryz.prog w2.drew = .ok (.int .i64 it.idx) w2.drew)
  clear hkd c0 c1 c2 c3 c4 c5 c6 c7 cb3
  refine wpN_seq_k ?_
  intro K hK
  refine R_begin (fun W => W.cell? ⟨gp, 6, none⟩ = some (.map (some mb)) ∧ W.cell? ⟨b3, 0, none⟩ = some (u32v it.page.id) ∧
      (Instr.lookup 81 (.map (some mb)) (u32v it.page.id) false).run Tryz.prog W = .ok (.int .i64 it.idx) W) (fun _ => false) rfl ?_
  refine R_take 0 14 (v := ?_) rfl rfl (by rfl) (by kernel_rfl) (fun _ _ _ h => h) hS.out ?_ ?_
  rotate_left
  · intro w hSw; (try dsimp only at hSw); go_simp; (try with_reducible rfl)
  simp only [List.setIfInBounds_toArray, List.set_cons_zero, List.set_cons_succ]
  refine R_take 1 15 (v := ?_) rfl rfl (by rfl) (by kernel_rfl) (fun _ _ _ h => h) hS.out ?_ ?_
  rotate_left
  · intro w hSw; (try dsimp only at hSw); go_simp; (try with_reducible rfl)
  simp only [List.setIfInBounds_toArray, List.set_cons_zero, List.set_cons_succ]
  refine R_take 2 16 (v := ?_) rfl rfl (by rfl) (by kernel_rfl) (fun _ _ _ h => h) hS.out ?_ ?_
  rotate_left
  · intro w hSw; (try dsimp only at hSw); go_simp; (try with_reducible rfl)
  simp only [List.setIfInBounds_toArray, List.set_cons_zero, List.set_cons_succ]
  refine R_take 3 17 (v := ?_) rfl rfl (by rfl) (by kernel_rfl) (fun _ _ _ h => h) hS.out ?_ ?_
  rotate_left
  · intro w hSw; (try dsimp only at hSw); go_simp; (try with_reducible rfl)
  simp only [List.setIfInBounds_toArray, List.set_cons_zero, List.set_cons_succ]
  refine R_take 4 18 (v := ?_) rfl rfl (by rfl) (by kernel_rfl) (fun _ _ _ h => h) hS.out ?_ ?_
  rotate_left
  · intro w hSw; (try dsimp only at hSw); go_simp; (try with_reducible rfl)
  simp only [List.setIfInBounds_toArray, List.set_cons_zero, List.set_cons_succ]
  refine R_take 5 19 (v := ?_) rfl rfl (by rfl) (by kernel_rfl) (fun _ _ _ h => h) hS.out ?_ ?_
  rotate_left
  · intro w hSw; (try dsimp only at hSw); go_simp; (try with_reducible rfl)
  simp only [List.setIfInBounds_toArray, List.set_cons_zero, List.set_cons_succ]
  refine R_take 6 6 (v := ?_) rfl rfl (by rfl) (by kernel_rfl) (fun _ _ _ h => h) hS.out ?_ ?_
  rotate_left
  · intro w hSw; (try dsimp only at hSw); go_simp; (try with_reducible rfl)
  simp only [List.setIfInBounds_toArray, List.set_cons_zero, List.set_cons_succ]
  refine R_done (by kernel_rfl) ?_ _
  refine hK _ _ ?_
  have h3 := h2.keep (w' := w2.drew) (Nat.le_refl _) (fun _ _ => rfl)
  have hb3' := hb2.drew
  have hn3 := hn2.drew
  obtain ⟨w3, hw3⟩ : ∃ w3, w3 = w2.drew := ⟨_, rfl⟩
  rw [← hw3] at h3 hb3' hn3 ⊢
  clear hw3 hS h2 hb2 hn2 hK K h
  -- region 5: the frame is made empty
  obtain ⟨c0, c1, c2, c3, c4, c5, c6, c7⟩ := h3.cells
  have hbz : ∀ W, (Instr.build 88 #[]).run Tryz.prog W = .ok (.agg zeroFr.toArray) W := fun W => by kernel_rfl
  have hlt9 := h3.wf.idx_lt hit
  have hn64 := h3.wf.n64
  have H3 := Lib.hid h3
  have hcs := h3.fr.size
  clear c0 c1 c2 c3 c5 c6 c7 h3
  have hB3 := H3.out.fr.blk
  have HST := run_storeVar_part (P := Tryz.prog) w3 fb (it.idx * 9) 88 88 cs zeroFr.toArray hB3 fr_size (by rw [hcs]; show it.idx * 9 + 9 ≤ p.n * 9; omega) (by simp [zeroFr, Value.oneCell'])
  refine wpN_seq_k ?_
  intro K hK
  go_wp2_with (first | ((with_reducible refine wpList_skip (w' := w3.setRow fb (partRow cs (it.idx * 9) zeroFr)) rfl rfl ?_ ?_); exact run_op_store _ _ _ ⟨fb, it.idx * 9, none⟩ (.agg zeroFr.toArray) rfl rfl rfl HST))
  clear HST
  obtain ⟨f1, f2, f3, f4, f5⟩ := H3.out.foot
  obtain ⟨n1, n2, n3, n4, n5, n6⟩ := H3.out.ne
  obtain ⟨o1, o2, o3, o4⟩ := H3.out.own_ne
  have hB4 := hB3.setRow (partRow cs (it.idx * 9) zeroFr)
  have hk4 : ∀ b, b ≠ fb → (w3.setRow fb (partRow cs (it.idx * 9) zeroFr)).heap[b]? = w3.heap[b]? := fun b hb => setRow_other w3 fb b _ hb
  have ht4 := (Turns.refl F w3).setRow (g := fb) (.inl f2) (partRow cs (it.idx * 9) zeroFr)
  have hb34 : b3 ≠ fb := fun e => by have := hFl fb f2; omega
  have hb4' := hb3'.keep (hk4 b3 hb34)
  have hP4 := H3.out.blk.keep (hk4 gp n1)
  have hM4 := H3.out.map.keep (hk4 mb (Ne.symm n5))
  obtain ⟨w4, hw4⟩ : ∃ w4, w4 = w3.setRow fb (partRow cs (it.idx * 9) zeroFr) := ⟨_, rfl⟩
  rw [← hw4] at hB4 hk4 ht4 hb4' hP4 hM4 ⊢
  clear hw4
  -- region 6: delete
  have c6 := hP4.cell 6
  simp only [plCells, List.getElem?_toArray, List.getElem?_cons_succ, List.getElem?_cons_zero] at c6
  have cb3 := hb4'.cell 0
  simp only [List.getElem?_toArray, List.getElem?_cons_zero] at cb3
  have hS := Lib.hid (⟨c6, cb3⟩ : w4.drew.cell? ⟨gp, 6, none⟩ = some (.map (some mb)) ∧ w4.drew.cell? ⟨b3, 0, none⟩ = some (u32v it.page.id))
  clear c6 cb3
  refine wpN_seq_k ?_
  intro K hK
  refine R_begin (fun W => W.cell? ⟨gp, 6, none⟩ = some (.map (some mb)) ∧ W.cell? ⟨b3, 0, none⟩ = some (u32v it.page.id)) (fun _ => false) rfl ?_
  refine R_take 0 27 (v := ?_) rfl rfl (by rfl) (by kernel_rfl) (fun _ _ _ h => h) hS.out ?_ ?_
  rotate_left
  · intro w hSw; (try dsimp only at hSw); go_simp; (try with_reducible rfl)
  simp only [List.setIfInBounds_toArray, List.set_cons_zero, List.set_cons_succ]
  refine R_take 1 28 (v := ?_) rfl rfl (by rfl) (by kernel_rfl) (fun _ _ _ h => h) hS.out ?_ ?_
  rotate_left
  · intro w hSw; (try dsimp only at hSw); go_simp; (try with_reducible rfl)
  simp only [List.setIfInBounds_toArray, List.set_cons_zero, List.set_cons_succ]
  refine R_take 2 29 (v := ?_) rfl rfl (by rfl) (by kernel_rfl) (fun _ _ _ h => h) hS.out ?_ ?_
  rotate_left
  · intro w hSw; (try dsimp only at hSw); go_simp; (try with_reducible rfl)
  simp only [List.setIfInBounds_toArray, List.set_cons_zero, List.set_cons_succ]
  refine R_take 3 30 (v := ?_) rfl rfl (by rfl) (by kernel_rfl) (fun _ _ _ h => h) hS.out ?_ ?_
  rotate_left
  · intro w hSw; (try dsimp only at hSw); go_simp; (try with_reducible rfl)
  simp only [List.setIfInBounds_toArray, List.set_cons_zero, List.set_cons_succ]
  refine R_take 4 31 (v := ?_) rfl rfl (by rfl) (by kernel_rfl) (fun _ _ _ h => h) hS.out ?_ ?_
  rotate_left
  · intro w hSw; (try dsimp only at hSw); go_simp; (try with_reducible rfl)
  simp only [List.setIfInBounds_toArray, List.set_cons_zero, List.set_cons_succ]
  obtain ⟨w5, hdel, hM5, hg5⟩ := UMap.del (w := w4.drew) hM4.drew Tryz.underlying26 Tryz.underlying81 hid (i := it.idx) (by simp [Sp.Pl.lk, hf]) 0
  have hP5 := hP4.drew.grown hg5 (fun e => n3 (by injection e))
  have hbm : b3 ≠ mb := fun e => by have := hFl mb f4; omega
  have hb5 := hb4'.drew.grown hg5 (fun e => hbm (by injection e))
  have ht5 := ht4.drew.grown hg5 (fun k hk => .inl (by injection hk with hk; rw [← hk]; exact f4))
  have hB5 := hB4.drew.grown hg5 (fun e => n5 (by injection e))
  refine R_store 5 (n := .value (.tuple #[])) (w' := w5) rfl rfl (by rfl) (by kernel_rfl) (by go_simp) (.inr ⟨_, rfl⟩) (fun _ => ⟨(hP5.cell 6).trans rfl, (hb5.cell 0).trans rfl⟩) ?_
  refine R_done (by kernel_rfl) ?_ _
  refine hK _ _ ?_
  have hsz9 : it.idx * 9 + 9 ≤ cs.size := by omega
  have h5 := H3.out.drop (w' := w5) hit ht5.size (fun b hb h1 h2 => (hg5.block b (by have := H3.out.lt b hb; have := ht4.size; simp; omega) (fun e => h2 (by injection e))).trans (hk4 b h1)) hB5 (Framed.part rfl hsz9) (fun j hj => part_at rfl hsz9 hj) hM5
  have hc5 := h5.chan
  have hrow5 := h5.row
  have hF5 := h5.lt
  have c7 := hP5.cell 7
  have f7 := hP5.frozen 7
  simp only [plCells, List.getElem?_toArray, List.getElem?_cons_succ, List.getElem?_cons_zero] at c7
  have hn3v : v.ownBlock ≠ some b3 := fun e => by have := hFl b3 (f5 b3 e); omega
  have HDR := Lib.hid (delete_row (w := w5) (asks_drops it.page.id b3) hrow5 hb5 hn3v)
  have H5 := Lib.hid h5
  have hlen := H3.out.wf.len
  have hit1 : 0 < p.items.length := List.length_pos_of_mem hit
  clear h5 hrow5 hdel hg5 hM5 hM4 hP4 hb4' ht4 hB4 hk4 hB3 hb3' hS hK K hB5 hc5 c4 hb5
  refine wpN_seq_k ?_
  intro K hK
  go_wp2_with fail
  refine HDR.out.mono ?_
  rintro e w6 ⟨v', rfl, r1, r2, r3⟩
  have ht6 : Turns F F w3 w6 := ht5.grown r2 (fun k hk => .inl (f5 k hk))
  have hP6 := hP5.grown r2 (fun e => o1 e.symm)
  have c7 := hP6.cell 7
  have f7 := hP6.frozen 7
  simp only [plCells, List.getElem?_toArray, List.getElem?_cons_succ, List.getElem?_cons_zero] at c7
  have hrd := Lib.hid (H5.out.rowed (w' := w6.setCell ⟨gp, 7, none⟩ v') (v' := v') (ids' := ids.filter (fun x => !(x == it.page.id))) (by have := r2.size; simpa [World.setCell] using this)
    (fun b hb h1 h2 => (Below.heap_setCell w6 _ _ b h1).trans (r2.block b (hF5 b hb) (fun e => h2 e.symm))) (hP6.set_ 7 v')
    (row_keep r1 (fun b hb => Below.heap_setCell w6 _ _ b (fun e => o1 (by rw [r3 b hb, e])))) (fun b hb => .inl (r3 b hb)))
  have ht7 := ht6.setCell (p := ⟨gp, 7, none⟩) (.inl f1) v'
  obtain ⟨Av, nv, cv, rfl⟩ : ∃ A n c, v' = .slice A n c := by
    rcases r1.2 with ⟨h0, _⟩ | ⟨g6, c6, _, h0, _⟩
    · exact ⟨_, _, _, h0⟩
    · exact ⟨_, _, _, h0⟩
  clear r1 r2 HDR hP6 hP5 H5 H3 ht6
  go_wp2_with fail
  obtain ⟨w7, hw7⟩ : ∃ w7, w7 = w6.setCell ⟨gp, 7, none⟩ (.slice Av nv cv) := ⟨_, rfl⟩
  rw [← hw7] at hrd ht7 ⊢
  clear hw7
  have hc7 := hrd.out.chan
  obtain ⟨c0, c1, c2, c3, c4, c5, c6, c7'⟩ := hrd.out.cells
  clear c0 c1 c2 c3 c4 c6 c7'
  refine wpN_seq ?_
  refine wpN_region ?_
  change wpT _ _ _ [0, 1, 2, 3, 4, 5] _ _
  refine T_value 0 41 (v := ptr gp) (w' := w7) rfl rfl (by rfl) (by go_simp) ?_
  simp only [List.setIfInBounds_toArray, List.set_cons_zero, List.set_cons_succ]
  refine T_value 1 42 (v := ptr gp) (w' := w7) rfl rfl (by rfl) (by go_simp) ?_
  simp only [List.setIfInBounds_toArray, List.set_cons_zero, List.set_cons_succ]
  refine T_value 2 43 (v := .pointer (some ⟨gp, 5, none⟩)) (w' := w7) rfl rfl (by rfl) (by go_simp) ?_
  simp only [List.setIfInBounds_toArray, List.set_cons_zero, List.set_cons_succ]
  refine T_value 3 44 (v := .chan (some cb)) (w' := w7) rfl rfl (by rfl) (by go_simp) ?_
  simp only [List.setIfInBounds_toArray, List.set_cons_zero, List.set_cons_succ]
  refine T_value 4 45 (v := .int .i64 it.idx) (w' := w7) rfl rfl (by rfl) (by go_simp) ?_
  simp only [List.setIfInBounds_toArray, List.set_cons_zero, List.set_cons_succ]
  refine T_send 5 (c := cb) (cap := p.n) (buf := (p.free.map fun (i : Nat) => Value.int .i64 (i : Int)).toArray) (s := s) (r := r) (tm := false) (v := .int .i64 it.idx) (z := .tuple #[]) (w' := w7) rfl rfl (by rfl) (by simp [execOp, scase, Act.eval]) hc7 (by simp; omega) ?_
  refine T_done ?_
  simp only [Exit.then]
  refine wpN_of_wp ?_
  have hch := hrd.out.chans (fl' := p.free ++ [it.idx]) (s' := s + 1) (r' := r)
  change IsPlAt _ _ (w7.setChan cb p.n _ _ _ _ _) _ _ _ _ _ _ _ _ _ _ _ _ _ _ _ at hch
  have hgr := grown_setChan w7 cb p.n ((p.free ++ [it.idx]).map fun (i : Nat) => Value.int .i64 (i : Int)).toArray false (s + 1) r false
  have ht8 := ht7.grown hgr (fun k hk => .inl (by injection hk with hk; rw [← hk]; exact f3))
  have eb : ((p.free.map fun (i : Nat) => Value.int .i64 (i : Int)).toArray).push (.int .i64 (it.idx : Int)) = ((p.free ++ [it.idx]).map fun (i : Nat) => Value.int .i64 (i : Int)).toArray := by simp
  rw [eb]
  have HCH := Lib.hid hch
  clear hch hgr hrd hc7 ht7 eb
  generalize w7.setChan cb p.n ((p.free ++ [it.idx]).map fun (i : Nat) => Value.int .i64 (i : Int)).toArray false (s + 1) r false = w8 at *
  go_wp2_with fail
  go_ret
  refine ⟨rfl, _, _, _, HCH.out, ?_⟩
  have hn3z := hn3.size
  refine ⟨ht8.os.trans hn3.os, ht8.tape.trans hn3.tape, ht8.output.trans hn3.output, Nat.le_trans hn3z ht8.size, fun b hb hn => ?_, fun b hb => ?_⟩
  · rw [ht8.block b (by omega) hn]; exact hn3.block b hb (fun e => e)
  · rcases hb with hb | hb
    · exact .inl hb
    · exact .inl (f5 b (r3 b hb))
end Go.Proofs.YtbpjgdbkmnhnmaaGreat
