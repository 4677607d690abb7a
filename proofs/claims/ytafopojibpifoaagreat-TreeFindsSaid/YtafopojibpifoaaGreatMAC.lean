/- The walks of package disk: none, may, burns. -/
import Derived.Test.YtafopojibpifoaaGreatMAB
import Derived.Test.YtafopojibpifoaaGreatMAA
import Derived.Laws.Append
import Derived.Laws.Rows
import Derived.OrdersHeld
import Derived.Deep.RegionHeld
import Derived.Laws.Cover3
import Derived.Great.BuildSlice
import Derived.Laws.AppendOwn
import Derived.Deep.WholeRow
import Derived.RangeFuncNested
import Derived.RangeFuncBound
import Derived.RangeFuncCalls
import Derived.RangeFuncLeaves

namespace Go.Proofs.YtafopojibpifoaaGreat
open Go.RowKit

/-- The struct of a disk. -/
abbrev dkCells (A v : Value) (fuse : Int) : Array Value := #[A, v, .int .i64 fuse]

set_option maxRecDepth 100000 in
set_option maxHeartbeats 2000000 in
theorem disk_none {w : World} {g n c : Nat} {a : Addr} {v : Value} {fuse : Int} (hB : Blk w g 159 (dkCells (.slice (some a) n c) v fuse)) (hn : 1 ≤ n) :
    Calls Tryz.prog 129 #[.pointer (some ⟨g, 0, none⟩)] w fun e w' => e = .returned (.bool false) ∧ w' = w := by
  have c0 := hB.cell 0
  simp only [dkCells, List.getElem?_toArray, List.getElem?_cons_zero] at c0
  have d0 : ((n : Int) == 0) = false := by simp; omega
  have d1 : (n == 0) = false := by simp; omega
  clear hB
  go_enter Tryz.func129, Tryz.ntmps129
  go_wp2_with fail
  go_ret
  exact ⟨by simp_all, rfl⟩

theorem disk_none_nil (w : World) :
    Calls Tryz.prog 129 #[.pointer none] w fun e w' => e = .returned (.bool true) ∧ w' = w := by
  go_enter Tryz.func129, Tryz.ntmps129
  go_wp2_with fail
  go_ret
  exact ⟨rfl, rfl⟩

set_option maxRecDepth 100000 in
set_option maxHeartbeats 2000000 in
theorem disk_may {w : World} {g n c : Nat} {a : Addr} {v : Value} {fuse : Int} (hB : Blk w g 159 (dkCells (.slice (some a) n c) v fuse)) (hn : 1 ≤ n) (hf : fuse ≠ 0) :
    Calls Tryz.prog 130 #[.pointer (some ⟨g, 0, none⟩)] w fun e w' => e = .returned (.int .i64 0) ∧ w' = w := by
  have c2 := hB.cell 2
  simp only [dkCells, List.getElem?_toArray, List.getElem?_cons_succ, List.getElem?_cons_zero] at c2
  have d0 : (fuse == 0) = false := by simpa using hf
  have HN := Lib.hid (disk_none hB hn)
  clear hB
  go_enter Tryz.func130, Tryz.ntmps130
  go_wp2_with fail
  refine HN.out.mono ?_
  rintro e w1 ⟨rfl, rfl⟩
  go_wp2_with fail
  go_ret
  exact ⟨rfl, rfl⟩

set_option maxRecDepth 100000 in
set_option maxHeartbeats 2000000 in
theorem disk_may_down {w : World} {g n c : Nat} {a : Addr} {v : Value} (hB : Blk w g 159 (dkCells (.slice (some a) n c) v 0)) (hn : 1 ≤ n) :
    Calls Tryz.prog 130 #[.pointer (some ⟨g, 0, none⟩)] w fun e w' => e = .returned (.int .i64 40) ∧ w' = w := by
  have c2 := hB.cell 2
  simp only [dkCells, List.getElem?_toArray, List.getElem?_cons_succ, List.getElem?_cons_zero] at c2
  have HN := Lib.hid (disk_none hB hn)
  clear hB
  go_enter Tryz.func130, Tryz.ntmps130
  go_wp2_with fail
  refine HN.out.mono ?_
  rintro e w1 ⟨rfl, rfl⟩
  go_wp2_with fail
  go_ret
  exact ⟨rfl, rfl⟩

set_option maxRecDepth 100000 in
set_option maxHeartbeats 2000000 in
theorem disk_burns {w : World} {g : Nat} {A v : Value} {fuse : Int} (hB : Blk w g 159 (dkCells A v fuse)) (h1 : fuse ≤ 9223372036854775807) :
    Calls Tryz.prog 150 #[.pointer (some ⟨g, 0, none⟩)] w fun e w' => e = .returned (.tuple #[]) ∧
      Blk w' g 159 (dkCells A v (Sp.burn fuse)) ∧ Turns (only g) (only g) w w' := by
  have c2 := hB.cell 2
  have f2 := hB.frozen 2
  simp only [dkCells, List.getElem?_toArray, List.getElem?_cons_succ, List.getElem?_cons_zero] at c2
  have HB := Lib.hid hB
  clear hB
  by_cases hp : 0 < fuse
  · have d0 : decide (0 < fuse) = true := by simpa using hp
    have hw : IntKind.i64.wrap (fuse - 1) = fuse - 1 := IntWalk.i64_in _ (by omega)
    have hbn : Hid (Sp.burn fuse = fuse - 1) := Lib.hid (by simp [Sp.burn, hp])
    go_enter Tryz.func150, Tryz.ntmps150
    go_wp2_with fail
    go_end0
    refine ⟨rfl, ?_, (Turns.refl (only g) w).setCell (p := ⟨g, 2, none⟩) (.inl rfl) _⟩
    rw [hbn.out]
    exact HB.out.set_ 2 (.int .i64 (fuse - 1))
  · have d0 : decide (0 < fuse) = false := by simpa using hp
    have hbn : Hid (Sp.burn fuse = fuse) := Lib.hid (by simp [Sp.burn, hp])
    go_enter Tryz.func150, Tryz.ntmps150
    go_wp2_with fail
    go_end0
    refine ⟨rfl, ?_, Turns.refl (only g) w⟩
    rw [hbn.out]
    exact HB.out
end Go.Proofs.YtafopojibpifoaaGreat

/- The walks of package disk: a disk in memory; New, Len. -/
namespace Go.Proofs.YtafopojibpifoaaGreat
open Go.RowKit

/-- Sectors as cells. -/
def secs (l : List Sp.Bs) : List Value := (l.map bcs).flatten
/-- Loose writes as cells. -/
def loos (l : List (Nat × Sp.Bs)) : List Value := (l.map fun x => .int .i64 (x.1 : Int) :: bcs x.2).flatten

theorem flatten_length_all {α β : Type} (f : α → List β) (m : Nat) : ∀ (l : List α), (∀ x ∈ l, (f x).length = m) → ((l.map f).flatten).length = l.length * m
  | [], _ => by simp
  | x :: l, h => by
    rw [List.map_cons, List.flatten_cons, List.length_append, h x (by simp), flatten_length_all f m l (fun y hy => h y (by simp [hy])), List.length_cons, Nat.add_mul, Nat.one_mul, Nat.add_comm]

/-- A disk in memory: its struct in block g; F is all its blocks. -/
structure IsDk (F : Foot) (w : World) (g : Nat) (d : Sp.Dk) : Prop where
  wf : d.wf
  fuse : d.fuse ≤ 9223372036854775807
  mem : ∃ a v, Blk w g 159 (dkCells (.slice (some ⟨a, 0, none⟩) d.sure.length d.sure.length) v d.fuse) ∧ Blk w a 219 (secs d.sure).toArray ∧
    w.ownsRow 0 221 129 v d.loose.length (loos d.loose) ∧ ∀ b, F b ↔ b = g ∨ b = a ∨ v.ownBlock = some b

theorem madeCells_all {z : Array Value} {v : Value} {m : Nat} (hz : z = Array.replicate m v) (hm : 0 < m) (n : Nat) : madeCells z n = (List.replicate n v).toArray := by
  subst hz
  unfold madeCells
  apply Array.ext_getElem?
  intro j
  rcases Nat.lt_or_ge j n with hj | hj
  · have hlt := Nat.mod_lt j hm
    simp [hj, hlt]
  · rw [Array.getElem?_eq_none (by simpa using hj)]; simp; omega

theorem secs_zero (n : Nat) : secs (List.replicate n (Sp.zeros 128)) = List.replicate (n * 128) (.int .u8 0) := by
  have hb : bcs (Sp.zeros 128) = List.replicate 128 (.int .u8 0) := by simp [bcs, Sp.zeros]
  induction n with
  | zero => rfl
  | succ n ih =>
    rw [List.replicate_succ, secs, List.map_cons, List.flatten_cons, ← secs, ih, hb, List.replicate_append_replicate, Nat.add_mul, Nat.one_mul, Nat.add_comm]

theorem sec_info : (Tryz.prog.info? 219).map (fun i => (i.zero, i.size, i.bytes)) = some (some (.agg (Array.replicate 128 (.int .u8 0))), 128, 128) := by kernel_rfl

theorem sec_cells : (Value.agg (Array.replicate 128 (.int .u8 0))).cells = Array.replicate 128 (.int .u8 0) := by kernel_rfl

/-- A new disk. -/
def Sp.newDk (n : Nat) : Sp.Dk := ⟨List.replicate n (Sp.zeros 128), [], -1⟩

theorem Sp.newDk_wf {n : Nat} (h1 : 1 ≤ n) (h2 : n ≤ 16384) : (Sp.newDk n).wf :=
  ⟨by simpa [Sp.newDk] using h1, by simpa [Sp.newDk] using h2, fun s hs => by rw [(List.mem_replicate.1 hs).2]; simp [Sp.zeros], fun x hx => by simp [Sp.newDk] at hx⟩

set_option maxRecDepth 100000 in
set_option maxHeartbeats 2000000 in
theorem disk_new (n : Nat) (w : World) (h1 : 1 ≤ n) (h2 : n ≤ 16384) :
    Calls Tryz.prog 56 #[.int .i64 n] w fun e w' => ∃ g F, e = .returned (.tuple #[.pointer (some ⟨g, 0, none⟩), .int .i64 0]) ∧ IsDk F w' g (Sp.newDk n) ∧ Turns noFoot F w w' := by
  obtain ⟨i0, hi, hz0, hz1, hz2⟩ := info_parts sec_info
  have hmk : ∀ W, (Instr.makeSlice 156 (.int .i64 (n : Int)) (.int .i64 (n : Int))).run Tryz.prog W = .ok (.slice (some ⟨W.heap.size, 0, none⟩) n n) (W.alloc (.cells (secs (Sp.newDk n).sure).toArray 219)) := fun W => by
    have := run_make_rowN (P := Tryz.prog) 156 219 i0 (.agg (Array.replicate 128 (.int .u8 0))) Tryz.underlying156 hi hz0 .i64 .i64 n n (Nat.le_refl _) (by rw [hz2]; omega) (by omega) W
    rw [this, hz1, madeCells_all (m := 128) (v := .int .u8 0) sec_cells (by omega), ← secs_zero]
    rfl
  have d1 : decide ((n : Int) < 1) = false := by rw [decide_eq_false_iff_not]; omega
  have d2 : decide ((16384 : Int) < n) = false := by rw [decide_eq_false_iff_not]; omega
  clear hi hz0 hz1 hz2
  go_enter Tryz.func56, Tryz.ntmps56
  go_wp2_with fail
  go_ret2
  have hB := Blk.new (w.alloc (.cells (secs (Sp.newDk n).sure).toArray 219)) 159 (dkCells (.slice (some ⟨w.heap.size, 0, none⟩) n n) (.slice none 0 0) (-1))
  rw [World.size_alloc] at hB
  refine ⟨_, fun b => b = w.heap.size + 1 ∨ b = w.heap.size, rfl, ⟨Sp.newDk_wf h1 h2, by simp [Sp.newDk], w.heap.size, .slice none 0 0, ?_, (Blk.new w _ _).alloc _, World.ownsRow_nil _ _ _ _, ?_⟩, ?_⟩
  · rw [show (Sp.newDk n).sure.length = n by simp [Sp.newDk]]
    exact hB
  · intro b
    simp [Value.ownBlock]
  · have ht := ((Turns.refl noFoot w).alloc (.cells (secs (Sp.newDk n).sure).toArray 219)).alloc (.cells (dkCells (.slice (some ⟨w.heap.size, 0, none⟩) n n) (.slice none 0 0) (-1)) 159)
    exact ⟨ht.os, ht.tape, ht.output, ht.size, ht.block, fun b hb => .inr (by rcases hb with rfl | rfl <;> omega)⟩

theorem IsDk.below {F : Foot} {w w' : World} {g : Nat} {d : Sp.Dk} (h : IsDk F w g d) (hb : Below w.heap.size w w') : IsDk F w' g d := by
  obtain ⟨h1, h2, a, v, h3, h4, h5, h6⟩ := h
  refine ⟨h1, h2, a, v, h3.below hb h3.lt, h4.below hb h4.lt, ?_, h6⟩
  refine h5.kept (row := none) ⟨hb.os, hb.tape, hb.output, hb.size, fun k hk _ => hb.block k hk⟩ ?_
  cases v.ownBlock <;> simp

theorem IsDk.keep {F : Foot} {w w' : World} {g : Nat} {d : Sp.Dk} (h : IsDk F w g d) (hk : ∀ b, F b → w'.heap[b]? = w.heap[b]?) : IsDk F w' g d := by
  obtain ⟨h1, h2, a, v, h3, h4, h5, h6⟩ := h
  refine ⟨h1, h2, a, v, h3.keep (hk g ((h6 g).2 (.inl rfl))), h4.keep (hk a ((h6 a).2 (.inr (.inl rfl)))), ⟨h5.1, ?_⟩, h6⟩
  rcases h5.2 with h | ⟨b, cap, cur, rfl, hb, hh, rest⟩
  · exact .inl h
  · exact .inr ⟨b, cap, cur, rfl, hb, (hk b ((h6 b).2 (.inr (.inr rfl)))).trans hh, rest⟩

theorem IsDk.in_ {F : Foot} {w : World} {g : Nat} {d : Sp.Dk} (h : IsDk F w g d) : ∀ b, F b → b < w.heap.size := by
  obtain ⟨h1, h2, a, v, h3, h4, h5, h6⟩ := h
  intro b hb
  rcases (h6 b).1 hb with rfl | rfl | hb
  · exact h3.lt
  · exact h4.lt
  · exact (h5.lt b hb).2

set_option maxRecDepth 100000 in
set_option maxHeartbeats 2000000 in
theorem disk_len {F : Foot} {w : World} {g : Nat} {d : Sp.Dk} (h : IsDk F w g d) :
    Calls Tryz.prog 90 #[.pointer (some ⟨g, 0, none⟩)] w fun e w' => e = .returned (.int .i64 d.sure.length) ∧ w' = w := by
  obtain ⟨h1, h2, a, v, h3, h4, h5, h6⟩ := h
  have c0 := h3.cell 0
  simp only [dkCells, List.getElem?_toArray, List.getElem?_cons_zero] at c0
  have HN := Lib.hid (disk_none h3 h1.some_)
  clear h1 h2 h3 h4 h5 h6
  go_enter Tryz.func90, Tryz.ntmps90
  go_wp2_with fail
  refine HN.out.mono ?_
  rintro e w1 ⟨rfl, rfl⟩
  go_wp2_with fail
  go_ret
  exact ⟨rfl, rfl⟩
end Go.Proofs.YtafopojibpifoaaGreat

/- Loads and stores of arrays and structs that are part of a row. No program is named here. -/
namespace Go.Proofs.YtafopojibpifoaaGreat
open Go.RowKit

section
variable {P : Program}
theorem run_loadVar_part (w : World) (a : Addr) (ty : TypeId) (cs : List Value) (d : TypeDesc) (hc : ∀ j v, cs[j]? = some v → w.cell? (a.add j) = some v)
    (hu : P.underlying ty = some d) (hd : (match d with | .struct _ | .array _ _ => true | _ => false) = true) (hi : (P.info? ty).map (·.size) = some cs.length) :
    (loadVar ty a).run P w = .ok (.agg cs.toArray) w := by
  have hl := run_loadCells_list (P := P) w a cs hc
  cases hq : P.info? ty with
  | none => simp [hq] at hi
  | some i =>
    have hs : i.size = cs.length := by simpa [hq] using hi
    have hagg : (isAgg ty).run P w = .ok true w := by
      unfold isAgg
      rw [Sem.run_bind, run_underlying hu w]
      cases d <;> simp_all
    simp [loadVar, Sem.run_bind, hagg, sizeOf, typeInfo, hq, hs, hl]

theorem wpList_load_part {ops : Array Oper} {rest : List Oper} {o : Oper} {a : Act} {w : World} {Q : Exit → Act → World → Prop} (hgd : o.guard = none) (ty : TypeId) (x : Operand) (ho : o.op = .load ty x)
    (p : Addr) (hx : a.eval x = .pointer (some p)) (cs : List Value) (d : TypeDesc) (hc : ∀ j v, cs[j]? = some v → w.cell? (p.add j) = some v)
    (hu : P.underlying ty = some d) (hd : (match d with | .struct _ | .array _ _ => true | _ => false) = true) (hi : (P.info? ty).map (·.size) = some cs.length)
    (h : wpList P ops Q rest (a.put o.dst (.agg cs.toArray)) w) : wpList P ops Q (o :: rest) a w :=
  wpList_plain hgd fun K hK => by
    unfold Oper.wp execOp
    simp only [ho, hx, Instr.loadAt, Instr.sureAddr, Sem.run_bind, Sem.run_pure, Result.andThen_ok, run_loadVar_part w p ty cs d hc hu hd hi]
    exact hK _ _ h

/-- A row of which the cells from o on are turned. -/
def partRow (old : Array Value) (o : Nat) (cells : List Value) : Array Value := (old.toList.take o ++ cells ++ old.toList.drop (o + cells.length)).toArray

theorem run_storeVar_part (w : World) (g o : Nat) (t ty : TypeId) (old cells : Array Value) (hg : w.heap[g]? = some (.cells old t (0, 0))) (hi : (P.info? ty).map (·.size) = some cells.size)
    (ho : o + cells.size ≤ old.size) (h1 : cells.all (·.oneCell') = true) :
    (storeVar ty ⟨g, o, none⟩ (.agg cells)).run P w = .ok () (w.setRow g (partRow old o cells.toList)) := by
  have hst := run_storeCells_at P g o t cells.toList 0 old w hg (by simpa using ho) (fun v hv => (Array.all_eq_true_iff_forall_mem.1 h1) v (by simpa using hv))
  simp only [Nat.add_zero] at hst
  cases hq : P.info? ty with
  | none => simp [hq] at hi
  | some i =>
    have hs : cells.size = i.size := by simp [hq] at hi; omega
    simp [storeVar, sizeOf, typeInfo, hq, Value.cells, hs, hst, partRow]

theorem wpList_store_part {ops : Array Oper} {rest : List Oper} {o : Oper} {a : Act} {w : World} {Q : Exit → Act → World → Prop} (hgd : o.guard = none) (ty : TypeId) (x y : Operand) (ho : o.op = .store ty x y)
    (g k : Nat) (cells : Array Value) (hx : a.eval x = .pointer (some ⟨g, k, none⟩)) (hy : a.eval y = .agg cells)
    (t : TypeId) (old : Array Value) (hg : w.heap[g]? = some (.cells old t (0, 0))) (hi : (P.info? ty).map (·.size) = some cells.size)
    (hold : k + cells.size ≤ old.size) (h1 : cells.all (·.oneCell') = true)
    (h : wpList P ops Q rest (a.put o.dst undef) (w.setRow g (partRow old k cells.toList))) : wpList P ops Q (o :: rest) a w :=
  wpList_plain hgd fun K hK => by
    unfold Oper.wp execOp
    simp only [ho, hx, hy, Instr.storeAt, Instr.sureAddr, Sem.run_bind, Sem.run_pure, Result.andThen_ok, run_storeVar_part w g k t ty old cells hg hi hold h1]
    exact hK _ _ h
end
end Go.Proofs.YtafopojibpifoaaGreat

/- A region that draws its order, step by step: laws in a form that is met by hand. A condition S on the world holds meanwhile, but behind the operations of X (stores, that wait for all that leans on S). No program is named here. -/
namespace Go.Proofs.YtafopojibpifoaaGreat
open Go.RowKit

section
variable {P : Program} {ops : Array Oper} {Q : Exit → Act → World → Prop} {md : Region.Mode} {S : World → Prop} {X : Nat → Bool}

def wpAnyL (P : Program) (md : Region.Mode) (ops : Array Oper) (Q : Exit → Act → World → Prop) (S : World → Prop) (X : Nat → Bool) : Nat → Array Bool → Act → World → Prop
  | 0, listed, a, w => Region.ready md ops listed = [] ∧ Q .normal a w
  | fuel + 1, listed, a, w =>
    (Region.ready md ops listed = [] → Q .normal a w) ∧
    ∀ i ∈ Region.ready md ops listed, wpOp P ops Q i (fun a' w' => (X i = false → S w') ∧ wpAnyL P md ops Q S X fuel (listed.setIfInBounds i true) a' w') a w

theorem wpAny_of_L : ∀ (fuel : Nat) (listed : Array Bool) (a : Act) (w : World), wpAnyL P md ops Q S X fuel listed a w → wpAny P md ops Q fuel listed a w
  | 0, _, _, _, h => h
  | fuel + 1, _, _, _, h => ⟨h.1, fun i hi => wpOp_mono (fun a' w' h' => wpAny_of_L fuel _ a' w' h'.2) (h.2 i hi)⟩

theorem wpAnyL_first {i : Nat} {oi : Oper} {v : Value} (hi : ops[i]? = some oi) (hsel : ∀ (j : Nat) (o : Oper) cs b, ops[j]? = some o → o.op ≠ .select cs b)
    (hQ : ∀ c a w, Q (.panic c) (a.put oi.dst v) w → Q (.panic c) a w) (hXi : X i = false)
    (hX : ∀ j oj, ops[j]? = some oj → X j = true → ∃ e ∈ oj.after, Region.binds md e = true ∧ e.on = i) :
    ∀ (fuel : Nat) (listed : Array Bool) (a : Act) (w : World),
      (∀ j oj, ops[j]? = some oj → j ≠ i → listed.getD j true = false → (∀ e ∈ oj.after, Region.binds md e = true → e.on ≠ i) → oi.apart ops oj = true) →
      i ∈ Region.ready md ops listed → YieldsIf P ops S oi v a → S w →
      wpAnyL P md ops Q S X fuel (listed.setIfInBounds i true) (a.put oi.dst v) w → wpAnyL P md ops Q S X (fuel + 1) listed a w := by
  intro fuel
  induction fuel with
  | zero =>
    intro listed a w _ hr hy hS H
    refine ⟨fun h => (by rw [h] at hr; cases hr), fun j hj => ?_⟩
    by_cases hji : j = i
    · subst hji; exact hy.wpOp hi hS ⟨fun _ => hS, H⟩
    · have := ready_mono hj hji
      rw [H.1] at this
      cases this
  | succ fuel ih =>
    intro listed a w hfree hr hy hS H
    refine ⟨fun h => (by rw [h] at hr; cases hr), fun j hj => ?_⟩
    by_cases hji : j = i
    · subst hji; exact hy.wpOp hi hS ⟨fun _ => hS, H⟩
    · have h1 := H.2 j (ready_mono hj hji)
      obtain ⟨hjun, oj, hoj, hall⟩ := mem_ready.1 hj
      have hnot : ∀ e ∈ oj.after, Region.binds md e = true → e.on ≠ i := fun e he hb heq => by
        have h1 := hall e he hb
        have h0 := (mem_ready.1 hr).1
        rw [heq] at h1
        rcases Nat.lt_or_ge i listed.size with h' | h'
        · simp [h'] at h0 h1; rw [h0] at h1; cases h1
        · simp [Array.getElem?_eq_none h'] at h1
      have hXj : X j = false := by
        cases hx : X j with
        | false => rfl
        | true =>
          obtain ⟨e, he, hb, hon⟩ := hX j oj hoj hx
          exact absurd hon (hnot e he hb)
      have h2 := wpOp_putIf hoj (hfree j oj hoj hji hjun hnot) (fun cs b => hsel i oi cs b hi) (fun cs b => hsel j oj cs b hoj) hQ hy h1
      have hfree' : ∀ k ok, ops[k]? = some ok → k ≠ i → (listed.setIfInBounds j true).getD k true = false →
          (∀ e ∈ ok.after, Region.binds md e = true → e.on ≠ i) → oi.apart ops ok = true := fun k ok hk hki hun hno => by
        refine hfree k ok hk hki ?_ hno
        by_cases hjk : j = k
        · subst hjk; exact hjun
        · rw [getD_set_ne true hjk] at hun; exact hun
      refine wpOp_mono (fun a' w' h3 => ⟨h3.2.1, ih (listed.setIfInBounds j true) a' w' hfree' (ready_mono hr (Ne.symm hji)) h3.1 (h3.2.1 hXj) ?_⟩) h2
      rw [Array.setIfInBounds_comm _ _ hji]
      exact h3.2.2

/-- all of X wait for i. -/
def allWait (md : Region.Mode) (ops : Array Oper) (X : Nat → Bool) (i : Nat) : Bool :=
  !X i && (List.range ops.size).all fun j => !X j || (match ops[j]? with | some o => o.after.any fun e => Region.binds md e && e.on == i | none => true)

theorem allWait_spec {i : Nat} (h : allWait md ops X i = true) : X i = false ∧ ∀ j oj, ops[j]? = some oj → X j = true → ∃ e ∈ oj.after, Region.binds md e = true ∧ e.on = i := by
  unfold allWait at h
  rw [Bool.and_eq_true, List.all_eq_true] at h
  refine ⟨by simpa using h.1, fun j oj hj hx => ?_⟩
  have hlt : j < ops.size := (Array.getElem?_eq_some_iff.1 hj).1
  have h2 := h.2 j (List.mem_range.2 hlt)
  simp only [hx, hj, Bool.not_true, Bool.false_or] at h2
  obtain ⟨e, he, hb⟩ := Array.any_eq_true'.1 h2
  rw [Bool.and_eq_true] at hb
  exact ⟨e, he, hb.1, by simpa using hb.2⟩

/-- The beginning. -/
theorem R_begin (S : World → Prop) (X : Nat → Bool) {id : Nat} {a : Act} {w : World} (hm : P.follows .mixedOrders = true)
    (h : wpAnyL P .any ops Q S X ops.size (Array.replicate ops.size false) a w.drew) : (Code.region id ops true).wp P Q a w :=
  wp_region_any hm (wpAny_of_L _ _ _ _ h)

/-- An operation that yields its value in every world that meets S is taken first. -/
theorem R_take (i : Nat) (t : Tmp) {v : Value} {oi : Oper} {fuel : Nat} {listed : Array Bool} {a : Act} {w : World} (hi : ops[i]? = some oi) (hd : oi.dst = some t)
    (hw : Region.wanted oi (yielded ops a.tmps) = true)
    (hb : (Region.noSelect ops && Region.free md ops listed i && (Region.ready md ops listed).contains i && allWait md ops X i) = true)
    (hQ : ∀ c a w, Q (.panic c) (a.put (some t) v) w → Q (.panic c) a w) (hS : S w) (hy : ∀ w, S w → (execOp a.eval oi).run P w = .ok (.value v) w)
    (h : wpAnyL P md ops Q S X fuel (listed.setIfInBounds i true) { tmps := a.tmps.setIfInBounds t v, defers := a.defers } w) : wpAnyL P md ops Q S X (fuel + 1) listed a w := by
  simp only [Bool.and_eq_true] at hb
  obtain ⟨⟨⟨hs, hf⟩, hr⟩, hx⟩ := hb
  exact wpAnyL_first hi (Region.noSelect_spec hs) (by rw [hd]; exact hQ) (allWait_spec hx).1 (allWait_spec hx).2 fuel listed a w (Region.free_spec hi hf) (by simpa using hr) (.inl ⟨hw, hy⟩) hS (by rw [hd]; exact h)

/-- An operation that is not wanted (its guard is false). -/
theorem R_skip (i : Nat) (t : Tmp) {oi : Oper} {fuel : Nat} {listed : Array Bool} {a : Act} {w : World} (hi : ops[i]? = some oi) (hd : oi.dst = some t)
    (hw : Region.wanted oi (yielded ops a.tmps) = false)
    (hb : (Region.noSelect ops && Region.free md ops listed i && (Region.ready md ops listed).contains i && allWait md ops X i) = true)
    (hQ : ∀ c a w, Q (.panic c) (a.put (some t) undef) w → Q (.panic c) a w) (hS : S w)
    (h : wpAnyL P md ops Q S X fuel (listed.setIfInBounds i true) { tmps := a.tmps.setIfInBounds t undef, defers := a.defers } w) : wpAnyL P md ops Q S X (fuel + 1) listed a w := by
  simp only [Bool.and_eq_true] at hb
  obtain ⟨⟨⟨hs, hf⟩, hr⟩, hx⟩ := hb
  exact wpAnyL_first hi (Region.noSelect_spec hs) (by rw [hd]; exact hQ) (allWait_spec hx).1 (allWait_spec hx).2 fuel listed a w (Region.free_spec hi hf) (by simpa using hr) (.inr ⟨hw, rfl⟩) hS (by rw [hd]; exact h)

/-- The one operation that may come up now: by a law. -/
theorem R_step (i : Nat) {oi : Oper} {fuel : Nat} {listed : Array Bool} {a : Act} {w : World} (hi : ops[i]? = some oi)
    (hw : Region.wanted oi (yielded ops a.tmps) = true) (hr : Region.ready md ops listed = [i])
    (h : Oper.wp P oi a w (fun a' w' => (X i = false → S w') ∧ wpAnyL P md ops Q S X fuel (listed.setIfInBounds i true) a' w') Q) : wpAnyL P md ops Q S X (fuel + 1) listed a w :=
  ⟨fun h0 => absurd (hr ▸ h0) (by simp), by
    rw [hr]
    intro j hj
    rw [List.mem_singleton.1 hj]
    unfold wpOp
    simp only [hi]
    rw [if_pos hw]
    exact .inl h⟩

/-- Any of those that may come up now. -/
theorem R_all {rs : List Nat} {fuel : Nat} {listed : Array Bool} {a : Act} {w : World} (hr : Region.ready md ops listed = rs) (hne : rs ≠ [])
    (h : ∀ i ∈ rs, wpOp P ops Q i (fun a' w' => (X i = false → S w') ∧ wpAnyL P md ops Q S X fuel (listed.setIfInBounds i true) a' w') a w) : wpAnyL P md ops Q S X (fuel + 1) listed a w :=
  ⟨fun h0 => absurd (hr ▸ h0) hne, by rw [hr]; exact h⟩

/-- One of them that yields a value. -/
theorem op_run {i : Nat} (t : Tmp) {v : Value} {oi : Oper} {a : Act} {w w' : World} {K : Act → World → Prop} (hi : ops[i]? = some oi) (hd : oi.dst = some t)
    (hw : Region.wanted oi (yielded ops a.tmps) = true) (hy : (execOp a.eval oi).run P w = .ok (.value v) w') (h : K { tmps := a.tmps.setIfInBounds t v, defers := a.defers } w') : wpOp P ops Q i K a w := by
  unfold wpOp
  simp only [hi]
  rw [if_pos hw]
  refine .inl ?_
  unfold Oper.wp
  rw [hy]
  show K (a.put oi.dst v) w'
  rw [hd]
  exact h

theorem R_listed {fuel : Nat} {l1 l2 : Array Bool} {a : Act} {w : World} (e : l1 = l2) (h : wpAnyL P md ops Q S X fuel l2 a w) : wpAnyL P md ops Q S X fuel l1 a w := e ▸ h

/-- The same, where it yields a value. -/
theorem R_run (i : Nat) (t : Tmp) {v : Value} {oi : Oper} {fuel : Nat} {listed : Array Bool} {a : Act} {w w' : World} (hi : ops[i]? = some oi) (hd : oi.dst = some t)
    (hw : Region.wanted oi (yielded ops a.tmps) = true) (hr : Region.ready md ops listed = [i])
    (hy : (execOp a.eval oi).run P w = .ok (.value v) w') (hS : X i = false → S w')
    (h : wpAnyL P md ops Q S X fuel (listed.setIfInBounds i true) { tmps := a.tmps.setIfInBounds t v, defers := a.defers } w') : wpAnyL P md ops Q S X (fuel + 1) listed a w :=
  R_step i hi hw hr (by unfold Oper.wp; rw [hy]; exact ⟨hS, by rw [hd]; exact h⟩)

theorem R_put (t : Tmp) {d : Option Tmp} {v : Value} {fuel : Nat} {listed : Array Bool} {a : Act} {w : World} (hd : d = some t)
    (h : wpAnyL P md ops Q S X fuel listed { tmps := a.tmps.setIfInBounds t v, defers := a.defers } w) : wpAnyL P md ops Q S X fuel listed (a.put d v) w := by subst hd; exact h

/-- A store. -/
theorem R_store (i : Nat) {oi : Oper} {fuel : Nat} {listed : Array Bool} {a : Act} {w w' : World} {n : Next} (hi : ops[i]? = some oi) (hd : oi.dst = none)
    (hw : Region.wanted oi (yielded ops a.tmps) = true) (hr : Region.ready md ops listed = [i])
    (hy : (execOp a.eval oi).run P w = .ok n w') (hn : n = .skip ∨ ∃ v, n = .value v) (hS : X i = false → S w')
    (h : wpAnyL P md ops Q S X fuel (listed.setIfInBounds i true) a w') : wpAnyL P md ops Q S X (fuel + 1) listed a w :=
  R_step i hi hw hr (by
    unfold Oper.wp
    rw [hy]
    rcases hn with rfl | ⟨v, rfl⟩
    · exact ⟨hS, by rw [hd]; exact h⟩
    · exact ⟨hS, by rw [hd]; exact h⟩)

/-- A call of a Go function. -/
theorem R_call (i : Nat) (t : Tmp) {f : FuncId} {args : Array Value} {R : Ending → World → Prop} {oi : Oper} {fuel : Nat} {listed : Array Bool} {a : Act} {w w' : World} (hi : ops[i]? = some oi) (hd : oi.dst = some t)
    (hw : Region.wanted oi (yielded ops a.tmps) = true) (hr : Region.ready md ops listed = [i])
    (hy : (execOp a.eval oi).run P w = .ok (.enter f args) w') (hc : Calls P f args w' R)
    (h : ∀ e w'', R e w'' → ∃ v, e = .returned v ∧ (X i = false → S w'') ∧ wpAnyL P md ops Q S X fuel (listed.setIfInBounds i true) { tmps := a.tmps.setIfInBounds t v, defers := a.defers } w'') : wpAnyL P md ops Q S X (fuel + 1) listed a w :=
  R_step i hi hw hr (by
    unfold Oper.wp
    rw [hy]
    refine hc.mono fun e w'' hR => ?_
    obtain ⟨v, rfl, h1, h2⟩ := h e w'' hR
    exact ⟨h1, by rw [hd]; exact h2⟩)

theorem R_done {listed : Array Bool} {a : Act} {w : World} (hr : Region.ready md ops listed = []) (h : Q .normal a w) :
    ∀ fuel, wpAnyL P md ops Q S X fuel listed a w
  | 0 => ⟨hr, h⟩
  | _ + 1 => ⟨fun _ => h, by rw [hr]; simp⟩
end

/-- An operation that yields a value, met by its slot. -/
theorem wpList_run {P : Program} {ops : Array Oper} {Q : Exit → Act → World → Prop} (t : Tmp) {v : Value} {o : Oper} {rest : List Oper} {a : Act} {w w' : World} (hd : o.dst = some t) (hgd : o.guard = none)
    (h : (execOp a.eval o).run P w = .ok (.value v) w') (k : wpList P ops Q rest { tmps := a.tmps.setIfInBounds t v, defers := a.defers } w') : wpList P ops Q (o :: rest) a w :=
  wpList_plain hgd fun K hK => by
    unfold Oper.wp
    rw [h]
    refine hK _ _ ?_
    rw [hd]
    exact k
theorem wpList_skip {P : Program} {ops : Array Oper} {Q : Exit → Act → World → Prop} {o : Oper} {rest : List Oper} {a : Act} {w w' : World} (hd : o.dst = none) (hgd : o.guard = none)
    (h : (execOp a.eval o).run P w = .ok .skip w') (k : wpList P ops Q rest a w') : wpList P ops Q (o :: rest) a w :=
  wpList_plain hgd fun K hK => by
    unfold Oper.wp
    rw [h]
    refine hK _ _ ?_
    rw [hd]
    exact k
theorem run_op_slice {P : Program} {o : Oper} {a : Act} {w w' : World} {v x : Value} {lo hi : Option Value} (t : TypeId) (x' : Operand) (l' h' : Option Operand) (ho : o.op = .slice t x' l' h' none) (hx : a.eval x' = x) (hl : l'.map a.eval = lo) (hh : h'.map a.eval = hi)
    (h : (Instr.sliceAt t x lo hi none).run P w = .ok v w') : (execOp a.eval o).run P w = .ok (.value v) w' := by
  subst hx hl hh
  unfold execOp
  simp only [ho, Sem.run_bind, Option.map_none, h, Result.andThen_ok, Sem.run_pure]
theorem run_op_alloc {P : Program} {o : Oper} {a : Act} {w : World} (t : TypeId) (i : TypeInfo) (z : Value) (Z : Array Value) (ho : o.op = .alloc t) (hi : P.info? t = some i) (hz : i.zero = some z) (hZ : z.cells = Z) :
    (execOp a.eval o).run P w = .ok (.value (.pointer (some ⟨w.heap.size, 0, none⟩))) (w.alloc (.cells Z t)) := by
  subst hZ
  unfold execOp
  simp [ho, Instr.alloc, zeroValue, typeInfo, hi, hz, newVar, newRow]
theorem run_op_load {P : Program} {o : Oper} {a : Act} {w : World} {v : Value} (t : TypeId) (x : Operand) (p : Addr) (ho : o.op = .load t x) (he : a.eval x = .pointer (some p))
    (h : (loadVar t p).run P w = .ok v w) : (execOp a.eval o).run P w = .ok (.value v) w := by
  unfold execOp
  simp only [ho, he, Instr.loadAt, Instr.sureAddr, Sem.run_bind, Sem.run_pure, Result.andThen_ok, h]
theorem run_op_store {P : Program} {o : Oper} {a : Act} {w w' : World} (t : TypeId) (x y : Operand) (p : Addr) (v : Value) (ho : o.op = .store t x y) (he : a.eval x = .pointer (some p)) (hv : a.eval y = v)
    (h : (storeVar t p v).run P w = .ok () w') : (execOp a.eval o).run P w = .ok .skip w' := by
  unfold execOp
  simp only [ho, he, hv, Instr.storeAt, Instr.sureAddr, Sem.run_bind, Sem.run_pure, Result.andThen_ok, h]
theorem run_op_build {P : Program} {o : Oper} {a : Act} {w w' : World} {v : Value} (t : TypeId) (parts : Array (Nat × Operand)) (vs : Array (Nat × Value)) (ho : o.op = .build t parts) (he : (parts.toList.map fun x => (x.1, a.eval x.2)) = vs.toList)
    (h : (Instr.build t vs).run P w = .ok v w') : (execOp a.eval o).run P w = .ok (.value v) w' := by
  have he' : (parts.map fun (i, x) => (i, a.eval x)) = vs := Array.toList_inj.1 (by rw [Array.toList_map]; exact he)
  subst he'
  unfold execOp
  simp only [ho, Sem.run_bind, h, Result.andThen_ok, Sem.run_pure]
theorem run_op_buildSlice {P : Program} {o : Oper} {a : Act} {w w' : World} {v : Value} (t : TypeId) (n : Nat) (parts : Array (Nat × Operand)) (vs : Array (Nat × Value)) (ho : o.op = .buildSlice t n parts) (he : (parts.toList.map fun x => (x.1, a.eval x.2)) = vs.toList)
    (h : (Instr.buildSlice t n vs).run P w = .ok v w') : (execOp a.eval o).run P w = .ok (.value v) w' := by
  have he' : (parts.map fun (i, x) => (i, a.eval x)) = vs := Array.toList_inj.1 (by rw [Array.toList_map]; exact he)
  subst he'
  unfold execOp
  simp only [ho, Sem.run_bind, h, Result.andThen_ok, Sem.run_pure]
end Go.Proofs.YtafopojibpifoaaGreat

/- The loose writes of a disk: building one, a slice of one. -/
namespace Go.Proofs.YtafopojibpifoaaGreat
open Go.RowKit

theorem loos_append (l : List (Nat × Sp.Bs)) (k : Nat) (s : Sp.Bs) : loos (l ++ [(k, s)]) = loos l ++ (.int .i64 (k : Int) :: bcs s) := by simp [loos]

theorem wr_info : (Tryz.prog.info? 221).map (fun i => (i.zero, i.size, i.bytes)) = some (some (.agg (#[.int .i64 0] ++ Array.replicate 128 (.int .u8 0))), 129, 136) := by kernel_rfl

/-- A loose write's cells. -/
def wrC (k : Nat) (s : Sp.Bs) : Array Value := (Value.int .i64 (k : Int) :: bcs s).toArray
theorem wrC_size {k : Nat} {s : Sp.Bs} (hs : s.length = 128) : (wrC k s).size = 129 := by simp [wrC, hs]
theorem wrC_list (k : Nat) (s : Sp.Bs) : (wrC k s).toList = .int .i64 (k : Int) :: bcs s := by simp [wrC]
theorem wrC_one (k : Nat) (s : Sp.Bs) : ∀ u ∈ (wrC k s).toList, u.oneCell' = true := by
  intro u hu
  rw [wrC_list] at hu
  rcases List.mem_cons.1 hu with rfl | hu
  · rfl
  · obtain ⟨b, _, rfl⟩ := List.mem_map.1 hu; rfl

/-- A sector's cells, as an aggregate that nobody reckons. -/
def secC (s : Sp.Bs) : Array Value := (bcs s).toArray
theorem secC_size {s : Sp.Bs} (hs : s.length = 128) : (secC s).size = 128 := by simp [secC, hs]

theorem wr_built (parts : List (Nat × Value)) : Tryz.prog.built 221 parts = Instr.fill (#[(0, 1), (1, 128)][·]?) (#[.int .i64 0] ++ Array.replicate 128 (.int .u8 0)) parts := by kernel_rfl

/-- Two parts, the first of one cell. -/
theorem fill_two (pl : Nat → Option (Nat × Nat)) (v0 v1 x : Value) (n : Nat) (cells cs : Array Value) (h0 : pl 0 = some (0, 1)) (h1 : pl 1 = some (1, n)) (c0 : v0.cells = #[x]) (c1 : v1.cells = cs) (hs : cs.size = n) (hc : cells.size = 1 + n) :
    Instr.fill pl cells [(0, v0), (1, v1)] = some (x :: cs.toList).toArray := by
  subst c1
  unfold Instr.fill
  simp only [h0, c0]
  rw [if_neg (by simp [hc])]
  unfold Instr.fill
  simp only [h1, hs]
  have hsz : ((#[x].zipIdx).foldl (fun cs (x : Value × Nat) => cs.setIfInBounds (0 + x.2) x.1) cells) = cells.setIfInBounds 0 x := by simp
  rw [hsz, if_neg (by simp [hc])]
  unfold Instr.fill
  congr 1
  rw [← Array.foldl_toList, Array.toList_zipIdx]
  obtain ⟨g1, g2⟩ := Great.foldl_set 1 v1.cells.toList 0 (cells.setIfInBounds 0 x)
  apply Array.ext_getElem?
  intro k
  rw [g2 k]
  rcases k with _ | k
  · rw [if_neg (by omega)]
    simp [show 0 < cells.size by omega]
  · by_cases hk : k < n
    · rw [if_pos (by simp; omega)]
      simp only [Nat.add_zero, List.getElem?_toArray, List.getElem?_cons_succ, Array.getElem?_toList]
      congr 1
    · rw [if_neg (by simp; omega), Array.getElem?_eq_none (by simp; omega), Array.getElem?_eq_none (by simp; omega)]

theorem wr_build (k : Nat) (s : Sp.Bs) (hs : s.length = 128) (W : World) :
    (Instr.build 221 #[(0, .int .i64 k), (1, .agg (secC s))]).run Tryz.prog W = .ok (.agg (wrC k s)) W := by
  refine run_build W _ _ _ ?_
  rw [wr_built, fill_two _ _ _ (.int .i64 k) 128 _ (secC s) rfl rfl rfl rfl (secC_size hs) (by simp)]
  rfl

theorem wr_slice (k : Nat) (s : Sp.Bs) (hs : s.length = 128) (W : World) :
    (Instr.buildSlice 157 1 #[(0, .agg (wrC k s))]).run Tryz.prog W = .ok (.slice (some ⟨W.heap.size, 0, none⟩) 1 1) (W.alloc (.cells (wrC k s) 221)) := by
  obtain ⟨i0, hi, hz0, hz1, hz2⟩ := info_parts wr_info
  have hsz := wrC_size (k := k) hs
  refine run_buildSlice W _ _ 1 _ _ i0 _ Tryz.underlying157 hi hz0 (by rw [hz1]; decide) (by rw [hz1]; decide) ?_
  rw [hz1]
  have := Great.fill_whole (s := 129) (by omega) [Value.agg (wrC k s)] ((Array.range (1 * 129)).map ((Value.agg (#[.int .i64 0] ++ Array.replicate 128 (.int .u8 0))).cells[· % (Value.agg (#[.int .i64 0] ++ Array.replicate 128 (.int .u8 0))).cells.size]!)) (fun v hv => by rw [List.mem_singleton.1 hv]; exact hsz) (by simp)
  rw [show ([Value.agg (wrC k s)].flatMap fun v => v.cells.toList).toArray = wrC k s by simp [Value.cells]] at this
  exact this

theorem own_ne {w : World} {base e size n g t : Nat} {v : Value} {xs : List Value} {cs : Array Value} (h : w.ownsRow base e size v n xs) (hB : Blk w g t cs) (hne : e ≠ t) : v.ownBlock ≠ some g := by
  rcases h.2 with ⟨rfl, _⟩ | ⟨b, cap, cur, rfl, hb, hh, _⟩
  · simp [Value.ownBlock]
  · intro he
    have : b = g := by simpa [Value.ownBlock] using he
    subst this
    unfold Blk at hB
    rw [hB] at hh
    injection hh with hh
    injection hh with _ ht
    exact hne ht.symm

theorem own_form {w : World} {base e size n : Nat} {v : Value} {xs : List Value} (h : w.ownsRow base e size v (n + 1) xs) : ∃ g c, v = .slice (some ⟨g, 0, none⟩) (n + 1) c := by
  rcases h.2 with ⟨_, h0⟩ | ⟨g, c, _, h0, _⟩
  · omega
  · exact ⟨g, c, h0⟩

theorem Turns.grown_by {F' : Foot} {w w' : World} {g : Nat} (h : Turns (only g) F' w w') : w.grownBy w' (some g) := ⟨h.os, h.tape, h.output, h.size, fun b hb hne => h.block b hb (fun e => hne (by rw [e]))⟩

end Go.Proofs.YtafopojibpifoaaGreat

/- append on an owned row, with where the row lies afterwards: where it lay, or in a new block. No program is named here. -/
namespace Go.Proofs.YtafopojibpifoaaGreat
open Go.RowKit

section
variable {P : Program} (w : World)

theorem run_append_own2 (base : Nat) (t ty e : TypeId) (i : TypeInfo) (z : Value) (size bytes : Nat) (ht : P.underlying t = some (.slice e)) (hi : P.info? e = some i) (hz : i.zero = some z)
    (hsize : i.size = size) (hby : i.bytes = bytes) (hzs : z.cells.size = size) (hsz : 0 < size)
    (v : Value) (n : Nat) (xs : List Value) (hown : w.ownsRow base e size v n xs)
    (a : Addr) (m c : Nat) (news : List Value) (hl : news.length = m * size) (hnews : ∀ j u, news[j]? = some u → w.cell? (a.add j) = some u) (h1 : ∀ u ∈ news, u.oneCell' = true)
    (h63 : n + m ≤ maxLen) (hbytes : (n + m) * bytes ≤ 140737488355328) (hbase : base ≤ w.heap.size) :
    ∃ v' w', (Builtin.append_ #[t, t] ty #[v, .slice (some a) m c]).run P w = .ok v' w' ∧ w'.ownsRow base e size v' (n + m) (xs ++ news) ∧ w.grownBy w' v.ownBlock ∧
      (∀ k, v'.ownBlock = some k → v.ownBlock = some k ∨ w.heap.size ≤ k) := by
  obtain ⟨v', w', hr, h2, h3, _⟩ := run_append_own (P := P) w base t ty e i z size bytes ht hi hz hsize hby hzs hsz v n xs hown a m c news hl hnews h1 h63 hbytes hbase
  refine ⟨v', w', hr, h2, h3, fun k hk => ?_⟩
  rcases hown.2 with ⟨rfl, rfl⟩ | ⟨g, cap, cur, rfl, hbg, hg, hnc, hcm, hcs, htake⟩
  · have hx : xs = [] := List.eq_nil_of_length_eq_zero (by simpa using hown.1)
    subst hx
    obtain ⟨v2, w2, hr2, h22, _, _⟩ := run_append_own (P := P) w w.heap.size t ty e i z size bytes ht hi hz hsize hby hzs hsz _ 0 [] (World.ownsRow_nil w w.heap.size e size) a m c news hl hnews h1 h63 hbytes (Nat.le_refl _)
    rw [hr] at hr2
    injection hr2 with hv hw
    subst hv hw
    exact .inr (h22.lt k hk).1
  · subst hsize
    subst hby
    by_cases hroom : n + m ≤ cap
    · have hfit : n * i.size + news.length ≤ cur.size := by rw [hl, hcs, ← Nat.add_mul]; exact Nat.mul_le_mul_right _ hroom
      have hr2 := run_append_room (P := P) w t ty e i ht hi g n cap cur hg a m c news hl hnews h1 hroom hfit
      rw [hr] at hr2
      injection hr2 with hv _
      subst hv
      exact .inl hk
    · have holds : ∀ j u, xs[j]? = some u → w.cell? ((⟨g, 0, none⟩ : Addr).add j) = some u := hown.cells (g := g) rfl
      have hr2 := run_append_grow (P := P) w t ty e i z ht hi hz ⟨g, 0, none⟩ n cap xs hown.1 holds a m c news hl hnews (by omega) (by simp only [maxLen] at h63; omega) (growslice_fits (by omega) hbytes)
      rw [hr] at hr2
      injection hr2 with hv _
      subst hv
      refine .inr ?_
      simp only [Value.ownBlock, Option.some.injEq] at hk
      omega

theorem wp_append_own2 {o : Oper} {a : Act} {K : Act → World → Prop} {Q : Exit → Act → World → Prop} (s x : Operand) (t : TypeId)
    (ho : o.op = .call { callee := .builtin .append, args := #[s, x], argTypes := #[t, t] })
    (base : Nat) (e : TypeId) (i : TypeInfo) (z : Value) (size bytes : Nat) (ht : P.underlying t = some (.slice e)) (hi : P.info? e = some i) (hz : i.zero = some z)
    (hsize : i.size = size) (hby : i.bytes = bytes) (hzs : z.cells.size = size) (hsz : 0 < size)
    (v : Value) (n : Nat) (xs : List Value) (hs : a.eval s = v) (hown : w.ownsRow base e size v n xs)
    (ad : Addr) (m c : Nat) (news : List Value) (hx : a.eval x = .slice (some ad) m c) (hl : news.length = m * size) (hnews : ∀ j u, news[j]? = some u → w.cell? (ad.add j) = some u) (h1 : ∀ u ∈ news, u.oneCell' = true)
    (h63 : n + m ≤ maxLen) (hbytes : (n + m) * bytes ≤ 140737488355328) (hbase : base ≤ w.heap.size)
    (h : ∀ v' w', w'.ownsRow base e size v' (n + m) (xs ++ news) → w.grownBy w' v.ownBlock → (∀ k, v'.ownBlock = some k → v.ownBlock = some k ∨ w.heap.size ≤ k) → K (a.put o.dst v') w') : o.wp P a w K Q := by
  obtain ⟨v', w', hr, h2, h3, h4⟩ := run_append_own2 (P := P) w base t o.type e i z size bytes ht hi hz hsize hby hzs hsz v n xs hown ad m c news hl hnews h1 h63 hbytes hbase
  unfold Oper.wp execOp
  simp only [ho, resolve, invoke, builtin, Sem.run_bind, Sem.run_pure, Result.andThen_ok, List.map_toArray, List.map_cons, List.map_nil, hs, hx, hr]
  exact h v' w' h2 h3 h4

theorem wpList_append_own2 {ops : Array Oper} {rest : List Oper} {o : Oper} {a : Act} {Q : Exit → Act → World → Prop} (hgd : o.guard = none) (s x : Operand) (t : TypeId)
    (ho : o.op = .call { callee := .builtin .append, args := #[s, x], argTypes := #[t, t] })
    (base : Nat) (e : TypeId) (i : TypeInfo) (z : Value) (size bytes : Nat) (ht : P.underlying t = some (.slice e)) (hi : P.info? e = some i) (hz : i.zero = some z)
    (hsize : i.size = size) (hby : i.bytes = bytes) (hzs : z.cells.size = size) (hsz : 0 < size)
    (v : Value) (n : Nat) (xs : List Value) (hs : a.eval s = v) (hown : w.ownsRow base e size v n xs)
    (ad : Addr) (m c : Nat) (news : List Value) (hx : a.eval x = .slice (some ad) m c) (hl : news.length = m * size) (hnews : ∀ j u, news[j]? = some u → w.cell? (ad.add j) = some u) (h1 : ∀ u ∈ news, u.oneCell' = true)
    (h63 : n + m ≤ maxLen) (hbytes : (n + m) * bytes ≤ 140737488355328) (hbase : base ≤ w.heap.size)
    (h : ∀ v' w', w'.ownsRow base e size v' (n + m) (xs ++ news) → w.grownBy w' v.ownBlock → (∀ k, v'.ownBlock = some k → v.ownBlock = some k ∨ w.heap.size ≤ k) → wpList P ops Q rest (a.put o.dst v') w') : wpList P ops Q (o :: rest) a w :=
  wpList_plain hgd fun _ hK => wp_append_own2 w s x t ho base e i z size bytes ht hi hz hsize hby hzs hsz v n xs hs hown ad m c news hx hl hnews h1 h63 hbytes hbase fun v' w' h2 h3 h4 => hK _ _ (h v' w' h2 h3 h4)
end
end Go.Proofs.YtafopojibpifoaaGreat

/- The walks of package disk: Write. -/
namespace Go.Proofs.YtafopojibpifoaaGreat
open Go.RowKit

set_option maxRecDepth 100000 in
set_option maxHeartbeats 4000000 in
theorem disk_write {F : Foot} {w : World} {g : Nat} {d : Sp.Dk} (h : IsDk F w g d) (k : Nat) (s : Sp.Bs) (hk : k < d.sure.length) (hs : s.length = 128) (hf : d.fuse ≠ 0) (hl : d.loose.length ≤ 1000000) :
    Calls Tryz.prog 126 #[.pointer (some ⟨g, 0, none⟩), .int .i64 k, str s] w fun e w' => ∃ F', e = .returned (.int .i64 0) ∧ IsDk F' w' g (d.put k s) ∧ Turns F F' w w' := by
  obtain ⟨h1, h2, a, v, h3, h4, h5, h6⟩ := h
  obtain ⟨i0, hi0, hz00, hz10, hz20⟩ := info_parts wr_info
  have hi := Lib.hid hi0
  have hz0 := Lib.hid hz00
  have hz1 := Lib.hid hz10
  have hz2 := Lib.hid hz20
  clear hi0 hz00 hz10 hz20
  have c0 := h3.cell 0
  simp only [dkCells, List.getElem?_toArray, List.getElem?_cons_zero] at c0
  have d1 : decide ((k : Int) < 0) = false := by simp
  have d2 : decide ((d.sure.length : Int) ≤ k) = false := by rw [decide_eq_false_iff_not]; omega
  have d3 : ((s.length : Int) != 128) = false := by rw [hs]; rfl
  have HM := Lib.hid (disk_may h3 h1.some_ hf)
  have HB := Lib.hid (disk_burns h3 h2)
  have H5 := Lib.hid h5
  have H4 := Lib.hid h4
  have HD := Lib.hid h3
  have HS := Lib.hid hs
  have hlt := h3.lt
  have hcv := conv_any (P := Tryz.prog) 9 102 5 s Tryz.underlying9 Tryz.underlying102 Tryz.underlying5
  have hat : ∀ w ad c, (Instr.arrayAt 219 (.slice ad s.length c)).run Tryz.prog w = .ok (.pointer ad) w := fun w ad c => run_arrayAt w 219 _ 128 ad s.length c Tryz.underlying219 (by omega)
  have hld : ∀ W, (loadVar 219 ⟨W.heap.size, 0, none⟩).run Tryz.prog (bytesW W 5 s) = .ok (.agg (secC s)) (bytesW W 5 s) := fun W => by
    refine run_loadVar_part _ _ _ (bcs s) _ (fun j v hv => ?_) Tryz.underlying219 rfl ?_
    · obtain ⟨hj, rfl⟩ := List.getElem?_eq_some_iff.1 hv
      have hj' : j < s.length := by simpa [bcs] using hj
      have hadd : (⟨W.heap.size, 0, none⟩ : Addr).add j = ⟨W.heap.size, j, none⟩ := by unfold Addr.add; split <;> simp_all
      rw [hadd, (bytesW_facts W 5 s).2.2.1 j hj']
      simp [bcs]
    · have hq := congrArg (fun o => o.map (·.2.1)) sec_info
      simp only [Option.map_map] at hq
      rw [show (bcs s).length = 128 by simpa [bcs] using hs]
      simpa using hq
  have hbd := wr_build k s hs
  have hbs := wr_slice k s hs
  clear h3 h4 h5 hs
  go_enter Tryz.func126, Tryz.ntmps126
  go_wp2_with fail
  refine HM.out.mono ?_
  rintro e w1 ⟨rfl, hw⟩
  subst w1
  go_wp2_with fail
  refine HB.out.mono ?_
  rintro e w1 ⟨rfl, hB1, ht1⟩
  have b1 := hB1.cell 1
  have f1 := hB1.frozen 1
  simp only [dkCells, List.getElem?_toArray, List.getElem?_cons_succ, List.getElem?_cons_zero] at b1
  have hne := own_ne H5.out HD.out (by decide)
  have HO := Lib.hid (H5.out.kept ht1.grown_by (.inr hne))
  have HB1 := Lib.hid hB1
  have hlt1 := hB1.lt
  have H41 := Lib.hid (H4.out.turns ht1 (fun e => Blk.ne_ H4.out HD.out (by decide) e))
  have hs1 : (wrC k s).size = 129 * 1 := wrC_size HS.out
  clear hB1 H5
  go_wp2_with fail
  have hbw := bytesW_facts w1.drew 5 s
  have hbsz : (bytesW w1.drew 5 s).heap.size = w1.heap.size + 1 := hbw.2.1
  have hSb : (bytesW w1.drew 5 s).cell? ⟨g, 1, none⟩ = some v := (hbw.1.cell (p := ⟨g, 1, none⟩) hlt1).trans b1
  have hld1 := hld w1.drew
  change (loadVar 219 ⟨w1.heap.size, 0, none⟩).run _ _ = _ at hld1
  clear hld
  have HBW := Lib.hid hbw
  clear hbw
  have hS0 : w1.drew.cell? ⟨g, 1, none⟩ = some v := b1
  refine R_begin (fun W => W.cell? ⟨g, 1, none⟩ = some v) (fun j => j == 15) (by kernel_rfl) ?_
  refine R_take 0 31 (v := ?_) rfl rfl (by rfl) (by kernel_rfl) (fun _ _ _ h => h) hS0 ?_ ?_
  rotate_left
  · intro w hSw; (try dsimp only at hSw); go_simp; (try with_reducible rfl)
  simp only [List.setIfInBounds_toArray, List.set_cons_zero, List.set_cons_succ]
  refine R_take 1 32 (v := ?_) rfl rfl (by rfl) (by kernel_rfl) (fun _ _ _ h => h) hS0 ?_ ?_
  rotate_left
  · intro w hSw; (try dsimp only at hSw); go_simp; (try with_reducible rfl)
  simp only [List.setIfInBounds_toArray, List.set_cons_zero, List.set_cons_succ]
  refine R_take 2 33 (v := ?_) rfl rfl (by rfl) (by kernel_rfl) (fun _ _ _ h => h) hS0 ?_ ?_
  rotate_left
  · intro w hSw; (try dsimp only at hSw); go_simp; (try with_reducible rfl)
  simp only [List.setIfInBounds_toArray, List.set_cons_zero, List.set_cons_succ]
  refine R_take 3 34 (v := ?_) rfl rfl (by rfl) (by kernel_rfl) (fun _ _ _ h => h) hS0 ?_ ?_
  rotate_left
  · intro w hSw; (try dsimp only at hSw); go_simp; (try with_reducible rfl)
  simp only [List.setIfInBounds_toArray, List.set_cons_zero, List.set_cons_succ]
  refine R_take 4 35 (v := ?_) rfl rfl (by rfl) (by kernel_rfl) (fun _ _ _ h => h) hS0 ?_ ?_
  rotate_left
  · intro w hSw; (try dsimp only at hSw); go_simp; (try with_reducible rfl)
  simp only [List.setIfInBounds_toArray, List.set_cons_zero, List.set_cons_succ]
  refine R_take 5 36 (v := ?_) rfl rfl (by rfl) (by kernel_rfl) (fun _ _ _ h => h) hS0 ?_ ?_
  rotate_left
  · intro w hSw; (try dsimp only at hSw); go_simp; (try with_reducible rfl)
  simp only [List.setIfInBounds_toArray, List.set_cons_zero, List.set_cons_succ]
  refine R_take 6 37 (v := ?_) rfl rfl (by rfl) (by kernel_rfl) (fun _ _ _ h => h) hS0 ?_ ?_
  rotate_left
  · intro w hSw; (try dsimp only at hSw); go_simp; (try with_reducible rfl)
  simp only [List.setIfInBounds_toArray, List.set_cons_zero, List.set_cons_succ]
  refine R_run 7 38 (v := .slice (some ⟨w1.heap.size, 0, none⟩) s.length (bytesC w1.drew 5 s)) (w' := bytesW w1.drew 5 s) rfl rfl (by rfl) (by kernel_rfl) (by go_simp) (fun _ => hSb) ?_
  simp only [List.setIfInBounds_toArray, List.set_cons_zero, List.set_cons_succ]
  refine R_take 8 39 (v := .pointer (some ⟨w1.heap.size, 0, none⟩)) rfl rfl (by rfl) (by kernel_rfl) (fun _ _ _ h => h) hSb (fun W _ => by go_simp) ?_
  simp only [List.setIfInBounds_toArray, List.set_cons_zero, List.set_cons_succ]
  refine R_run 9 40 (v := .agg (secC s)) (w' := bytesW w1.drew 5 s) rfl rfl (by rfl) (by kernel_rfl) (run_op_load _ _ ⟨w1.heap.size, 0, none⟩ rfl rfl hld1) (fun _ => hSb) ?_
  simp only [List.setIfInBounds_toArray, List.set_cons_zero, List.set_cons_succ]
  refine R_take 10 41 rfl rfl (by rfl) (by kernel_rfl) (fun _ _ _ h => h) hSb (fun W _ => run_op_build _ _ #[(0, .int .i64 k), (1, .agg (secC s))] rfl rfl (hbd W)) ?_
  simp only [List.setIfInBounds_toArray, List.set_cons_zero, List.set_cons_succ]
  have hSc : ((bytesW w1.drew 5 s).alloc (.cells (wrC k s) 221)).cell? ⟨g, 1, none⟩ = some v := (World.cell?_alloc_lt _ _ _ (show g < _ by omega)).trans hSb
  refine R_run 11 42 rfl rfl (by rfl) (by kernel_rfl) (run_op_buildSlice _ _ _ #[(0, .agg (wrC k s))] rfl rfl (hbs _)) (fun _ => hSc) ?_
  simp only [List.setIfInBounds_toArray, List.set_cons_zero, List.set_cons_succ]
  refine R_step 12 rfl (by rfl) (by kernel_rfl) ?_
  refine wp_append_own2 _ _ _ 157 rfl 0 221 i0 _ 129 136 Tryz.underlying157 hi.out hz0.out hz1.out hz2.out rfl (by decide) v d.loose.length (loos d.loose) rfl
    ((HO.out.kept (row := none) ⟨HBW.out.1.os, HBW.out.1.tape, HBW.out.1.output, HBW.out.1.size, fun b hb _ => HBW.out.1.block b hb⟩ (by cases v.ownBlock <;> simp)).alloc _)
    ⟨(bytesW w1.drew 5 s).heap.size, 0, none⟩ 1 1 (wrC k s).toList rfl (by simpa using hs1) (fun j u hu => ?_) (wrC_one k s) (by unfold maxLen; omega) (by omega) (Nat.zero_le _) (fun v6 w6 hown hgrow hwhere => ?_)
  · rw [show (⟨(bytesW w1.drew 5 s).heap.size, 0, none⟩ : Addr).add j = ⟨(bytesW w1.drew 5 s).heap.size, j, none⟩ by unfold Addr.add; split <;> simp_all]
    exact ((Blk.new _ _ _).cell j).trans (by simpa using hu)
  obtain ⟨g6, c6, rfl⟩ := own_form hown
  have hB6 := ((HB1.out.drew.below HBW.out.1 hlt1).alloc (.cells (wrC k s) 221)).grown hgrow (fun e => hne e.symm)
  have hS6 : w6.cell? ⟨g, 1, none⟩ = some v := hB6.cell 1
  refine ⟨fun _ => hS6, R_put 43 rfl ?_⟩
  simp only [List.setIfInBounds_toArray, List.set_cons_zero, List.set_cons_succ]
  refine R_run 13 44 (v := .pointer (some ⟨g, 0, none⟩)) (w' := w6) rfl rfl (by rfl) (by kernel_rfl) (by go_simp) (fun _ => hS6) ?_
  simp only [List.setIfInBounds_toArray, List.set_cons_zero, List.set_cons_succ]
  refine R_run 14 45 (v := .pointer (some ⟨g, 1, none⟩)) (w' := w6) rfl rfl (by rfl) (by kernel_rfl) (by go_simp) (fun _ => hS6) ?_
  simp only [List.setIfInBounds_toArray, List.set_cons_zero, List.set_cons_succ]
  refine R_store 15 (n := .skip) (w' := w6.setCell ⟨g, 1, none⟩ (.slice (some ⟨g6, 0, none⟩) (d.loose.length + 1) c6)) rfl rfl (by rfl) (by kernel_rfl) ?_ (.inl rfl) (fun h => absurd h (by decide)) ?_
  · have f6 := hB6.frozen 1
    go_simp
  refine R_done (by kernel_rfl) ?_ _
  have hB7 := hB6.set_ 1 (.slice (some ⟨g6, 0, none⟩) (d.loose.length + 1) c6)
  have hA7 := ((((H41.out.drew.below HBW.out.1 H41.out.lt).alloc (.cells (wrC k s) 221)).grown hgrow (fun e => own_ne HO.out H41.out (by decide) e.symm)).far (p := ⟨g, 1, none⟩) (fun e => Blk.ne_ H41.out HB1.out (by decide) e) (.slice (some ⟨g6, 0, none⟩) (d.loose.length + 1) c6))
  have hg6 : g6 ≠ g := fun e => own_ne hown hB6 (by decide) (by rw [e]; rfl)
  have hO7 := hown.kept (grown_set w6 ⟨g, 1, none⟩ (.slice (some ⟨g6, 0, none⟩) (d.loose.length + 1) c6)) (.inr (fun e => hg6 (by simpa [Value.ownBlock] using e)))
  have ht6 : Turns F F w w6 := (((((ht1.wider (F := F) (fun b hb => (h6 b).2 (.inl hb)) (fun b hb => .inl hb)).drew).next HBW.out.1).alloc (.cells (wrC k s) 221)).grown hgrow (fun k hk => .inl ((h6 k).2 (.inr (.inr hk)))))
  have ht7 := ht6.setCell (p := ⟨g, 1, none⟩) (.inl ((h6 g).2 (.inl rfl))) (.slice (some ⟨g6, 0, none⟩) (d.loose.length + 1) c6)
  have hg6w : F g6 ∨ w.heap.size ≤ g6 := by
    rcases hwhere g6 rfl with hk | hk
    · exact .inl ((h6 g6).2 (.inr (.inr hk)))
    · refine .inr ?_
      have := ht1.size
      simp only [World.size_alloc] at hk
      omega
  have HB7 := Lib.hid hB7
  have HA7 := Lib.hid hA7
  have HO7 := Lib.hid hO7
  have HLA := Lib.hid (loos_append d.loose k s)
  have HWC := Lib.hid (wrC_list k s)
  have H6 := Lib.hid h6
  clear hB7 hA7 hO7 ht6 hown hgrow hwhere hB6 hS6 hSb hSc hbsz hne b1 f1 hbd hbs hat hcv hld1 h6 hs1 hS0
  generalize w6.setCell ⟨g, 1, none⟩ (.slice (some ⟨g6, 0, none⟩) (d.loose.length + 1) c6) = w7 at *
  go_wp2_with fail
  go_ret
  refine ⟨fun b => b = g ∨ b = a ∨ b = g6, rfl, ⟨Sp.Dk.put_wf h1 hk HS.out, ?_, a, _, HB7.out, HA7.out, ?_, fun b => ?_⟩, ⟨ht7.os, ht7.tape, ht7.output, ht7.size, ht7.block, ?_⟩⟩
  · simp only [Sp.Dk.put, Sp.burn]
    split <;> omega
  · rw [HWC.out, ← HLA.out] at HO7
    simpa [Sp.Dk.put] using HO7.out
  · simp [Value.ownBlock, eq_comm]
  · rintro b (rfl | rfl | rfl)
    · exact .inl ((H6.out b).2 (.inl rfl))
    · exact .inl ((H6.out b).2 (.inr (.inl rfl)))
    · exact hg6w
end Go.Proofs.YtafopojibpifoaaGreat

/- The walks of package disk: Sync. -/
namespace Go.Proofs.YtafopojibpifoaaGreat
open Go.RowKit

theorem secs_append (a b : List Sp.Bs) : secs (a ++ b) = secs a ++ secs b := by simp [secs]
theorem secs_length {l : List Sp.Bs} (h : ∀ s ∈ l, s.length = 128) : (secs l).length = l.length * 128 :=
  flatten_length_all bcs 128 l (fun x hx => by rw [bcs_length]; exact h x hx)
theorem partRow_secs {l : List Sp.Bs} (h : ∀ s ∈ l, s.length = 128) {k : Nat} (hk : k < l.length) {s : Sp.Bs} (hs : s.length = 128) :
    partRow (secs l).toArray (k * 128) (secC s).toList = (secs (l.set k s)).toArray := by
  have e : l = l.take k ++ l[k] :: l.drop (k + 1) := by rw [← List.drop_eq_getElem_cons hk, List.take_append_drop]
  have h1 : (secs (l.take k)).length = k * 128 := by
    rw [secs_length (fun x hx => h x (List.mem_of_mem_take hx)), List.length_take, Nat.min_eq_left (by omega)]
  have h2 : (bcs l[k]).length = 128 := by rw [bcs_length]; exact h _ (List.getElem_mem hk)
  have h3 : (secC s).toList.length = 128 := by simp [secC, hs]
  have e2 : secs l = secs (l.take k) ++ (bcs l[k] ++ secs (l.drop (k + 1))) := by
    conv => lhs; rw [e]
    rw [secs_append]; rfl
  unfold partRow
  rw [List.toList_toArray, e2, List.take_left' h1, show k * 128 + (secC s).toList.length = (secs (l.take k)).length + 128 by omega, ← List.drop_drop, List.drop_left, List.drop_left' h2, List.set_eq_take_append_cons_drop, if_pos hk]
  simp [secs, secC]

theorem loos_app (a b : List (Nat × Sp.Bs)) : loos (a ++ b) = loos a ++ loos b := by simp [loos]
theorem loos_at {l : List (Nat × Sp.Bs)} (h : ∀ x ∈ l, x.2.length = 128) {i : Nat} (hi : i < l.length) : ((loos l).drop (i * 129)).take 129 = (wrC l[i].1 l[i].2).toList := by
  have e : l = l.take i ++ l[i] :: l.drop (i + 1) := by rw [← List.drop_eq_getElem_cons hi, List.take_append_drop]
  have h1 : (loos (l.take i)).length = i * 129 := by
    unfold loos
    rw [flatten_length_all _ 129 _ (fun x hx => by simp [h x (List.mem_of_mem_take hx)]), List.length_take, Nat.min_eq_left (by omega)]
  have h2 : (wrC l[i].1 l[i].2).toList.length = 129 := by simp [wrC, h _ (List.getElem_mem hi)]
  have e2 : loos l = loos (l.take i) ++ ((wrC l[i].1 l[i].2).toList ++ loos (l.drop (i + 1))) := by
    conv => lhs; rw [e]
    rw [loos_app, wrC_list]; rfl
  rw [e2, List.drop_left' h1, List.take_left' h2]

theorem wrC_cell0 (k : Nat) (s : Sp.Bs) : (wrC k s)[0]? = some (.int .i64 (k : Int)) := by simp [wrC]
theorem wrC_cell (k : Nat) (s : Sp.Bs) (j : Nat) : (wrC k s)[1 + j]? = (secC s)[j]? := by simp [wrC, secC, Nat.add_comm 1 j]

theorem partRow_all {Z : Array Value} {cs : List Value} (h : Z.size = cs.length) : partRow Z 0 cs = cs.toArray := by
  simp [partRow, List.drop_eq_nil_of_le, h]

theorem wr_agg : (Tryz.prog.info? 221).map (·.size) = some 129 := by kernel_rfl
theorem sec_agg : (Tryz.prog.info? 219).map (·.size) = some 128 := by kernel_rfl

/-- The element's load. -/
theorem wr_load {w : World} {b base n c : Nat} {l : List (Nat × Sp.Bs)} (h : w.ownsRow base 221 129 (.slice (some ⟨b, 0, none⟩) n c) l.length (loos l)) (hl : ∀ x ∈ l, x.2.length = 128) {i : Nat} (hi : i < l.length) :
    (loadVar 221 ⟨b, i * 129, none⟩).run Tryz.prog w = .ok (.agg (wrC l[i].1 l[i].2)) w := by
  have hsz := wrC_size (k := l[i].1) (hl _ (List.getElem_mem hi))
  have := run_loadVar_part (P := Tryz.prog) w ⟨b, i * 129, none⟩ 221 (wrC l[i].1 l[i].2).toList _ (fun j v hv => ?_) Tryz.underlying221 rfl (by rw [wr_agg]; simp [hsz])
  · rw [this]
  · have hj : j < 129 := by have := (List.getElem?_eq_some_iff.1 hv).1; simp [hsz] at this; exact this
    rw [show (⟨b, i * 129, none⟩ : Addr).add j = (⟨b, 0, none⟩ : Addr).add (i * 129 + j) by unfold Addr.add; split <;> simp_all]
    refine h.cells (g := b) rfl _ _ ?_
    rw [← loos_at hl hi, List.getElem?_take, if_pos hj, List.getElem?_drop] at hv
    exact hv

set_option maxRecDepth 100000 in
set_option maxHeartbeats 4000000 in
theorem disk_sync {F : Foot} {w : World} {g : Nat} {d : Sp.Dk} (h : IsDk F w g d) (hf : d.fuse ≠ 0) (hl : d.loose.length ≤ 1000000) :
    Calls Tryz.prog 127 #[.pointer (some ⟨g, 0, none⟩)] w fun e w' => ∃ F', e = .returned (.int .i64 0) ∧ IsDk F' w' g d.synced ∧ d.synced.loose = [] ∧ Turns F F' w w' := by
  obtain ⟨h1, h2, a, v, h3, h4, h5, h6⟩ := h
  have HM := Lib.hid (disk_may h3 h1.some_ hf)
  have HB := Lib.hid (disk_burns h3 h2)
  have H5 := Lib.hid h5
  have H4 := Lib.hid h4
  have HD := Lib.hid h3
  have hlt := h3.lt
  have hwr := fun x hx => (h1.loose x hx).2
  have hne := own_ne h5 h3 (by decide)
  obtain ⟨p, c, rfl⟩ : ∃ p c, v = .slice p d.loose.length c := by
    rcases h5.2 with ⟨rfl, e⟩ | ⟨b, cap, _, e, _⟩
    · exact ⟨none, 0, by rw [e]⟩
    · exact ⟨_, _, e⟩
  clear h3 h4 h5
  go_enter Tryz.func127, Tryz.ntmps127
  go_wp2_with fail
  refine HM.out.mono ?_
  rintro e w1 ⟨rfl, hw⟩
  subst w1
  go_wp2_with fail
  refine HB.out.mono ?_
  rintro e w1 ⟨rfl, hB1, ht1⟩
  have b1 := hB1.cell 1
  have b0 := hB1.cell 0
  simp only [dkCells, List.getElem?_toArray, List.getElem?_cons_succ, List.getElem?_cons_zero] at b0 b1
  have HO := Lib.hid (H5.out.kept ht1.grown_by (.inr hne))
  have HB1 := Lib.hid hB1
  have hlt1 := hB1.lt
  have H41 := Lib.hid (H4.out.turns ht1 (fun e => Blk.ne_ H4.out HD.out (by decide) e))
  clear hB1 H5
  go_wp2_with fail
  have HZ : Hid (∃ Z : Array Value, (Value.agg (#[.int .i64 0] ++ Array.replicate 128 (.int .u8 0))).cells = Z ∧ Z.size = 129) := ⟨_, rfl, rfl⟩
  obtain ⟨Z, hZ, hZs⟩ := HZ.out
  have hZ' := Lib.hid hZ
  have hZs' := Lib.hid hZs
  clear hZ hZs HZ
  obtain ⟨i0, hi0, hz00, hz10, hz20⟩ := info_parts wr_info
  have hi := Lib.hid hi0
  have hz0 := Lib.hid hz00
  clear hi0 hz00 hz10 hz20
  have HWF := Lib.hid hwr
  have HSU := Lib.hid h1.sure
  have HLK := Lib.hid (fun x hx => (h1.loose x hx).1)
  have hc0 := c
  clear hwr
  go_loopw [5, 18] (fun _ i wr => ∃ k : Nat, k ≤ d.loose.length ∧ i = .int .i64 k ∧ Blk wr a 219 (secs (Sp.lay (d.loose.take k) d.sure)).toArray ∧ Turns (only a) (only a) w1 wr) (fun _ i _ => d.loose.length - (intOf i).toNat)
  case atStart => exact ⟨0, by omega, rfl, by simpa [Sp.lay] using H41.out, Turns.refl _ _⟩
  case round =>
    obtain ⟨k, hk, rfl, hA, ht⟩ := hrel
    have hga : g ≠ a := fun e => Blk.ne_ HB1.out H41.out (by decide) e
    have HBr := HB1.out.turns ht hga
    have r0 := HBr.cell 0
    have r1 := HBr.cell 1
    have rf1 := HBr.frozen 1
    simp only [dkCells, List.getElem?_toArray, List.getElem?_cons_succ, List.getElem?_cons_zero] at r0 r1
    have HBR := Lib.hid HBr
    have HA := Lib.hid hA
    clear HBr hA b0 b1
    by_cases hlt : k < d.loose.length
    · have hna := own_ne HO.out H41.out (by decide)
      obtain ⟨b, rfl⟩ : ∃ b, p = some ⟨b, 0, none⟩ := by
        rcases HO.out.2 with ⟨e, e2⟩ | ⟨b, cap, _, e, _⟩
        · omega
        · injection e with e; exact ⟨b, e⟩
      have hOr := HO.out.kept (w' := wr) (row := some a) ht.grown_by (.inr hna)
      have hld := wr_load hOr HWF.out hlt
      have hsx := HWF.out _ (List.getElem_mem hlt)
      have hkx := HLK.out _ (List.getElem_mem hlt)
      have htk : Hid (Sp.lay (d.loose.take (k + 1)) d.sure = (Sp.lay (d.loose.take k) d.sure).set d.loose[k].1 d.loose[k].2) := by
        rw [List.take_succ_eq_append_getElem hlt, Sp.lay_append]; rfl
      have HLD := Lib.hid hld
      have HSX := Lib.hid hsx
      clear hld hsx hOr
      generalize d.loose[k] = x at *
      obtain ⟨xk, xs⟩ := x
      dsimp only at *
      have HZS := Lib.hid (run_storeVar_part (P := Tryz.prog) (wr.alloc (.cells Z 221)) wr.heap.size 0 221 221 Z (wrC xk xs) (heap_alloc_new _ _) (by rw [wr_agg, wrC_size HSX.out]) (by rw [wrC_size HSX.out, hZs'.out]; exact Nat.le_refl _) (Array.all_eq_true_iff_forall_mem.2 fun u hu => wrC_one xk xs u (by simpa using hu)))
      rw [partRow_all (by rw [hZs'.out]; simpa using (wrC_size HSX.out).symm), World.setRow_alloc_new] at HZS
      go_wp2_with (first
        | ((with_reducible refine wpList_run (v := .agg (wrC xk xs)) (w' := wr) 21 rfl rfl ?_ ?_); exact run_op_load _ _ ⟨b, k * 129, none⟩ rfl rfl HLD.out; simp only [List.setIfInBounds_toArray, List.set_cons_zero, List.set_cons_succ])
        | ((with_reducible refine wpList_run (v := .pointer (some ⟨wr.heap.size, 0, none⟩)) (w' := wr.alloc (.cells Z 221)) 5 rfl rfl ?_ ?_); exact run_op_alloc _ i0 _ Z rfl hi.out hz0.out hZ'.out; simp only [List.setIfInBounds_toArray, List.set_cons_zero, List.set_cons_succ])
        | ((with_reducible refine wpList_skip (w' := wr.alloc (.cells (wrC xk xs) 221)) rfl rfl ?_ ?_); exact run_op_store _ _ _ ⟨wr.heap.size, 0, none⟩ _ rfl rfl rfl HZS.out))
      have hnew : wr.heap.size ≠ a := by have := HA.out.lt; omega
      have hB5 := Blk.new wr 221 (wrC xk xs)
      have hS0 : ((wr.alloc (.cells (wrC xk xs) 221)).drew.cell? ⟨g, 0, none⟩ = some (.slice (some ⟨a, 0, none⟩) d.sure.length d.sure.length)) ∧ ((wr.alloc (.cells (wrC xk xs) 221)).drew.cell? ⟨wr.heap.size, 0, none⟩ = some (.int .i64 (xk : Int))) ∧
          ((loadVar 219 ⟨wr.heap.size, 1, none⟩).run Tryz.prog (wr.alloc (.cells (wrC xk xs) 221)).drew = .ok (.agg (secC xs)) (wr.alloc (.cells (wrC xk xs) 221)).drew) := by
        refine ⟨((HBR.out.alloc (.cells (wrC xk xs) 221)).cell 0).trans (by simp [dkCells]), (hB5.cell 0).trans (wrC_cell0 xk xs), ?_⟩
        refine (run_loadVar_part (P := Tryz.prog) (wr.alloc (.cells (wrC xk xs) 221)).drew ⟨wr.heap.size, 1, none⟩ 219 (secC xs).toList _ (fun j v hv => ?_) Tryz.underlying219 rfl (by rw [sec_agg]; simp [secC_size HSX.out])).trans (by rw [Array.toArray_toList])
        rw [show (⟨wr.heap.size, 1, none⟩ : Addr).add j = ⟨wr.heap.size, 1 + j, none⟩ by unfold Addr.add; split <;> simp_all]
        exact (hB5.cell (1 + j)).trans ((wrC_cell xk xs j).trans (by simpa using hv))
      refine R_begin (fun W => (W.cell? ⟨g, 0, none⟩ = some (.slice (some ⟨a, 0, none⟩) d.sure.length d.sure.length)) ∧ (W.cell? ⟨wr.heap.size, 0, none⟩ = some (.int .i64 (xk : Int))) ∧
          ((loadVar 219 ⟨wr.heap.size, 1, none⟩).run Tryz.prog W = .ok (.agg (secC xs)) W)) (fun j => j == 9) (by kernel_rfl) ?_
      refine R_take 0 22 (v := ?_) rfl rfl (by rfl) (by kernel_rfl) (fun _ _ _ h => h) hS0 ?_ ?_
      rotate_left
      · intro w hSw; obtain ⟨hS1, hS2, hS3⟩ := hSw; clear hS3; go_simp; (try with_reducible rfl)
      simp only [List.setIfInBounds_toArray, List.set_cons_zero, List.set_cons_succ]
      refine R_take 1 23 (v := ?_) rfl rfl (by rfl) (by kernel_rfl) (fun _ _ _ h => h) hS0 ?_ ?_
      rotate_left
      · intro w hSw; obtain ⟨hS1, hS2, hS3⟩ := hSw; clear hS3; go_simp; (try with_reducible rfl)
      simp only [List.setIfInBounds_toArray, List.set_cons_zero, List.set_cons_succ]
      refine R_take 2 24 (v := ?_) rfl rfl (by rfl) (by kernel_rfl) (fun _ _ _ h => h) hS0 ?_ ?_
      rotate_left
      · intro w hSw; obtain ⟨hS1, hS2, hS3⟩ := hSw; clear hS3; go_simp; (try with_reducible rfl)
      simp only [List.setIfInBounds_toArray, List.set_cons_zero, List.set_cons_succ]
      refine R_take 3 25 (v := ?_) rfl rfl (by rfl) (by kernel_rfl) (fun _ _ _ h => h) hS0 ?_ ?_
      rotate_left
      · intro w hSw; obtain ⟨hS1, hS2, hS3⟩ := hSw; clear hS3; go_simp; (try with_reducible rfl)
      simp only [List.setIfInBounds_toArray, List.set_cons_zero, List.set_cons_succ]
      refine R_take 4 26 (v := ?_) rfl rfl (by rfl) (by kernel_rfl) (fun _ _ _ h => h) hS0 ?_ ?_
      rotate_left
      · intro w hSw; obtain ⟨hS1, hS2, hS3⟩ := hSw; clear hS3; go_simp; (try with_reducible rfl)
      simp only [List.setIfInBounds_toArray, List.set_cons_zero, List.set_cons_succ]
      refine R_take 5 27 (v := ?_) rfl rfl (by rfl) (by kernel_rfl) (fun _ _ _ h => h) hS0 ?_ ?_
      rotate_left
      · intro w hSw; obtain ⟨hS1, hS2, hS3⟩ := hSw; clear hS3; go_simp; (try with_reducible rfl)
      simp only [List.setIfInBounds_toArray, List.set_cons_zero, List.set_cons_succ]
      refine R_take 6 28 (v := ?_) rfl rfl (by rfl) (by kernel_rfl) (fun _ _ _ h => h) hS0 ?_ ?_
      rotate_left
      · intro w hSw; obtain ⟨hS1, hS2, hS3⟩ := hSw; clear hS3; go_simp; (try with_reducible rfl)
      simp only [List.setIfInBounds_toArray, List.set_cons_zero, List.set_cons_succ]
      refine R_take 7 29 (v := .agg (secC xs)) rfl rfl (by rfl) (by kernel_rfl) (fun _ _ _ h => h) hS0 (fun W hW => run_op_load _ _ ⟨wr.heap.size, 1, none⟩ rfl rfl hW.2.2) ?_
      simp only [List.setIfInBounds_toArray, List.set_cons_zero, List.set_cons_succ]
      refine R_take 8 30 (v := ?_) rfl rfl (by rfl) (by kernel_rfl) (fun _ _ _ h => h) hS0 ?_ ?_
      rotate_left
      · intro w hSw; obtain ⟨hS1, hS2, hS3⟩ := hSw; clear hS3; go_simp; (try with_reducible rfl)
      simp only [List.setIfInBounds_toArray, List.set_cons_zero, List.set_cons_succ]
      have HAn := (HA.out.alloc (.cells (wrC xk xs) 221)).drew
      have hlen : (Sp.lay (d.loose.take k) d.sure).length = d.sure.length := Sp.lay_length _ _
      have hall : ∀ s ∈ Sp.lay (d.loose.take k) d.sure, s.length = 128 := Sp.lay_all HSU.out (fun x hx => HWF.out x (List.mem_of_mem_take hx))
      have hst := run_storeVar_part (P := Tryz.prog) (wr.alloc (.cells (wrC xk xs) 221)).drew a (xk * 128) 219 219 (secs (Sp.lay (d.loose.take k) d.sure)).toArray (secC xs) HAn (by rw [sec_agg, secC_size HSX.out])
        (by rw [secC_size HSX.out, List.size_toArray, secs_length hall, hlen]; omega) (Array.all_eq_true_iff_forall_mem.2 fun u hu => by
          obtain ⟨b, _, rfl⟩ := List.mem_map.1 (show u ∈ bcs xs by simpa [secC] using hu); rfl)
      rw [partRow_secs hall (by omega) HSX.out, ← htk.out] at hst
      have hA2 := HAn.setRow (secs (Sp.lay (d.loose.take (k + 1)) d.sure)).toArray
      refine R_store 9 (n := .skip) rfl rfl (by rfl) (by kernel_rfl) (run_op_store _ _ _ ⟨a, xk * 128, none⟩ _ rfl rfl rfl hst) (.inl rfl) (fun h => absurd h (by decide)) ?_
      refine R_done (by kernel_rfl) ?_ _
      have hT2 := ((ht.alloc (.cells (wrC xk xs) 221)).drew).setRow (g := a) (.inl rfl) (secs (Sp.lay (d.loose.take (k + 1)) d.sure)).toArray
      have HA2 := Lib.hid hA2
      have HT2 := Lib.hid hT2
      clear hA2 hT2 hst hS0 HAn hall hlen hB5
      generalize (wr.alloc (.cells (wrC xk xs) 221)).drew.setRow a (secs (Sp.lay (d.loose.take (k + 1)) d.sure)).toArray = w5 at *
      go_wp2_with fail
      go_roundw
      case rel => exact ⟨k + 1, by omega, by go_num, HA2.out, HT2.out⟩
      case measure => simp [intOf]; omega
    · obtain rfl : k = d.loose.length := by omega
      rw [List.take_length] at HA
      go_wp2_with fail
      go_ret
      have hsl : d.synced.sure.length = d.sure.length := by simp [Sp.Dk.synced, Sp.Dk.view]
      have ht7 : Turns F F w (wr.setCell ⟨g, 1, none⟩ (.slice none 0 0)) :=
        ((ht1.wider (F := F) (fun b hb => (h6 b).2 (.inl hb)) (fun b hb => .inl hb)).trans (ht.wider (F := F) (fun b hb => (h6 b).2 (.inr (.inl hb))) (fun b hb => .inl hb))).setCell (p := ⟨g, 1, none⟩) (.inl ((h6 g).2 (.inl rfl))) (.slice none 0 0)
      refine ⟨fun b => b = g ∨ b = a, rfl, ⟨Sp.Dk.synced_wf h1, ?_, a, .slice none 0 0, ?_, HA.out.far (p := ⟨g, 1, none⟩) (fun e => hga e.symm) _, World.ownsRow_nil _ _ _ _, fun b => by simp [Value.ownBlock]⟩, rfl, ⟨ht7.os, ht7.tape, ht7.output, ht7.size, ht7.block, ?_⟩⟩
      · simp only [Sp.Dk.synced, Sp.burn]
        split <;> omega
      · rw [hsl]
        exact HBR.out.set_ 1 (.slice none 0 0)
      · rintro b (rfl | rfl)
        · exact .inl ((h6 b).2 (.inl rfl))
        · exact .inl ((h6 b).2 (.inr (.inl rfl)))
end Go.Proofs.YtafopojibpifoaaGreat

/- The walks of package disk: Read, where nothing is loose. -/
namespace Go.Proofs.YtafopojibpifoaaGreat
open Go.RowKit

theorem backward_any (p : Option Addr) (n c : Nat) (w : World) :
    Calls Tryz.prog 131 #[.slice p n c] w fun e w' => e = .returned (.func (.func 151) #[] #[.pointer (some ⟨w.heap.size, 0, none⟩)]) ∧ w' = w.alloc (.cells #[.slice p n c] 157) := by
  go_enter Tryz.func131, Tryz.ntmps131
  go_wp2_with fail
  go_ret
  exact ⟨rfl, rfl⟩

theorem secs_at {l : List Sp.Bs} (h : ∀ s ∈ l, s.length = 128) {i : Nat} (hi : i < l.length) {j : Nat} (hj : j < 128) : (secs l)[i * 128 + j]? = (bcs l[i])[j]? := by
  have e : l = l.take i ++ l[i] :: l.drop (i + 1) := by rw [← List.drop_eq_getElem_cons hi, List.take_append_drop]
  have h1 : (secs (l.take i)).length = i * 128 := by
    rw [secs_length (fun x hx => h x (List.mem_of_mem_take hx)), List.length_take, Nat.min_eq_left (by omega)]
  have h2 : (bcs l[i]).length = 128 := by rw [bcs_length]; exact h _ (List.getElem_mem hi)
  have e2 : secs l = secs (l.take i) ++ (bcs l[i] ++ secs (l.drop (i + 1))) := by
    conv => lhs; rw [e]
    rw [secs_append]; rfl
  rw [e2, List.getElem?_append_right (by omega), h1, Nat.add_sub_cancel_left, List.getElem?_append_left (by omega)]

theorem putObj_other (w : World) (D : Nat) (o : Obj) (b : Nat) (h : b ≠ D) : (w.putObj D o).heap[b]? = w.heap[b]? := World.putObj_heap_other h

set_option maxRecDepth 100000 in
set_option maxHeartbeats 2000000 in
theorem backward_none {n : Nat} {w : World} {B : Nat} {p : Option Addr} {c : Nat} (hc : w.cell? ⟨B, 0, none⟩ = some (.slice p 0 c)) (hB : B < w.heap.size) :
    SeqStopsA Fence.wide n Tryz.prog 151 #[.pointer (some ⟨B, 0, none⟩)] (fun _ : Empty => #[undef, undef]) (fun _ => True) (fun _ => False) 0 w := by
  intro l J Jx W hW hJ hJx hY h0
  have hcW := (hW.cell (p := ⟨B, 0, none⟩) hB).trans hc
  refine callsIn_wide.2 ?_
  clear hY hJ hJx
  simp only [List.append_toArray, List.cons_append, List.nil_append]
  go_enter Tryz.func151, Tryz.ntmps151
  go_wp2_with fail
  go_loop [3] (fun i => i = .int .i64 (-1)) (fun _ => 0)
  case atStart => rfl
  case round =>
    subst hrel
    go_wp2_with fail
    go_end0
    exact ⟨⟨_, rfl⟩, [], h0⟩

set_option maxRecDepth 100000 in
set_option maxHeartbeats 4000000 in
theorem disk_read {F : Foot} {w : World} {g : Nat} {d : Sp.Dk} (h : IsDk F w g d) (hf : d.fuse ≠ 0) (hl : d.loose = []) (k : Nat) (hk : k < d.sure.length) :
    Calls Tryz.prog 91 #[.pointer (some ⟨g, 0, none⟩), .int .i64 k] w fun e w' => e = .returned (.tuple #[str d.sure[k], .int .i64 0]) ∧ Below w.heap.size w w' := by
  obtain ⟨h1, h2, a, v, h3, h4, h5, h6⟩ := h
  have HM := Lib.hid fun W (h : Blk W g 159 (dkCells (.slice (some ⟨a, 0, none⟩) d.sure.length d.sure.length) v d.fuse)) => disk_may h h1.some_ hf
  have HD := Lib.hid h3
  have H4 := Lib.hid h4
  have hlt := h3.lt
  have hs := h1.sure _ (List.getElem_mem hk)
  have HS := Lib.hid hs
  obtain ⟨p, c, rfl⟩ : ∃ p c, v = .slice p 0 c := by
    rw [hl] at h5
    rcases h5.2 with ⟨rfl, e⟩ | ⟨b, cap, _, e, _⟩
    · exact ⟨none, 0, rfl⟩
    · exact ⟨_, _, e⟩
  have d1 : decide ((k : Int) < 0) = false := by simp
  have d2 : decide ((d.sure.length : Int) ≤ k) = false := by rw [decide_eq_false_iff_not]; omega
  clear h3 h4 h5 hl hs
  refine (callsIn_wide (n := 3)).1 ?_
  refine callsIn_of_wp_marks Tryz.func91 rfl trivial ?_ rfl
  rw [wpIn_wide]
  simp only [Tryz.ntmps91, List.size_toArray, List.length_cons, List.length_nil, Nat.reduceAdd, Nat.reduceSub, Array.replicate_succ, Array.replicate_zero, List.push_toArray, List.append_toArray, List.nil_append, List.cons_append]
  go_wp2_with fail
  obtain ⟨W0, hW0⟩ : ∃ W0, ((w.alloc (.cells #[.int .i64 k] 3)).alloc (.cells #[.string ⟨#[]⟩] 9)).alloc (.cells #[.int .i64 0] 35) = W0 := ⟨_, rfl⟩
  have b3 : Blk W0 w.heap.size 3 #[.int .i64 k] := by rw [← hW0]; exact ((Blk.new w _ _).alloc _).alloc _
  have b4 : Blk W0 (w.heap.size + 1) 9 #[.string ⟨#[]⟩] := by
    rw [← hW0]
    have := (Blk.new (w.alloc (.cells #[.int .i64 k] 3)) 9 #[.string ⟨#[]⟩]).alloc (.cells #[.int .i64 0] 35)
    rwa [World.size_alloc] at this
  have b5 : Blk W0 (w.heap.size + 1 + 1) 35 #[.int .i64 0] := by
    rw [← hW0]
    have := Blk.new ((w.alloc (.cells #[.int .i64 k] 3)).alloc (.cells #[.string ⟨#[]⟩] 9)) 35 #[.int .i64 0]
    rwa [World.size_alloc, World.size_alloc] at this
  have hbw0 : Below w.heap.size w W0 := by rw [← hW0]; exact (((Below.refl _ w).alloc (Nat.le_refl _) _).alloc (by simp) _).alloc (by simp; omega) _
  have hs0 : W0.heap.size = w.heap.size + 3 := by rw [← hW0]; simp
  rw [hW0]
  clear hW0
  have HS0 := Lib.hid hs0
  have hs0' : w.heap.size + 3 ≤ W0.heap.size := by omega
  clear hs0
  have hD0 := HD.out.below hbw0 hlt
  have hA0 := H4.out.below hbw0 H4.out.lt
  refine (HM.out _ hD0).mono ?_
  rintro e w1 ⟨rfl, hw⟩
  subst w1
  have c3 := b3.cell 0
  have c0 := hD0.cell 0
  have c1 := hD0.cell 1
  simp only [dkCells, List.getElem?_toArray, List.getElem?_cons_succ, List.getElem?_cons_zero] at c0 c1 c3
  have B3 := Lib.hid b3
  have B4 := Lib.hid b4
  have B5 := Lib.hid b5
  have HD0 := Lib.hid hD0
  have HA0 := Lib.hid hA0
  clear b3 b4 b5 hD0 hA0
  go_wp2_with fail
  go_quiet (fail)
  go_wp2_with fail
  refine (backward_any _ _ _ _).mono ?_
  rintro e w2 ⟨rfl, rfl⟩
  go_wp2_with fail
  have hbq : Below w.heap.size w (W0.drewN nq) := below_drewN' hbw0 nq
  have hBox := Blk.new (W0.drewN nq) 157 #[.slice p 0 c]
  have HB3 := Lib.hid ((B3.out.drewN nq).alloc (.cells #[.slice p 0 c] 157))
  have HB4 := Lib.hid ((B4.out.drewN nq).alloc (.cells #[.slice p 0 c] 157))
  have HB5 := Lib.hid ((B5.out.drewN nq).alloc (.cells #[.slice p 0 c] 157))
  have HDq := Lib.hid ((HD0.out.drewN nq).alloc (.cells #[.slice p 0 c] 157))
  have HAq := Lib.hid ((HA0.out.drewN nq).alloc (.cells #[.slice p 0 c] 157))
  have hbw1 := hbq.alloc hbq.size (.cells #[.slice p 0 c] 157)
  have hcB := hBox.cell 0
  have hBlt := hBox.lt
  have hsz : w.heap.size + 3 < ((W0.drewN nq).alloc (.cells #[.slice p 0 c] 157)).heap.size := by simp; omega
  rw [show (W0.drewN nq).heap.size = W0.heap.size from rfl] at hcB hBlt
  clear hBox hbq B3 B4 B5 HD0 HA0 c0 c1 c3
  generalize (W0.drewN nq).alloc (.cells #[.slice p 0 c] 157) = W1 at *
  rw [← wpIn_wide (n := 3)]
  refine wpIn_rangeFunc_ownF (α := Empty) rfl (by decide) (gf := 151) (lb := #[.pointer (some ⟨W0.heap.size, 0, none⟩)]) rfl trivial (enters_of Tryz.func151 (by kernel_rfl) rfl)
    (seqStopsA_iff.1 (backward_none hcB hBlt)) (fun h k => walksK_t h k) walksK_b (Below.refl _ _) (fun x => x.elim) (fun _ W => Below W1.heap.size W1 W) (fun _ _ _ => False) (ownFrom_below (Nat.le_refl _) (Nat.le_refl _)) (fun _ _ _ _ _ h => h.elim) (Below.refl _ _) (fun x => x.elim) (fun _ x => x.elim) (fun _ _ x => x.elim) ?done (fun _ _ _ _ _ _ h => h.elim)
  case done =>
    intro D xs W hD _ hI hK
    have hB3 := HB3.out.below hI (by omega)
    have hB4 := HB4.out.below hI (by omega)
    have hB5 := HB5.out.below hI (by omega)
    have hDW := HDq.out.below hI (by omega)
    have hAW := HAq.out.below hI HAq.out.lt
    have hbW := hbw1.trans (hI.mono hbw1.size)
    have HK := Lib.hid hK
    clear hI hK
    go_wp2_with fail
    have c3 := hB3.cell 0
    have c0 := hDW.cell 0
    simp only [dkCells, List.getElem?_toArray, List.getElem?_cons_zero] at c0 c3
    have hcv : (convert 102 9 (.slice (some ⟨a, k * 128, none⟩) 128 128)).run Tryz.prog W.drew = .ok (str d.sure[k]) W.drew := by
      refine run_bytes_back W.drew _ _ 5 a (k * 128) 128 128 d.sure[k] Tryz.underlying102 Tryz.underlying5 Tryz.underlying9 HS.out.symm (fun j hj => ?_)
      refine (hAW.cell (k * 128 + j)).trans ?_
      rw [List.getElem?_toArray]
      have := secs_at h1.sure hk (show j < 128 by rw [HS.out] at hj; exact hj)
      rw [this, bcs_at _ _ hj]
    have hS0 : (W.drew.cell? ⟨g, 0, none⟩ = some (.slice (some ⟨a, 0, none⟩) d.sure.length d.sure.length)) ∧ (W.drew.cell? ⟨w.heap.size, 0, none⟩ = some (.int .i64 k)) ∧
        ((convert 102 9 (.slice (some ⟨a, k * 128, none⟩) 128 128)).run Tryz.prog W.drew = .ok (str d.sure[k]) W.drew) := ⟨c0, c3, hcv⟩
    have HAW := Lib.hid hAW
    have HB4 := Lib.hid hB4
    have HB5 := Lib.hid hB5
    clear c0 c3 hcv hAW hB3 hDW hB4 hB5
    refine wp_region_noPanic ?_
    refine R_begin (fun W => (W.cell? ⟨g, 0, none⟩ = some (.slice (some ⟨a, 0, none⟩) d.sure.length d.sure.length)) ∧ (W.cell? ⟨w.heap.size, 0, none⟩ = some (.int .i64 k)) ∧
        ((convert 102 9 (.slice (some ⟨a, k * 128, none⟩) 128 128)).run Tryz.prog W = .ok (str d.sure[k]) W)) (fun j => j == 8 || j == 9) (by kernel_rfl) ?_
    refine R_take 0 39 (v := ?_) rfl rfl (by rfl) (by kernel_rfl) (fun _ _ _ h => h) hS0 ?_ ?_
    rotate_left
    · intro w hSw; obtain ⟨hS1, hS2, hS3⟩ := hSw; go_simp; (try with_reducible rfl)
    simp only [List.setIfInBounds_toArray, List.set_cons_zero, List.set_cons_succ]
    refine R_take 1 40 (v := ?_) rfl rfl (by rfl) (by kernel_rfl) (fun _ _ _ h => h) hS0 ?_ ?_
    rotate_left
    · intro w hSw; obtain ⟨hS1, hS2, hS3⟩ := hSw; go_simp; (try with_reducible rfl)
    simp only [List.setIfInBounds_toArray, List.set_cons_zero, List.set_cons_succ]
    refine R_take 2 41 (v := ?_) rfl rfl (by rfl) (by kernel_rfl) (fun _ _ _ h => h) hS0 ?_ ?_
    rotate_left
    · intro w hSw; obtain ⟨hS1, hS2, hS3⟩ := hSw; go_simp; (try with_reducible rfl)
    simp only [List.setIfInBounds_toArray, List.set_cons_zero, List.set_cons_succ]
    refine R_take 3 42 (v := ?_) rfl rfl (by rfl) (by kernel_rfl) (fun _ _ _ h => h) hS0 ?_ ?_
    rotate_left
    · intro w hSw; obtain ⟨hS1, hS2, hS3⟩ := hSw; go_simp; (try with_reducible rfl)
    simp only [List.setIfInBounds_toArray, List.set_cons_zero, List.set_cons_succ]
    refine R_take 4 43 (v := ?_) rfl rfl (by rfl) (by kernel_rfl) (fun _ _ _ h => h) hS0 ?_ ?_
    rotate_left
    · intro w hSw; obtain ⟨hS1, hS2, hS3⟩ := hSw; go_simp; (try with_reducible rfl)
    simp only [List.setIfInBounds_toArray, List.set_cons_zero, List.set_cons_succ]
    refine R_take 5 44 (v := ?_) rfl rfl (by rfl) (by kernel_rfl) (fun _ _ _ h => h) hS0 ?_ ?_
    rotate_left
    · intro w hSw; obtain ⟨hS1, hS2, hS3⟩ := hSw; go_simp; (try with_reducible rfl)
    simp only [List.setIfInBounds_toArray, List.set_cons_zero, List.set_cons_succ]
    refine R_take 6 45 (v := ?_) rfl rfl (by rfl) (by kernel_rfl) (fun _ _ _ h => h) hS0 ?_ ?_
    rotate_left
    · intro w hSw; obtain ⟨hS1, hS2, hS3⟩ := hSw; go_simp; (try with_reducible rfl)
    simp only [List.setIfInBounds_toArray, List.set_cons_zero, List.set_cons_succ]
    refine R_take 7 46 (v := ?_) rfl rfl (by rfl) (by kernel_rfl) (fun _ _ _ h => h) hS0 ?_ ?_
    rotate_left
    · intro w hSw; obtain ⟨hS1, hS2, hS3⟩ := hSw; go_simp; (try with_reducible rfl)
    simp only [List.setIfInBounds_toArray, List.set_cons_zero, List.set_cons_succ]
    have f4 := HB4.out.drew.frozen 0
    have hc4 := HB4.out.drew.cell 0
    have f5 := HB5.out.frozen 0
    have hc5 := HB5.out.cell 0
    simp only [List.getElem?_toArray, List.getElem?_cons_zero] at hc4 hc5
    refine R_store 8 (n := .skip) (w' := W.drew.setCell ⟨w.heap.size + 1, 0, none⟩ (str d.sure[k])) rfl rfl (by rfl) (by kernel_rfl) (by go_simp) (.inl rfl) (fun h => absurd h (by decide)) ?_
    refine R_store 9 (n := .skip) (w' := (W.drew.setCell ⟨w.heap.size + 1, 0, none⟩ (str d.sure[k])).setCell ⟨w.heap.size + 1 + 1, 0, none⟩ (.int .i64 0)) rfl rfl (by rfl) (by kernel_rfl) (run_op_store _ _ _ ⟨w.heap.size + 1 + 1, 0, none⟩ _ rfl rfl rfl (by go_simp)) (.inl rfl) (fun h => absurd h (by decide)) ?_
    refine R_done (by kernel_rfl) (NoPanic.normal ?_) _
    go_wp2_with fail
    have b4 := ((HB4.out.drew.set_ 0 (str d.sure[k])).far (p := ⟨w.heap.size + 1 + 1, 0, none⟩) (by simp) (.int .i64 0))
    have b5 := ((HB5.out.drew.far (p := ⟨w.heap.size + 1, 0, none⟩) (by simp) (str d.sure[k])).set_ 0 (.int .i64 0))
    have hKD : ((W.drew.setCell ⟨w.heap.size + 1, 0, none⟩ (str d.sure[k])).setCell ⟨w.heap.size + 1 + 1, 0, none⟩ (.int .i64 0)).heap[D]? = some (.deferred (some [])) := by
      rw [Below.heap_setCell _ _ _ D (show D ≠ w.heap.size + 1 + 1 by omega), Below.heap_setCell _ _ _ D (show D ≠ w.heap.size + 1 by omega)]
      exact HK.out
    have hb7 : Below w.heap.size w ((W.drew.setCell ⟨w.heap.size + 1, 0, none⟩ (str d.sure[k])).setCell ⟨w.heap.size + 1 + 1, 0, none⟩ (.int .i64 0)) := (hbW.drew.setCell (by simp) _).setCell (by simp; omega) _
    clear hS0 HAW HB4 HB5 f4 f5 hc4 hc5
    generalize (W.drew.setCell ⟨w.heap.size + 1, 0, none⟩ (str d.sure[k])).setCell ⟨w.heap.size + 1 + 1, 0, none⟩ (.int .i64 0) = W7 at *
    refine ⟨by simp, .inl ⟨_, _, rfl, run_takeDeferred hKD, ?_⟩⟩
    have b4' : Blk (W7.putObj D (.deferred none)) (w.heap.size + 1) 9 #[str d.sure[k]] := b4.keep (putObj_other _ _ _ _ (by omega))
    have b5' : Blk (W7.putObj D (.deferred none)) (w.heap.size + 1 + 1) 35 #[.int .i64 0] := b5.keep (putObj_other _ _ _ _ (by omega))
    have hb8 : Below w.heap.size w (W7.putObj D (.deferred none)) := hb7.grown (grownBy_putObj' _ _ _) hb7.size (fun q e => by cases e; omega)
    have c4 := b4'.cell 0
    have c5 := b5'.cell 0
    simp only [List.getElem?_toArray, List.getElem?_cons_zero] at c4 c5
    refine ⟨.tuple #[str d.sure[k], .int .i64 0], ?_, rfl, hb8⟩
    simp [results, Tryz.results91, go_sem, c4, c5]
end Go.Proofs.YtafopojibpifoaaGreat

/- The walks of package twin: placed, inside, clear, Read. -/
namespace Go.Proofs.YtafopojibpifoaaGreat
open Go.RowKit

set_option maxRecDepth 100000 in
set_option maxHeartbeats 2000000 in
theorem twin_placed {F : Foot} {w : World} {g : Nat} {d : Sp.Dk} (h : IsDk F w g d) (at_ base : Nat) (h1 : at_ + 33 ≤ d.sure.length) (h2 : base ≤ d.sure.length) :
    Calls Tryz.prog 80 #[.pointer (some ⟨g, 0, none⟩), .int .i64 at_, .int .i64 base] w fun e w' => e = .returned (.int .i64 0) ∧ w' = w := by
  have hfew := h.wf.few
  have HL := Lib.hid (disk_len h)
  have d1 : decide ((at_ : Int) < 0) = false := by simp
  have d2 : decide ((base : Int) < 0) = false := by simp
  have d3 : decide ((d.sure.length : Int) - 33 < at_) = false := by rw [decide_eq_false_iff_not]; omega
  have d4 : decide ((d.sure.length : Int) < base) = false := by rw [decide_eq_false_iff_not]; omega
  clear h
  go_enter Tryz.func80, Tryz.ntmps80
  go_wp2_with fail
  refine HL.out.mono ?_
  rintro e w1 ⟨rfl, hw⟩
  subst w1
  go_wp2_with fail
  refine HL.out.mono ?_
  rintro e w1 ⟨rfl, hw⟩
  subst w1
  go_wp2_with fail
  go_ret
  exact ⟨rfl, rfl⟩

/-- A page's home lies on the disk, and apart from the area. -/
def Sp.inside (n at_ base page : Nat) : Prop := base + page * 4 + 4 ≤ n ∧ at_ + 33 ≤ base + page * 4

set_option maxRecDepth 100000 in
set_option maxHeartbeats 2000000 in
theorem twin_inside {F : Foot} {w : World} {g : Nat} {d : Sp.Dk} (h : IsDk F w g d) (at_ base page : Nat) (hp : page < 4294967296) (hi : Sp.inside d.sure.length at_ base page) :
    Calls Tryz.prog 124 #[.pointer (some ⟨g, 0, none⟩), .int .i64 at_, .int .i64 base, .int .u32 page] w fun e w' => e = .returned (.bool true) ∧ w' = w := by
  have hfew := h.wf.few
  obtain ⟨i1, i2⟩ := hi
  have HL := Lib.hid (disk_len h)
  have d1 : decide ((base : Int) + page * 4 + 4 ≤ d.sure.length) = true := by rw [decide_eq_true_eq]; omega
  have d2 : decide ((at_ : Int) + 33 ≤ base + page * 4) = true := by rw [decide_eq_true_eq]; omega
  clear h
  go_enter Tryz.func124, Tryz.ntmps124
  go_wp2_with fail
  refine HL.out.mono ?_
  rintro e w1 ⟨rfl, hw⟩
  subst w1
  go_wp2_with fail
  go_ret
  exact ⟨rfl, rfl⟩

/-- A row of noughts. -/
def zrow (n : Nat) : Array Value := (List.replicate n (Value.int .u8 0)).toArray

theorem u8_info2 : (Tryz.prog.info? 5).map (fun i => (i.zero, i.size, i.bytes)) = some (some (.int .u8 0), 1, 1) := by kernel_rfl

set_option maxRecDepth 100000 in
theorem run_zmake (n : Nat) (hn : n ≤ 1000000) (W : World) : (Instr.makeSlice 102 (.int .i64 (n : Int)) (.int .i64 (n : Int))).run Tryz.prog W = .ok (.slice (some ⟨W.heap.size, 0, none⟩) n n) (W.alloc (.cells (zrow n) 5)) := by
  obtain ⟨i0, hi, hz0, hz1, hz2⟩ := info_parts u8_info2
  have := run_make_rowN (P := Tryz.prog) 102 5 i0 (.int .u8 0) Tryz.underlying102 hi hz0 .i64 .i64 n n (Nat.le_refl _) (by rw [hz2]; omega) (by omega) W
  rw [this, hz1, Nat.mul_one]
  rw [show (Value.int IntKind.u8 0).cells = #[.int .u8 0] from rfl, madeCells_one]
  rfl

theorem run_zback (n : Nat) (W : World) : (convert 102 9 (.slice (some ⟨W.heap.size, 0, none⟩) n n)).run Tryz.prog (W.alloc (.cells (zrow n) 5)) = .ok (str (Sp.zeros n)) (W.alloc (.cells (zrow n) 5)) := by
  refine run_bytes_back _ _ _ 5 W.heap.size 0 n n (Sp.zeros n) Tryz.underlying102 Tryz.underlying5 Tryz.underlying9 (by simp [Sp.zeros]) (fun j hj => ?_)
  have hj' : j < n := by simpa [Sp.zeros] using hj
  refine ((Blk.new W 5 (zrow n)).cell (0 + j)).trans ?_
  simp [zrow, Sp.zeros, hj']

set_option maxRecDepth 100000 in
set_option maxHeartbeats 2000000 in
theorem twin_clear (w : World) :
    Calls Tryz.prog 86 #[] w fun e w' => e = .returned (str (Sp.zeros 128)) ∧ Below w.heap.size w w' := by
  have hmk := run_zmake 128 (by omega)
  have hbk := run_zback 128
  change ∀ W, (Instr.makeSlice 102 (.int .i64 128) (.int .i64 128)).run _ W = _ at hmk
  obtain ⟨z, hz⟩ : ∃ z, Sp.zeros 128 = z := ⟨_, rfl⟩
  rw [hz] at hbk ⊢
  clear hz
  go_enter Tryz.func86, Tryz.ntmps86
  go_wp2_with fail
  go_ret
  exact ⟨rfl, (Below.refl _ w).alloc (Nat.le_refl _) _⟩

/-- A page's bytes on the disk. -/
def Sp.pageAt (s : List Sp.Bs) (at_ : Nat) : Sp.Bs := ((s.drop at_).take 4).flatten

set_option maxRecDepth 100000 in
set_option maxHeartbeats 2000000 in
theorem twin_read {F : Foot} {w : World} {g : Nat} {d : Sp.Dk} (h : IsDk F w g d) (hf : d.fuse ≠ 0) (hl : d.loose = []) (base page : Nat) (hp : page < 4294967296) (hi : base + page * 4 + 4 ≤ d.sure.length) :
    Calls Tryz.prog 62 #[.pointer (some ⟨g, 0, none⟩), .int .i64 base, .int .u32 page] w fun e w' => e = .returned (.tuple #[str (Sp.pageAt d.sure (base + page * 4)), .int .i64 0]) ∧ Below w.heap.size w w' := by
  have hfew := h.wf.few
  have hsec := h.wf.sure
  have HL := Lib.hid (disk_len h)
  have HR := Lib.hid fun W (h : IsDk F W g d) => disk_read h hf hl
  have HD := Lib.hid h
  have HSC := Lib.hid hsec
  have d1 : decide ((base : Int) < 0) = false := by simp
  have d2 : decide ((d.sure.length : Int) < base) = false := by rw [decide_eq_false_iff_not]; omega
  have d3 : decide ((d.sure.length : Int) - 4 < base + page * 4) = false := by rw [decide_eq_false_iff_not]; omega
  clear h hf hl hsec
  go_enter Tryz.func62, Tryz.ntmps62
  go_wp2_with fail
  refine HL.out.mono ?_
  rintro e w1 ⟨rfl, hw⟩
  subst w1
  go_wp2_with fail
  refine HL.out.mono ?_
  rintro e w1 ⟨rfl, hw⟩
  subst w1
  go_wp2_with fail
  go_loopw [8, 9, 10, 11, 31] (fun s _ _ _ i wr => ∃ k : Nat, k ≤ 4 ∧ i = .int .i64 k ∧ s = str ((d.sure.drop (base + page * 4)).take k).flatten ∧ Below w.heap.size w wr) (fun _ _ _ _ i _ => 4 - (intOf i).toNat)
  case atStart => exact ⟨0, by omega, rfl, by simp, Below.refl _ _⟩
  case round =>
    obtain ⟨k, hk, rfl, rfl, hb⟩ := hrel
    by_cases hlt : k < 4
    · have hR := HR.out _ (HD.out.below hb) (base + page * 4 + k) (by omega)
      have htk : ((d.sure.drop (base + page * 4)).take (k + 1)).flatten = ((d.sure.drop (base + page * 4)).take k).flatten ++ d.sure[base + page * 4 + k] := by
        rw [List.take_succ_eq_append_getElem (by rw [List.length_drop]; omega), List.flatten_append]
        simp
      have hlen : (((d.sure.drop (base + page * 4)).take k).flatten).length ≤ 1000 := by
        have := flatten_length_all (fun x : Sp.Bs => x) 128 ((d.sure.drop (base + page * 4)).take k) (fun x hx => HSC.out x (List.mem_of_mem_drop (List.mem_of_mem_take hx)))
        rw [List.map_id'] at this
        rw [this, List.length_take]
        have := Nat.min_le_left k (d.sure.drop (base + page * 4)).length
        omega
      have hlen2 := HSC.out _ (List.getElem_mem (show base + page * 4 + k < d.sure.length by omega))
      have hlen3 : (d.sure[base + page * 4 + k]).length ≤ 128 := by omega
      have HTK := Lib.hid htk
      have HRR := Lib.hid hR
      clear htk hR hlen2
      generalize d.sure[base + page * 4 + k] = s1 at *
      generalize ((d.sure.drop (base + page * 4)).take k).flatten = s0 at *
      go_wp2_with fail
      refine HRR.out.mono ?_
      rintro e w1 ⟨rfl, hb1⟩
      go_wp2_with fail
      go_roundw
      case rel => exact ⟨k + 1, by omega, by go_num, by rw [HTK.out, str_append], hb.trans (hb1.mono hb.size)⟩
      case measure => simp [intOf]; omega
    · obtain rfl : k = 4 := by omega
      go_wp2_with fail
      go_ret2
      exact ⟨rfl, hb⟩
end Go.Proofs.YtafopojibpifoaaGreat

/- The walks of package twin: the calls that write and sync (closures), one by one. -/
namespace Go.Proofs.YtafopojibpifoaaGreat
open Go.RowKit

/-- What a call of twin's does to a disk. -/
inductive Sp.TAct
  | wr (k : Nat) (s : Sp.Bs)
  | sync

def Sp.Dk.act (d : Sp.Dk) : Sp.TAct → Sp.Dk
  | .wr k s => d.put k s
  | .sync => d.synced
def Sp.Dk.acts (d : Sp.Dk) (l : List Sp.TAct) : Sp.Dk := l.foldl Sp.Dk.act d
def Sp.TAct.ok (n : Nat) : Sp.TAct → Prop
  | .wr k s => k < n ∧ s.length = 128
  | .sync => True

/-- A pointer to a variable of its own. -/
abbrev ptr (b : Nat) : Value := .pointer (some ⟨b, 0, none⟩)

/-- A function value that does this to the disk in block g; its variables lie in G. -/
def IsAct (G : Foot) (w : World) (g : Nat) (v : Value) : Sp.TAct → Prop
  | .wr k s => (∃ b0 b1 b2 b3 p t j, v = .func (.func 125) #[] #[ptr b0, ptr b1, ptr b2, ptr b3] ∧ (G b0 ∧ G b1 ∧ G b2 ∧ G b3) ∧ Blk w b0 75 #[ptr g] ∧ Blk w b1 3 #[.int .i64 (k : Nat)] ∧
        Blk w b2 132 #[.int .u32 (p : Nat), str t] ∧ Blk w b3 3 #[.int .i64 (j : Nat)] ∧ j < 4 ∧ t.length = 512 ∧ s = (t.drop (j * 128)).take 128) ∨
      (∃ b0 b1 b2, v = .func (.func 128) #[] #[ptr b0, ptr b1, ptr b2] ∧ (G b0 ∧ G b1 ∧ G b2) ∧ Blk w b0 75 #[ptr g] ∧ Blk w b1 3 #[.int .i64 (k : Nat)] ∧ Blk w b2 9 #[str s])
  | .sync => v = .func (.func 127) #[ptr g] #[]

theorem IsAct.keep {G : Foot} {w w' : World} {g : Nat} {v : Value} {a : Sp.TAct} (h : IsAct G w g v a) (hk : ∀ b, G b → w'.heap[b]? = w.heap[b]?) : IsAct G w' g v a := by
  cases a with
  | sync => exact h
  | wr k s =>
    rcases h with ⟨b0, b1, b2, b3, p, t, j, e, ⟨g0, g1, g2, g3⟩, h0, h1, h2, h3, rest⟩ | ⟨b0, b1, b2, e, ⟨g0, g1, g2⟩, h0, h1, h2⟩
    · exact .inl ⟨b0, b1, b2, b3, p, t, j, e, ⟨g0, g1, g2, g3⟩, h0.keep (hk _ g0), h1.keep (hk _ g1), h2.keep (hk _ g2), h3.keep (hk _ g3), rest⟩
    · exact .inr ⟨b0, b1, b2, e, ⟨g0, g1, g2⟩, h0.keep (hk _ g0), h1.keep (hk _ g1), h2.keep (hk _ g2)⟩
theorem IsAct.mono {G G' : Foot} {w : World} {g : Nat} {v : Value} {a : Sp.TAct} (h : IsAct G w g v a) (hG : ∀ b, G b → G' b) : IsAct G' w g v a := by
  cases a with
  | sync => exact h
  | wr k s =>
    rcases h with ⟨b0, b1, b2, b3, p, t, j, e, ⟨g0, g1, g2, g3⟩, rest⟩ | ⟨b0, b1, b2, e, ⟨g0, g1, g2⟩, rest⟩
    · exact .inl ⟨b0, b1, b2, b3, p, t, j, e, ⟨hG _ g0, hG _ g1, hG _ g2, hG _ g3⟩, rest⟩
    · exact .inr ⟨b0, b1, b2, e, ⟨hG _ g0, hG _ g1, hG _ g2⟩, rest⟩

/-- What a call of such a value says. -/
abbrev ActPost (F : Foot) (w : World) (g : Nat) (d' : Sp.Dk) : Ending → World → Prop := fun e w' => ∃ F', e = .returned (.int .i64 0) ∧ IsDk F' w' g d' ∧ Turns F F' w w'

set_option maxRecDepth 100000 in
set_option maxHeartbeats 2000000 in
theorem marks1_any {F : Foot} {w : World} {g : Nat} {d : Sp.Dk} (h : IsDk F w g d) (k : Nat) (s : Sp.Bs) (hk : k < d.sure.length) (hs : s.length = 128) (hf : d.fuse ≠ 0) (hl : d.loose.length ≤ 1000000)
    {b0 b1 b2 : Nat} (h0 : Blk w b0 75 #[ptr g]) (h1 : Blk w b1 3 #[.int .i64 (k : Nat)]) (h2 : Blk w b2 9 #[str s]) :
    Calls Tryz.prog 128 #[ptr b0, ptr b1, ptr b2] w (ActPost F w g (d.put k s)) := by
  have HW := Lib.hid (disk_write h k s hk hs hf hl)
  have c0 := h0.cell 0
  have c1 := h1.cell 0
  have c2 := h2.cell 0
  simp only [List.getElem?_toArray, List.getElem?_cons_zero] at c0 c1 c2
  clear h h0 h1 h2 hk hs
  go_enter Tryz.func128, Tryz.ntmps128
  go_wp2_with fail
  refine HW.out.mono ?_
  rintro e w1 ⟨F', rfl, hD, ht⟩
  have H1 := Lib.hid hD
  have H2 := Lib.hid ht
  clear hD ht
  go_wp2_with fail
  go_ret
  exact ⟨F', rfl, H1.out, H2.out⟩

set_option maxRecDepth 100000 in
set_option maxHeartbeats 4000000 in
theorem homes1_any {F : Foot} {w : World} {g : Nat} {d : Sp.Dk} (h : IsDk F w g d) (k p j : Nat) (t : Sp.Bs) (hk : k < d.sure.length) (ht : t.length = 512) (hj : j < 4) (hf : d.fuse ≠ 0) (hl : d.loose.length ≤ 1000000)
    {b0 b1 b2 b3 : Nat} (h0 : Blk w b0 75 #[ptr g]) (h1 : Blk w b1 3 #[.int .i64 (k : Nat)]) (h2 : Blk w b2 132 #[.int .u32 (p : Nat), str t]) (h3 : Blk w b3 3 #[.int .i64 (j : Nat)]) (hb : ¬ F b0 ∧ ¬ F b1 ∧ ¬ F b2 ∧ ¬ F b3) :
    Calls Tryz.prog 125 #[ptr b0, ptr b1, ptr b2, ptr b3] w (ActPost F w g (d.put k ((t.drop (j * 128)).take 128))) := by
  have hsl : ((t.drop (j * 128)).take 128).length = 128 := by rw [List.length_take, List.length_drop]; omega
  have HW := Lib.hid fun W (h : IsDk F W g d) => disk_write h k ((t.drop (j * 128)).take 128) hk hsl hf hl
  have c0 := h0.cell 0
  have c1 := h1.cell 0
  have c2 := h2.cell 1
  have c3 := h3.cell 0
  simp only [List.getElem?_toArray, List.getElem?_cons_zero, List.getElem?_cons_succ] at c0 c1 c2 c3
  have HD := Lib.hid h
  have w1 : IntKind.i64.wrap ((j : Int) * 128) = j * 128 := IntWalk.i64_in _ (by omega)
  have w2 : IntKind.i64.wrap ((j : Int) + 1) = j + 1 := IntWalk.i64_in _ (by omega)
  have w3 : IntKind.i64.wrap (((j : Int) + 1) * 128) = (j + 1) * 128 := IntWalk.i64_in _ (by omega)
  have hcut : ∀ W, (Instr.slice 9 (str t) (some (.int .i64 ((j : Int) * 128))) (some (.int .i64 (((j : Int) + 1) * 128))) none).run Tryz.prog W = Result.ok (str ((t.drop (j * 128)).take 128)) W := fun W => by
    have := run_slice_string (P := Tryz.prog) (w := W) 9 ⟨t.toArray⟩ .i64 .i64 ((j : Int) * 128) (((j : Int) + 1) * 128) Tryz.underlying9 (by omega) (by omega) (by rw [str_size]; omega)
    rw [this, str_extract]
    congr 3
    rw [show (((j : Int) * 128).toNat) = j * 128 by omega, show ((((j : Int) + 1) * 128).toNat) - j * 128 = 128 by omega]
  have HC := Lib.hid hcut
  have H0 := Lib.hid h0.drew
  have H1 := Lib.hid h1.drew
  have H2 := Lib.hid h2.drew
  have H3 := Lib.hid h3.drew
  clear h h0 h1 h2 h3 hk hsl hcut ht
  go_enter Tryz.func125, Tryz.ntmps125
  go_wp2_with fail
  have hS0 : (w.drew.cell? ⟨b0, 0, none⟩ = some (ptr g)) ∧ (w.drew.cell? ⟨b1, 0, none⟩ = some (.int .i64 k)) ∧ (w.drew.cell? ⟨b2, 1, none⟩ = some (str t)) ∧ (w.drew.cell? ⟨b3, 0, none⟩ = some (.int .i64 j)) := ⟨c0, c1, c2, c3⟩
  refine R_begin (fun W => (W.cell? ⟨b0, 0, none⟩ = some (ptr g)) ∧ (W.cell? ⟨b1, 0, none⟩ = some (.int .i64 k)) ∧ (W.cell? ⟨b2, 1, none⟩ = some (str t)) ∧ (W.cell? ⟨b3, 0, none⟩ = some (.int .i64 j))) (fun _ => false) (by kernel_rfl) ?_
  refine R_take 0 5 (v := ?_) rfl rfl (by rfl) (by kernel_rfl) (fun _ _ _ h => h) hS0 ?_ ?_
  rotate_left
  · intro w hSw; obtain ⟨hS1, hS2, hS3, hS4⟩ := hSw; go_simp; (try with_reducible rfl)
  simp only [List.setIfInBounds_toArray, List.set_cons_zero, List.set_cons_succ]
  refine R_take 1 6 (v := ?_) rfl rfl (by rfl) (by kernel_rfl) (fun _ _ _ h => h) hS0 ?_ ?_
  rotate_left
  · intro w hSw; obtain ⟨hS1, hS2, hS3, hS4⟩ := hSw; go_simp; (try with_reducible rfl)
  simp only [List.setIfInBounds_toArray, List.set_cons_zero, List.set_cons_succ]
  refine R_take 2 7 (v := ?_) rfl rfl (by rfl) (by kernel_rfl) (fun _ _ _ h => h) hS0 ?_ ?_
  rotate_left
  · intro w hSw; obtain ⟨hS1, hS2, hS3, hS4⟩ := hSw; go_simp; (try with_reducible rfl)
  simp only [List.setIfInBounds_toArray, List.set_cons_zero, List.set_cons_succ]
  refine R_take 3 8 (v := ?_) rfl rfl (by rfl) (by kernel_rfl) (fun _ _ _ h => h) hS0 ?_ ?_
  rotate_left
  · intro w hSw; obtain ⟨hS1, hS2, hS3, hS4⟩ := hSw; go_simp; (try with_reducible rfl)
  simp only [List.setIfInBounds_toArray, List.set_cons_zero, List.set_cons_succ]
  refine R_take 4 9 (v := ?_) rfl rfl (by rfl) (by kernel_rfl) (fun _ _ _ h => h) hS0 ?_ ?_
  rotate_left
  · intro w hSw; obtain ⟨hS1, hS2, hS3, hS4⟩ := hSw; go_simp; (try with_reducible rfl)
  simp only [List.setIfInBounds_toArray, List.set_cons_zero, List.set_cons_succ]
  refine R_take 5 10 (v := .int .i64 ((j : Int) * 128)) rfl rfl (by rfl) (by kernel_rfl) (fun _ _ _ h => h) hS0 (fun W hSw => by obtain ⟨hS1, hS2, hS3, hS4⟩ := hSw; go_simp) ?_
  simp only [List.setIfInBounds_toArray, List.set_cons_zero, List.set_cons_succ]
  refine R_take 6 11 (v := ?_) rfl rfl (by rfl) (by kernel_rfl) (fun _ _ _ h => h) hS0 ?_ ?_
  rotate_left
  · intro w hSw; obtain ⟨hS1, hS2, hS3, hS4⟩ := hSw; go_simp; (try with_reducible rfl)
  simp only [List.setIfInBounds_toArray, List.set_cons_zero, List.set_cons_succ]
  refine R_take 7 12 (v := .int .i64 ((j : Int) + 1)) rfl rfl (by rfl) (by kernel_rfl) (fun _ _ _ h => h) hS0 (fun W hSw => by obtain ⟨hS1, hS2, hS3, hS4⟩ := hSw; go_simp) ?_
  simp only [List.setIfInBounds_toArray, List.set_cons_zero, List.set_cons_succ]
  refine R_take 8 13 (v := .int .i64 (((j : Int) + 1) * 128)) rfl rfl (by rfl) (by kernel_rfl) (fun _ _ _ h => h) hS0 (fun W hSw => by obtain ⟨hS1, hS2, hS3, hS4⟩ := hSw; go_simp) ?_
  simp only [List.setIfInBounds_toArray, List.set_cons_zero, List.set_cons_succ]
  refine R_take 9 14 (v := str ((t.drop (j * 128)).take 128)) rfl rfl (by rfl) (by kernel_rfl) (fun _ _ _ h => h) hS0 (fun W _ => run_op_slice _ _ _ _ rfl rfl rfl rfl ((run_sliceAt_string (P := Tryz.prog) (w := W) _ _ _ _ _ Tryz.underlying9).trans (HC.out W))) ?_
  simp only [List.setIfInBounds_toArray, List.set_cons_zero, List.set_cons_succ]
  refine R_call 10 15 (f := 126) (args := #[ptr g, .int .i64 k, str ((t.drop (j * 128)).take 128)]) (w' := w.drew) rfl rfl (by rfl) (by kernel_rfl) (by go_simp) (HW.out w.drew (HD.out.keep (fun _ _ => rfl))) (fun e w'' hR => ?_)
  obtain ⟨F', rfl, hD, htt⟩ := hR
  have hS1 : (w''.cell? ⟨b0, 0, none⟩ = some (ptr g)) ∧ (w''.cell? ⟨b1, 0, none⟩ = some (.int .i64 k)) ∧ (w''.cell? ⟨b2, 1, none⟩ = some (str t)) ∧ (w''.cell? ⟨b3, 0, none⟩ = some (.int .i64 j)) := by
    obtain ⟨n0, n1, n2, n3⟩ := hb
    exact ⟨(H0.out.turns htt n0).cell 0, (H1.out.turns htt n1).cell 0, (H2.out.turns htt n2).cell 1, (H3.out.turns htt n3).cell 0⟩
  refine ⟨_, rfl, fun _ => hS1, ?_⟩
  simp only [List.setIfInBounds_toArray, List.set_cons_zero, List.set_cons_succ]
  refine R_run 11 4 (v := .int .i64 0) (w' := w'') rfl rfl (by rfl) (by kernel_rfl) (by clear hS1; go_simp) (fun _ => hS1) ?_
  simp only [List.setIfInBounds_toArray, List.set_cons_zero, List.set_cons_succ]
  refine R_done (by kernel_rfl) ?_ _
  have H4 := Lib.hid hD
  have H5 : Hid (Turns F F' w w'') := Lib.hid (⟨htt.os, htt.tape, htt.output, htt.size, htt.block, htt.foot⟩)
  clear hD htt hS1
  go_wp2_with fail
  go_ret
  exact ⟨F', rfl, H4.out, H5.out⟩
end Go.Proofs.YtafopojibpifoaaGreat
