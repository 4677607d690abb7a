/- Channels in one goroutine, beside the walk: a code's contract where it communicates (in a frame that is no early one). No program is named here. -/
import Derived.Test.YtndglfiepeefdaaGreatMPA
import Derived.Conc.LoneCalls
import Derived.Conc.LoneSelect
import Derived.Calls
import Derived.Test.YtndglfiepeefdaaGreatMPB
import Derived.Ground.SlgnProg
import Derived.Shelf.SlicesE.Clone
import Derived.Ground.SlgfProg
import Derived.Shelf.SlicesE.IndexFunc
import Derived.Shelf.SlicesE.DeleteFunc
import Derived.Test.YtndglfiepeefdaaGreatProg
import Derived.Conc.LoneSelectN
import Derived.Shelf.Small.Bits
import Derived.Ground.Names2Prog
import Derived.Sort.WalkA
import Derived.Sort.LotA

namespace Go.Proofs.YtndglfiepeefdaaGreat
open Go.RowKit Go.Conc

def wpN (P : Program) (c : Code) (Q : Exit → Act → World → Prop) (a : Act) (w : World) : Prop :=
  ∀ (b : Frame) (k : List Item) (cs : List Frame), b.kind ≠ .early →
    ∃ e a' w', Q e a' w' ∧ Arrives P (lone (b.at a (.code c :: k)) cs w) b k cs e a' w'

section
variable {P : Program} {Q : Exit → Act → World → Prop} {a : Act} {w : World}

theorem wpN_of_wp {c : Code} (h : c.wp P Q a w) : wpN P c Q a w := fun b k cs _ => h b k cs

theorem wpN_mono {c : Code} {Q' : Exit → Act → World → Prop} (h : wpN P c Q a w) (hq : ∀ e a w, Q e a w → Q' e a w) : wpN P c Q' a w :=
  fun b k cs hb => let ⟨e, a', w', q, r⟩ := h b k cs hb; ⟨e, a', w', hq _ _ _ q, r⟩

theorem wpN_seq {x y : Code} (h : wpN P x (Exit.then (wpN P y Q) Q) a w) : wpN P (Code.seq x y) Q a w := by
  intro b k cs hb
  obtain ⟨e, a₁, w₁, hq, harr⟩ := h b (.code y :: k) cs hb
  cases e with
  | normal =>
    obtain ⟨e₂, a₂, w₂, hq₂, harr₂⟩ := hq b k cs hb
    exact ⟨e₂, a₂, w₂, hq₂, .of_steps (.head step_seq harr) harr₂⟩
  | exit id => exact ⟨_, a₁, w₁, hq, .of_steps (.one step_seq) (.pass (x := .code y) rfl (fun _ _ => .inl (by simp)) harr)⟩
  | goto l => exact ⟨_, a₁, w₁, hq, .of_steps (.one step_seq) (.pass (x := .code y) rfl (fun _ _ => .inl (by simp)) harr)⟩
  | ret => exact ⟨_, a₁, w₁, hq, .of_steps (.one step_seq) (.pass (x := .code y) rfl (fun _ _ => .inl (by simp)) harr)⟩
  | panic ch => exact ⟨_, a₁, w₁, hq, .of_steps (.one step_seq) (.pass (x := .code y) rfl (fun _ _ => .inl (by simp)) harr)⟩
  | outgrown => exact ⟨_, a₁, w₁, hq, .of_steps (.one step_seq) (.pass (x := .code y) rfl (fun _ _ => .inl (by simp)) harr)⟩

/-- The first part by the walk. -/
theorem wpN_seq_k {x y : Code} (h : ∀ K : Act → World → Prop, (∀ a w, wpN P y Q a w → K a w) → x.wp P (Exit.then K Q) a w) : wpN P (Code.seq x y) Q a w :=
  wpN_seq (wpN_of_wp (h _ fun _ _ h => h))

theorem wpN_cond {c : Operand} {x y : Code} {t : Bool} (hc : a.eval c = .bool t) (h : wpN P (if t then x else y) Q a w) : wpN P (Code.cond c x y) Q a w :=
  fun b k cs hb => let ⟨e, a', w', q, r⟩ := h b k cs hb; ⟨e, a', w', q, .of_steps (.one (step_cond hc)) r⟩

theorem wpN_block {id : Nat} {c : Code} (h : wpN P c (Exit.inBlock id Q) a w) : wpN P (Code.block id c) Q a w := by
  intro b k cs hb
  obtain ⟨e, a₁, w₁, hq, harr⟩ := h b (.inBlock id :: k) cs hb
  cases e with
  | normal => exact ⟨.normal, a₁, w₁, hq, .head step_block (Steps.trans harr (.one step_inBlock))⟩
  | exit id' =>
    by_cases hid : id' = id
    · simp only [Exit.inBlock, hid, if_true] at hq
      exact ⟨.normal, a₁, w₁, hq, .head step_block (harr k (by simp [exitTo, hid]))⟩
    · simp only [Exit.inBlock, hid, if_false] at hq
      refine ⟨.exit id', a₁, w₁, hq, fun k' hk => .head step_block (harr k' ?_)⟩
      have : (id == id') = false := by simp; exact fun h => hid h.symm
      simp [exitTo, this, hk]
  | goto l => exact ⟨_, a₁, w₁, hq, fun k' hk => .head step_block (harr k' (by simp [gotoIn, hk]))⟩
  | ret => exact ⟨_, a₁, w₁, hq, .of_steps (.one step_block) harr⟩
  | panic ch => exact ⟨_, a₁, w₁, hq, .of_steps (.one step_block) harr⟩
  | outgrown => exact ⟨_, a₁, w₁, hq, .of_steps (b := b) (k := k) (cs := cs) (e := .outgrown) (.one step_block) harr⟩

theorem wpN_loop {c : Code} (I : Act → World → Prop) (μ : Act → World → Nat) (h₀ : I a w)
    (round : ∀ a w, I a w → wpN P c (Exit.then (fun a' w' => I a' w' ∧ μ a' w' < μ a w) Q) a w) : wpN P (Code.loop c) Q a w := by
  intro b k cs hb
  have key : ∀ n a w, μ a w = n → I a w →
      ∃ e a' w', Q e a' w' ∧ Arrives P (lone (b.at a (.code c :: .inLoop c :: k)) cs w) b k cs e a' w' := by
    intro n
    induction n using Nat.strongRecOn with
    | _ n ih =>
      intro a w hn hI
      obtain ⟨e, a₁, w₁, hq, harr⟩ := round a w hI b (.inLoop c :: k) cs hb
      cases e with
      | normal =>
        obtain ⟨hI₁, hlt⟩ := hq
        obtain ⟨e₂, a₂, w₂, hq₂, harr₂⟩ := ih (μ a₁ w₁) (hn ▸ hlt) a₁ w₁ rfl hI₁
        exact ⟨e₂, a₂, w₂, hq₂, .of_steps (Steps.trans harr (.one step_inLoop)) harr₂⟩
      | exit id => exact ⟨_, a₁, w₁, hq, .pass (x := .inLoop c) rfl (fun _ _ => .inl (by simp)) harr⟩
      | goto l => exact ⟨_, a₁, w₁, hq, .pass (x := .inLoop c) rfl (fun _ _ => .inl (by simp)) harr⟩
      | ret => exact ⟨_, a₁, w₁, hq, .pass (x := .inLoop c) rfl (fun _ _ => .inl (by simp)) harr⟩
      | panic ch => exact ⟨_, a₁, w₁, hq, .pass (x := .inLoop c) rfl (fun _ _ => .inl (by simp)) harr⟩
      | outgrown => exact ⟨_, a₁, w₁, hq, .pass (x := .inLoop c) rfl (fun _ _ => .inl (by simp)) harr⟩
  obtain ⟨e, a', w', hq, harr⟩ := key _ a w rfl h₀
  exact ⟨e, a', w', hq, .of_steps (.one step_loop) harr⟩

theorem calls_of_wpN {f : FuncId} {fn : Func} {c : Code} {args : Array Value} {w : World} {R : Ending → World → Prop}
    (hf : P.funcs[f]? = some fn) (hb : fn.body = some c)
    (h : wpN P c (bodyPost P fn R) { tmps := args ++ Array.replicate (fn.ntmps - args.size) undef, defers := [] } w) :
    Calls P f args w R := by
  intro cs
  let b : Frame := { (default : Frame) with fn := f, kind := .normal }
  have henter : Frame.enter P f args .normal =
      b.at { tmps := args ++ Array.replicate (fn.ntmps - args.size) undef, defers := [] } [.code c] := by
    simp [Frame.enter, Frame.at, hf, hb, b]
  obtain ⟨e, a', w', hq, harr⟩ := h b [] cs (by simp [b])
  rw [← henter] at harr
  cases e with
  | normal =>
    obtain ⟨hd, v, hr, hR⟩ := hq
    exact ⟨.returned v, w', _, hR, Steps.trans harr (.one step_end), rfl, rfl, hd, rfl, fn, hf, hr⟩
  | ret =>
    obtain ⟨hd, v, hr, hR⟩ := hq
    obtain ⟨todo, hs⟩ := harr
    exact ⟨.returned v, w', _, hR, hs, rfl, rfl, hd, rfl, fn, hf, hr⟩
  | panic chain =>
    obtain ⟨hd, hR⟩ := hq
    obtain ⟨todo, hs⟩ := harr
    exact ⟨.panicked chain, w', _, hR, hs, rfl, rfl, hd, fn, hf⟩
  | exit id => exact hq.elim
  | goto l => exact hq.elim
  | outgrown => exact ⟨.outgrown, w', b, hq, harr.resolve_left (by simp [b]), rfl, trivial⟩

/-! ### A region that communicates -/
def wpT (P : Program) (ops : Array Oper) (Q : Exit → Act → World → Prop) (rest : List Nat) (a : Act) (w : World) : Prop :=
  ∀ (b : Frame) (k : List Item) (cs : List Frame), b.kind ≠ .early → ∃ e a' w', Q e a' w' ∧ Arrives P (lone (b.at a (.inRegion ops rest :: k)) cs w) b k cs e a' w'

variable {ops : Array Oper} {rest : List Nat}
theorem wpN_region {id : Nat} (h : wpT P ops Q (List.range ops.size) a w) : wpN P (Code.region id ops false) Q a w :=
  fun b k cs hb => let ⟨e, a', w', q, r⟩ := h b k cs hb; ⟨e, a', w', q, .of_steps (.one step_region) r⟩

theorem T_done (h : Q .normal a w) : wpT P ops Q [] a w := fun _ _ _ _ => ⟨.normal, a, w, h, .one step_region_end⟩

theorem T_value (i : Nat) (t : Tmp) {v : Value} {w' : World} {o : Oper} (hi : ops[i]? = some o) (hd : o.dst = some t) (hw : Region.wanted o (yielded ops a.tmps) = true) (hy : (execOp a.eval o).run P w = .ok (.value v) w')
    (h : wpT P ops Q rest { tmps := a.tmps.setIfInBounds t v, defers := a.defers } w') : wpT P ops Q (i :: rest) a w := by
  intro b k cs hb
  obtain ⟨e, a', w'', hq, harr⟩ := h b k cs hb
  have hg := stepG_op (P := P) (b := b) (k := k) (cs := cs) (w := w) (rest := rest) hi hw
  have hfin : (b.at a (.inRegion ops (i :: rest) :: k)).finish v = b.at { tmps := a.tmps.setIfInBounds t v, defers := a.defers } (.inRegion ops rest :: k) := by
    rw [Frame.finish_at, hi]
    simp only [Option.bind_some, hd, Act.put]
  refine ⟨e, a', w'', hq, .of_steps (.one (step_lone_go ?_)) harr⟩
  rw [hg, ← hfin]; simp [stepG.apply, hy]

theorem T_send (i : Nat) {c cap s r : Nat} {buf : Array Value} {v z : Value} {tm : Bool} {w' : World} {o : Oper} (hi : ops[i]? = some o) (hd : o.dst = none) (hw : Region.wanted o (yielded ops a.tmps) = true)
    (hy : (execOp a.eval o).run P w = .ok (.comm #[scase c v z] true .send) w') (hc : w'.heap[c]? = some (.chan cap buf false s r tm)) (hroom : buf.size < cap)
    (h : wpT P ops Q rest a (w'.setChan c cap (buf.push v) false (s + 1) r tm)) : wpT P ops Q (i :: rest) a w := by
  intro b k cs hb
  obtain ⟨e, a', w'', hq, harr⟩ := h b k cs hb
  have hs := step_lone_send_room (stepG_comm (P := P) (b := b) (k := k) (cs := cs) (rest := rest) (main := true) hi hw hb hy) hc hroom
  rw [Frame.finish_at, hi, Option.bind_some, hd] at hs
  exact ⟨e, a', w'', hq, .of_steps (.one hs) harr⟩

theorem T_recv (i : Nat) (t : Tmp) {c cap s r : Nat} {buf : Array Value} {z : Value} {closed tm : Bool} {w' : World} {o : Oper} (hi : ops[i]? = some o) (hd : o.dst = some t) (hw : Region.wanted o (yielded ops a.tmps) = true)
    (hy : (execOp a.eval o).run P w = .ok (.comm #[rcase c z] true (.recv false)) w') (hc : w'.heap[c]? = some (.chan cap buf closed s r tm)) (hsome : 0 < buf.size)
    (h : wpT P ops Q rest { tmps := a.tmps.setIfInBounds t (buf.getD 0 undef), defers := a.defers } (w'.setChan c cap (buf.extract 1 buf.size) closed s (r + 1) tm)) : wpT P ops Q (i :: rest) a w := by
  intro b k cs hb
  obtain ⟨e, a', w'', hq, harr⟩ := h b k cs hb
  have hs := step_lone_recv_buf false (stepG_comm (P := P) (b := b) (k := k) (cs := cs) (rest := rest) (main := true) hi hw hb hy) hc hsome
  rw [Frame.finish_at, hi, Option.bind_some, hd] at hs
  exact ⟨e, a', w'', hq, .of_steps (.one hs) harr⟩

theorem T_select_recv (i : Nat) (t : Tmp) {c cap s r : Nat} {buf : Array Value} {z : Value} {closed tm : Bool} {w' : World} {o : Oper} (hi : ops[i]? = some o) (hd : o.dst = some t) (hw : Region.wanted o (yielded ops a.tmps) = true)
    (hy : (execOp a.eval o).run P w = .ok (.comm #[rcase c z] false .select) w') (hc : w'.heap[c]? = some (.chan cap buf closed s r tm)) (hsome : 0 < buf.size)
    (h : wpT P ops Q rest { tmps := a.tmps.setIfInBounds t (.tuple #[goInt 0, .bool true, buf.getD 0 undef]), defers := a.defers } (w'.setChan c cap (buf.extract 1 buf.size) closed s (r + 1) tm)) : wpT P ops Q (i :: rest) a w := by
  intro b k cs hb
  obtain ⟨e, a', w'', hq, harr⟩ := h b k cs hb
  have hs := step_lone_select_recv_buf (stepG_comm (P := P) (b := b) (k := k) (cs := cs) (rest := rest) (main := true) hi hw hb hy) hc hsome
  rw [Frame.finish_at, hi, Option.bind_some, hd] at hs
  exact ⟨e, a', w'', hq, .of_steps (.one hs) harr⟩

theorem T_select_default (i : Nat) (t : Tmp) {c cap s r : Nat} {z : Value} {tm : Bool} {w' : World} {o : Oper} (hi : ops[i]? = some o) (hd : o.dst = some t) (hw : Region.wanted o (yielded ops a.tmps) = true)
    (hy : (execOp a.eval o).run P w = .ok (.comm #[rcase c z] false .select) w') (hc : w'.heap[c]? = some (.chan cap #[] false s r tm))
    (h : wpT P ops Q rest { tmps := a.tmps.setIfInBounds t (.tuple #[goInt (-1), .bool false, z]), defers := a.defers } w') : wpT P ops Q (i :: rest) a w := by
  intro b k cs hb
  obtain ⟨e, a', w'', hq, harr⟩ := h b k cs hb
  have hs := step_lone_select_default (stepG_comm (P := P) (b := b) (k := k) (cs := cs) (rest := rest) (main := true) hi hw hb hy) hc
  rw [Frame.finish_at, hi, Option.bind_some, hd] at hs
  exact ⟨e, a', w'', hq, .of_steps (.one hs) harr⟩
end
end Go.Proofs.YtndglfiepeefdaaGreat

/- A pool in memory; New. -/
namespace Go.Proofs.YtndglfiepeefdaaGreat
open Go.RowKit

namespace Sp
/-- A page that is in: in which frame, how often it is pinned. -/
structure It where
  page : Pg
  pins : Nat
  dirty : Bool
  from_ : Nat
  idx : Nat
/-- A pool: its pages, who was pinned last stands last; the frames that are free. -/
structure Pl where
  n : Nat
  items : List It
  free : List Nat
def Pl.find (p : Pl) (id : Nat) : Option It := p.items.find? (fun it => it.page.id == id)
def Pl.lk (p : Pl) : Nat → Option Nat := fun id => (p.find id).map (·.idx)
structure Pl.wf (p : Pl) : Prop where
  n1 : 1 ≤ p.n
  n64 : p.n ≤ 64
  idx : (p.free ++ p.items.map (·.idx)).Perm (List.range p.n)
  ids : (p.items.map (·.page.id)).Nodup
  pg : ∀ it ∈ p.items, it.page.wf ∧ it.page.may
  small : ∀ it ∈ p.items, it.pins ≤ 1000000000 ∧ it.from_ < 18446744073709551616
end Sp

def frCells (it : Sp.It) (A : Option Addr) (c : Nat) : List Value :=
  [.int .u8 it.page.kind, .int .u8 it.page.level, .int .u32 it.page.id, .int .u64 it.page.lsn, .int .u32 it.page.next, .slice A it.page.rows.length c, .int .i64 it.pins, .bool it.dirty, .int .u64 it.from_]
def zeroFr : List Value := [.int .u8 0, .int .u8 0, .int .u32 0, .int .u64 0, .int .u32 0, .slice none 0 0, .int .i64 0, .bool false, .int .u64 0]

abbrev plCells (gd gl at_ base fb n cb mb : Nat) (v : Value) : Array Value :=
  #[ptr gd, ptr gl, .int .i64 at_, .int .i64 base, .slice (some ⟨fb, 0, none⟩) n n, .chan (some cb), .map (some mb), v]

/-- The frames' cells. -/
structure IsFr (R : Foot) (w : World) (fb : Nat) (p : Sp.Pl) (cs : Array Value) : Prop where
  blk : Blk w fb 110 cs
  size : cs.size = p.n * 9
  item : ∀ it ∈ p.items, ∃ A c, OkAddr A ∧ RowsAt R w A it.page.rows ∧ ∀ j, j < 9 → cs[it.idx * 9 + j]? = (frCells it A c)[j]?
  free : ∀ i ∈ p.free, ∀ j, j < 9 → cs[i * 9 + j]? = zeroFr[j]?

/-- The parts of a pool in memory; fl: which frames the channel has, ids: the row (while a call is under way they are not yet those of p). -/
structure IsPlAt (F R : Foot) (w : World) (gp gd gl at_ base fb cb mb : Nat) (v : Value) (s r : Nat) (cs : Array Value) (fl ids : List Nat) (p : Sp.Pl) : Prop where
  wf : p.wf
  blk : Blk w gp 108 (plCells gd gl at_ base fb p.n cb mb v)
  fr : IsFr R w fb p cs
  chan : w.heap[cb]? = some (.chan p.n (fl.map fun (i : Nat) => Value.int .i64 (i : Int)).toArray false s r false)
  map : UMap Tryz.prog 28 3 w mb p.items.length p.lk
  row : w.ownsRow 0 28 1 v ids.length (ids.map fun (i : Nat) => Value.int .u32 (i : Int))
  foot : F gp ∧ F fb ∧ F cb ∧ F mb ∧ ∀ b, v.ownBlock = some b → F b
  rows : ∀ b, R b → F b ∧ b ≠ gp ∧ b ≠ fb ∧ b ≠ cb ∧ b ≠ mb ∧ v.ownBlock ≠ some b
  lt : ∀ b, F b → b < w.heap.size

/-- A pool in memory: its struct in block gp; F is all its blocks. -/
def IsPl (F : Foot) (w : World) (gp gd gl at_ base : Nat) (p : Sp.Pl) : Prop :=
  ∃ R fb cb mb v s r cs, IsPlAt F R w gp gd gl at_ base fb cb mb v s r cs p.free (p.items.map (·.page.id)) p

theorem IsFr.keep {R : Foot} {w w' : World} {fb : Nat} {p : Sp.Pl} {cs : Array Value} (h : IsFr R w fb p cs) (hs : w.heap.size ≤ w'.heap.size) (hf : w'.heap[fb]? = w.heap[fb]?) (hk : ∀ b, R b → w'.heap[b]? = w.heap[b]?) : IsFr R w' fb p cs :=
  ⟨h.blk.keep hf, h.size, fun it hit => by
    obtain ⟨A, c, hA, hR, hc⟩ := h.item it hit
    exact ⟨A, c, hA, hR.keep hs hk, hc⟩, h.free⟩

theorem IsPlAt.keep {F R : Foot} {w w' : World} {gp gd gl at_ base fb cb mb s r : Nat} {v : Value} {cs : Array Value} {fl ids : List Nat} {p : Sp.Pl} (h : IsPlAt F R w gp gd gl at_ base fb cb mb v s r cs fl ids p) (hs : w.heap.size ≤ w'.heap.size)
    (hk : ∀ b, F b → w'.heap[b]? = w.heap[b]?) : IsPlAt F R w' gp gd gl at_ base fb cb mb v s r cs fl ids p := by
  obtain ⟨f1, f2, f3, f4, f5⟩ := h.foot
  refine ⟨h.wf, h.blk.keep (hk _ f1), h.fr.keep hs (hk _ f2) (fun b hb => hk b (h.rows b hb).1), (hk _ f3).trans h.chan, h.map.keep (hk _ f4), ⟨h.row.1, ?_⟩, h.foot, h.rows, fun b hb => Nat.lt_of_lt_of_le (h.lt b hb) hs⟩
  rcases h.row.2 with h' | ⟨b, cap, cur, rfl, hb, hh, rest⟩
  · exact .inl h'
  · exact .inr ⟨b, cap, cur, rfl, hb, (hk b (f5 b rfl)).trans hh, rest⟩
theorem IsPl.keep {F : Foot} {w w' : World} {gp gd gl at_ base : Nat} {p : Sp.Pl} (h : IsPl F w gp gd gl at_ base p) (hs : w.heap.size ≤ w'.heap.size) (hk : ∀ b, F b → w'.heap[b]? = w.heap[b]?) : IsPl F w' gp gd gl at_ base p := by
  obtain ⟨R, fb, cb, mb, v, s, r, cs, h⟩ := h
  exact ⟨R, fb, cb, mb, v, s, r, cs, h.keep hs hk⟩
theorem IsPl.lt {F : Foot} {w : World} {gp gd gl at_ base : Nat} {p : Sp.Pl} (h : IsPl F w gp gd gl at_ base p) : ∀ b, F b → b < w.heap.size := by
  obtain ⟨R, fb, cb, mb, v, s, r, cs, h⟩ := h
  exact h.lt
theorem IsPl.below {F : Foot} {w w' : World} {gp gd gl at_ base : Nat} {p : Sp.Pl} (h : IsPl F w gp gd gl at_ base p) (hb : Below w.heap.size w w') : IsPl F w' gp gd gl at_ base p :=
  h.keep hb.size (fun b hF => hb.block b (h.lt b hF))
theorem IsPl.wf {F : Foot} {w : World} {gp gd gl at_ base : Nat} {p : Sp.Pl} (h : IsPl F w gp gd gl at_ base p) : p.wf := by
  obtain ⟨R, fb, cb, mb, v, s, r, cs, h⟩ := h
  exact h.wf

def zeroFrA : Value := .agg zeroFr.toArray
theorem fr_info : (Tryz.prog.info? 110).map (fun i => (i.zero, i.size, i.bytes)) = some (some zeroFrA, 9, 72) := by kernel_rfl
theorem int_info2 : (Tryz.prog.info? 3).map (fun i => (i.zero, i.size, i.bytes)) = some (some (.int .i64 0), 1, 8) := by kernel_rfl

theorem made_at (n j : Nat) (i : Nat) (hi : i < n) (hj : j < 9) : (madeCells zeroFrA.cells (n * 9))[i * 9 + j]? = zeroFr[j]? := by
  unfold madeCells
  have e : zeroFrA.cells = zeroFr.toArray := rfl
  have hlt : i * 9 + j < n * 9 := by omega
  have hm : (i * 9 + j) % 9 = j := by omega
  rw [e]
  simp only [zeroFr, List.size_toArray, List.length_cons, List.length_nil, Nat.reduceAdd]
  simp [hlt, hm]
  match j, hj with
  | 0, _ | 1, _ | 2, _ | 3, _ | 4, _ | 5, _ | 6, _ | 7, _ | 8, _ => rfl
end Go.Proofs.YtndglfiepeefdaaGreat

/-
  DERIVED: THE SHELF's CONTRACTS AT THIS DUMP, IN PLAIN WORDS (tools/lay-plain.mjs out of 'TryzShel2.lean', which tools/lay-shelf.mjs wrote): THE SAME DECLARATIONS UNDER THE SAME NAMES: 'import', 'namespace', 'open', 'def', 'theorem' AND NOTHING ELSE: no command of the shelf's: FOR A HAND-IN. Each laying: the table of numbers ('.._ren') and one theorem, a field a fact of the dump's own or the kernel's comparison; each contract: ONE APPLICATION.
-/
namespace Go.Proofs
open Go.Shelf
def Tryz.laysSlE041_f106_ren : Go.Shelf.Ren := ⟨fun | 41 => 106 | n => n, fun | 22 => 30 | 23 => 9 | 4 => 4 | n => n, fun | n => n⟩
theorem Tryz.laysSlE041_f106 : Go.Proofs.SlLaysE0.n41 Tryz.prog Tryz.laysSlE041_f106_ren := {
  mixed := by kernel_rfl
  f41 := ⟨Tryz.f106.name, by decide, Tryz.func106.trans (congrArg some (by kernel_rfl))⟩
  t4 := Tryz.underlying4
  a4 := Tryz.isAgg4
  z4 := Tryz.sizeOf4
  v4 := Tryz.zeroValue4
  t22 := Tryz.underlying30
  a22 := Tryz.isAgg30
  z22 := Tryz.sizeOf30
  v22 := Tryz.zeroValue30 }
open Go.RowKit Go.Lib in
/-- slices.Clone: "Clone returns a copy of the slice. The elements are copied using assignment, so this is a shallow clone. The result may have additional unused capacity. The result preserves the nilness of s.": OF A SLICE THAT IS NOT nil IT RETURNS A SLICE THAT IS NOT nil, OF THE SAME CELLS, IN MEMORY OF THE CALL's OWN ('ownsRow': the how-to's 6f); below the heap's size at the call all is as it was. (LAID AT THE INSTANCE 'slices.Clone[[]string,string]': no walk: one application.) -/
theorem Tryz.slices_Clone_f106 (i0 : TypeInfo) (z : Value) (size bytes : Nat) (hi : Tryz.prog.info? 9 = some i0) (hz0 : i0.zero = some z) (hz1 : i0.size = size) (hz2 : i0.bytes = bytes) (hzs : z.cells.size = size) (hsz : 0 < size) (z23 : ∀ w, (Go.sizeOf 9).run Tryz.prog w = .ok size w) (b off n c : Nat) (news : List Value) (w : World) (hl : news.length = n * size) (hn : n ≤ maxLen) (hbig : n * bytes ≤ 140737488355328) (hc : ∀ j u, news[j]? = some u → w.cell? ⟨b, off + j, none⟩ = some u) (h1 : ∀ u ∈ news, u.oneCell' = true) :
    Calls Tryz.prog 106 #[.slice (some ⟨b, off, none⟩) n c] w fun e w' => ∃ v', e = .returned v' ∧ w'.ownsRow w.heap.size 9 size v' n news ∧ v' ≠ .slice none 0 0 ∧ Below w.heap.size w w' := AnyE.slices_Clone Tryz.laysSlE041_f106 i0 z size bytes hi hz0 hz1 hz2 hzs hsz z23 b off n c news w hl hn hbig hc h1
open Go.RowKit Go.Lib in
/-- The same at nil: nil comes back; the world is as it was; nothing is asked of the element's type. (LAID AT THE INSTANCE 'slices.Clone[[]string,string]': no walk: one application.) -/
theorem Tryz.slices_Clone_nil_f106 (n c : Nat) (w : World) :
    Calls Tryz.prog 106 #[.slice none n c] w fun e w' => e = .returned (.slice none 0 0) ∧ w' = w := AnyE.slices_Clone_nil Tryz.laysSlE041_f106 n c w
def Tryz.laysSlH6_f153_ren : Go.Shelf.Ren := ⟨fun | 6 => 153 | n => n, fun | 22 => 33 | 23 => 28 | 25 => 174 | 3 => 3 | 0 => 0 | 4 => 4 | n => n, fun | n => n⟩
theorem Tryz.laysSlH6_f153 : Go.Proofs.SlLaysH.n6 Tryz.prog Tryz.laysSlH6_f153_ren := {
  mixed := by kernel_rfl
  f6 := ⟨Tryz.f153.name, by decide, Tryz.func153.trans (congrArg some (by kernel_rfl))⟩
  t0 := Tryz.underlying0
  a0 := Tryz.isAgg0
  z0 := Tryz.sizeOf0
  v0 := Tryz.zeroValue0
  t3 := Tryz.underlying3
  a3 := Tryz.isAgg3
  z3 := Tryz.sizeOf3
  v3 := Tryz.zeroValue3
  t4 := Tryz.underlying4
  a4 := Tryz.isAgg4
  z4 := Tryz.sizeOf4
  v4 := Tryz.zeroValue4
  t22 := Tryz.underlying33
  a22 := Tryz.isAgg33
  z22 := Tryz.sizeOf33
  v22 := Tryz.zeroValue33
  a23 := Tryz.isAgg28
  z23 := Tryz.sizeOf28
  t25 := Tryz.underlying174
  a25 := Tryz.isAgg174
  z25 := Tryz.sizeOf174
  v25 := Tryz.zeroValue174 }
open Go.RowKit Go.Lib in
/-- slices.IndexFunc: "IndexFunc returns the first index i satisfying f(s[i]), or -1 if none do." (LAID AT THE INSTANCE 'slices.IndexFunc[[]uint32,uint32]': no walk: one application.) -/
theorem Tryz.slices_IndexFunc_f153 {α : Type} [Inhabited α] (enc : α → Value) (p : α → Bool) (g : Nat) (lb : Array Value) (eg : ∀ args w, (callFunc g args).run Tryz.prog w = .ok (.enter g args) w) (b off n c : Nat) (zs : List α) (w : World) (hp : PredAt Tryz.prog g lb enc p w) (hz : n ≤ zs.length) (hbig : n ≤ 9223372036854775807) (hc : ∀ j, j < zs.length → w.cell? ⟨b, off + j, none⟩ = some (enc zs[j]!)) :
    Calls Tryz.prog 153 #[.slice (some ⟨b, off, none⟩) n c, .func (.func g) #[] lb] w fun e w' => e = .returned (.int .i64 (Lib.idxBy (fun _ y => p y) (zs.take n) default)) ∧ ∃ q, w' = w.drewN q := AnyE.slices_IndexFunc Tryz.laysSlH6_f153 enc p g lb eg b off n c zs w hp hz hbig hc
open Go.RowKit Go.Lib in
/-- The same at a slice of length 0, a nil one too: the predicate is not called: nothing is asked of it. (LAID AT THE INSTANCE 'slices.IndexFunc[[]uint32,uint32]': no walk: one application.) -/
theorem Tryz.slices_IndexFunc_empty_f153 {α : Type} [Inhabited α] (a : Option Addr) (c : Nat) (fv : Value) (w : World) :
    Calls Tryz.prog 153 #[.slice a 0 c, fv] w fun e w' => e = .returned (.int .i64 (-1)) ∧ w' = w := AnyE.slices_IndexFunc_empty Tryz.laysSlH6_f153 a c fv w
def Tryz.laysSlH10_f107_ren : Go.Shelf.Ren := ⟨fun | 10 => 107 | 6 => 153 | n => n, fun | 22 => 33 | 23 => 28 | 25 => 174 | 3 => 3 | 4 => 4 | 0 => 0 | n => n, fun | n => n⟩
theorem Tryz.laysSlH10_f107 : Go.Proofs.SlLaysH.n10 Tryz.prog Tryz.laysSlH10_f107_ren := {
  mixed := by kernel_rfl
  f6 := ⟨Tryz.f153.name, by decide, Tryz.func153.trans (congrArg some (by kernel_rfl))⟩
  f10 := ⟨Tryz.f107.name, by decide, Tryz.func107.trans (congrArg some (by kernel_rfl))⟩
  t0 := Tryz.underlying0
  a0 := Tryz.isAgg0
  z0 := Tryz.sizeOf0
  v0 := Tryz.zeroValue0
  t3 := Tryz.underlying3
  a3 := Tryz.isAgg3
  z3 := Tryz.sizeOf3
  v3 := Tryz.zeroValue3
  t4 := Tryz.underlying4
  a4 := Tryz.isAgg4
  z4 := Tryz.sizeOf4
  v4 := Tryz.zeroValue4
  t22 := Tryz.underlying33
  a22 := Tryz.isAgg33
  z22 := Tryz.sizeOf33
  v22 := Tryz.zeroValue33
  a23 := Tryz.isAgg28
  z23 := Tryz.sizeOf28
  t25 := Tryz.underlying174
  a25 := Tryz.isAgg174
  z25 := Tryz.sizeOf174
  v25 := Tryz.zeroValue174 }
open Go.RowKit Go.Lib Go.Sort in
theorem Tryz.slices_DeleteFunc_f107 {α : Type} [Inhabited α] (enc : α → Value) (hO : OneCell enc) (p : α → Bool) (g : Nat) (lb : Array Value) (eg : ∀ args w, (callFunc g args).run Tryz.prog w = .ok (.enter g args) w) (zr : α) (v23 : ∀ w, (zeroValue 28).run Tryz.prog w = .ok (enc zr) w) (blk off cap : Nat) (d : Array α) (w : World) (hp : PredAt Tryz.prog g lb enc p w) (hpo : PredOver Tryz.prog g lb enc p blk off d.size w) (hH : Holds enc w blk off d) (hsz : d.size ≤ 9223372036854775807) (hcap : d.size ≤ cap) :
    Calls Tryz.prog 107 #[.slice (some ⟨blk, off, none⟩) d.size cap, .func (.func g) #[] lb] w fun e w' => e = .returned (.slice (some ⟨blk, off, none⟩) (d.toList.filter fun x => !p x).length cap) ∧ ∃ q, w' = putRow enc (Sort.ahead w q) blk off ((d.toList.filter fun x => !p x) ++ List.replicate (d.size - (d.toList.filter fun x => !p x).length) zr).toArray := AnyE.slices_DeleteFunc Tryz.laysSlH10_f107 enc hO p g lb eg zr v23 blk off cap d w hp hpo hH hsz hcap

end Go.Proofs

/- slices.Clone of rows, slices.DeleteFunc of a row of numbers, in the words of this proof. -/
namespace Go.Proofs.YtndglfiepeefdaaGreat
open Go.RowKit Go.Shelf Go.Lib Go.Sort

abbrev u32v (i : Nat) : Value := .int .u32 (i : Int)
theorem u32_one : OneCell u32v := fun _ => rfl
theorem Tryz.z26 (w : World) : (zeroValue 28).run Tryz.prog w = .ok (u32v 0) w := by kernel_rfl

theorem nat_beq (x p : Nat) : ((x : Int) == (p : Int)) = (x == p) := by
  rw [Bool.eq_iff_iff, beq_iff_eq, beq_iff_eq]; omega

theorem pins1_any (x p B : Nat) (W : World) (hc : W.cell? ⟨B, 0, none⟩ = some (u32v p)) :
    Calls Tryz.prog 108 #[u32v x, ptr B] W fun e w' => e = .returned (.bool (x == p)) ∧ w' = W := by
  have HB := Lib.hid (nat_beq x p)
  go_enter Tryz.func108, Tryz.ntmps108
  go_wp2_with fail
  go_ret
  exact ⟨by rw [← HB.out]; rfl, rfl⟩
theorem drops1_any (x p B : Nat) (W : World) (hc : W.cell? ⟨B, 0, none⟩ = some (u32v p)) :
    Calls Tryz.prog 119 #[u32v x, ptr B] W fun e w' => e = .returned (.bool (x == p)) ∧ w' = W := by
  have HB := Lib.hid (nat_beq x p)
  go_enter Tryz.func119, Tryz.ntmps119
  go_wp2_with fail
  go_ret
  exact ⟨by rw [← HB.out]; rfl, rfl⟩

/-- A function value that asks 'is it p?', p in the variable of block B. -/
def AsksFor (f : Nat) (p B : Nat) : Prop := (∀ x W, W.cell? ⟨B, 0, none⟩ = some (u32v p) → Calls Tryz.prog f #[u32v x, ptr B] W fun e w' => e = .returned (.bool (x == p)) ∧ w' = W) ∧
  ∀ args w, (callFunc f args).run Tryz.prog w = .ok (.enter f args) w
theorem asks_pins (p B : Nat) : AsksFor 108 p B := ⟨fun x W h => pins1_any x p B W h, enters_of Tryz.func108 (by kernel_rfl) rfl⟩
theorem asks_drops (p B : Nat) : AsksFor 119 p B := ⟨fun x W h => drops1_any x p B W h, enters_of Tryz.func119 (by kernel_rfl) rfl⟩

set_option maxRecDepth 100000 in
set_option maxHeartbeats 1000000 in
theorem delete_empty (a : Option Addr) (c : Nat) (fv : Value) (w : World) :
    Calls Tryz.prog 107 #[.slice a 0 c, fv] w fun e w' => e = .returned (.slice a 0 c) ∧ w' = w := by
  have HI := Lib.hid (Tryz.slices_IndexFunc_empty_f153 (α := Nat) a c fv w)
  go_enter Tryz.func107, Tryz.ntmps107
  go_wp2_with fail
  refine HI.out.mono ?_
  rintro e w1 ⟨rfl, hw⟩
  subst w1
  go_wp2_with fail
  go_ret
  exact ⟨rfl, rfl⟩

theorem putRow_heap (w : World) (q b : Nat) (D : Array Nat) (cur : Array Value) (e : TypeId) (h : w.heap[b]? = some (.cells cur e (0, 0))) :
    (putRow u32v (Sort.ahead w q) b 0 D).heap[b]? = some (.cells (Go.Sort.putCells u32v 0 D cur) e (0, 0)) := by
  simp [putRow, mapBlock, Sort.ahead, Array.getElem?_modify, h, onCells]
theorem putRow_grown (w : World) (q b : Nat) (D : Array Nat) : w.grownBy (putRow u32v (Sort.ahead w q) b 0 D) (some b) :=
  ⟨rfl, rfl, rfl, by simp [putRow, mapBlock, Sort.ahead], fun k _ hk => by
    have : ¬ b = k := fun e => hk (by rw [e])
    simp [putRow, mapBlock, Sort.ahead, Array.getElem?_modify, this]⟩

/-- A row of numbers from which one is struck. -/
theorem delete_row {w : World} {base f p B : Nat} {v : Value} {ids : List Nat} (hf : AsksFor f p B) (h : w.ownsRow base 28 1 v ids.length (ids.map u32v)) (hB : Blk w B 28 #[u32v p]) (hne : v.ownBlock ≠ some B) :
    Calls Tryz.prog 107 #[v, .func (.func f) #[] #[ptr B]] w fun e w' => ∃ v', e = .returned v' ∧
      w'.ownsRow base 28 1 v' (ids.filter (fun x => !(x == p))).length ((ids.filter (fun x => !(x == p))).map u32v) ∧ w.grownBy w' v.ownBlock ∧ (∀ k, v'.ownBlock = some k → v.ownBlock = some k) := by
  rcases h.2 with ⟨rfl, h0⟩ | ⟨b, cap, cur, rfl, hbb, hh, h1, h2, h3, h4⟩
  · have hids : ids = [] := List.eq_nil_of_length_eq_zero h0
    subst hids
    refine (delete_empty none 0 _ w).mono ?_
    rintro e w1 ⟨rfl, rfl⟩
    exact ⟨_, rfl, World.ownsRow_nil _ _ _ _, ⟨rfl, rfl, rfl, Nat.le_refl _, fun _ _ _ => rfl⟩, fun k hk => hk⟩
  · have hnb : b ≠ B := fun e => hne (by rw [e]; rfl)
    have hlen : ids.toArray.size = ids.length := by simp
    have hcm : cap ≤ 9223372036854775807 := by unfold maxLen at h2; omega
    have hH : Holds u32v w b 0 ids.toArray := by
      intro j hj
      have hj' : j < ids.length := by simpa using hj
      rw [Nat.zero_add]
      refine ⟨(h.cellAt j (by omega)).trans ?_, h.frozenAt j⟩
      simp [hj']
    have hp : PredAt Tryz.prog f #[ptr B] u32v (fun x => x == p) w := fun W x hb => by
      refine (hf.1 x W ((hb.cell (p := ⟨B, 0, none⟩) hB.lt).trans (hB.cell 0))).mono ?_
      rintro e w' ⟨rfl, rfl⟩
      exact ⟨rfl, 0, rfl⟩
    have hpo : PredOver Tryz.prog f #[ptr B] u32v (fun x => x == p) b 0 ids.toArray.size w := fun n os dk x hdk => by
      refine (hf.1 x _ ?_).mono ?_
      · have e1 := putRow_grown w n b dk
        have e2 : (sortWorld u32v w b 0 n dk os).heap[B]? = w.heap[B]? := by
          have hsz : B < (putRow u32v (Sort.ahead w n) b 0 dk).heap.size := Nat.lt_of_lt_of_le hB.lt e1.size
          exact (Sort.heap_grow_old (putRow u32v (Sort.ahead w n) b 0 dk) os hsz).trans (e1.block B hB.lt (fun e => hnb (by injection e with e; exact e.symm)))
        exact (hB.keep e2).cell 0
      · rintro e w' ⟨rfl, rfl⟩
        exact ⟨rfl, 0, rfl⟩
    have hcall := Tryz.slices_DeleteFunc_f107 u32v u32_one (fun x => x == p) f #[ptr B] hf.2 0 Tryz.z26 b 0 cap ids.toArray w hp hpo hH (by rw [hlen]; omega) (by rw [hlen]; exact h1)
    rw [hlen] at hcall
    refine hcall.mono ?_
    rintro e w' ⟨rfl, q, rfl⟩
    have hlf : (ids.filter (fun x => !(x == p))).length ≤ ids.length := List.length_filter_le _ _
    have hcsz : cur.size = cap := by rw [h3, Nat.mul_one]
    refine ⟨_, rfl, ⟨by simp, .inr ⟨b, cap, _, rfl, hbb, putRow_heap w q b _ cur _ hh, Nat.le_trans hlf h1, h2, ?_, ?_⟩⟩, putRow_grown w q b _, fun k hk => hk⟩
    · simp [Go.Sort.putCells, h3]
    · apply List.ext_getElem?
      intro k
      rw [Nat.mul_one, List.getElem?_take]
      split
      · rename_i hk
        have hkc : k < cur.size := by omega
        simp only [Go.Sort.putCells, Array.getElem?_toList, Array.getElem?_mapIdx]
        rw [Array.getElem?_eq_getElem hkc]
        have hk2 : k < ((ids.filter (fun x => !(x == p))) ++ List.replicate (ids.length - (ids.filter (fun x => !(x == p))).length) 0).length := by
          rw [List.length_append, List.length_replicate]; omega
        simp only [Option.map_some, Nat.zero_le, Nat.zero_add, true_and, Nat.sub_zero, List.size_toArray]
        rw [if_pos hk2, List.getElem?_map, List.getElem?_eq_getElem hk]
        simp only [Option.map_some]
        congr 2
        rw [getElem!_pos _ k (by simpa using hk2)]
        simp [List.getElem_append_left hk]
      · rename_i hk
        rw [List.getElem?_eq_none (by simpa using hk)]

/-- A page's rows, copied. -/
theorem clone_rows {G : Foot} {w : World} {A : Option Addr} {c : Nat} {rows : List Sp.Bs} (hR : RowsAt G w A rows) (hA : OkAddr A) (hl : rows.length ≤ 1000000) :
    Calls Tryz.prog 106 #[.slice A rows.length c] w fun e w' => ∃ A' c', e = .returned (.slice A' rows.length c') ∧ OkAddr A' ∧ RowsAt (fun b => w.heap.size ≤ b) w' A' rows ∧ Below w.heap.size w w' := by
  obtain ⟨i0, hi, hz0, hz1, hz2⟩ := info_parts str_info
  rcases hA with rfl | ⟨b, o, rfl⟩
  · have h0 : rows = [] := by
      cases rows with
      | nil => rfl
      | cons x l =>
        obtain ⟨b, o, e, _⟩ := hR.2 (by simp)
        cases e
    subst h0
    refine (Tryz.slices_Clone_nil_f106 0 c w).mono ?_
    rintro e w1 ⟨rfl, rfl⟩
    exact ⟨none, 0, rfl, .inl rfl, Reads.none_, Below.refl _ _⟩
  · have hz23 : ∀ w, (Go.sizeOf 9).run Tryz.prog w = .ok 1 w := fun w => by kernel_rfl
    rcases Nat.eq_zero_or_pos rows.length with h0 | hpos
    · have h0' : rows = [] := List.eq_nil_of_length_eq_zero h0
      subst h0'
      refine (Tryz.slices_Clone_f106 i0 _ 1 16 hi hz0 hz1 hz2 rfl (by decide) hz23 b o 0 c [] w rfl (by unfold maxLen; omega) (by omega) (fun j u hu => by simp at hu) (fun u hu => by simp at hu)).mono ?_
      rintro e w1 ⟨v, rfl, hO, hnn, hb⟩
      obtain ⟨A', c', rfl, hA', hR'⟩ := own_rows (rows := []) hO
      exact ⟨A', c', rfl, hA', hR', hb⟩
    · obtain ⟨b2, o2, e2, _, _, hc⟩ := hR.2 hpos
      injection e2 with e2
      injection e2 with e3 e4
      subst e3 e4
      refine (Tryz.slices_Clone_f106 i0 _ 1 16 hi hz0 hz1 hz2 rfl (by decide) hz23 b o rows.length c (rcs rows) w (by simp) (by unfold maxLen; omega) (by omega) hc (fun u hu => by
        obtain ⟨x, _, rfl⟩ := List.mem_map.1 hu; rfl)).mono ?_
      rintro e w1 ⟨v, rfl, hO, hnn, hb⟩
      obtain ⟨A', c', rfl, hA', hR'⟩ := own_rows hO
      exact ⟨A', c', rfl, hA', hR', hb⟩
end Go.Proofs.YtndglfiepeefdaaGreat

/- The walks of package pool: New. -/
namespace Go.Proofs.YtndglfiepeefdaaGreat
open Go.RowKit Go.Conc

theorem setChan_other (w : World) (c b cap : Nat) (buf : Array Value) (cl : Bool) (s r : Nat) (tm : Bool) (h : b ≠ c) : (w.setChan c cap buf cl s r tm).heap[b]? = w.heap[b]? := by
  simp [World.setChan, Array.getElem?_setIfInBounds_ne (Ne.symm h)]
theorem Blk.notChan {w : World} {b c : Nat} {t : TypeId} {cs : Array Value} {cap s r : Nat} {buf : Array Value} {cl tm : Bool} (h : Blk w b t cs) (hc : w.heap[c]? = some (.chan cap buf cl s r tm)) : b ≠ c := by
  rintro rfl
  unfold Blk at h
  rw [h] at hc
  cases hc
theorem UMap.notChan {P : Program} {k e : TypeId} {w : World} {b c m : Nat} {lk : Nat → Option Nat} {cap s r : Nat} {buf : Array Value} {cl tm : Bool} (h : UMap P k e w b m lk) (hc : w.heap[c]? = some (.chan cap buf cl s r tm)) : b ≠ c := by
  rintro rfl
  obtain ⟨D, ⟨es, clock, h1, _⟩, _⟩ := h
  rw [h1] at hc
  cases hc
theorem grown_setChan (w : World) (c cap : Nat) (buf : Array Value) (cl : Bool) (s r : Nat) (tm : Bool) : w.grownBy (w.setChan c cap buf cl s r tm) (some c) :=
  ⟨rfl, rfl, rfl, by simp [World.setChan], fun b _ hb => setChan_other w c b cap buf cl s r tm (fun e => hb (by rw [e]))⟩
theorem chan_buf (k : Nat) : ((List.range k).map fun (i : Nat) => Value.int .i64 (i : Int)).toArray.push (.int .i64 (k : Int)) = ((List.range (k + 1)).map fun (i : Nat) => Value.int .i64 (i : Int)).toArray := by
  rw [List.range_succ]; simp

theorem run_mkchan (n : Nat) (hn : n ≤ 64) (w : World) : (Instr.makeChan 105 (.int .i64 (n : Int))).run Tryz.prog w = .ok (.chan (some w.heap.size)) (w.alloc (.chan n #[] false 0 0 false)) := by
  obtain ⟨i, hi, _, _, hb⟩ := info_parts int_info2
  have := run_makeChan (P := Tryz.prog) (w := w) Tryz.underlying105 hi .i64 n (by omega) (by rw [hb]; omega)
  simpa using this

/-- The frames of a new pool. -/
def frZero (n : Nat) : Array Value := madeCells zeroFrA.cells (n * 9)
/-- What holds while the free frames are sent. -/
def NewAt (w wr : World) (gd gl at_ base n fb gp cb mb k : Nat) : Prop :=
  Below w.heap.size w wr ∧ Blk wr fb 110 (frZero n) ∧ Blk wr gp 108 (plCells gd gl at_ base fb n cb mb (.slice none 0 0)) ∧ UMap Tryz.prog 28 3 wr mb 0 (fun _ => none) ∧
    wr.heap[cb]? = some (.chan n ((List.range k).map fun (i : Nat) => Value.int .i64 (i : Int)).toArray false k 0 false)
def NewPost (w : World) (gd gl at_ base n : Nat) (e : Ending) (w' : World) : Prop :=
  ∃ gp F, e = .returned (.tuple #[ptr gp, .int .i64 0]) ∧ IsPl F w' gp gd gl at_ base ⟨n, [], List.range n⟩ ∧ Below w.heap.size w w' ∧ (∀ b, F b → w.heap.size ≤ b)

theorem newAt_is {w wr : World} {gd gl at_ base n fb gp cb mb : Nat} (h1 : 1 ≤ n) (h64 : n ≤ 64) (h : NewAt w wr gd gl at_ base n fb gp cb mb n) (l1 : w.heap.size ≤ fb) (l2 : w.heap.size ≤ cb) (l3 : w.heap.size ≤ mb) (l4 : w.heap.size ≤ gp) :
    NewPost w gd gl at_ base n (.returned (.tuple #[ptr gp, .int .i64 0])) wr := by
  obtain ⟨hb, hF, hP, hM, hC⟩ := h
  refine ⟨gp, fun b => b = gp ∨ b = fb ∨ b = cb ∨ b = mb, rfl, ⟨noFoot, fb, cb, mb, .slice none 0 0, n, 0, frZero n, ?_⟩, hb, ?_⟩
  · refine ⟨⟨h1, h64, by simp, by simp, by simp, by simp⟩, hP, ⟨hF, by simp [frZero, madeCells], by simp, fun i hi j hj => ?_⟩, hC, hM, World.ownsRow_nil _ _ _ _, ⟨.inl rfl, .inr (.inl rfl), .inr (.inr (.inl rfl)), .inr (.inr (.inr rfl)), fun b h => by simp [Value.ownBlock] at h⟩, fun b h => h.elim, ?_⟩
    · exact made_at n j i (List.mem_range.1 hi) hj
    · rintro b (rfl | rfl | rfl | rfl)
      · exact hP.lt
      · exact hF.lt
      · exact (Array.getElem?_eq_some_iff.1 hC).1
      · exact hM.lt
  · rintro b (rfl | rfl | rfl | rfl) <;> assumption

set_option maxRecDepth 100000 in
set_option maxHeartbeats 4000000 in
theorem pool_new (gd gl at_ base n : Nat) (h1 : 1 ≤ n) (h64 : n ≤ 64) (w : World) :
    Calls Tryz.prog 32 #[ptr gd, ptr gl, .int .i64 at_, .int .i64 base, .int .i64 n] w (NewPost w gd gl at_ base n) := by
  have d1 : decide ((n : Int) < 1) = false := by rw [decide_eq_false_iff_not]; omega
  have d2 : decide ((64 : Int) < n) = false := by rw [decide_eq_false_iff_not]; omega
  refine calls_of_wpN Tryz.func32 rfl ?_
  simp only [Tryz.ntmps32, List.size_toArray, List.length_cons, List.length_nil, Nat.reduceAdd, Nat.reduceSub, Array.replicate_succ, Array.replicate_zero, List.push_toArray, List.append_toArray, List.nil_append, List.cons_append]
  refine wpN_seq_k ?_
  intro K hK
  go_wp2_with fail
  refine wpN_seq_k ?_
  intro K hK
  go_wp2_with fail
  refine wpN_seq_k ?_
  intro K hK
  have HK : ∀ (fb cb mb : Nat) (W : World), (Blk W fb 110 (frZero n) ∧ W.heap[cb]? = some (.chan n #[] false 0 0 false) ∧ UMap Tryz.prog 28 3 W mb 0 (fun _ => none) ∧ Below w.heap.size w W ∧ w.heap.size ≤ fb ∧ w.heap.size ≤ cb ∧ w.heap.size ≤ mb) →
      K { tmps := #[ptr gd, ptr gl, .int .i64 at_, .int .i64 base, .int .i64 n, undef, undef, undef, undef, undef, .pointer none, .int .i64 0, ptr W.heap.size, undef, .bool false, ptr gd, .bool false, ptr gl, .bool false, .bool false, .int .i64 n, .bool false, .int .i64 n, .bool false, ptr gd, ptr gl, .int .i64 at_, .int .i64 base, .int .i64 n, .slice (some ⟨fb, 0, none⟩) n n, .int .i64 n, .chan (some cb), .map (some mb), .agg (plCells gd gl at_ base fb n cb mb (.slice none 0 0)), ptr W.heap.size, undef, undef, undef, undef, undef, undef, undef, undef, undef, undef, undef], defers := [] } (W.alloc (.cells (plCells gd gl at_ base fb n cb mb (.slice none 0 0)) 108)) := by
    rintro fb cb mb W ⟨hF, hC, hM, hb, l1, l2, l3⟩
    refine hK _ _ ?_
    have hbw := hb.alloc hb.size (.cells (plCells gd gl at_ base fb n cb mb (.slice none 0 0)) 108)
    have hP := Lib.hid (Blk.new W 108 (plCells gd gl at_ base fb n cb mb (.slice none 0 0)))
    have hF' := Lib.hid (hF.alloc (.cells (plCells gd gl at_ base fb n cb mb (.slice none 0 0)) 108))
    have hM' := Lib.hid (hM.alloc (.cells (plCells gd gl at_ base fb n cb mb (.slice none 0 0)) 108))
    have hcl : cb < W.heap.size := (Array.getElem?_eq_some_iff.1 hC).1
    have hC' := Lib.hid ((Below.heap_alloc W (.cells (plCells gd gl at_ base fb n cb mb (.slice none 0 0)) 108) cb hcl).trans hC)
    have hgs : w.heap.size ≤ W.heap.size := hb.size
    obtain ⟨gp, hgp⟩ : ∃ gp, gp = W.heap.size := ⟨_, rfl⟩
    obtain ⟨W1, hW1⟩ : ∃ W1, W1 = W.alloc (.cells (plCells gd gl at_ base fb n cb mb (.slice none 0 0)) 108) := ⟨_, rfl⟩
    rw [← hW1] at hbw hP hF' hM' hC' ⊢
    rw [← hgp] at hP hgs hcl ⊢
    clear hW1 hgp hF hC hM hb hK K
    refine wpN_seq ?_
    refine wpN_seq_k ?_
    intro K hK
    go_wp2_with fail
    refine wpN_block ?_
    refine wpN_loop (fun a wr => ∃ (k : Nat) (u13 u37 u38 u39 u40 u41 u42 u43 u44 : Value), k ≤ n ∧ a = { tmps := #[ptr gd, ptr gl, .int .i64 at_, .int .i64 base, .int .i64 n, undef, undef, undef, undef, undef, .pointer none, .int .i64 0, ptr gp, u13, .bool false, ptr gd, .bool false, ptr gl, .bool false, .bool false, .int .i64 n, .bool false, .int .i64 n, .bool false, ptr gd, ptr gl, .int .i64 at_, .int .i64 base, .int .i64 n, .slice (some ⟨fb, 0, none⟩) n n, .int .i64 n, .chan (some cb), .map (some mb), .agg (plCells gd gl at_ base fb n cb mb (.slice none 0 0)), ptr gp, .int .i64 n, .int .i64 (k : Nat), u37, u38, u39, u40, u41, u42, u43, u44, undef], defers := [] } ∧ NewAt w wr gd gl at_ base n fb gp cb mb k) (fun a _ => n - (intOf (a.tmps.getD 36 undef)).toNat) ?_ ?_
    · exact ⟨0, undef, undef, undef, undef, undef, undef, undef, undef, undef, Nat.zero_le _, rfl, hbw, hF'.out, hP.out, hM'.out, hC'.out⟩
    rintro a wr ⟨k, u13, u37, u38, u39, u40, u41, u42, u43, u44, hk, rfl, hbr, hF, hP2, hM, hC⟩
    have HF := Lib.hid hF
    have HP := Lib.hid hP2
    have HM := Lib.hid hM
    have HC := Lib.hid hC
    have c5 := hP2.cell 5
    simp only [plCells, zGA, zGB, zGC] at c5
    have hcl2 : cb < wr.heap.size := (Array.getElem?_eq_some_iff.1 hC).1
    clear hF hP2 hM hC hF' hP hM' hC' hbw
    by_cases hlt : k < n
    · refine wpN_seq_k ?_
      intro K hK
      go_wp2_with fail
      refine wpN_seq_k ?_
      intro K hK
      go_wp2_with fail
      refine wpN_seq ?_
      refine wpN_block ?_
      refine wpN_seq_k ?_
      intro K hK
      go_wp2_with fail
      refine wpN_region ?_
      change wpT _ _ _ [0, 1, 2, 3, 4, 5] _ _
      refine T_value 0 39 (v := ptr gp) (w' := wr) rfl rfl (by rfl) (by go_simp) ?_
      simp only [zSA, zSB, zSC]
      refine T_value 1 40 (v := ptr gp) (w' := wr) rfl rfl (by rfl) (by go_simp) ?_
      simp only [zSA, zSB, zSC]
      refine T_value 2 41 (v := .pointer (some ⟨gp, 5, none⟩)) (w' := wr) rfl rfl (by rfl) (by go_simp) ?_
      simp only [zSA, zSB, zSC]
      refine T_value 3 42 (v := .chan (some cb)) (w' := wr) rfl rfl (by rfl) (by go_simp) ?_
      simp only [zSA, zSB, zSC]
      refine T_value 4 43 (v := .int .i64 k) (w' := wr) rfl rfl (by rfl) (by go_simp) ?_
      simp only [zSA, zSB, zSC]
      refine T_send 5 (c := cb) (cap := n) (buf := ((List.range k).map fun (i : Nat) => Value.int .i64 (i : Int)).toArray) (s := k) (r := 0) (tm := false) (v := .int .i64 k) (z := .tuple #[]) (w' := wr) rfl rfl (by rfl) (by simp [execOp, scase, Act.eval]) HC.out (by simpa using hlt) ?_
      refine T_done ?_
      simp only [Exit.inBlock, Exit.then]
      refine wpN_of_wp ?_
      have hg := grown_setChan wr cb n ((((List.range k).map fun (i : Nat) => Value.int .i64 (i : Int)).toArray).push (.int .i64 (k : Int))) false (k + 1) 0 false
      have hF2 := Lib.hid (HF.out.grown hg (fun e => HF.out.notChan HC.out (by injection e)))
      have hP2 := Lib.hid (HP.out.grown hg (fun e => HP.out.notChan HC.out (by injection e)))
      have hM2 := Lib.hid (HM.out.kept hg (fun e => HM.out.notChan HC.out (by injection e)))
      have hC2 := heap_setChan wr cb n ((((List.range k).map fun (i : Nat) => Value.int .i64 (i : Int)).toArray).push (.int .i64 (k : Int))) false (k + 1) 0 false hcl2
      have hb2 : Below w.heap.size w (wr.setChan cb n ((((List.range k).map fun (i : Nat) => Value.int .i64 (i : Int)).toArray).push (.int .i64 (k : Int))) false (k + 1) 0 false) := hbr.grown hg hbr.size (fun r e => by cases e; exact l2)
      clear hg c5
      generalize wr.setChan cb n ((((List.range k).map fun (i : Nat) => Value.int .i64 (i : Int)).toArray).push (.int .i64 (k : Int))) false (k + 1) 0 false = w5 at *
      rw [chan_buf] at hC2
      have HC2 := Lib.hid hC2
      clear hC2
      go_wp2_with fail
      exact ⟨⟨k + 1, hlt, ⟨_, _, _, _, _, _, _, _, _, rfl⟩, hb2, hF2.out, hP2.out, hM2.out, HC2.out⟩, by simp [intOf]; omega⟩
    · obtain rfl : k = n := by omega
      refine wpN_seq_k ?_
      intro K hK
      go_wp2_with fail
      refine wpN_seq_k ?_
      intro K hK
      go_wp2_with fail
      have hN := Lib.hid (newAt_is h1 h64 ⟨hbr, HF.out, HP.out, HM.out, HC.out⟩ l1 l2 l3 hgs)
      refine wpN_of_wp ?_
      clear hK c5
      go_wp2_with fail
      go_ret2
      exact hN.out
  clear hK
  have HKH := Lib.hid HK
  clear HK
  obtain ⟨i0, hi, hz0, hz1, hz2⟩ := info_parts fr_info
  have hms : ∀ W, (Instr.makeSlice 104 (.int .i64 (n : Int)) (.int .i64 (n : Int))).run Tryz.prog W = .ok (.slice (some ⟨W.heap.size, 0, none⟩) n n) (W.alloc (.cells (frZero n) 110)) := fun W => by
    have := run_make_rowN (P := Tryz.prog) 104 110 i0 zeroFrA Tryz.underlying104 hi hz0 .i64 .i64 n n (Nat.le_refl _) (by rw [hz2]; omega) (by omega) W
    rw [this, hz1]; rfl
  have hmc := run_mkchan n h64
  have hmm := @run_makeMap Tryz.prog
  clear hi hz0 hz1 hz2
  refine R_begin (fun _ => True) (fun _ => false) (by kernel_rfl) ?_
  refine R_take 0 24 (v := ?_) rfl rfl (by rfl) (by kernel_rfl) (fun _ _ _ h => h) trivial ?_ ?_
  rotate_left
  · intro w _; go_simp; (try with_reducible rfl)
  simp only [zSA, zSB, zSC]
  refine R_take 1 25 (v := ?_) rfl rfl (by rfl) (by kernel_rfl) (fun _ _ _ h => h) trivial ?_ ?_
  rotate_left
  · intro w _; go_simp; (try with_reducible rfl)
  simp only [zSA, zSB, zSC]
  refine R_take 2 26 (v := ?_) rfl rfl (by rfl) (by kernel_rfl) (fun _ _ _ h => h) trivial ?_ ?_
  rotate_left
  · intro w _; go_simp; (try with_reducible rfl)
  simp only [zSA, zSB, zSC]
  refine R_take 3 27 (v := ?_) rfl rfl (by rfl) (by kernel_rfl) (fun _ _ _ h => h) trivial ?_ ?_
  rotate_left
  · intro w _; go_simp; (try with_reducible rfl)
  simp only [zSA, zSB, zSC]
  refine R_take 4 28 (v := ?_) rfl rfl (by rfl) (by kernel_rfl) (fun _ _ _ h => h) trivial ?_ ?_
  rotate_left
  · intro w _; go_simp; (try with_reducible rfl)
  simp only [zSA, zSB, zSC]
  refine R_take 6 30 (v := ?_) rfl rfl (by rfl) (by kernel_rfl) (fun _ _ _ h => h) trivial ?_ ?_
  rotate_left
  · intro w _; go_simp; (try with_reducible rfl)
  simp only [zSA, zSB, zSC]
  refine R_all (rs := [5, 7, 8]) (by kernel_rfl) (by simp) (fun i hi => ?_)
  simp only [List.mem_cons, List.not_mem_nil, or_false] at hi
  rcases hi with rfl | rfl | rfl
  · refine op_run 29 (v := .slice (some ⟨w.drew.heap.size, 0, none⟩) n n) (w' := w.drew.alloc (.cells (frZero n) 110)) rfl rfl (by rfl) (by go_simp) ⟨fun _ => trivial, ?_⟩
    simp only [zSA, zSB, zSC]
    have hb : Below w.heap.size w (w.drew.alloc (.cells (frZero n) 110)) := ((Below.refl _ w).drew).alloc (Nat.le_refl _) _
    have h5 : Blk (w.drew.alloc (.cells (frZero n) 110)) w.drew.heap.size 110 (frZero n) := Blk.new _ _ _
    have l5 : w.heap.size ≤ w.drew.heap.size := Nat.le_refl _
    have hs := hb.size
    obtain ⟨f5, hf5⟩ : ∃ f, f = w.drew.heap.size := ⟨_, rfl⟩
    obtain ⟨W1, hW1⟩ : ∃ W, W = w.drew.alloc (.cells (frZero n) 110) := ⟨_, rfl⟩
    rw [← hW1] at hb hs h5 ⊢
    rw [← hf5] at h5 l5
    clear hW1
    rw [← hf5]
    clear hf5
    refine R_all (rs := [7, 8]) (by kernel_rfl) (by simp) (fun i hi => ?_)
    simp only [List.mem_cons, List.not_mem_nil, or_false] at hi
    rcases hi with rfl | rfl
    · refine op_run 31 (v := .chan (some W1.heap.size)) (w' := W1.alloc (.chan n #[] false 0 0 false)) rfl rfl (by rfl) (by go_simp) ⟨fun _ => trivial, ?_⟩
      simp only [zSA, zSB, zSC]
      have hb := hb.alloc hb.size (.chan n #[] false 0 0 false)
      have h5 := h5.alloc (.chan n #[] false 0 0 false)
      have h7 : (W1.alloc (.chan n #[] false 0 0 false)).heap[W1.heap.size]? = some (.chan n #[] false 0 0 false) := heap_alloc_new _ _
      have l7 : w.heap.size ≤ W1.heap.size := hs
      have hs := hb.size
      obtain ⟨f7, hf7⟩ : ∃ f, f = W1.heap.size := ⟨_, rfl⟩
      obtain ⟨W2, hW2⟩ : ∃ W, W = W1.alloc (.chan n #[] false 0 0 false) := ⟨_, rfl⟩
      rw [← hW2] at hb hs h5 h7 ⊢
      rw [← hf7] at h7 l7
      clear hW2
      rw [← hf7]
      clear hf7
      refine R_all (rs := [8]) (by kernel_rfl) (by simp) (fun i hi => ?_)
      obtain rfl := List.mem_singleton.1 hi
      · refine op_run 32 (v := .map (some W2.heap.size)) (w' := W2.alloc (.map #[] 0)) rfl rfl (by rfl) (by go_simp) ⟨fun _ => trivial, ?_⟩
        simp only [zSA, zSB, zSC]
        have hb := hb.alloc hb.size (.map #[] 0)
        have h5 := h5.alloc (.map #[] 0)
        have h7 := (Below.heap_alloc W2 (.map #[] 0) f7 (by have := Array.getElem?_eq_some_iff.1 h7; exact this.1)).trans h7
        have h8 : UMap Tryz.prog 28 3 (W2.alloc (.map #[] 0)) W2.heap.size 0 (fun _ => none) := UMap.made _
        have l8 : w.heap.size ≤ W2.heap.size := hs
        have hs := hb.size
        obtain ⟨f8, hf8⟩ : ∃ f, f = W2.heap.size := ⟨_, rfl⟩
        obtain ⟨W3, hW3⟩ : ∃ W, W = W2.alloc (.map #[] 0) := ⟨_, rfl⟩
        rw [← hW3] at hb hs h5 h7 h8 ⊢
        rw [← hf8] at h8 l8
        clear hW3
        rw [← hf8]
        clear hf8
        refine R_run 9 33 (v := .agg (plCells gd gl at_ base f5 n f7 f8 (.slice none 0 0))) (w' := W3) rfl rfl (by rfl) (by kernel_rfl) (by go_simp) (fun _ => trivial) ?_
        simp only [zSA, zSB, zSC]
        refine R_run 10 34 (v := ptr W3.heap.size) (w' := W3.alloc (.cells (plCells gd gl at_ base f5 n f7 f8 (.slice none 0 0)) 108)) rfl rfl (by rfl) (by kernel_rfl) (by go_simp) (fun _ => trivial) ?_
        simp only [zSA, zSB, zSC]
        refine R_run 11 12 (v := ptr W3.heap.size) (w' := W3.alloc (.cells (plCells gd gl at_ base f5 n f7 f8 (.slice none 0 0)) 108)) rfl rfl (by rfl) (by kernel_rfl) (by go_simp) (fun _ => trivial) ?_
        simp only [zSA, zSB, zSC]
        refine R_done (by kernel_rfl) ?_ _
        exact HKH.out f5 f7 f8 W3 ⟨h5, h7, h8, hb, l5, l7, l8⟩
    · refine op_run 32 (v := .map (some W1.heap.size)) (w' := W1.alloc (.map #[] 0)) rfl rfl (by rfl) (by go_simp) ⟨fun _ => trivial, ?_⟩
      simp only [zSA, zSB, zSC]
      have hb := hb.alloc hb.size (.map #[] 0)
      have h5 := h5.alloc (.map #[] 0)
      have h8 : UMap Tryz.prog 28 3 (W1.alloc (.map #[] 0)) W1.heap.size 0 (fun _ => none) := UMap.made _
      have l8 : w.heap.size ≤ W1.heap.size := hs
      have hs := hb.size
      obtain ⟨f8, hf8⟩ : ∃ f, f = W1.heap.size := ⟨_, rfl⟩
      obtain ⟨W2, hW2⟩ : ∃ W, W = W1.alloc (.map #[] 0) := ⟨_, rfl⟩
      rw [← hW2] at hb hs h5 h8 ⊢
      rw [← hf8] at h8 l8
      clear hW2
      rw [← hf8]
      clear hf8
      refine R_all (rs := [7]) (by kernel_rfl) (by simp) (fun i hi => ?_)
      obtain rfl := List.mem_singleton.1 hi
      · refine op_run 31 (v := .chan (some W2.heap.size)) (w' := W2.alloc (.chan n #[] false 0 0 false)) rfl rfl (by rfl) (by go_simp) ⟨fun _ => trivial, ?_⟩
        simp only [zSA, zSB, zSC]
        have hb := hb.alloc hb.size (.chan n #[] false 0 0 false)
        have h5 := h5.alloc (.chan n #[] false 0 0 false)
        have h8 := h8.alloc (.chan n #[] false 0 0 false)
        have h7 : (W2.alloc (.chan n #[] false 0 0 false)).heap[W2.heap.size]? = some (.chan n #[] false 0 0 false) := heap_alloc_new _ _
        have l7 : w.heap.size ≤ W2.heap.size := hs
        have hs := hb.size
        obtain ⟨f7, hf7⟩ : ∃ f, f = W2.heap.size := ⟨_, rfl⟩
        obtain ⟨W3, hW3⟩ : ∃ W, W = W2.alloc (.chan n #[] false 0 0 false) := ⟨_, rfl⟩
        rw [← hW3] at hb hs h5 h8 h7 ⊢
        rw [← hf7] at h7 l7
        clear hW3
        rw [← hf7]
        clear hf7
        refine R_run 9 33 (v := .agg (plCells gd gl at_ base f5 n f7 f8 (.slice none 0 0))) (w' := W3) rfl rfl (by rfl) (by kernel_rfl) (by go_simp) (fun _ => trivial) ?_
        simp only [zSA, zSB, zSC]
        refine R_run 10 34 (v := ptr W3.heap.size) (w' := W3.alloc (.cells (plCells gd gl at_ base f5 n f7 f8 (.slice none 0 0)) 108)) rfl rfl (by rfl) (by kernel_rfl) (by go_simp) (fun _ => trivial) ?_
        simp only [zSA, zSB, zSC]
        refine R_run 11 12 (v := ptr W3.heap.size) (w' := W3.alloc (.cells (plCells gd gl at_ base f5 n f7 f8 (.slice none 0 0)) 108)) rfl rfl (by rfl) (by kernel_rfl) (by go_simp) (fun _ => trivial) ?_
        simp only [zSA, zSB, zSC]
        refine R_done (by kernel_rfl) ?_ _
        exact HKH.out f5 f7 f8 W3 ⟨h5, h7, h8, hb, l5, l7, l8⟩
  · refine op_run 31 (v := .chan (some w.drew.heap.size)) (w' := w.drew.alloc (.chan n #[] false 0 0 false)) rfl rfl (by rfl) (by go_simp) ⟨fun _ => trivial, ?_⟩
    simp only [zSA, zSB, zSC]
    have hb : Below w.heap.size w (w.drew.alloc (.chan n #[] false 0 0 false)) := ((Below.refl _ w).drew).alloc (Nat.le_refl _) _
    have h7 : (w.drew.alloc (.chan n #[] false 0 0 false)).heap[w.drew.heap.size]? = some (.chan n #[] false 0 0 false) := heap_alloc_new _ _
    have l7 : w.heap.size ≤ w.drew.heap.size := Nat.le_refl _
    have hs := hb.size
    obtain ⟨f7, hf7⟩ : ∃ f, f = w.drew.heap.size := ⟨_, rfl⟩
    obtain ⟨W1, hW1⟩ : ∃ W, W = w.drew.alloc (.chan n #[] false 0 0 false) := ⟨_, rfl⟩
    rw [← hW1] at hb hs h7 ⊢
    rw [← hf7] at h7 l7
    clear hW1
    rw [← hf7]
    clear hf7
    refine R_all (rs := [5, 8]) (by kernel_rfl) (by simp) (fun i hi => ?_)
    simp only [List.mem_cons, List.not_mem_nil, or_false] at hi
    rcases hi with rfl | rfl
    · refine op_run 29 (v := .slice (some ⟨W1.heap.size, 0, none⟩) n n) (w' := W1.alloc (.cells (frZero n) 110)) rfl rfl (by rfl) (by go_simp) ⟨fun _ => trivial, ?_⟩
      simp only [zSA, zSB, zSC]
      have hb := hb.alloc hb.size (.cells (frZero n) 110)
      have h7 := (Below.heap_alloc W1 (.cells (frZero n) 110) f7 (by have := Array.getElem?_eq_some_iff.1 h7; exact this.1)).trans h7
      have h5 : Blk (W1.alloc (.cells (frZero n) 110)) W1.heap.size 110 (frZero n) := Blk.new _ _ _
      have l5 : w.heap.size ≤ W1.heap.size := hs
      have hs := hb.size
      obtain ⟨f5, hf5⟩ : ∃ f, f = W1.heap.size := ⟨_, rfl⟩
      obtain ⟨W2, hW2⟩ : ∃ W, W = W1.alloc (.cells (frZero n) 110) := ⟨_, rfl⟩
      rw [← hW2] at hb hs h7 h5 ⊢
      rw [← hf5] at h5 l5
      clear hW2
      rw [← hf5]
      clear hf5
      refine R_all (rs := [8]) (by kernel_rfl) (by simp) (fun i hi => ?_)
      obtain rfl := List.mem_singleton.1 hi
      · refine op_run 32 (v := .map (some W2.heap.size)) (w' := W2.alloc (.map #[] 0)) rfl rfl (by rfl) (by go_simp) ⟨fun _ => trivial, ?_⟩
        simp only [zSA, zSB, zSC]
        have hb := hb.alloc hb.size (.map #[] 0)
        have h7 := (Below.heap_alloc W2 (.map #[] 0) f7 (by have := Array.getElem?_eq_some_iff.1 h7; exact this.1)).trans h7
        have h5 := h5.alloc (.map #[] 0)
        have h8 : UMap Tryz.prog 28 3 (W2.alloc (.map #[] 0)) W2.heap.size 0 (fun _ => none) := UMap.made _
        have l8 : w.heap.size ≤ W2.heap.size := hs
        have hs := hb.size
        obtain ⟨f8, hf8⟩ : ∃ f, f = W2.heap.size := ⟨_, rfl⟩
        obtain ⟨W3, hW3⟩ : ∃ W, W = W2.alloc (.map #[] 0) := ⟨_, rfl⟩
        rw [← hW3] at hb hs h7 h5 h8 ⊢
        rw [← hf8] at h8 l8
        clear hW3
        rw [← hf8]
        clear hf8
        refine R_run 9 33 (v := .agg (plCells gd gl at_ base f5 n f7 f8 (.slice none 0 0))) (w' := W3) rfl rfl (by rfl) (by kernel_rfl) (by go_simp) (fun _ => trivial) ?_
        simp only [zSA, zSB, zSC]
        refine R_run 10 34 (v := ptr W3.heap.size) (w' := W3.alloc (.cells (plCells gd gl at_ base f5 n f7 f8 (.slice none 0 0)) 108)) rfl rfl (by rfl) (by kernel_rfl) (by go_simp) (fun _ => trivial) ?_
        simp only [zSA, zSB, zSC]
        refine R_run 11 12 (v := ptr W3.heap.size) (w' := W3.alloc (.cells (plCells gd gl at_ base f5 n f7 f8 (.slice none 0 0)) 108)) rfl rfl (by rfl) (by kernel_rfl) (by go_simp) (fun _ => trivial) ?_
        simp only [zSA, zSB, zSC]
        refine R_done (by kernel_rfl) ?_ _
        exact HKH.out f5 f7 f8 W3 ⟨h5, h7, h8, hb, l5, l7, l8⟩
    · refine op_run 32 (v := .map (some W1.heap.size)) (w' := W1.alloc (.map #[] 0)) rfl rfl (by rfl) (by go_simp) ⟨fun _ => trivial, ?_⟩
      simp only [zSA, zSB, zSC]
      have hb := hb.alloc hb.size (.map #[] 0)
      have h7 := (Below.heap_alloc W1 (.map #[] 0) f7 (by have := Array.getElem?_eq_some_iff.1 h7; exact this.1)).trans h7
      have h8 : UMap Tryz.prog 28 3 (W1.alloc (.map #[] 0)) W1.heap.size 0 (fun _ => none) := UMap.made _
      have l8 : w.heap.size ≤ W1.heap.size := hs
      have hs := hb.size
      obtain ⟨f8, hf8⟩ : ∃ f, f = W1.heap.size := ⟨_, rfl⟩
      obtain ⟨W2, hW2⟩ : ∃ W, W = W1.alloc (.map #[] 0) := ⟨_, rfl⟩
      rw [← hW2] at hb hs h7 h8 ⊢
      rw [← hf8] at h8 l8
      clear hW2
      rw [← hf8]
      clear hf8
      refine R_all (rs := [5]) (by kernel_rfl) (by simp) (fun i hi => ?_)
      obtain rfl := List.mem_singleton.1 hi
      · refine op_run 29 (v := .slice (some ⟨W2.heap.size, 0, none⟩) n n) (w' := W2.alloc (.cells (frZero n) 110)) rfl rfl (by rfl) (by go_simp) ⟨fun _ => trivial, ?_⟩
        simp only [zSA, zSB, zSC]
        have hb := hb.alloc hb.size (.cells (frZero n) 110)
        have h7 := (Below.heap_alloc W2 (.cells (frZero n) 110) f7 (by have := Array.getElem?_eq_some_iff.1 h7; exact this.1)).trans h7
        have h8 := h8.alloc (.cells (frZero n) 110)
        have h5 : Blk (W2.alloc (.cells (frZero n) 110)) W2.heap.size 110 (frZero n) := Blk.new _ _ _
        have l5 : w.heap.size ≤ W2.heap.size := hs
        have hs := hb.size
        obtain ⟨f5, hf5⟩ : ∃ f, f = W2.heap.size := ⟨_, rfl⟩
        obtain ⟨W3, hW3⟩ : ∃ W, W = W2.alloc (.cells (frZero n) 110) := ⟨_, rfl⟩
        rw [← hW3] at hb hs h7 h8 h5 ⊢
        rw [← hf5] at h5 l5
        clear hW3
        rw [← hf5]
        clear hf5
        refine R_run 9 33 (v := .agg (plCells gd gl at_ base f5 n f7 f8 (.slice none 0 0))) (w' := W3) rfl rfl (by rfl) (by kernel_rfl) (by go_simp) (fun _ => trivial) ?_
        simp only [zSA, zSB, zSC]
        refine R_run 10 34 (v := ptr W3.heap.size) (w' := W3.alloc (.cells (plCells gd gl at_ base f5 n f7 f8 (.slice none 0 0)) 108)) rfl rfl (by rfl) (by kernel_rfl) (by go_simp) (fun _ => trivial) ?_
        simp only [zSA, zSB, zSC]
        refine R_run 11 12 (v := ptr W3.heap.size) (w' := W3.alloc (.cells (plCells gd gl at_ base f5 n f7 f8 (.slice none 0 0)) 108)) rfl rfl (by rfl) (by kernel_rfl) (by go_simp) (fun _ => trivial) ?_
        simp only [zSA, zSB, zSC]
        refine R_done (by kernel_rfl) ?_ _
        exact HKH.out f5 f7 f8 W3 ⟨h5, h7, h8, hb, l5, l7, l8⟩
  · refine op_run 32 (v := .map (some w.drew.heap.size)) (w' := w.drew.alloc (.map #[] 0)) rfl rfl (by rfl) (by go_simp) ⟨fun _ => trivial, ?_⟩
    simp only [zSA, zSB, zSC]
    have hb : Below w.heap.size w (w.drew.alloc (.map #[] 0)) := ((Below.refl _ w).drew).alloc (Nat.le_refl _) _
    have h8 : UMap Tryz.prog 28 3 (w.drew.alloc (.map #[] 0)) w.drew.heap.size 0 (fun _ => none) := UMap.made _
    have l8 : w.heap.size ≤ w.drew.heap.size := Nat.le_refl _
    have hs := hb.size
    obtain ⟨f8, hf8⟩ : ∃ f, f = w.drew.heap.size := ⟨_, rfl⟩
    obtain ⟨W1, hW1⟩ : ∃ W, W = w.drew.alloc (.map #[] 0) := ⟨_, rfl⟩
    rw [← hW1] at hb hs h8 ⊢
    rw [← hf8] at h8 l8
    clear hW1
    rw [← hf8]
    clear hf8
    refine R_all (rs := [5, 7]) (by kernel_rfl) (by simp) (fun i hi => ?_)
    simp only [List.mem_cons, List.not_mem_nil, or_false] at hi
    rcases hi with rfl | rfl
    · refine op_run 29 (v := .slice (some ⟨W1.heap.size, 0, none⟩) n n) (w' := W1.alloc (.cells (frZero n) 110)) rfl rfl (by rfl) (by go_simp) ⟨fun _ => trivial, ?_⟩
      simp only [zSA, zSB, zSC]
      have hb := hb.alloc hb.size (.cells (frZero n) 110)
      have h8 := h8.alloc (.cells (frZero n) 110)
      have h5 : Blk (W1.alloc (.cells (frZero n) 110)) W1.heap.size 110 (frZero n) := Blk.new _ _ _
      have l5 : w.heap.size ≤ W1.heap.size := hs
      have hs := hb.size
      obtain ⟨f5, hf5⟩ : ∃ f, f = W1.heap.size := ⟨_, rfl⟩
      obtain ⟨W2, hW2⟩ : ∃ W, W = W1.alloc (.cells (frZero n) 110) := ⟨_, rfl⟩
      rw [← hW2] at hb hs h8 h5 ⊢
      rw [← hf5] at h5 l5
      clear hW2
      rw [← hf5]
      clear hf5
      refine R_all (rs := [7]) (by kernel_rfl) (by simp) (fun i hi => ?_)
      obtain rfl := List.mem_singleton.1 hi
      · refine op_run 31 (v := .chan (some W2.heap.size)) (w' := W2.alloc (.chan n #[] false 0 0 false)) rfl rfl (by rfl) (by go_simp) ⟨fun _ => trivial, ?_⟩
        simp only [zSA, zSB, zSC]
        have hb := hb.alloc hb.size (.chan n #[] false 0 0 false)
        have h8 := h8.alloc (.chan n #[] false 0 0 false)
        have h5 := h5.alloc (.chan n #[] false 0 0 false)
        have h7 : (W2.alloc (.chan n #[] false 0 0 false)).heap[W2.heap.size]? = some (.chan n #[] false 0 0 false) := heap_alloc_new _ _
        have l7 : w.heap.size ≤ W2.heap.size := hs
        have hs := hb.size
        obtain ⟨f7, hf7⟩ : ∃ f, f = W2.heap.size := ⟨_, rfl⟩
        obtain ⟨W3, hW3⟩ : ∃ W, W = W2.alloc (.chan n #[] false 0 0 false) := ⟨_, rfl⟩
        rw [← hW3] at hb hs h8 h5 h7 ⊢
        rw [← hf7] at h7 l7
        clear hW3
        rw [← hf7]
        clear hf7
        refine R_run 9 33 (v := .agg (plCells gd gl at_ base f5 n f7 f8 (.slice none 0 0))) (w' := W3) rfl rfl (by rfl) (by kernel_rfl) (by go_simp) (fun _ => trivial) ?_
        simp only [zSA, zSB, zSC]
        refine R_run 10 34 (v := ptr W3.heap.size) (w' := W3.alloc (.cells (plCells gd gl at_ base f5 n f7 f8 (.slice none 0 0)) 108)) rfl rfl (by rfl) (by kernel_rfl) (by go_simp) (fun _ => trivial) ?_
        simp only [zSA, zSB, zSC]
        refine R_run 11 12 (v := ptr W3.heap.size) (w' := W3.alloc (.cells (plCells gd gl at_ base f5 n f7 f8 (.slice none 0 0)) 108)) rfl rfl (by rfl) (by kernel_rfl) (by go_simp) (fun _ => trivial) ?_
        simp only [zSA, zSB, zSC]
        refine R_done (by kernel_rfl) ?_ _
        exact HKH.out f5 f7 f8 W3 ⟨h5, h7, h8, hb, l5, l7, l8⟩
    · refine op_run 31 (v := .chan (some W1.heap.size)) (w' := W1.alloc (.chan n #[] false 0 0 false)) rfl rfl (by rfl) (by go_simp) ⟨fun _ => trivial, ?_⟩
      simp only [zSA, zSB, zSC]
      have hb := hb.alloc hb.size (.chan n #[] false 0 0 false)
      have h8 := h8.alloc (.chan n #[] false 0 0 false)
      have h7 : (W1.alloc (.chan n #[] false 0 0 false)).heap[W1.heap.size]? = some (.chan n #[] false 0 0 false) := heap_alloc_new _ _
      have l7 : w.heap.size ≤ W1.heap.size := hs
      have hs := hb.size
      obtain ⟨f7, hf7⟩ : ∃ f, f = W1.heap.size := ⟨_, rfl⟩
      obtain ⟨W2, hW2⟩ : ∃ W, W = W1.alloc (.chan n #[] false 0 0 false) := ⟨_, rfl⟩
      rw [← hW2] at hb hs h8 h7 ⊢
      rw [← hf7] at h7 l7
      clear hW2
      rw [← hf7]
      clear hf7
      refine R_all (rs := [5]) (by kernel_rfl) (by simp) (fun i hi => ?_)
      obtain rfl := List.mem_singleton.1 hi
      · refine op_run 29 (v := .slice (some ⟨W2.heap.size, 0, none⟩) n n) (w' := W2.alloc (.cells (frZero n) 110)) rfl rfl (by rfl) (by go_simp) ⟨fun _ => trivial, ?_⟩
        simp only [zSA, zSB, zSC]
        have hb := hb.alloc hb.size (.cells (frZero n) 110)
        have h8 := h8.alloc (.cells (frZero n) 110)
        have h7 := (Below.heap_alloc W2 (.cells (frZero n) 110) f7 (by have := Array.getElem?_eq_some_iff.1 h7; exact this.1)).trans h7
        have h5 : Blk (W2.alloc (.cells (frZero n) 110)) W2.heap.size 110 (frZero n) := Blk.new _ _ _
        have l5 : w.heap.size ≤ W2.heap.size := hs
        have hs := hb.size
        obtain ⟨f5, hf5⟩ : ∃ f, f = W2.heap.size := ⟨_, rfl⟩
        obtain ⟨W3, hW3⟩ : ∃ W, W = W2.alloc (.cells (frZero n) 110) := ⟨_, rfl⟩
        rw [← hW3] at hb hs h8 h7 h5 ⊢
        rw [← hf5] at h5 l5
        clear hW3
        rw [← hf5]
        clear hf5
        refine R_run 9 33 (v := .agg (plCells gd gl at_ base f5 n f7 f8 (.slice none 0 0))) (w' := W3) rfl rfl (by rfl) (by kernel_rfl) (by go_simp) (fun _ => trivial) ?_
        simp only [zSA, zSB, zSC]
        refine R_run 10 34 (v := ptr W3.heap.size) (w' := W3.alloc (.cells (plCells gd gl at_ base f5 n f7 f8 (.slice none 0 0)) 108)) rfl rfl (by rfl) (by kernel_rfl) (by go_simp) (fun _ => trivial) ?_
        simp only [zSA, zSB, zSC]
        refine R_run 11 12 (v := ptr W3.heap.size) (w' := W3.alloc (.cells (plCells gd gl at_ base f5 n f7 f8 (.slice none 0 0)) 108)) rfl rfl (by rfl) (by kernel_rfl) (by go_simp) (fun _ => trivial) ?_
        simp only [zSA, zSB, zSC]
        refine R_done (by kernel_rfl) ?_ _
        exact HKH.out f5 f7 f8 W3 ⟨h5, h7, h8, hb, l5, l7, l8⟩
end Go.Proofs.YtndglfiepeefdaaGreat

/- Plain laws on a pool's items. -/
namespace Go.Proofs.YtndglfiepeefdaaGreat.Sp

theorem Pl.wf.nodup {p : Pl} (h : p.wf) : (p.free ++ p.items.map (·.idx)).Nodup := h.idx.nodup_iff.2 List.nodup_range
theorem Pl.wf.nodup_idx {p : Pl} (h : p.wf) : (p.items.map (·.idx)).Nodup := (List.nodup_append.1 h.nodup).2.1
theorem Pl.wf.nodup_free {p : Pl} (h : p.wf) : p.free.Nodup := (List.nodup_append.1 h.nodup).1
theorem Pl.wf.free_ne {p : Pl} (h : p.wf) {i : Nat} (hi : i ∈ p.free) {it : It} (hit : it ∈ p.items) : i ≠ it.idx := (List.nodup_append.1 h.nodup).2.2 i hi it.idx (List.mem_map.2 ⟨it, hit, rfl⟩)
theorem Pl.wf.idx_lt {p : Pl} (h : p.wf) {it : It} (hit : it ∈ p.items) : it.idx < p.n :=
  List.mem_range.1 (h.idx.mem_iff.1 (List.mem_append.2 (.inr (List.mem_map.2 ⟨it, hit, rfl⟩))))
theorem Pl.wf.free_lt {p : Pl} (h : p.wf) {i : Nat} (hi : i ∈ p.free) : i < p.n := List.mem_range.1 (h.idx.mem_iff.1 (List.mem_append.2 (.inl hi)))
theorem Pl.wf.len {p : Pl} (h : p.wf) : p.free.length + p.items.length = p.n := by
  have := h.idx.length_eq
  simpa using this

theorem nodup_map_eq {α β : Type} {f : α → β} : ∀ {l : List α}, (l.map f).Nodup → ∀ {a b : α}, a ∈ l → b ∈ l → f a = f b → a = b
  | [], _, _, _, ha, _, _ => absurd ha (by simp)
  | x :: l, h, a, b, ha, hb, e => by
    rw [List.map_cons, List.nodup_cons] at h
    rcases List.mem_cons.1 ha with e1 | h1 <;> rcases List.mem_cons.1 hb with e2 | h2
    · rw [e1, e2]
    · exact absurd (List.mem_map.2 ⟨b, h2, by rw [← e1]; exact e.symm⟩) h.1
    · exact absurd (List.mem_map.2 ⟨a, h1, by rw [← e2]; exact e⟩) h.1
    · exact nodup_map_eq h.2 h1 h2 e

theorem Pl.find_mem {p : Pl} {id : Nat} {it : It} (h : p.find id = some it) : it ∈ p.items ∧ it.page.id = id := by
  unfold Pl.find at h
  exact ⟨List.mem_of_find?_eq_some h, by simpa using List.find?_some h⟩
theorem Pl.find_of {p : Pl} (h : p.wf) {it : It} (hit : it ∈ p.items) : p.find it.page.id = some it := by
  unfold Pl.find
  cases hf : p.items.find? (fun x => x.page.id == it.page.id) with
  | none =>
    have := List.find?_eq_none.1 hf it hit
    simp at this
  | some y =>
    have h1 := List.mem_of_find?_eq_some hf
    have h2 : y.page.id = it.page.id := by simpa using List.find?_some hf
    rw [nodup_map_eq h.ids h1 hit h2]
theorem Pl.find_none {p : Pl} {id : Nat} : p.find id = none ↔ ∀ it ∈ p.items, it.page.id ≠ id := by
  unfold Pl.find
  rw [List.find?_eq_none]
  simp

/-- an item turned. -/
def Pl.upd (p : Pl) (id : Nat) (f : It → It) : Pl := { p with items := p.items.map fun x => if x.page.id = id then f x else x }

structure Tame (f : It → It) : Prop where
  id : ∀ x, (f x).page.id = x.page.id
  idx : ∀ x, (f x).idx = x.idx

theorem Pl.upd_ids {p : Pl} {id : Nat} {f : It → It} (hf : Tame f) : (p.upd id f).items.map (·.page.id) = p.items.map (·.page.id) := by
  unfold Pl.upd
  rw [List.map_map]
  apply List.map_congr_left
  intro x _
  simp only [Function.comp]
  split
  · exact hf.id x
  · rfl
theorem Pl.upd_idx {p : Pl} {id : Nat} {f : It → It} (hf : Tame f) : (p.upd id f).items.map (·.idx) = p.items.map (·.idx) := by
  unfold Pl.upd
  rw [List.map_map]
  apply List.map_congr_left
  intro x _
  simp only [Function.comp]
  split
  · exact hf.idx x
  · rfl
theorem Pl.upd_mem {p : Pl} {id : Nat} {f : It → It} {y : It} (h : y ∈ (p.upd id f).items) : ∃ x ∈ p.items, y = if x.page.id = id then f x else x := by
  obtain ⟨x, hx, rfl⟩ := List.mem_map.1 h
  exact ⟨x, hx, rfl⟩
theorem Pl.upd_wf {p : Pl} (h : p.wf) {id : Nat} {f : It → It} (hf : Tame f) (hpg : ∀ x ∈ p.items, x.page.id = id → (f x).page.wf ∧ (f x).page.may ∧ (f x).pins ≤ 1000000000 ∧ (f x).from_ < 18446744073709551616) : (p.upd id f).wf := by
  refine ⟨h.n1, h.n64, ?_, ?_, fun y hy => ?_, fun y hy => ?_⟩
  · rw [Pl.upd_idx hf]; exact h.idx
  · rw [Pl.upd_ids hf]; exact h.ids
  · obtain ⟨x, hx, rfl⟩ := Pl.upd_mem hy
    split
    · rename_i e; exact ⟨(hpg x hx e).1, (hpg x hx e).2.1⟩
    · exact h.pg x hx
  · obtain ⟨x, hx, rfl⟩ := Pl.upd_mem hy
    split
    · rename_i e; exact (hpg x hx e).2.2
    · exact h.small x hx
theorem Pl.upd_lk {p : Pl} {id : Nat} {f : It → It} (hf : Tame f) : ∀ q, (p.upd id f).lk q = p.lk q := by
  intro q
  unfold Pl.lk Pl.find Pl.upd
  rw [List.find?_map]
  have e : ((fun it : It => it.page.id == q) ∘ fun x => if x.page.id = id then f x else x) = fun it : It => it.page.id == q := by
    funext x
    simp only [Function.comp]
    split
    · rw [hf.id]
    · rfl
  rw [e]
  cases p.items.find? (fun it => it.page.id == q) with
  | none => rfl
  | some y =>
    simp only [Option.map_some]
    split
    · rw [hf.idx]
    · rfl
end Go.Proofs.YtndglfiepeefdaaGreat.Sp

/- The walks of package pool: made, Free, Pins, Unpin. -/
namespace Go.Proofs.YtndglfiepeefdaaGreat
open Go.RowKit Go.Conc

theorem Tryz.zi (w : World) : (zeroValue 3).run Tryz.prog w = .ok (.int .i64 0) w := by kernel_rfl

section
variable {F R : Foot} {w : World} {gp gd gl at_ base fb cb mb s r : Nat} {v : Value} {cs : Array Value} {fl ids : List Nat} {p : Sp.Pl}

/-- What the pool's struct holds. -/
theorem IsPlAt.cells (h : IsPlAt F R w gp gd gl at_ base fb cb mb v s r cs fl ids p) : w.cell? ⟨gp, 0, none⟩ = some (ptr gd) ∧ w.cell? ⟨gp, 1, none⟩ = some (ptr gl) ∧ w.cell? ⟨gp, 2, none⟩ = some (.int .i64 at_) ∧ w.cell? ⟨gp, 3, none⟩ = some (.int .i64 base) ∧
    w.cell? ⟨gp, 4, none⟩ = some (.slice (some ⟨fb, 0, none⟩) p.n p.n) ∧ w.cell? ⟨gp, 5, none⟩ = some (.chan (some cb)) ∧ w.cell? ⟨gp, 6, none⟩ = some (.map (some mb)) ∧ w.cell? ⟨gp, 7, none⟩ = some v :=
  ⟨h.blk.cell 0, h.blk.cell 1, h.blk.cell 2, h.blk.cell 3, h.blk.cell 4, h.blk.cell 5, h.blk.cell 6, h.blk.cell 7⟩
theorem IsPlAt.item (h : IsPlAt F R w gp gd gl at_ base fb cb mb v s r cs fl ids p) {it : Sp.It} (hit : it ∈ p.items) {j : Nat} (hj : j < 9) : ∃ A c, w.cell? ⟨fb, it.idx * 9 + j, none⟩ = (frCells it A c)[j]? := by
  obtain ⟨A, c, _, _, hc⟩ := h.fr.item it hit
  exact ⟨A, c, (h.fr.blk.cell _).trans (hc j hj)⟩
theorem IsPlAt.pins (h : IsPlAt F R w gp gd gl at_ base fb cb mb v s r cs fl ids p) {it : Sp.It} (hit : it ∈ p.items) : w.cell? ⟨fb, it.idx * 9 + 6, none⟩ = some (.int .i64 it.pins) := by
  obtain ⟨A, c, e⟩ := h.item hit (j := 6) (by omega)
  exact e
theorem IsPlAt.dirty (h : IsPlAt F R w gp gd gl at_ base fb cb mb v s r cs fl ids p) {it : Sp.It} (hit : it ∈ p.items) : w.cell? ⟨fb, it.idx * 9 + 7, none⟩ = some (.bool it.dirty) := by
  obtain ⟨A, c, e⟩ := h.item hit (j := 7) (by omega)
  exact e
theorem IsPlAt.look (h : IsPlAt F R w gp gd gl at_ base fb cb mb v s r cs fl ids p) {id : Nat} (hid : id < 4294967296) {it : Sp.It} (hf : p.find id = some it) :
    (Instr.lookup 106 (.map (some mb)) (u32v id) false).run Tryz.prog w = .ok (.int .i64 it.idx) w :=
  h.map.look Tryz.underlying28 Tryz.underlying3 Tryz.underlying106 (Tryz.zi w) hid (by simp [Sp.Pl.lk, hf])
theorem IsPlAt.look_in (h : IsPlAt F R w gp gd gl at_ base fb cb mb v s r cs fl ids p) {id : Nat} (hid : id < 4294967296) {it : Sp.It} (hf : p.find id = some it) :
    (Instr.lookup 106 (.map (some mb)) (u32v id) true).run Tryz.prog w = .ok (.tuple #[.int .i64 it.idx, .bool true]) w := by
  have := h.map.look_ok Tryz.underlying28 Tryz.underlying3 Tryz.underlying106 (Tryz.zi w) hid
  simpa [Sp.Pl.lk, hf] using this
theorem IsPlAt.look_out (h : IsPlAt F R w gp gd gl at_ base fb cb mb v s r cs fl ids p) {id : Nat} (hid : id < 4294967296) (hf : p.find id = none) :
    (Instr.lookup 106 (.map (some mb)) (u32v id) true).run Tryz.prog w = .ok (.tuple #[.int .i64 0, .bool false]) w := by
  have := h.map.look_ok Tryz.underlying28 Tryz.underlying3 Tryz.underlying106 (Tryz.zi w) hid
  simpa [Sp.Pl.lk, hf] using this
end

set_option maxRecDepth 100000 in
set_option maxHeartbeats 1000000 in
theorem pool_made {w : World} {gp mb : Nat} (h6 : w.cell? ⟨gp, 6, none⟩ = some (.map (some mb))) :
    Calls Tryz.prog 51 #[ptr gp] w fun e w' => e = .returned (.bool true) ∧ w' = w := by
  have hne := fun w => run_neq_map_nil (P := Tryz.prog) w 106 _ _ (some mb) Tryz.underlying106
  go_enter Tryz.func51, Tryz.ntmps51
  go_wp2_with fail
  go_ret
  exact ⟨rfl, rfl⟩
theorem pool_made_nil (w : World) : Calls Tryz.prog 51 #[.pointer none] w fun e w' => e = .returned (.bool false) ∧ w' = w := by
  go_enter Tryz.func51, Tryz.ntmps51
  go_wp2_with fail
  go_ret
  exact ⟨rfl, rfl⟩

end Go.Proofs.YtndglfiepeefdaaGreat

/- How a pool in memory turns. No walk. -/
namespace Go.Proofs.YtndglfiepeefdaaGreat
open Go.RowKit Go.Conc

theorem u32_info : (Tryz.prog.info? 28).map (fun i => (i.zero, i.size, i.bytes)) = some (some (.int .u32 0), 1, 4) := by kernel_rfl

namespace Sp
/-- a page brought into frame i, which was free. -/
def Pl.bring (p : Pl) (x : Pg) (i : Nat) (rest : List Nat) : Pl := ⟨p.n, p.items ++ [⟨x, 0, false, 0, i⟩], rest⟩
/-- a page dropped. -/
def Pl.drop (p : Pl) (id i : Nat) : Pl := ⟨p.n, p.items.filter (fun x => x.page.id != id), p.free ++ [i]⟩

theorem Pl.wf.bring {p : Pl} (h : p.wf) {x : Pg} {i : Nat} {rest : List Nat} (hfree : p.free = i :: rest) (hn : p.find x.id = none) (hx : x.wf ∧ x.may) : (p.bring x i rest).wf := by
  have hn' := Pl.find_none.1 hn
  refine ⟨h.n1, h.n64, ?_, ?_, fun y hy => ?_, fun y hy => ?_⟩
  · have := h.idx
    rw [hfree] at this
    refine List.Perm.trans ?_ this
    simp only [Pl.bring, List.map_append, List.map_cons, List.map_nil]
    rw [← List.append_assoc]
    exact List.perm_append_singleton i (rest ++ p.items.map (·.idx))
  · simp only [Pl.bring, List.map_append, List.map_cons, List.map_nil]
    refine List.nodup_append.2 ⟨h.ids, by simp, fun a ha b hb => ?_⟩
    obtain ⟨y, hy, rfl⟩ := List.mem_map.1 ha
    rw [List.mem_singleton.1 hb]
    exact hn' y hy
  · rcases List.mem_append.1 hy with hy | hy
    · exact h.pg y hy
    · rw [List.mem_singleton.1 hy]; exact hx
  · rcases List.mem_append.1 hy with hy | hy
    · exact h.small y hy
    · rw [List.mem_singleton.1 hy]; exact ⟨by simp, by simp⟩
theorem Pl.lk_bring {p : Pl} (h : p.wf) {x : Pg} {i : Nat} {rest : List Nat} (hfree : p.free = i :: rest) (hn : p.find x.id = none) (hx : x.wf ∧ x.may) : ∀ q, (p.bring x i rest).lk q = lkPut p.lk x.id i q := by
  have hw := h.bring hfree hn hx
  intro q
  unfold lkPut Pl.lk
  split
  · rename_i e
    subst e
    rw [Pl.find_of (p := p.bring x i rest) hw (it := ⟨x, 0, false, 0, i⟩) (by simp [Pl.bring])]
    rfl
  · rename_i e
    have : (p.bring x i rest).find q = p.find q := by
      unfold Pl.find Pl.bring
      rw [List.find?_append]
      cases p.items.find? (fun it => it.page.id == q) with
      | some y => rfl
      | none => simp [Ne.symm e]
    rw [this]

theorem Pl.drop_perm {p : Pl} (h : p.wf) {it : It} (hit : it ∈ p.items) : p.items.Perm (it :: p.items.filter (fun x => x.page.id != it.page.id)) := by
  have hsub : ∀ l : List It, (l.map (·.page.id)).Nodup → it ∈ l → l.Perm (it :: l.filter (fun x => x.page.id != it.page.id)) := by
    intro l
    induction l with
    | nil => intro _ h; cases h
    | cons y l ih =>
      intro hn hm
      rw [List.map_cons, List.nodup_cons] at hn
      rcases List.mem_cons.1 hm with e | hm
      · subst e
        rw [List.filter_cons_of_neg (by simp)]
        refine List.Perm.cons _ ?_
        rw [List.filter_eq_self.2]
        intro a ha
        have : a.page.id ≠ it.page.id := fun e => hn.1 (List.mem_map.2 ⟨a, ha, e⟩)
        simpa using this
      · have hne : y.page.id ≠ it.page.id := fun e => hn.1 (List.mem_map.2 ⟨it, hm, e.symm⟩)
        rw [List.filter_cons_of_pos (by simpa using hne)]
        exact (List.Perm.cons _ (ih hn.2 hm)).trans (List.Perm.swap _ _ _)
  exact hsub p.items h.ids hit
theorem Pl.wf.drop {p : Pl} (h : p.wf) {it : It} (hit : it ∈ p.items) : (p.drop it.page.id it.idx).wf := by
  have hp := Pl.drop_perm h hit
  have hm : ∀ y, y ∈ (p.drop it.page.id it.idx).items → y ∈ p.items := fun y hy => (List.mem_filter.1 hy).1
  refine ⟨h.n1, h.n64, ?_, ?_, fun y hy => h.pg y (hm y hy), fun y hy => h.small y (hm y hy)⟩
  · refine List.Perm.trans ?_ h.idx
    simp only [Pl.drop]
    rw [List.append_assoc]
    refine List.Perm.append_left _ ?_
    exact (hp.map (·.idx)).symm
  · have := (hp.map (·.page.id)).nodup_iff.1 h.ids
    rw [List.map_cons, List.nodup_cons] at this
    exact this.2
theorem Pl.drop_length {p : Pl} (h : p.wf) {it : It} (hit : it ∈ p.items) : (p.drop it.page.id it.idx).items.length = p.items.length - 1 := by
  have := (Pl.drop_perm h hit).length_eq
  rw [List.length_cons] at this
  simp only [Pl.drop]
  omega
theorem Pl.lk_drop {p : Pl} (id i : Nat) : ∀ q, (p.drop id i).lk q = lkDel p.lk id q := by
  intro q
  unfold lkDel Pl.lk
  have hf : (p.drop id i).find q = if q = id then none else p.find q := by
    unfold Pl.find Pl.drop
    simp only
    rw [List.find?_filter]
    split
    · rename_i e
      subst e
      rw [List.find?_eq_none]
      intro x _
      simp
    · rename_i e
      congr 1
      funext x
      by_cases hx : x.page.id = q
      · simp [hx, e]
      · simp [hx]
  rw [hf]
  split <;> rfl
end Sp

section
variable {F R : Foot} {w w' : World} {gp gd gl at_ base fb cb mb s r : Nat} {v : Value} {cs : Array Value} {fl ids : List Nat} {p : Sp.Pl}

theorem ownsRow_heap {w : World} {e : TypeId} {k n : Nat} {v : Value} {xs : List Value} {b : Nat} (h : w.ownsRow b e k v n xs) {g : Nat} (hg : v.ownBlock = some g) : ∃ cur, w.heap[g]? = some (.cells cur e (0, 0)) := by
  rcases h.2 with ⟨rfl, _⟩ | ⟨g', cap, cur, rfl, _, hh, _⟩
  · simp [Value.ownBlock] at hg
  · simp only [Value.ownBlock, Option.some.injEq] at hg
    subst hg
    exact ⟨cur, hh⟩

theorem IsPlAt.own_ne (h : IsPlAt F R w gp gd gl at_ base fb cb mb v s r cs fl ids p) : v.ownBlock ≠ some gp ∧ v.ownBlock ≠ some fb ∧ v.ownBlock ≠ some cb ∧ v.ownBlock ≠ some mb := by
  refine ⟨fun e => ?_, fun e => ?_, fun e => ?_, fun e => ?_⟩ <;> obtain ⟨cur, hc⟩ := ownsRow_heap h.row e
  · have := h.blk; unfold Blk at this; rw [hc] at this; injection this with this; injection this with _ this _; exact absurd this (by decide)
  · have := h.fr.blk; unfold Blk at this; rw [hc] at this; injection this with this; injection this with _ this _; exact absurd this (by decide)
  · rw [h.chan] at hc; cases hc
  · obtain ⟨D, ⟨es, cl, h1, _⟩, _⟩ := h.map; rw [h1] at hc; cases hc
theorem IsPlAt.ne (h : IsPlAt F R w gp gd gl at_ base fb cb mb v s r cs fl ids p) : gp ≠ fb ∧ gp ≠ cb ∧ gp ≠ mb ∧ fb ≠ cb ∧ fb ≠ mb ∧ mb ≠ cb := by
  refine ⟨h.blk.ne_ h.fr.blk (by decide), h.blk.notChan h.chan, ?_, h.fr.blk.notChan h.chan, ?_, h.map.notChan h.chan⟩ <;> rintro rfl <;> obtain ⟨D, ⟨es, cl, h1, _⟩, _⟩ := h.map
  · have := h.blk; unfold Blk at this; rw [h1] at this; cases this
  · have := h.fr.blk; unfold Blk at this; rw [h1] at this; cases this

theorem row_keep {v : Value} {n : Nat} {xs : List Value} (h : w.ownsRow 0 28 1 v n xs) (hk : ∀ b, v.ownBlock = some b → w'.heap[b]? = w.heap[b]?) : w'.ownsRow 0 28 1 v n xs := by
  refine ⟨h.1, ?_⟩
  rcases h.2 with h' | ⟨b, cap, cur, rfl, hb, hh, rest⟩
  · exact .inl h'
  · exact .inr ⟨b, cap, cur, rfl, hb, (hk b rfl).trans hh, rest⟩

/-- cells of one frame turned. -/
structure Framed (cs cs' : Array Value) (i : Nat) : Prop where
  size : cs'.size = cs.size
  rest : ∀ k, (k < i * 9 ∨ i * 9 + 9 ≤ k) → cs'[k]? = cs[k]?

theorem Framed.other {cs cs' : Array Value} {i k j : Nat} (h : Framed cs cs' i) (hk : k ≠ i) (hj : j < 9) : cs'[k * 9 + j]? = cs[k * 9 + j]? :=
  h.rest _ (by omega)
theorem Framed.cell {cs : Array Value} {i j : Nat} (hj : j < 9) (u : Value) : Framed cs (cs.setIfInBounds (i * 9 + j) u) i :=
  ⟨by simp, fun k hk => by rw [Array.getElem?_setIfInBounds_ne (by omega)]⟩
theorem Framed.trans {cs cs' cs'' : Array Value} {i : Nat} (h : Framed cs cs' i) (k : Framed cs' cs'' i) : Framed cs cs'' i :=
  ⟨k.size.trans h.size, fun j hj => (k.rest j hj).trans (h.rest j hj)⟩
theorem Framed.part {cs : Array Value} {i : Nat} {l : List Value} (hl : l.length = 9) (hi : i * 9 + 9 ≤ cs.size) : Framed cs (partRow cs (i * 9) l) i := by
  refine ⟨by simp [partRow]; omega, fun k hk => ?_⟩
  unfold partRow
  rw [List.getElem?_toArray, List.append_assoc]
  rcases hk with hk | hk
  · rw [List.getElem?_append_left (by simp; omega), List.getElem?_take, if_pos hk, Array.getElem?_toList]
  · rw [List.getElem?_append_right (by simp; omega), List.getElem?_append_right (by simp; omega), List.getElem?_drop, Array.getElem?_toList]
    congr 1
    simp
    omega
theorem part_at {cs : Array Value} {i : Nat} {l : List Value} (hl : l.length = 9) (hi : i * 9 + 9 ≤ cs.size) {j : Nat} (hj : j < 9) : (partRow cs (i * 9) l)[i * 9 + j]? = l[j]? := by
  unfold partRow
  rw [List.getElem?_toArray, List.append_assoc, List.getElem?_append_right (by simp; omega), List.getElem?_append_left (by simp; omega)]
  congr 1
  simp
  omega

/-- A page's frame turned. -/
theorem IsPlAt.upd (h : IsPlAt F R w gp gd gl at_ base fb cb mb v s r cs fl ids p) {it : Sp.It} {f : Sp.It → Sp.It} (hf : Sp.Tame f) (hit : it ∈ p.items)
    (hgood : (f it).page.wf ∧ (f it).page.may ∧ (f it).pins ≤ 1000000000 ∧ (f it).from_ < 18446744073709551616) (hs : w.heap.size ≤ w'.heap.size) (hk : ∀ b, F b → b ≠ fb → w'.heap[b]? = w.heap[b]?) {cs' : Array Value}
    (hblk : Blk w' fb 110 cs') (hfr : Framed cs cs' it.idx) (hnew : ∃ A c, OkAddr A ∧ RowsAt R w' A (f it).page.rows ∧ ∀ j, j < 9 → cs'[it.idx * 9 + j]? = (frCells (f it) A c)[j]?) :
    IsPlAt F R w' gp gd gl at_ base fb cb mb v s r cs' fl ids (p.upd it.page.id f) := by
  obtain ⟨f1, f2, f3, f4, f5⟩ := h.foot
  obtain ⟨n1, n2, n3, n4, n5, n6⟩ := h.ne
  obtain ⟨o1, o2, o3, o4⟩ := h.own_ne
  have hone : ∀ x ∈ p.items, x.page.id = it.page.id → x = it := fun x hx e => Sp.nodup_map_eq h.wf.ids hx hit e
  refine ⟨Sp.Pl.upd_wf h.wf hf (fun x hx e => by rw [hone x hx e]; exact hgood), h.blk.keep (hk _ f1 n1), ⟨hblk, hfr.size.trans h.fr.size, fun y hy => ?_, fun i hi j hj => ?_⟩, (hk _ f3 (Ne.symm n4)).trans h.chan, ?_,
    row_keep h.row (fun b hb => hk b (f5 b hb) (fun e => o2 (by rw [hb, e]))), h.foot, h.rows, fun b hb => Nat.lt_of_lt_of_le (h.lt b hb) hs⟩
  · obtain ⟨x, hx, rfl⟩ := Sp.Pl.upd_mem hy
    split
    · rename_i e
      have := hone x hx e
      subst this
      simpa [hf.idx] using hnew
    · rename_i e
      obtain ⟨A, c, hA, hR, hc⟩ := h.fr.item x hx
      refine ⟨A, c, hA, hR.keep hs (fun b hb => hk b (h.rows b hb).1 (h.rows b hb).2.2.1), fun j hj => ?_⟩
      rw [hfr.other (fun e2 => e (congrArg (fun x => x.page.id) (Sp.nodup_map_eq h.wf.nodup_idx hx hit e2))) hj]
      exact hc j hj
  · have hi' : i ∈ p.free := hi
    rw [hfr.other (h.wf.free_ne hi' hit) hj]
    exact h.fr.free i hi' j hj
  · have : (p.upd it.page.id f).items.length = p.items.length := by simp [Sp.Pl.upd]
    rw [this]
    exact (h.map.keep (hk _ f4 (Ne.symm n5))).congr (fun q => Sp.Pl.upd_lk hf q)

/-- The same pages, in another order. -/
theorem IsPlAt.perm (h : IsPlAt F R w gp gd gl at_ base fb cb mb v s r cs fl ids p) {l : List Sp.It} (hl : l.Perm p.items) : IsPlAt F R w gp gd gl at_ base fb cb mb v s r cs fl ids { p with items := l } := by
  have hm : ∀ x, x ∈ l ↔ x ∈ p.items := fun x => hl.mem_iff
  have hids : (l.map (·.page.id)).Nodup := (hl.map _).nodup_iff.2 h.wf.ids
  have hwf : Sp.Pl.wf { p with items := l } := ⟨h.wf.n1, h.wf.n64, (List.Perm.append_left _ (hl.map _)).trans h.wf.idx, hids, fun x hx => h.wf.pg x ((hm x).1 hx), fun x hx => h.wf.small x ((hm x).1 hx)⟩
  refine ⟨hwf, h.blk, ⟨h.fr.blk, h.fr.size, fun x hx => h.fr.item x ((hm x).1 hx), h.fr.free⟩, h.chan, ?_, h.row, h.foot, h.rows, h.lt⟩
  have e : ({ p with items := l } : Sp.Pl).items.length = p.items.length := hl.length_eq
  rw [e]
  refine h.map.congr (fun q => ?_)
  unfold Sp.Pl.lk
  congr 1
  cases hq : p.find q with
  | none =>
    rw [Sp.Pl.find_none] at hq ⊢
    exact fun x hx => hq x ((hm x).1 hx)
  | some y =>
    obtain ⟨hy, rfl⟩ := Sp.Pl.find_mem hq
    exact Sp.Pl.find_of (p := { p with items := l }) hwf ((hm y).2 hy)

/-- The row turned. -/
theorem IsPlAt.rowed (h : IsPlAt F R w gp gd gl at_ base fb cb mb v s r cs fl ids p) {v' : Value} {ids' : List Nat} (hs : w.heap.size ≤ w'.heap.size)
    (hk : ∀ b, F b → b ≠ gp → v.ownBlock ≠ some b → w'.heap[b]? = w.heap[b]?) (hP : Blk w' gp 108 (plCells gd gl at_ base fb p.n cb mb v')) (hr : w'.ownsRow 0 28 1 v' ids'.length (ids'.map fun (i : Nat) => Value.int .u32 (i : Int)))
    (hv : ∀ b, v'.ownBlock = some b → v.ownBlock = some b ∨ w.heap.size ≤ b) : IsPlAt (fun b => F b ∨ v'.ownBlock = some b) R w' gp gd gl at_ base fb cb mb v' s r cs fl ids' p := by
  obtain ⟨f1, f2, f3, f4, f5⟩ := h.foot
  obtain ⟨n1, n2, n3, n4, n5, n6⟩ := h.ne
  obtain ⟨o1, o2, o3, o4⟩ := h.own_ne
  refine ⟨h.wf, hP, h.fr.keep hs (hk _ f2 (Ne.symm n1) o2) (fun b hb => hk b (h.rows b hb).1 (h.rows b hb).2.1 (h.rows b hb).2.2.2.2.2), (hk _ f3 (Ne.symm n2) o3).trans h.chan, h.map.keep (hk _ f4 (Ne.symm n3) o4), hr,
    ⟨.inl f1, .inl f2, .inl f3, .inl f4, fun b hb => .inr hb⟩, fun b hb => ?_, fun b hb => ?_⟩
  · obtain ⟨a1, a2, a3, a4, a5, a6⟩ := h.rows b hb
    refine ⟨.inl a1, a2, a3, a4, a5, fun e => ?_⟩
    rcases hv b e with e1 | e1
    · exact a6 e1
    · have := h.lt b a1; omega
  · rcases hb with hb | hb
    · exact Nat.lt_of_lt_of_le (h.lt b hb) hs
    · obtain ⟨cur, hc⟩ := ownsRow_heap hr hb
      exact (Array.getElem?_eq_some_iff.1 hc).1

/-- The channel turned. -/
theorem IsPlAt.chans (h : IsPlAt F R w gp gd gl at_ base fb cb mb v s r cs fl ids p) {fl' : List Nat} {s' r' : Nat} :
    IsPlAt F R (w.setChan cb p.n (fl'.map fun (i : Nat) => Value.int .i64 (i : Int)).toArray false s' r' false) gp gd gl at_ base fb cb mb v s' r' cs fl' ids p := by
  obtain ⟨f1, f2, f3, f4, f5⟩ := h.foot
  obtain ⟨n1, n2, n3, n4, n5, n6⟩ := h.ne
  obtain ⟨o1, o2, o3, o4⟩ := h.own_ne
  have hc : cb < w.heap.size := h.lt _ f3
  have hk : ∀ b, b ≠ cb → (w.setChan cb p.n (fl'.map fun (i : Nat) => Value.int .i64 (i : Int)).toArray false s' r' false).heap[b]? = w.heap[b]? := fun b hb => setChan_other w cb b _ _ _ _ _ _ hb
  have hsz : (w.setChan cb p.n (fl'.map fun (i : Nat) => Value.int .i64 (i : Int)).toArray false s' r' false).heap.size = w.heap.size := by simp [World.setChan]
  refine ⟨h.wf, h.blk.keep (hk _ n2), h.fr.keep (by omega) (hk _ n4) (fun b hb => hk b (h.rows b hb).2.2.2.1), heap_setChan _ _ _ _ _ _ _ _ hc, h.map.keep (hk _ n6), row_keep h.row (fun b hb => hk b (fun e => o3 (by rw [hb, e]))), h.foot, h.rows, fun b hb => by rw [hsz]; exact h.lt b hb⟩

/-- A page brought in. -/
theorem IsPlAt.bring (h : IsPlAt F R w gp gd gl at_ base fb cb mb v s r cs fl ids p) {x : Sp.Pg} {i : Nat} {rest : List Nat} {A : Option Addr} {c : Nat} {G : Foot} (hfree : p.free = i :: rest) (hn : p.find x.id = none) (hx : x.wf ∧ x.may)
    (hs : w.heap.size ≤ w'.heap.size) (hk : ∀ b, F b → b ≠ fb → b ≠ mb → w'.heap[b]? = w.heap[b]?) {cs' : Array Value}
    (hblk : Blk w' fb 110 cs') (hfr : Framed cs cs' i) (hA : OkAddr A) (hR : RowsAt G w' A x.rows) (hG : ∀ b, G b → ¬ F b ∧ b < w'.heap.size) (hc : ∀ j, j < 9 → cs'[i * 9 + j]? = (frCells ⟨x, 0, false, 0, i⟩ A c)[j]?)
    (hM : UMap Tryz.prog 28 3 w' mb (p.items.length + 1) (lkPut p.lk x.id i)) :
    IsPlAt (fun b => F b ∨ G b) (fun b => R b ∨ G b) w' gp gd gl at_ base fb cb mb v s r cs' fl ids (p.bring x i rest) := by
  obtain ⟨f1, f2, f3, f4, f5⟩ := h.foot
  obtain ⟨n1, n2, n3, n4, n5, n6⟩ := h.ne
  obtain ⟨o1, o2, o3, o4⟩ := h.own_ne
  refine ⟨h.wf.bring hfree hn hx, h.blk.keep (hk _ f1 n1 n3), ⟨hblk, hfr.size.trans h.fr.size, fun y hy => ?_, fun k hk' j hj => ?_⟩, (hk _ f3 (Ne.symm n4) (Ne.symm n6)).trans h.chan, ?_,
    row_keep h.row (fun b hb => hk b (f5 b hb) (fun e => o2 (by rw [hb, e])) (fun e => o4 (by rw [hb, e]))), ⟨.inl f1, .inl f2, .inl f3, .inl f4, fun b hb => .inl (f5 b hb)⟩, fun b hb => ?_, fun b hb => ?_⟩
  · rcases List.mem_append.1 hy with hy | hy
    · obtain ⟨A', c', hA', hR', hc'⟩ := h.fr.item y hy
      refine ⟨A', c', hA', (hR'.keep hs (fun b hb => hk b (h.rows b hb).1 (h.rows b hb).2.2.1 (h.rows b hb).2.2.2.2.1)).mono (fun b hb => .inl hb), fun j hj => ?_⟩
      rw [hfr.other (Ne.symm (h.wf.free_ne (by rw [hfree]; simp) hy)) hj]
      exact hc' j hj
    · rw [List.mem_singleton.1 hy]
      exact ⟨A, c, hA, hR.mono (fun b hb => .inr hb), hc⟩
  · have hk2 : k ∈ rest := hk'
    have hnd := h.wf.nodup_free
    rw [hfree, List.nodup_cons] at hnd
    rw [hfr.other (fun e => hnd.1 (by rw [← e]; exact hk2)) hj]
    exact h.fr.free k (by rw [hfree]; exact List.mem_cons_of_mem _ hk2) j hj
  · have : (p.bring x i rest).items.length = p.items.length + 1 := by simp [Sp.Pl.bring]
    rw [this]
    exact hM.congr (Sp.Pl.lk_bring h.wf hfree hn hx)
  · rcases hb with hb | hb
    · obtain ⟨a1, rest⟩ := h.rows b hb
      exact ⟨.inl a1, rest⟩
    · have hnF := (hG b hb).1
      exact ⟨.inr hb, fun e => hnF (e ▸ f1), fun e => hnF (e ▸ f2), fun e => hnF (e ▸ f3), fun e => hnF (e ▸ f4), fun e => hnF (f5 b e)⟩
  · rcases hb with hb | hb
    · exact Nat.lt_of_lt_of_le (h.lt b hb) hs
    · exact (hG b hb).2

/-- A page dropped. -/
theorem IsPlAt.drop (h : IsPlAt F R w gp gd gl at_ base fb cb mb v s r cs fl ids p) {it : Sp.It} (hit : it ∈ p.items)
    (hs : w.heap.size ≤ w'.heap.size) (hk : ∀ b, F b → b ≠ fb → b ≠ mb → w'.heap[b]? = w.heap[b]?) {cs' : Array Value}
    (hblk : Blk w' fb 110 cs') (hfr : Framed cs cs' it.idx) (hc : ∀ j, j < 9 → cs'[it.idx * 9 + j]? = zeroFr[j]?)
    (hM : UMap Tryz.prog 28 3 w' mb (p.items.length - 1) (lkDel p.lk it.page.id)) :
    IsPlAt F R w' gp gd gl at_ base fb cb mb v s r cs' fl ids (p.drop it.page.id it.idx) := by
  obtain ⟨f1, f2, f3, f4, f5⟩ := h.foot
  obtain ⟨n1, n2, n3, n4, n5, n6⟩ := h.ne
  obtain ⟨o1, o2, o3, o4⟩ := h.own_ne
  refine ⟨h.wf.drop hit, h.blk.keep (hk _ f1 n1 n3), ⟨hblk, hfr.size.trans h.fr.size, fun y hy => ?_, fun k hk' j hj => ?_⟩, (hk _ f3 (Ne.symm n4) (Ne.symm n6)).trans h.chan, ?_,
    row_keep h.row (fun b hb => hk b (f5 b hb) (fun e => o2 (by rw [hb, e])) (fun e => o4 (by rw [hb, e]))), h.foot, h.rows, fun b hb => Nat.lt_of_lt_of_le (h.lt b hb) hs⟩
  · obtain ⟨hy1, hy2⟩ := List.mem_filter.1 hy
    obtain ⟨A', c', hA', hR', hc'⟩ := h.fr.item y hy1
    refine ⟨A', c', hA', hR'.keep hs (fun b hb => hk b (h.rows b hb).1 (h.rows b hb).2.2.1 (h.rows b hb).2.2.2.2.1), fun j hj => ?_⟩
    have hne : y.idx ≠ it.idx := fun e => by
      have := Sp.nodup_map_eq h.wf.nodup_idx hy1 hit e
      subst this
      simp at hy2
    rw [hfr.other hne hj]
    exact hc' j hj
  · rcases List.mem_append.1 hk' with hk2 | hk2
    · rw [hfr.other (h.wf.free_ne hk2 hit) hj]
      exact h.fr.free k hk2 j hj
    · rw [List.mem_singleton.1 hk2]
      exact hc j hj
  · rw [Sp.Pl.drop_length h.wf hit]
    exact hM.congr (Sp.Pl.lk_drop _ _)
end
end Go.Proofs.YtndglfiepeefdaaGreat

/-
  DERIVED: THE SHELF's CONTRACTS AT THIS DUMP, IN PLAIN WORDS (tools/lay-plain.mjs out of 'TryzShel3.lean', which tools/lay-shelf.mjs wrote): THE SAME DECLARATIONS UNDER THE SAME NAMES: 'import', 'namespace', 'open', 'def', 'theorem' AND NOTHING ELSE: no command of the shelf's: FOR A HAND-IN. Each laying: the table of numbers ('.._ren') and one theorem, a field a fact of the dump's own or the kernel's comparison; each contract: ONE APPLICATION.
-/
namespace Go.Proofs
open Go.Shelf
def Tryz.lays125_ren : Go.Shelf.Ren := ⟨fun | 125 => 157 | 128 => 183 | 129 => 184 | n => n, fun | 46 => 198 | 3 => 3 | 51 => 28 | 53 => 29 | 4 => 4 | 5 => 5 | 9 => 9 | n => n, fun | n => n⟩
theorem Tryz.lays125 : Go.Proofs.Lays.n125 Tryz.prog Tryz.lays125_ren := {
  mixed := by kernel_rfl
  f125 := Tryz.func157.trans (congrArg some (by kernel_rfl))
  f128 := Tryz.func183.trans (congrArg some (by kernel_rfl))
  f129 := Tryz.func184.trans (congrArg some (by kernel_rfl))
  t3 := Tryz.underlying3
  a3 := Tryz.isAgg3
  z3 := Tryz.sizeOf3
  v3 := Tryz.zeroValue3
  t4 := Tryz.underlying4
  a4 := Tryz.isAgg4
  z4 := Tryz.sizeOf4
  v4 := Tryz.zeroValue4
  t5 := Tryz.underlying5
  a5 := Tryz.isAgg5
  z5 := Tryz.sizeOf5
  v5 := Tryz.zeroValue5
  t9 := Tryz.underlying9
  a9 := Tryz.isAgg9
  z9 := Tryz.sizeOf9
  v9 := Tryz.zeroValue9
  t46 := Tryz.underlying198
  a46 := Tryz.isAgg198
  z46 := Tryz.sizeOf198
  v46 := Tryz.zeroValue198
  t51 := Tryz.underlying28
  a51 := Tryz.isAgg28
  z51 := Tryz.sizeOf28
  v51 := Tryz.zeroValue28
  t53 := Tryz.underlying29
  a53 := Tryz.isAgg29
  z53 := Tryz.sizeOf29
  v53 := Tryz.zeroValue29 }
/-- bits.Len: "Len returns the minimum number of bits required to represent x; the result is 0 for x == 0.": IT RETURNS 'Lib.bitLen x'; the world is as it was. (A uint has 64 bits in the model.) ITS CALLEE bits.Len64 IS MET BY ITS OWN CONTRACT OFF THE SHELF (lay that first). (LAID: no walk: one application.) -/
theorem Tryz.bits_Len (x : Int) (w : World) (h0 : 0 ≤ x) (h1 : x ≤ 18446744073709551615) :
    Calls Tryz.prog 157 #[.int .u64 x] w fun e w' => e = .returned (.int .i64 (Lib.bitLen x.toNat)) ∧ w' = w := Any.bits_Len Tryz.lays125 x w h0 h1
end Go.Proofs

/- slices.Sort of at most 12 numbers (uint32): the insertion sort of the library, walked at this element type (after the kit's worked walk at int). -/
namespace Go.Proofs.YtndglfiepeefdaaGreat
open Go.RowKit Go.Sort

def ltN (x y : Nat) : Bool := decide (x < y)
theorem cmp_isNaN_u32 (x : Nat) (w : World) : Calls Tryz.prog 219 #[u32v x] w fun e w' => e = .returned (.bool false) ∧ w' = w := by
  go_enter Tryz.func219, Tryz.ntmps219
  go_wp2_with fail
  go_ret
  exact ⟨by simp, rfl⟩
theorem cmp_Less_u32 (x y : Nat) (w : World) : Calls Tryz.prog 180 #[u32v x, u32v y] w fun e w' => e = .returned (.bool (ltN x y)) ∧ w' = w := by
  go_enter Tryz.func180, Tryz.ntmps180
  go_wp2_with (go_at_call 219; refine (cmp_isNaN_u32 _ _).mono ?_; rintro e w' ⟨rfl, rfl⟩)
  go_ret
  exact ⟨rfl, rfl⟩

set_option maxRecDepth 100000 in
set_option maxHeartbeats 1000000 in
theorem insertion_u32 (blk off cap a b : Nat) (d : Array Nat) (w : World) (hH : Holds u32v w blk off d) (hab : a ≤ b) (hb : b ≤ d.size) (hsz : d.size < 4611686018427387904) :
    Calls Tryz.prog 174 #[.slice (some ⟨blk, off, none⟩) d.size cap, .int .i64 a, .int .i64 b] w fun e w' =>
      e = .returned (.tuple #[]) ∧ ∃ n, w' = putRow u32v (Sort.ahead w n) blk off (Sort.insertionSort ltN d a b) := by
  go_enter Tryz.func174, Tryz.ntmps174
  go_wp2_with fail
  go_loopw [6] (fun vi wr => ∃ (i n : Nat) (dk : Array Nat), vi = .int .i64 i ∧ a < i ∧ i ≤ b + 1 ∧ dk.size = d.size ∧ wr = putRow u32v (Sort.ahead w n) blk off dk ∧
      insOuter ltN a b i dk = insOuter ltN a b (a + 1) d) (fun vi _ => b + 1 - (intOf vi).toNat)
  case atStart => exact ⟨a + 1, 0, d, by go_num, by omega, by omega, rfl, (putRow_self _ _ _ _ _ hH).symm, rfl⟩
  case round =>
    obtain ⟨i, n, dk, rfl, hai, hib, hsk, hwr, hO⟩ := hrel
    have HO : Hid (insOuter ltN a b i dk = insOuter ltN a b (a + 1) d) := hO
    clear hO
    go_wp2_with fail
    · go_loopw [7] (fun vj wr2 => ∃ (j m : Nat) (dj : Array Nat), vj = .int .i64 j ∧ a ≤ j ∧ j ≤ i ∧ dj.size = d.size ∧ wr2 = putRow u32v (Sort.ahead w m) blk off dj ∧
          insInner ltN a j dj = insInner ltN a i dk) (fun vj _ => (intOf vj).toNat)
      case atStart => exact ⟨i, n, dk, rfl, by omega, Nat.le_refl _, hsk, rfl, rfl⟩
      case round =>
        obtain ⟨j, m, dj, rfl, haj, hji, hsj, hw2, hI⟩ := hrel
        have hlt : i < b := by assumption
        obtain ⟨G, hG⟩ : ∃ G : Nat → Nat, ∀ t, G t = dj[t]! := ⟨fun t => dj[t]!, fun _ => rfl⟩
        have hcw : ∀ t, t < d.size → wr.cell? ⟨blk, off + t, none⟩ = some (u32v (G t)) := fun t ht => by
          rw [hw2, hG]; exact cell?_putRow _ _ _ _ d dj (holds_ahead _ _ _ _ _ _ hH) hsj t (by omega)
        have hfw : ∀ t, t < d.size → wr.frozen? ⟨blk, off + t, none⟩ = false := fun t ht => by
          rw [hw2, frozen?_putRow]; exact ((holds_ahead _ _ m _ _ _ hH) t ht).2
        have HW : Hid (wr = putRow u32v (Sort.ahead w m) blk off dj) := hw2
        have HG : Hid (∀ t, G t = dj[t]!) := hG
        have HI : Hid (insInner ltN a j dj = insInner ltN a i dk) := hI
        clear hw2 hG hI hH
        have out : (j ≤ a ∨ ltN dj[j]! dj[j - 1]! = false) → ∀ q, ∃ i' n' dk', Value.int .i64 ((i : Int) + 1) = .int .i64 (i' : Nat) ∧ a < i' ∧ i' ≤ b + 1 ∧ dk'.size = d.size ∧
            wr.drewN q = putRow u32v (Sort.ahead w n') blk off dk' ∧ insOuter ltN a b i' dk' = insOuter ltN a b (a + 1) d := fun hs q =>
          ⟨i + 1, m + q, dj, by go_num, by omega, by omega, hsj, by rw [HW.out]; exact putRow_drewN _ _ _ _ _ _ _,
            by rw [← HO.out, insOuter_go _ _ _ _ _ hlt, ← HI.out, insInner_stop _ _ _ _ hs]⟩
        have OUT : Hid _ := out
        clear out
        go_wp2_with fail
        by_cases hja : a < j
        · go_quiet (first | (go_at_call 180; refine Calls.quiet_of_same (cmp_Less_u32 _ _ _)))
          go_wp2_with fail
          · have hl : ltN (G j) (G (j - 1)) = true := by assumption
            go_region
            all_goals go_wp2_with fail
            go_roundw
            case rel =>
              refine ⟨j - 1, m + (nq + 1), swp dj j (j - 1), by congr 1; omega, by omega, by omega, by rw [size_swp]; exact hsj, ?_, ?_⟩
              · rw [HW.out, HG.out, HG.out]
                exact swap_worldA _ w m (nq + 1) blk off dj j (j - 1) (by omega) (by omega)
              · rw [← HI.out, insInner_go ltN a j dj hja (by rw [← HG.out, ← HG.out]; exact hl)]
            case measure => simp [intOf]; omega
          · have hl : ltN (G j) (G (j - 1)) = false := by assumption
            go_roundw
            case rel => exact OUT.out (Or.inr (by rw [← HG.out, ← HG.out]; exact hl)) nq
            case measure => simp [intOf]; omega
        · go_quiet (first | (go_at_call 180; refine Calls.quiet_of_same (cmp_Less_u32 _ _ _)))
          go_wp2_with fail
          go_roundw
          case rel => exact OUT.out (Or.inl (by omega)) nq
          case measure => simp [intOf]; omega
    · have hge : ¬ i < b := by assumption
      go_end0
      exact ⟨rfl, n, by unfold Sort.insertionSort; rw [← HO.out, insOuter_stop _ _ _ _ _ hge]⟩

set_option maxRecDepth 100000 in
set_option maxHeartbeats 1000000 in
/-- Of at most 12 elements the library's sort is the insertion sort. -/
theorem pdq_u32 (blk off cap : Nat) (d : Array Nat) (w : World) (hH : Holds u32v w blk off d) (h12 : d.size ≤ 12) (lim : Int) :
    Calls Tryz.prog 156 #[.slice (some ⟨blk, off, none⟩) d.size cap, .int .i64 0, .int .i64 d.size, .int .i64 lim] w fun e w' =>
      e = .returned (.tuple #[]) ∧ ∃ n, w' = putRow u32v (Sort.ahead w n) blk off (Sort.insertionSort ltN d 0 d.size) := by
  have HI := Lib.hid (insertion_u32 blk off cap 0 d.size d w hH (Nat.zero_le _) (Nat.le_refl _) (by omega))
  have d1 : decide ((d.size : Int) ≤ 12) = true := by rw [decide_eq_true_eq]; omega
  clear hH
  go_enter Tryz.func156, Tryz.ntmps156
  go_wp2_with fail
  refine wp_loop_rounds 1 ?_
  rw [rounds_succ]
  go_wp2_with fail
  refine HI.out.mono ?_
  rintro e w1 ⟨rfl, n, hw⟩
  go_wp2_with fail
  refine bodyPost_ret (results_none rfl _ _ _) rfl ?_
  exact ⟨rfl, n, rfl⟩

set_option maxRecDepth 100000 in
set_option maxHeartbeats 1000000 in
theorem sort_u32 (blk off cap : Nat) (d : Array Nat) (w : World) (hH : Holds u32v w blk off d) (h12 : d.size ≤ 12) :
    Calls Tryz.prog 118 #[.slice (some ⟨blk, off, none⟩) d.size cap] w fun e w' =>
      e = .returned (.tuple #[]) ∧ ∃ n, w' = putRow u32v (Sort.ahead w n) blk off (Sort.insertionSort ltN d 0 d.size) := by
  have HP := Lib.hid (pdq_u32 blk off cap d w hH h12)
  have HL := Lib.hid fun (x : Int) (W : World) (h0 : 0 ≤ x) (h1 : x ≤ 18446744073709551615) => Tryz.bits_Len x W h0 h1
  clear hH
  go_enter Tryz.func118, Tryz.ntmps118
  go_wp2_with fail
  refine (HL.out _ _ (by omega) (by omega)).mono ?_
  rintro e w1 ⟨rfl, hw⟩
  subst w1
  go_wp2_with fail
  refine (HP.out _).mono ?_
  rintro e w1 ⟨rfl, n, hw⟩
  go_wp2_with fail
  go_end0
  exact ⟨rfl, n, rfl⟩

/-- A list of numbers, sorted as the library does. -/
def Sp.sorted (l : List Nat) : List Nat := (Sort.insertionSort ltN l.toArray 0 l.length).toList
theorem ltN_swo : SWO ltN := by
  constructor <;> simp [ltN] <;> omega
theorem Sp.sorted_spec (l : List Nat) : (Sp.sorted l).Perm l ∧ (Sp.sorted l).Pairwise (· ≤ ·) := by
  obtain ⟨⟨h1, h2, h3⟩, h4⟩ := insertionSort_holds ltN_swo l.toArray 0 l.length (Nat.zero_le _) (by simp)
  refine ⟨?_, ?_⟩
  · unfold Sp.sorted
    have e1 : (Sort.insertionSort ltN l.toArray 0 l.length).extract 0 l.length = Sort.insertionSort ltN l.toArray 0 l.length := by
      apply Array.ext
      · simp [h1]
      · intro i _ _; simp
    have e2 : l.toArray.extract 0 l.length = l.toArray := by
      apply Array.ext
      · simp
      · intro i _ _; simp
    rw [e1, e2] at h3
    simpa using h3
  · unfold Sp.sorted
    rw [List.pairwise_iff_getElem]
    intro i j hi hj hij
    have hsz : (Sort.insertionSort ltN l.toArray 0 l.length).size = l.length := by rw [h1]; simp
    have := h4 i j (Nat.zero_le _) hij (by simpa [hsz] using hj)
    rw [getElem!_pos _ i (by simpa using hi), getElem!_pos _ j (by simpa using hj)] at this
    simpa [ltN] using this
theorem Sp.sorted_one (x : Nat) : Sp.sorted [x] = [x] := by
  have := (Sp.sorted_spec [x]).1
  exact List.perm_singleton.1 this

/-- slices.Sort of a row of numbers from a block's beginning on. -/
theorem sort_row {w : World} {g cap : Nat} {cs : Array Value} {l : List Nat} (hb : Blk w g 28 cs) (hl : l.length ≤ 12) (hc : ∀ j, j < l.length → cs[j]? = some (u32v l[j]!)) :
    Calls Tryz.prog 118 #[.slice (some ⟨g, 0, none⟩) l.length cap] w fun e w' => e = .returned (.tuple #[]) ∧
      ∃ cs', Blk w' g 28 cs' ∧ cs'.size = cs.size ∧ (∀ j, j < l.length → cs'[j]? = some (u32v (Sp.sorted l)[j]!)) ∧ w.grownBy w' (some g) := by
  have hH : Holds u32v w g 0 l.toArray := by
    intro j hj
    have hj' : j < l.length := by simpa using hj
    rw [Nat.zero_add]
    refine ⟨(hb.cell j).trans ?_, hb.frozen j⟩
    rw [hc j hj']
    simp [hj']
  have hs := sort_u32 g 0 cap l.toArray w hH (by simpa using hl)
  have hsz : l.toArray.size = l.length := by simp
  rw [hsz] at hs
  have hps : (Sp.sorted l).length = l.length := (Sp.sorted_spec l).1.length_eq
  refine hs.mono ?_
  rintro e w' ⟨rfl, n, rfl⟩
  refine ⟨rfl, _, putRow_heap w n g _ cs _ hb, by simp [Go.Sort.putCells], fun j hj => ?_, putRow_grown w n g _⟩
  have hjc : j < cs.size := by
    rcases Nat.lt_or_ge j cs.size with h | h
    · exact h
    · have := hc j hj; rw [Array.getElem?_eq_none h] at this; cases this
  have hlen : (Sort.insertionSort ltN l.toArray 0 l.length).size = l.length := hps
  simp only [Go.Sort.putCells, Array.getElem?_mapIdx]
  rw [Array.getElem?_eq_getElem hjc]
  simp only [Option.map_some, Nat.zero_le, Nat.zero_add, true_and, Nat.sub_zero]
  rw [if_pos (by rw [hlen]; exact hj)]
  unfold Sp.sorted
  rw [getElem!_pos _ j (by rw [hlen]; exact hj), getElem!_pos _ j (by simpa [hlen] using hj)]
  simp
end Go.Proofs.YtndglfiepeefdaaGreat

/- Plain words: pages of a pool that are written. No program is named here. -/
namespace Go.Proofs.YtndglfiepeefdaaGreat.Sp

/-- Those of some pages that are dirty. -/
def Pl.isD (p : Pl) (n : Nat) : Bool := match p.find n with
  | some it => it.dirty
  | none => false
def Pl.lsnAt (p : Pl) (n : Nat) : Nat := match p.find n with
  | some it => it.page.lsn
  | none => 0
def Pl.pgAt (p : Pl) (n : Nat) : Bs := match p.find n with
  | some it => pgBytes it.page
  | none => []
def Pl.dirt (p : Pl) (q : List Nat) : List (Nat × Bs) := (q.filter p.isD).map fun n => (n, p.pgAt n)
def Pl.topOf (p : Pl) (q : List Nat) : Nat := (q.filter p.isD).foldl (fun m n => max m (p.lsnAt n)) 0
theorem Pl.dirt_snoc (p : Pl) (q : List Nat) (n : Nat) : p.dirt (q ++ [n]) = if p.isD n = true then p.dirt q ++ [(n, p.pgAt n)] else p.dirt q := by
  unfold Pl.dirt
  rw [List.filter_append]
  by_cases h : p.isD n = true
  · rw [if_pos h, List.filter_cons_of_pos h]; simp
  · rw [if_neg h, List.filter_cons_of_neg h]; simp
theorem Pl.topOf_snoc (p : Pl) (q : List Nat) (n : Nat) : p.topOf (q ++ [n]) = if p.isD n = true then max (p.topOf q) (p.lsnAt n) else p.topOf q := by
  unfold Pl.topOf
  rw [List.filter_append]
  by_cases h : p.isD n = true
  · rw [if_pos h, List.filter_cons_of_pos h]; simp
  · rw [if_neg h, List.filter_cons_of_neg h]; simp
theorem Pl.dirt_take {p : Pl} {q : List Nat} {k : Nat} (h : k < q.length) : p.dirt (q.take (k + 1)) = if p.isD q[k]! = true then p.dirt (q.take k) ++ [(q[k]!, p.pgAt q[k]!)] else p.dirt (q.take k) := by
  rw [List.take_succ_eq_append_getElem h, getElem!_pos _ k h, Pl.dirt_snoc]
theorem Pl.topOf_take {p : Pl} {q : List Nat} {k : Nat} (h : k < q.length) : p.topOf (q.take (k + 1)) = if p.isD q[k]! = true then max (p.topOf (q.take k)) (p.lsnAt q[k]!) else p.topOf (q.take k) := by
  rw [List.take_succ_eq_append_getElem h, getElem!_pos _ k h, Pl.topOf_snoc]
theorem Pl.dirt_len (p : Pl) (q : List Nat) : (p.dirt q).length ≤ q.length := by
  unfold Pl.dirt
  rw [List.length_map]
  exact List.length_filter_le _ _
theorem Pl.dirt_ids (p : Pl) (q : List Nat) : (p.dirt q).map (·.1) = q.filter p.isD := by simp [Pl.dirt, Function.comp_def]
theorem Pl.dirt_mem {p : Pl} {q : List Nat} {x : Nat × Bs} (h : x ∈ p.dirt q) : x.1 ∈ q ∧ ∃ it, p.find x.1 = some it ∧ it.dirty = true ∧ x.2 = pgBytes it.page := by
  obtain ⟨n, hn, rfl⟩ := List.mem_map.1 h
  obtain ⟨h1, h2⟩ := List.mem_filter.1 hn
  refine ⟨h1, ?_⟩
  unfold Pl.isD at h2
  cases hf : p.find n with
  | none => rw [hf] at h2; cases h2
  | some it => rw [hf] at h2; exact ⟨it, rfl, h2, by simp [Pl.pgAt, hf]⟩
/-- Pages that are clean now. -/
def Pl.wash (p : Pl) (D : List Nat) : Pl := { p with items := p.items.map fun x => if x.page.id ∈ D then { x with dirty := false, from_ := 0 } else x }
theorem Pl.wash_nil (p : Pl) : p.wash [] = p := by simp [Pl.wash]
theorem Pl.wash_snoc (p : Pl) (D : List Nat) (n : Nat) : (p.wash D).upd n (fun x => { x with dirty := false, from_ := 0 }) = p.wash (D ++ [n]) := by
  unfold Pl.wash Pl.upd
  simp only [List.map_map, Pl.mk.injEq, true_and, and_true]
  apply List.map_congr_left
  intro x _
  simp only [Function.comp, List.mem_append, List.mem_singleton]
  by_cases h1 : x.page.id ∈ D
  · rw [if_pos h1, if_pos (Or.inl h1)]
    by_cases h2 : x.page.id = n
    · rw [if_pos h2]
    · rw [if_neg h2]
  · rw [if_neg h1]
    by_cases h2 : x.page.id = n
    · rw [if_pos h2, if_pos (Or.inr h2)]
    · rw [if_neg h2, if_neg (fun h => h.elim h1 h2)]
theorem Pl.wash_find (p : Pl) (D : List Nat) (n : Nat) : (p.wash D).find n = (p.find n).map fun x => if x.page.id ∈ D then { x with dirty := false, from_ := 0 } else x := by
  unfold Pl.find Pl.wash
  rw [List.find?_map]
  have e : ((fun it : It => it.page.id == n) ∘ fun x => if x.page.id ∈ D then { x with dirty := false, from_ := 0 } else x) = fun it : It => it.page.id == n := by
    funext x
    simp only [Function.comp]
    split <;> rfl
  rw [e]
theorem Pl.wash_ids (p : Pl) (D : List Nat) : (p.wash D).items.map (·.page.id) = p.items.map (·.page.id) := by
  unfold Pl.wash
  rw [List.map_map]
  apply List.map_congr_left
  intro x _
  simp only [Function.comp]
  split <;> rfl

/-- A log forced up to an LSN; the disk behind it. -/
def Lg.forceTo (l : Lg) (lsn : Nat) : Lg := if lsn < l.forced ∨ l.forced = l.next then l else l.forces
def Dk.forceTo (d : Dk) (l : Lg) (lsn : Nat) : Dk := if lsn < l.forced ∨ l.forced = l.next then d else d.acts l.forceActs
theorem Lg.forceTo_next (l : Lg) (lsn : Nat) : (l.forceTo lsn).next = l.next := by unfold Lg.forceTo; split <;> rfl
theorem Lg.forceTo_at (l : Lg) (lsn : Nat) : (l.forceTo lsn).at_ = l.at_ ∧ (l.forceTo lsn).n = l.n := by unfold Lg.forceTo; split <;> exact ⟨rfl, rfl⟩
theorem Lg.forceTo_wf {l : Lg} (h : l.wf) (lsn : Nat) : (l.forceTo lsn).wf := by
  unfold Lg.forceTo; split
  · exact h
  · exact Lg.forces_wf h
theorem Lg.forceTo_forced {l : Lg} (h : l.wf) (lsn : Nat) : (l.forceTo lsn).forced = if l.forced ≤ lsn then l.next else l.forced := by
  have := h.fn
  unfold Lg.forceTo; split
  · rename_i h1
    split
    · rcases h1 with h1 | h1 <;> omega
    · rfl
  · rename_i h1
    rw [if_pos (by omega)]
    rfl
theorem Dk.forceTo_spec {d : Dk} (hlo : d.loose = []) (hf : d.fuse = -1) {l : Lg} (h : l.wf) (lsn : Nat) : (d.forceTo l lsn).loose = [] ∧ (d.forceTo l lsn).fuse = -1 ∧ (d.forceTo l lsn).sure.length = d.sure.length ∧
    ∀ a, (a + 4 ≤ l.at_ ∨ l.at_ + l.n ≤ a) → pageAt (d.forceTo l lsn).sure a = pageAt d.sure a := by
  unfold Dk.forceTo; split
  · exact ⟨hlo, hf, rfl, fun _ _ => rfl⟩
  · exact force_disk d hlo hf h
end Go.Proofs.YtndglfiepeefdaaGreat.Sp

/- The walks of package pool: Unpin. -/
namespace Go.Proofs.YtndglfiepeefdaaGreat
open Go.RowKit Go.Conc

theorem frCells_pins (it : Sp.It) (A : Option Addr) (c k j : Nat) (hj : j < 9) : (frCells { it with pins := k } A c)[j]? = if j = 6 then some (.int .i64 (k : Int)) else (frCells it A c)[j]? := by
  match j, hj with
  | 0, _ | 1, _ | 2, _ | 3, _ | 4, _ | 5, _ | 6, _ | 7, _ | 8, _ => rfl

/-- How often a page is pinned, turned. -/
theorem IsPlAt.pinned {F R : Foot} {w : World} {gp gd gl at_ base fb cb mb s r : Nat} {v : Value} {cs : Array Value} {fl ids : List Nat} {p : Sp.Pl} (h : IsPlAt F R w gp gd gl at_ base fb cb mb v s r cs fl ids p) {it : Sp.It} (hit : it ∈ p.items) (f : Nat → Nat) (hk : f it.pins ≤ 1000000000) :
    IsPlAt F R (w.setCell ⟨fb, it.idx * 9 + 6, none⟩ (.int .i64 (f it.pins : Nat))) gp gd gl at_ base fb cb mb v s r (cs.setIfInBounds (it.idx * 9 + 6) (.int .i64 (f it.pins : Nat))) fl ids (p.upd it.page.id fun x => { x with pins := f x.pins }) := by
  obtain ⟨A, c, hA, hR, hc⟩ := h.fr.item it hit
  have hkeep : ∀ b, F b → b ≠ fb → (w.setCell ⟨fb, it.idx * 9 + 6, none⟩ (.int .i64 (f it.pins : Nat))).heap[b]? = w.heap[b]? := fun b _ hb => Below.heap_setCell w _ _ b hb
  have hsz : w.heap.size ≤ (w.setCell ⟨fb, it.idx * 9 + 6, none⟩ (.int .i64 (f it.pins : Nat))).heap.size := by simp [World.setCell]
  refine h.upd (f := fun x => { x with pins := f x.pins }) ⟨fun _ => rfl, fun _ => rfl⟩ hit ⟨(h.wf.pg it hit).1, (h.wf.pg it hit).2, hk, (h.wf.small it hit).2⟩ hsz hkeep (h.fr.blk.set_ _ _) (Framed.cell (by omega) _) ⟨A, c, hA, hR.keep hsz (fun b hb => hkeep b (h.rows b hb).1 (h.rows b hb).2.2.1), fun j hj => ?_⟩
  have hlt := h.wf.idx_lt hit
  have hcs := h.fr.size
  rw [frCells_pins it A c _ j hj]
  split
  · rename_i e
    subst e
    rw [Array.getElem?_setIfInBounds_self_of_lt (by omega)]
  · rename_i e
    rw [Array.getElem?_setIfInBounds_ne (by omega)]
    exact hc j hj

theorem IsPlAt.pins_frozen {F R : Foot} {w : World} {gp gd gl at_ base fb cb mb s r : Nat} {v : Value} {cs : Array Value} {fl ids : List Nat} {p : Sp.Pl} (h : IsPlAt F R w gp gd gl at_ base fb cb mb v s r cs fl ids p) (k : Nat) : w.frozen? ⟨fb, k, none⟩ = false := h.fr.blk.frozen k

set_option maxRecDepth 100000 in
set_option maxHeartbeats 1000000 in
theorem pool_unpin {F : Foot} {w : World} {gp gd gl at_ base : Nat} {p : Sp.Pl} (h : IsPl F w gp gd gl at_ base p) {id : Nat} (hid : id < 4294967296) {it : Sp.It} (hf : p.find id = some it) (hp : 1 ≤ it.pins) :
    Calls Tryz.prog 17 #[ptr gp, u32v id] w fun e w' => e = .returned (.int .i64 0) ∧ IsPl F w' gp gd gl at_ base (p.upd id fun x => { x with pins := x.pins - 1 }) ∧ Turns F F w w' := by
  obtain ⟨R, fb, cb, mb, v, s, r, cs, h⟩ := h
  obtain ⟨c0, c1, c2, c3, c4, c5, c6, c7⟩ := h.cells
  have HM := Lib.hid (pool_made c6)
  have hl := h.look_in hid hf
  obtain ⟨hit, rfl⟩ := Sp.Pl.find_mem hf
  have hlt := h.wf.idx_lt hit
  have cp := h.pins hit
  have hn := h.wf.n64
  have hs := h.wf.small it hit
  have e0 : decide ((it.pins : Int) = 0) = false := by rw [decide_eq_false_iff_not]; omega
  have hz := h.pins_frozen (it.idx * 9 + 6)
  have H := Lib.hid (h.pinned hit (fun k => k - 1) (by omega))
  have hF := h.foot.2.1
  have e1 : ((it.pins - 1 : Nat) : Int) = (it.pins : Int) - 1 := by omega
  have eu : ((p.upd it.page.id fun x => { x with pins := x.pins - 1 }).items.map (·.page.id)) = p.items.map (·.page.id) := Sp.Pl.upd_ids ⟨fun _ => rfl, fun _ => rfl⟩
  rw [e1, ← eu] at H
  have HI : IsPl F _ gp gd gl at_ base (p.upd it.page.id fun x => { x with pins := x.pins - 1 }) := ⟨R, fb, cb, mb, v, s, r, _, H.out⟩
  have HI := Lib.hid HI
  clear h c0 c1 c2 c3 c5 c7 e1 H eu
  go_enter Tryz.func17, Tryz.ntmps17
  go_wp2_with fail
  refine HM.out.mono ?_
  rintro e w1 ⟨rfl, hw⟩
  subst w1
  go_wp2_with fail
  go_ret
  exact ⟨rfl, HI.out, (Turns.refl F w).setCell (p := ⟨fb, it.idx * 9 + 6, none⟩) (.inl hF) _⟩
end Go.Proofs.YtndglfiepeefdaaGreat

/- The walks of package pool: copied. -/
namespace Go.Proofs.YtndglfiepeefdaaGreat
open Go.RowKit Go.Conc

set_option maxRecDepth 100000 in
set_option maxHeartbeats 1000000 in
theorem pool_copied {w : World} {G : Foot} {p : Sp.Pg} {A : Option Addr} {c : Nat} (hA : OkAddr A) (hR : RowsAt G w A p.rows) (hl : p.rows.length ≤ 1000000) :
    Calls Tryz.prog 53 #[pgV p A c] w fun e w' => ∃ A' c', e = .returned (pgV p A' c') ∧ OkAddr A' ∧ RowsAt (fun b => w.heap.size ≤ b) w' A' p.rows ∧ Below w.heap.size w w' := by
  have HC := Lib.hid fun (W : World) (h : RowsAt G W A p.rows) => clone_rows (c := c) h hA hl
  have HR := Lib.hid hR
  clear hR hA
  go_enter Tryz.func53, Tryz.ntmps53
  go_wp2_with fail
  have hX := (Blk.new w 32 #[.int .u8 p.kind, .int .u8 p.level, .int .u32 p.id, .int .u64 p.lsn, .int .u32 p.next, .slice A p.rows.length c]).alloc (.cells #[.int .u8 0, .int .u8 0, .int .u32 0, .int .u64 0, .int .u32 0, .slice none 0 0] 32)
  have hY := Blk.new (w.alloc (.cells #[.int .u8 p.kind, .int .u8 p.level, .int .u32 p.id, .int .u64 p.lsn, .int .u32 p.next, .slice A p.rows.length c] 32)) 32 #[.int .u8 0, .int .u8 0, .int .u32 0, .int .u64 0, .int .u32 0, .slice none 0 0]
  have hb0 := ((Below.refl w.heap.size w).alloc (Nat.le_refl _) (.cells #[.int .u8 p.kind, .int .u8 p.level, .int .u32 p.id, .int .u64 p.lsn, .int .u32 p.next, .slice A p.rows.length c] 32)).alloc (by simp) (.cells #[.int .u8 0, .int .u8 0, .int .u32 0, .int .u64 0, .int .u32 0, .slice none 0 0] 32)
  have hR2 := Lib.hid (Reads.below HR.out hb0)
  have e1 : (w.alloc (.cells #[.int .u8 p.kind, .int .u8 p.level, .int .u32 p.id, .int .u64 p.lsn, .int .u32 p.next, .slice A p.rows.length c] 32)).heap.size = w.heap.size + 1 := by simp
  rw [e1] at hY
  clear e1
  refine (HC.out _ hR2.out).mono ?_
  rintro e w1 ⟨A', c', rfl, hA', hR', hb1⟩
  have hb := Lib.hid (hb0.trans (hb1.mono (by simp; omega)))
  have hX := hX.below hb1 (by simp; omega)
  have hY := hY.below hb1 (by simp)
  have hR1 := Lib.hid (hR'.mono (G' := fun b => w.heap.size + 2 ≤ b) (fun b hb => by have hb : _ ≤ b := hb; simp at hb; omega))
  have hA1 := Lib.hid hA'
  have hs1 := hb1.size
  simp at hs1
  have x0 := hX.cell 0
  have x1 := hX.cell 1
  have x2 := hX.cell 2
  have x3 := hX.cell 3
  have x4 := hX.cell 4
  have x5 := hX.cell 5
  have f5 := hX.frozen 5
  simp only [zGA, zGB, zGC] at x0 x1 x2 x3 x4 x5
  have hX5 := hX.set_ 5 (.slice A' p.rows.length c')
  have hY5 := hY.far (p := ⟨w.heap.size, 5, none⟩) (by show w.heap.size + 1 ≠ w.heap.size; omega) (.slice A' p.rows.length c')
  have y0 := hX5.cell 0
  have y1 := hX5.cell 1
  have y2 := hX5.cell 2
  have y3 := hX5.cell 3
  have y4 := hX5.cell 4
  have y5 := hX5.cell 5
  simp only [zGA, zGB, zGC, zSA, zSB, zSC] at y0 y1 y2 y3 y4 y5
  have b0 := hY.cell 0
  have b1 := hY.cell 1
  have b2 := hY.cell 2
  have b3 := hY.cell 3
  have b4 := hY.cell 4
  have b5 := hY.cell 5
  simp only [zGA, zGB, zGC] at b0 b1 b2 b3 b4 b5
  have g0 := hY.frozen 0
  have g1 := hY.frozen 1
  have g2 := hY.frozen 2
  have g3 := hY.frozen 3
  have g4 := hY.frozen 4
  have g5 := hY.frozen 5
  have HX := Lib.hid hX5
  have HY := Lib.hid hY5
  clear hX hY hX5 hY5 hb0 hb1 hR' hA' hR2 HC HR
  go_wp2_with fail
  obtain ⟨W8, hW8, hX8, ht8, hk8⟩ := six_set HY.out (.int .u8 p.kind) (.int .u8 p.level) (.int .u32 p.id) (.int .u64 p.lsn) (.int .u32 p.next) (.slice A' p.rows.length c')
  rw [hW8]
  have z0 := hX8.cell 0
  have z1 := hX8.cell 1
  have z2 := hX8.cell 2
  have z3 := hX8.cell 3
  have z4 := hX8.cell 4
  have z5 := hX8.cell 5
  simp only [zGA, zGB, zGC] at z0 z1 z2 z3 z4 z5
  clear y0 y1 y2 y3 y4 y5 g0 g1 g2 g3 g4 g5 x0 x1 x2 x3 x4 x5 f5 b0 b1 b2 b3 b4 b5
  refine bodyPost_ret (v := pgV p A' c') (by rw [results_cell_row rfl _ _ (w.heap.size + 1) 32 _ (0, 0) _ rfl hX8 Tryz.underlying32 rfl rfl]) rfl ⟨A', c', rfl, hA1.out, ?_, ?_⟩
  · refine ((hR1.out.keep (w' := W8) ?_ (fun b hb => ?_))).mono (fun b hb => by have hb : w.heap.size + 2 ≤ b := hb; omega)
    · have := ht8.size
      simp [World.setCell] at this ⊢
      omega
    · have hb : w.heap.size + 2 ≤ b := hb
      rw [hk8 b (by omega), Below.heap_setCell _ _ _ b (by show b ≠ w.heap.size; omega)]
  · refine Below.trans (hb.out.setCell (p := ⟨w.heap.size, 5, none⟩) (Nat.le_refl _) _) (ht8.below (by simp [World.setCell]; omega) (fun b hb => by have hb : b = w.heap.size + 1 := hb; omega))
end Go.Proofs.YtndglfiepeefdaaGreat

/- The walks of package pool: pins. -/
namespace Go.Proofs.YtndglfiepeefdaaGreat
open Go.RowKit Go.Conc

section
variable {P : Program} {ops : Array Oper} {Q : Exit → Act → World → Prop}
/-- One of several that may come up: a call of a Go function. -/
theorem op_call {i : Nat} (t : Tmp) {f : FuncId} {args : Array Value} {R : Ending → World → Prop} {oi : Oper} {a : Act} {w w' : World} {K : Act → World → Prop} (hi : ops[i]? = some oi) (hd : oi.dst = some t)
    (hw : Region.wanted oi (yielded ops a.tmps) = true) (hy : (execOp a.eval oi).run P w = .ok (.enter f args) w') (hc : Calls P f args w' R)
    (h : ∀ e w'', R e w'' → ∃ v, e = .returned v ∧ K { tmps := a.tmps.setIfInBounds t v, defers := a.defers } w'') : wpOp P ops Q i K a w := by
  unfold wpOp
  simp only [hi]
  rw [if_pos hw]
  refine .inl ?_
  unfold Oper.wp
  rw [hy]
  refine hc.mono fun e w'' hR => ?_
  obtain ⟨v, rfl, h1⟩ := h e w'' hR
  show K (a.put oi.dst v) w''
  rw [hd]
  exact h1
end

/-- the block of a row. -/
abbrev own (v : Value) : Foot := fun b => v.ownBlock = some b

/-- What holds behind a row's DeleteFunc and the making of the row that is appended. -/
structure PinMid (w1 W : World) (v v' : Value) (g8 id : Nat) (ids : List Nat) : Prop where
  row : W.ownsRow 0 28 1 v' (ids.filter (fun x => !(x == id))).length ((ids.filter (fun x => !(x == id))).map u32v)
  sub : ∀ k, v'.ownBlock = some k → v.ownBlock = some k
  one : Blk W g8 28 #[u32v id]
  fresh : w1.heap.size ≤ g8
  turns : Turns (own v) (own v) w1 W

/-- What holds behind the append. -/
structure PinRow (w1 W : World) (v v2 : Value) (id : Nat) (ids : List Nat) : Prop where
  row : W.ownsRow 0 28 1 v2 (ids.filter (fun x => !(x == id)) ++ [id]).length ((ids.filter (fun x => !(x == id)) ++ [id]).map u32v)
  sub : ∀ k, v2.ownBlock = some k → v.ownBlock = some k ∨ w1.heap.size ≤ k
  turns : Turns (own v) (own v) w1 W

/-- A page pinned once more: it stands last. -/
def Sp.Pl.pinUp (p : Sp.Pl) (id : Nat) : Sp.Pl := p.upd id fun x => { x with pins := x.pins + 1 }
def PinsPost (F R : Foot) (w : World) (gp gd gl at_ base fb cb mb s r : Nat) (fl ids : List Nat) (p : Sp.Pl) (it : Sp.It) (e : Ending) (w' : World) : Prop :=
  ∃ F' v' cs', e = .returned (.pointer (some ⟨fb, it.idx * 9, none⟩)) ∧ IsPlAt F' R w' gp gd gl at_ base fb cb mb v' s r cs' fl (ids.filter (fun x => !(x == it.page.id)) ++ [it.page.id]) (p.pinUp it.page.id) ∧ Turns F F' w w'

set_option maxRecDepth 100000 in
set_option maxHeartbeats 1000000 in
theorem pool_pins_walk {F R : Foot} {w : World} {gp gd gl at_ base fb cb mb s r : Nat} {v : Value} {cs : Array Value} {fl ids : List Nat} {p : Sp.Pl} (h : IsPlAt F R w gp gd gl at_ base fb cb mb v s r cs fl ids p) {id : Nat} (hid : id < 4294967296) {it : Sp.It} (hf : p.find id = some it) (hp : it.pins < 1000000000) (hl : ids.length ≤ 64) :
    Calls Tryz.prog 54 #[ptr gp, u32v id] w (PinsPost F R w gp gd gl at_ base fb cb mb s r fl ids p it) := by
  obtain ⟨hit, rfl⟩ := Sp.Pl.find_mem hf
  obtain ⟨iu, hiu, hzu0, hzu1, hzu2⟩ := info_parts u32_info
  have hown := h.own_ne
  have hlv : ∀ b, v.ownBlock = some b → b < w.heap.size := fun b hb => by
    obtain ⟨cur, hc⟩ := ownsRow_heap h.row hb
    exact (Array.getElem?_eq_some_iff.1 hc).1
  have h1 := Lib.hid (h.keep (w' := w.alloc (.cells #[u32v it.page.id] 28)) (by simp) (fun b hb => Below.heap_alloc w _ b (h.lt b hb)))
  have hid1 := Lib.hid (Blk.new w 28 #[u32v it.page.id])
  go_enter Tryz.func54, Tryz.ntmps54
  go_wp2_with fail
  have e1 : (w.alloc (.cells #[u32v it.page.id] 28)).heap.size = w.heap.size + 1 := by simp
  obtain ⟨w1, hw1⟩ : ∃ w1, w1 = w.alloc (.cells #[u32v it.page.id] 28) := ⟨_, rfl⟩
  rw [← hw1] at h1 hid1 e1 ⊢
  obtain ⟨b3, hb3⟩ : ∃ b3, b3 = w.heap.size := ⟨_, rfl⟩
  have hlt3 : ∀ b, v.ownBlock = some b → b ≠ b3 := fun b hb e => by have := hlv b hb; omega
  have hn3 : v.ownBlock ≠ some b3 := fun e => hlt3 _ e rfl
  rw [← hb3] at hid1 ⊢
  have hb3l : w.heap.size ≤ b3 := by omega
  have e2 : w.heap.size ≤ w1.heap.size := by omega
  have ht01 : Turns F F w w1 := by rw [hw1]; exact (Turns.refl F w).alloc _
  have hgw : gp < w.heap.size := h.lt gp h.foot.1
  clear hw1 h hb3 e1
  rename_i K hK
  have HK : ∀ (v' v2 : Value) (g8 : Nat) (W2 : World), PinRow w1 W2 v v2 it.page.id ids → K { tmps := #[ptr gp, u32v it.page.id, undef, ptr b3, .pointer none, undef, ptr gp, ptr gp, ptr gp, .pointer (some ⟨gp, 7, none⟩), v, .func (.func 108) #[] #[ptr b3], v', u32v it.page.id, .slice (some ⟨g8, 0, none⟩) 1 1, v2, ptr gp, .pointer (some ⟨gp, 7, none⟩), undef, undef, undef, undef, undef, undef, undef, undef, undef, undef, undef, undef, undef, undef, undef, undef, undef, undef, undef], defers := [] } (W2.setCell ⟨gp, 7, none⟩ v2) := by
    intro v' v2 g8 W2 ⟨hrow, hsub, htu⟩
    refine hK _ _ ?_
    have hgpb := h1.out.blk
    have hgl : gp < w1.heap.size := hgpb.lt
    have hlF := h1.out.lt
    have hrd := Lib.hid (h1.out.rowed (w' := W2.setCell ⟨gp, 7, none⟩ v2) (v' := v2) (ids' := ids.filter (fun x => !(x == it.page.id)) ++ [it.page.id]) (by simp [World.setCell]; exact htu.size)
      (fun b hb h1 h2 => (Below.heap_setCell W2 _ _ b h1).trans (htu.block b (hlF b hb) h2)) ((hgpb.turns htu hown.1).set_ 7 v2)
      (row_keep hrow (fun b hb => Below.heap_setCell W2 _ _ b (fun e => by
        have e : b = gp := e
        subst e
        rcases hsub _ hb with h | h
        · exact hown.1 h
        · omega))) hsub)
    have hb3 := Lib.hid ((hid1.out.turns htu hn3).far (p := ⟨gp, 7, none⟩) (show b3 ≠ gp from fun e => by omega) v2)
    have htt : Turns F (fun b => F b ∨ v2.ownBlock = some b) w (W2.setCell ⟨gp, 7, none⟩ v2) := by
      have t : Turns F F w (W2.setCell ⟨gp, 7, none⟩ v2) := (ht01.trans (htu.wider (fun b hb => h1.out.foot.2.2.2.2 b hb) (fun b hb => .inl hb))).setCell (p := ⟨gp, 7, none⟩) (.inl h1.out.foot.1) _
      refine ⟨t.os, t.tape, t.output, t.size, t.block, fun b hb => ?_⟩
      rcases hb with hb | hb
      · exact .inl hb
      · rcases hsub b hb with h | h
        · exact .inl (h1.out.foot.2.2.2.2 b h)
        · exact .inr (by omega)
    obtain ⟨W3, hW3⟩ : ∃ W3, W3 = W2.setCell ⟨gp, 7, none⟩ v2 := ⟨_, rfl⟩
    rw [← hW3] at hrd hb3 htt ⊢
    clear hW3 hrow htu hK
    obtain ⟨c0, c1, c2, c3, c4, c5, c6, c7⟩ := hrd.out.cells
    have hld := (hrd.out.keep (w' := W3.drew) (Nat.le_refl _) (fun _ _ => rfl)).look hid hf
    have hlt := hrd.out.wf.idx_lt hit
    have cp := hrd.out.pins hit
    have hn := hrd.out.wf.n64
    have hz := hrd.out.pins_frozen (it.idx * 9 + 6)
    have cid := hb3.out.cell 0
    simp only [List.getElem?_toArray, List.getElem?_cons_zero] at cid
    have HP := Lib.hid ((hrd.out.keep (w' := W3.drew) (Nat.le_refl _) (fun _ _ => rfl)).pinned hit (fun k => k + 1) (by omega))
    clear c0 c1 c2 c3 c5 c7
    go_wp2_with fail
    refine R_begin (fun W => W.cell? ⟨gp, 4, none⟩ = some (.slice (some ⟨fb, 0, none⟩) p.n p.n) ∧ W.cell? ⟨gp, 6, none⟩ = some (.map (some mb)) ∧ W.cell? ⟨b3, 0, none⟩ = some (u32v it.page.id) ∧
      (Instr.lookup 106 (.map (some mb)) (u32v it.page.id) false).run Tryz.prog W = .ok (.int .i64 it.idx) W) (fun _ => false) rfl ?_
    have hS := Lib.hid (⟨c4, c6, cid, hld⟩ : W3.drew.cell? ⟨gp, 4, none⟩ = some (.slice (some ⟨fb, 0, none⟩) p.n p.n) ∧ W3.drew.cell? ⟨gp, 6, none⟩ = some (.map (some mb)) ∧ W3.drew.cell? ⟨b3, 0, none⟩ = some (u32v it.page.id) ∧
      (Instr.lookup 106 (.map (some mb)) (u32v it.page.id) false).run Tryz.prog W3.drew = .ok (.int .i64 it.idx) W3.drew)
    clear hld
    refine R_take 0 18 (v := ?_) rfl rfl (by rfl) (by kernel_rfl) (fun _ _ _ h => h) hS.out ?_ ?_
    rotate_left
    · intro w hSw; (try dsimp only at hSw); go_simp; (try with_reducible rfl)
    simp only [zSA, zSB, zSC]
    refine R_take 1 19 (v := ?_) rfl rfl (by rfl) (by kernel_rfl) (fun _ _ _ h => h) hS.out ?_ ?_
    rotate_left
    · intro w hSw; (try dsimp only at hSw); go_simp; (try with_reducible rfl)
    simp only [zSA, zSB, zSC]
    refine R_take 2 20 (v := ?_) rfl rfl (by rfl) (by kernel_rfl) (fun _ _ _ h => h) hS.out ?_ ?_
    rotate_left
    · intro w hSw; (try dsimp only at hSw); go_simp; (try with_reducible rfl)
    simp only [zSA, zSB, zSC]
    refine R_take 3 21 (v := ?_) rfl rfl (by rfl) (by kernel_rfl) (fun _ _ _ h => h) hS.out ?_ ?_
    rotate_left
    · intro w hSw; (try dsimp only at hSw); go_simp; (try with_reducible rfl)
    simp only [zSA, zSB, zSC]
    refine R_take 4 22 (v := ?_) rfl rfl (by rfl) (by kernel_rfl) (fun _ _ _ h => h) hS.out ?_ ?_
    rotate_left
    · intro w hSw; (try dsimp only at hSw); go_simp; (try with_reducible rfl)
    simp only [zSA, zSB, zSC]
    refine R_take 5 23 (v := ?_) rfl rfl (by rfl) (by kernel_rfl) (fun _ _ _ h => h) hS.out ?_ ?_
    rotate_left
    · intro w hSw; (try dsimp only at hSw); go_simp; (try with_reducible rfl)
    simp only [zSA, zSB, zSC]
    refine R_take 6 24 (v := ?_) rfl rfl (by rfl) (by kernel_rfl) (fun _ _ _ h => h) hS.out ?_ ?_
    rotate_left
    · intro w hSw; (try dsimp only at hSw); go_simp; (try with_reducible rfl)
    simp only [zSA, zSB, zSC]
    refine R_take 7 25 (v := ?_) rfl rfl (by rfl) (by kernel_rfl) (fun _ _ _ h => h) hS.out ?_ ?_
    rotate_left
    · intro w hSw; (try dsimp only at hSw); go_simp; (try with_reducible rfl)
    simp only [zSA, zSB, zSC]
    refine R_take 8 26 (v := ?_) rfl rfl (by rfl) (by kernel_rfl) (fun _ _ _ h => h) hS.out ?_ ?_
    rotate_left
    · intro w hSw; (try dsimp only at hSw); go_simp; (try with_reducible rfl)
    simp only [zSA, zSB, zSC]
    refine R_take 9 27 (v := ?_) rfl rfl (by rfl) (by kernel_rfl) (fun _ _ _ h => h) hS.out ?_ ?_
    rotate_left
    · intro w hSw; (try dsimp only at hSw); go_simp; (try with_reducible rfl)
    simp only [zSA, zSB, zSC]
    refine R_take 10 28 (v := ?_) rfl rfl (by rfl) (by kernel_rfl) (fun _ _ _ h => h) hS.out ?_ ?_
    rotate_left
    · intro w hSw; (try dsimp only at hSw); go_simp; (try with_reducible rfl)
    simp only [zSA, zSB, zSC]
    refine R_take 11 5 (v := ?_) rfl rfl (by rfl) (by kernel_rfl) (fun _ _ _ h => h) hS.out ?_ ?_
    rotate_left
    · intro w hSw; (try dsimp only at hSw); go_simp; (try with_reducible rfl)
    simp only [zSA, zSB, zSC]
    refine R_done (by kernel_rfl) ?_ _
    rename_i K2 hK2
    refine hK2 _ _ ?_
    have cp : W3.drew.cell? ⟨fb, it.idx * 9 + 6, none⟩ = some (.int .i64 it.pins) := cp
    have hz : W3.drew.frozen? ⟨fb, it.idx * 9 + 6, none⟩ = false := hz
    have htt := htt.drew
    have hfF : F fb := h1.out.foot.2.1
    clear hK2 K2 hS c4 c6 cid hrd hb3
    obtain ⟨W4, hW4⟩ : ∃ W4, W4 = W3.drew := ⟨_, rfl⟩
    rw [← hW4] at cp hz htt HP ⊢
    clear hW4
    go_wp2_with fail
    go_ret
    exact ⟨_, v2, _, rfl, HP.out, htt.setCell (p := ⟨fb, it.idx * 9 + 6, none⟩) (.inl hfF) _⟩
  have HKH := Lib.hid HK
  clear HK hK
  have c7 := h1.out.cells.2.2.2.2.2.2.2
  have c3 := hid1.out.cell 0
  simp only [List.getElem?_toArray, List.getElem?_cons_zero] at c3
  refine R_begin (fun W => W.cell? ⟨gp, 7, none⟩ = some v ∧ W.cell? ⟨b3, 0, none⟩ = some (u32v it.page.id)) (fun j => decide (10 ≤ j)) rfl ?_
  have hS : w1.drew.cell? ⟨gp, 7, none⟩ = some v ∧ w1.drew.cell? ⟨b3, 0, none⟩ = some (u32v it.page.id) := ⟨c7, c3⟩
  refine R_take 0 6 (v := ?_) rfl rfl (by rfl) (by kernel_rfl) (fun _ _ _ h => h) hS ?_ ?_
  rotate_left
  · intro w hSw; (try dsimp only at hSw); go_simp; (try with_reducible rfl)
  simp only [zSA, zSB, zSC]
  refine R_take 1 7 (v := ?_) rfl rfl (by rfl) (by kernel_rfl) (fun _ _ _ h => h) hS ?_ ?_
  rotate_left
  · intro w hSw; (try dsimp only at hSw); go_simp; (try with_reducible rfl)
  simp only [zSA, zSB, zSC]
  refine R_take 2 8 (v := ?_) rfl rfl (by rfl) (by kernel_rfl) (fun _ _ _ h => h) hS ?_ ?_
  rotate_left
  · intro w hSw; (try dsimp only at hSw); go_simp; (try with_reducible rfl)
  simp only [zSA, zSB, zSC]
  refine R_take 3 9 (v := ?_) rfl rfl (by rfl) (by kernel_rfl) (fun _ _ _ h => h) hS ?_ ?_
  rotate_left
  · intro w hSw; (try dsimp only at hSw); go_simp; (try with_reducible rfl)
  simp only [zSA, zSB, zSC]
  refine R_take 4 10 (v := ?_) rfl rfl (by rfl) (by kernel_rfl) (fun _ _ _ h => h) hS ?_ ?_
  rotate_left
  · intro w hSw; (try dsimp only at hSw); go_simp; (try with_reducible rfl)
  simp only [zSA, zSB, zSC]
  refine R_take 5 11 (v := ?_) rfl rfl (by rfl) (by kernel_rfl) (fun _ _ _ h => h) hS ?_ ?_
  rotate_left
  · intro w hSw; (try dsimp only at hSw); go_simp; (try with_reducible rfl)
  simp only [zSA, zSB, zSC]
  refine R_take 7 13 (v := ?_) rfl rfl (by rfl) (by kernel_rfl) (fun _ _ _ h => h) hS ?_ ?_
  rotate_left
  · intro w hSw; (try dsimp only at hSw); go_simp; (try with_reducible rfl)
  simp only [zSA, zSB, zSC]
  refine R_all (rs := [6, 8]) (by kernel_rfl) (by simp) (fun i hi => ?_)
  simp only [List.mem_cons, List.not_mem_nil, or_false] at hi
  have hrow1 := h1.out.row
  have hgpb := h1.out.blk
  have hgl : gp < w1.heap.size := hgpb.lt
  have hbl : b3 < w1.heap.size := hid1.out.lt
  have T0 : Turns (own v) (own v) w1 w1.drew := (Turns.refl _ _).drew
  have hlv1 : ∀ b, v.ownBlock = some b → b < w1.heap.size := fun b hb => Nat.lt_of_lt_of_le (hlv b hb) e2
  rcases hi with rfl | rfl
  refine op_call 12 (w' := w1.drew) rfl rfl (by rfl) ?_ (delete_row (w := w1.drew) (asks_pins it.page.id b3) hrow1 hid1.out hn3) ?_
  · go_simp
  rintro e W ⟨v', rfl, r1, r2, r3⟩
  have T1 := T0.grown r2 (fun k hk => .inl hk)
  refine ⟨v', rfl, fun _ => ⟨((hgpb.turns T1 hown.1).cell 7).trans rfl, ((hid1.out.turns T1 hn3).cell 0).trans rfl⟩, ?_⟩
  simp only [zSA, zSB, zSC]
  refine R_run 8 14 (v := .slice (some ⟨W.heap.size, 0, none⟩) 1 1) (w' := W.alloc (.cells #[u32v it.page.id] 28)) rfl rfl (by rfl) (by kernel_rfl) (by go_simp) ?_ ?_
  · have T2 := T1.alloc (.cells #[u32v it.page.id] 28)
    exact fun _ => ⟨((hgpb.turns T2 hown.1).cell 7).trans rfl, ((hid1.out.turns T2 hn3).cell 0).trans rfl⟩
  simp only [zSA, zSB, zSC]
  have hm : PinMid w1 (W.alloc (.cells #[u32v it.page.id] 28)) v v' W.heap.size it.page.id ids := ⟨row_keep r1 (fun b hb => Below.heap_alloc W _ b (by have := T1.size; have := hlv1 b (r3 b hb); omega)), r3, Blk.new _ _ _, T1.size, T1.alloc _⟩
  obtain ⟨g8, hg8⟩ : ∃ g, g = W.heap.size := ⟨_, rfl⟩
  obtain ⟨W1, hW1⟩ : ∃ W1, W1 = W.alloc (.cells #[u32v it.page.id] 28) := ⟨_, rfl⟩
  rw [← hW1, ← hg8] at hm ⊢
  clear hW1 hg8 r1 r2 r3 T1
  rotate_left
  refine op_run 14 (v := .slice (some ⟨w1.drew.heap.size, 0, none⟩) 1 1) (w' := w1.drew.alloc (.cells #[u32v it.page.id] 28)) rfl rfl (by rfl) (by go_simp) ⟨?_, ?_⟩
  · have T2 := T0.alloc (.cells #[u32v it.page.id] 28)
    exact fun _ => ⟨((hgpb.turns T2 hown.1).cell 7).trans rfl, ((hid1.out.turns T2 hn3).cell 0).trans rfl⟩
  simp only [zSA, zSB, zSC]
  have T2 := T0.alloc (.cells #[u32v it.page.id] 28)
  have T2n := (Turns.refl noFoot w1).drew.alloc (.cells #[u32v it.page.id] 28)
  have hg8b := Blk.new w1.drew 28 #[u32v it.page.id]
  have hg8l : w1.heap.size ≤ w1.drew.heap.size := Nat.le_refl _
  obtain ⟨g8, hg8⟩ : ∃ g, g = w1.drew.heap.size := ⟨_, rfl⟩
  obtain ⟨W, hW⟩ : ∃ W, W = w1.drew.alloc (.cells #[u32v it.page.id] 28) := ⟨_, rfl⟩
  rw [← hW, ← hg8] at hg8b ⊢
  rw [← hW] at T2 T2n
  rw [← hg8] at hg8l
  clear hW hg8
  refine R_call 6 12 (w' := W) rfl rfl (by rfl) (by kernel_rfl) ?_ (delete_row (w := W) (asks_pins it.page.id b3) (row_keep hrow1 (fun b hb => T2n.block b (hlv1 b hb) (fun e => e))) (hid1.out.turns T2 hn3) hn3) ?_
  · go_simp
  rintro e W1 ⟨v', rfl, r1, r2, r3⟩
  have T1 := T2.grown r2 (fun k hk => .inl hk)
  refine ⟨v', rfl, fun _ => ⟨((hgpb.turns T1 hown.1).cell 7).trans rfl, ((hid1.out.turns T1 hn3).cell 0).trans rfl⟩, ?_⟩
  simp only [zSA, zSB, zSC]
  have hm : PinMid w1 W1 v v' g8 it.page.id ids := ⟨r1, r3, hg8b.grown r2 (fun e => by have := hlv1 g8 e.symm; omega), hg8l, T1⟩
  clear r1 r2 r3 T1 T2 T2n hg8b hg8l
  all_goals
    have hmt := hm.turns
    refine R_step 9 rfl (by rfl) (by kernel_rfl) ?_
    refine wp_append_own2 _ _ _ _ rfl 0 28 iu _ 1 4 Tryz.underlying33 hiu hzu0 hzu1 hzu2 rfl (by decide) _ _ _ rfl hm.row ⟨g8, 0, none⟩ 1 1 [u32v it.page.id] rfl rfl (fun j u hu => ?_) (fun x hx => by simp at hx; subst hx; rfl) ?_ ?_ (Nat.zero_le _) ?_
    · cases j with
      | zero => exact (hm.one.cell 0).trans hu
      | succ j => simp at hu
    · have := List.length_filter_le (fun x => !(x == it.page.id)) ids
      unfold maxLen; omega
    · have := List.length_filter_le (fun x => !(x == it.page.id)) ids
      omega
    intro v2 W2 q1 q2 q3
    have T2 := hmt.grown q2 (fun k hk => .inl (hm.sub k hk))
    obtain ⟨x0, x1, x2, rfl⟩ : ∃ g n c, v2 = .slice (some ⟨g, 0, none⟩) n c := by
      rcases q1.2 with ⟨_, h0⟩ | ⟨g6, c6, _, h0, _⟩
      · omega
      · exact ⟨g6, _, c6, h0⟩
    have hPR : PinRow w1 W2 v (.slice (some ⟨x0, 0, none⟩) x1 x2) it.page.id ids := ⟨by simpa using q1, fun k hk => (q3 k hk).imp (hm.sub k) (fun h => Nat.le_trans hmt.size h), T2⟩
    have f7 := (hgpb.turns T2 hown.1).frozen 7
    have c7 := (hgpb.turns T2 hown.1).cell 7
    simp only [plCells, zGA, zGB, zGC] at c7
    have hSS : W2.cell? ⟨gp, 7, none⟩ = some v ∧ W2.cell? ⟨b3, 0, none⟩ = some (u32v it.page.id) := ⟨c7, ((hid1.out.turns T2 hn3).cell 0).trans rfl⟩
    clear q1 q2 q3 T2 hm hmt
    refine ⟨fun _ => hSS, ?_⟩
    refine R_put 15 rfl ?_
    simp only [zSA, zSB, zSC]
    refine R_run 10 16 (v := ptr gp) (w' := W2) rfl rfl (by rfl) (by kernel_rfl) (by go_simp) (fun h => nomatch h) ?_
    simp only [zSA, zSB, zSC]
    refine R_run 11 17 (v := .pointer (some ⟨gp, 7, none⟩)) (w' := W2) rfl rfl (by rfl) (by kernel_rfl) (by go_simp) (fun h => nomatch h) ?_
    simp only [zSA, zSB, zSC]
    refine R_store 12 (n := .skip) (w' := W2.setCell ⟨gp, 7, none⟩ (.slice (some ⟨x0, 0, none⟩) x1 x2)) rfl rfl (by rfl) (by kernel_rfl) (by go_simp) (.inl rfl) (fun h => nomatch h) ?_
    refine R_done (by kernel_rfl) ?_ _
    exact HKH.out v' _ g8 W2 hPR
end Go.Proofs.YtndglfiepeefdaaGreat

/- The walks of package pool: writes of pages that are clean. -/
namespace Go.Proofs.YtndglfiepeefdaaGreat
open Go.RowKit Go.Conc

theorem frCells_one (it : Sp.It) (A : Option Addr) (c : Nat) : (frCells it A c).toArray.all (·.oneCell') = true := by simp [frCells, Value.oneCell']
theorem fr_size : (Tryz.prog.info? 110).map (·.size) = some 9 := by kernel_rfl

section
variable {fb : Nat} {cs : Array Value}
/-- A frame, loaded whole. -/
theorem load_frame {W : World} {i : Nat} {L : List Value} (hb : Blk W fb 110 cs) (hL : L.length = 9) (hc : ∀ j, j < 9 → cs[i * 9 + j]? = L[j]?) :
    (loadVar 110 ⟨fb, i * 9, none⟩).run Tryz.prog W = .ok (.agg L.toArray) W := by
  refine run_loadVar_part W _ _ _ _ (fun j u hu => ?_) Tryz.underlying110 rfl (by rw [hL]; exact fr_size)
  have hj : j < 9 := by have := (List.getElem?_eq_some_iff.1 hu).1; omega
  have e : (⟨fb, i * 9, none⟩ : Addr).add j = ⟨fb, i * 9 + j, none⟩ := by cases j <;> simp [Addr.add]
  rw [e, hb.cell, hc j hj, hu]
end

set_option maxRecDepth 100000 in
set_option maxHeartbeats 2000000 in
theorem pool_writes_clean {F R : Foot} {w : World} {gp gd gl at_ base fb cb mb s r : Nat} {v : Value} {cs : Array Value} {fl ids : List Nat} {p : Sp.Pl} (h : IsPlAt F R w gp gd gl at_ base fb cb mb v s r cs fl ids p)
    {l : List Nat} {gx cap : Nat} {xs : Array Value} (hb : Blk w gx 28 xs) (hgx : ¬ F gx) (hl : l.length ≤ 12) (hxs : ∀ j, j < l.length → xs[j]? = some (u32v l[j]!))
    (hin : ∀ n ∈ l, n < 4294967296 ∧ ∃ it, p.find n = some it ∧ it.dirty = false) :
    Calls Tryz.prog 65 #[ptr gp, .slice (some ⟨gx, 0, none⟩) l.length cap] w fun e w' => e = .returned (.int .i64 0) ∧ Turns (only gx) (only gx) w w' := by
  have HS := Lib.hid (sort_row (cap := cap) hb hl hxs)
  have H := Lib.hid h
  have hgl : gx < w.heap.size := hb.lt
  have hperm := (Sp.sorted_spec l).1
  have hin2 : ∀ n ∈ Sp.sorted l, n < 4294967296 ∧ ∃ it, p.find n = some it ∧ it.dirty = false := fun n hn => hin n (hperm.mem_iff.1 hn)
  have hps := hperm.length_eq
  have HIN := Lib.hid hin2
  have hn64 := h.wf.n64
  obtain ⟨i9, hi9, hz9, hz91, hz92⟩ := info_parts fr_info
  clear h hb hxs hin hin2
  go_enter Tryz.func65, Tryz.ntmps65
  go_wp2_with fail
  refine HS.out.mono ?_
  rintro e w1 ⟨rfl, cs1, hb1, hcs1, hc1, hg1⟩
  rw [← hps] at hc1
  have ht1 : Turns (only gx) (only gx) w w1 := (Turns.refl (only gx) w).grown hg1 (fun k hk => .inl (by injection hk with hk; exact hk.symm))
  have H1 := Lib.hid (H.out.keep ht1.size (fun b hb => ht1.block b (H.out.lt b hb) (fun e => hgx (by have e : b = gx := e; rw [← e]; exact hb))))
  have HC1 := Lib.hid hc1
  have HB1 := Lib.hid hb1
  have HG := Lib.hid hgx
  clear HS H hg1 hc1 hb1 hperm hgx
  generalize Sp.sorted l = q at *
  rw [← hps] at hl ⊢
  clear hps
  go_wp2_with fail
  go_loopw [5, 6, 21] (fun v5 v6 i wr => ∃ k : Nat, k ≤ q.length ∧ v5 = .slice none 0 0 ∧ v6 = .int .u64 0 ∧ i = .int .i64 k ∧ Turns noFoot noFoot w1 wr) (fun _ _ i _ => q.length - (intOf i).toNat)
  case atStart => exact ⟨0, by omega, rfl, rfl, rfl, Turns.refl _ _⟩
  case round =>
    obtain ⟨k, hk, rfl, rfl, rfl, htr⟩ := hrel
    have H2 := Lib.hid (H1.out.keep htr.size (fun b hb => htr.block b (H1.out.lt b hb) (fun e => e)))
    have hB2 := HB1.out.turns htr (fun e => e)
    by_cases hlt : k < q.length
    · have hcell := (hB2.cell k).trans (HC1.out k hlt)
      obtain ⟨hid, it, hf, hd⟩ := HIN.out q[k]! (by rw [getElem!_pos _ k hlt]; exact List.getElem_mem hlt)
      have hmeas : k + 1 ≤ q.length := hlt
      clear hB2
      generalize q[k]! = id at *
      obtain ⟨hit, rfl⟩ := Sp.Pl.find_mem hf
      obtain ⟨A, c, hA, hR, hc⟩ := H2.out.fr.item it hit
      have hlt9 := H2.out.wf.idx_lt hit
      have hload := fun (W : World) (hb : Blk W fb 110 cs) => load_frame hb rfl hc
      have HSS : ∀ W, IsPlAt F R W gp gd gl at_ base fb cb mb v s r cs fl ids p → W.cell? ⟨gp, 4, none⟩ = some (.slice (some ⟨fb, 0, none⟩) p.n p.n) ∧ W.cell? ⟨gp, 6, none⟩ = some (.map (some mb)) ∧
          (Instr.lookup 106 (.map (some mb)) (u32v it.page.id) false).run Tryz.prog W = .ok (.int .i64 it.idx) W ∧ Blk W fb 110 cs := fun W h => by
        obtain ⟨c0, c1, c2, c3, c4, c5, c6, c7⟩ := h.cells
        exact ⟨c4, c6, h.look hid hf, h.fr.blk⟩
      have HSSH := Lib.hid HSS
      have HL := Lib.hid hload
      clear HSS hload hc hA hR hf
      go_wp2_with fail
      refine R_begin (fun W => W.cell? ⟨gp, 4, none⟩ = some (.slice (some ⟨fb, 0, none⟩) p.n p.n) ∧ W.cell? ⟨gp, 6, none⟩ = some (.map (some mb)) ∧
          (Instr.lookup 106 (.map (some mb)) (u32v it.page.id) false).run Tryz.prog W = .ok (.int .i64 it.idx) W ∧ Blk W fb 110 cs) (fun j => j == 13) rfl ?_
      have hS := Lib.hid (HSSH.out wr.drew (H2.out.keep (Nat.le_refl _) (fun _ _ => rfl)))
      refine R_take 0 25 (v := ?_) rfl rfl (by rfl) (by kernel_rfl) (fun _ _ _ h => h) hS.out ?_ ?_
      rotate_left
      · intro w hSw; (try dsimp only at hSw); go_simp; (try with_reducible rfl)
      simp only [zSA, zSB, zSC]
      refine R_take 1 26 (v := ?_) rfl rfl (by rfl) (by kernel_rfl) (fun _ _ _ h => h) hS.out ?_ ?_
      rotate_left
      · intro w hSw; (try dsimp only at hSw); go_simp; (try with_reducible rfl)
      simp only [zSA, zSB, zSC]
      refine R_take 2 27 (v := ?_) rfl rfl (by rfl) (by kernel_rfl) (fun _ _ _ h => h) hS.out ?_ ?_
      rotate_left
      · intro w hSw; (try dsimp only at hSw); go_simp; (try with_reducible rfl)
      simp only [zSA, zSB, zSC]
      refine R_take 3 28 (v := ?_) rfl rfl (by rfl) (by kernel_rfl) (fun _ _ _ h => h) hS.out ?_ ?_
      rotate_left
      · intro w hSw; (try dsimp only at hSw); go_simp; (try with_reducible rfl)
      simp only [zSA, zSB, zSC]
      refine R_take 4 29 (v := ?_) rfl rfl (by rfl) (by kernel_rfl) (fun _ _ _ h => h) hS.out ?_ ?_
      rotate_left
      · intro w hSw; (try dsimp only at hSw); go_simp; (try with_reducible rfl)
      simp only [zSA, zSB, zSC]
      refine R_take 5 30 (v := ?_) rfl rfl (by rfl) (by kernel_rfl) (fun _ _ _ h => h) hS.out ?_ ?_
      rotate_left
      · intro w hSw; (try dsimp only at hSw); go_simp; (try with_reducible rfl)
      simp only [zSA, zSB, zSC]
      refine R_take 6 31 (v := ?_) rfl rfl (by rfl) (by kernel_rfl) (fun _ _ _ h => h) hS.out ?_ ?_
      rotate_left
      · intro w hSw; (try dsimp only at hSw); go_simp; (try with_reducible rfl)
      simp only [zSA, zSB, zSC]
      refine R_take 7 32 (v := ?_) rfl rfl (by rfl) (by kernel_rfl) (fun _ _ _ h => h) hS.out ?_ ?_
      rotate_left
      · intro w hSw; (try dsimp only at hSw); go_simp; (try with_reducible rfl)
      simp only [zSA, zSB, zSC]
      refine R_take 8 33 (v := ?_) rfl rfl (by rfl) (by kernel_rfl) (fun _ _ _ h => h) hS.out ?_ ?_
      rotate_left
      · intro w hSw; (try dsimp only at hSw); go_simp; (try with_reducible rfl)
      simp only [zSA, zSB, zSC]
      refine R_take 9 34 (v := ?_) rfl rfl (by rfl) (by kernel_rfl) (fun _ _ _ h => h) hS.out ?_ ?_
      rotate_left
      · intro w hSw; (try dsimp only at hSw); go_simp; (try with_reducible rfl)
      simp only [zSA, zSB, zSC]
      refine R_take 10 35 (v := ?_) rfl rfl (by rfl) (by kernel_rfl) (fun _ _ _ h => h) hS.out ?_ ?_
      rotate_left
      · intro w hSw; (try dsimp only at hSw); go_simp; (try with_reducible rfl)
      simp only [zSA, zSB, zSC]
      refine R_take 11 36 (v := .agg (frCells it A c).toArray) rfl rfl (by rfl) (by kernel_rfl) (fun _ _ _ h => h) hS.out ?_ ?_
      · intro w hSw
        exact run_op_load _ _ _ rfl rfl (HL.out w hSw.2.2.2)
      simp only [zSA, zSB, zSC]
      have hk3 := H2.out.keep (w' := wr.drew.alloc (.cells zeroFr.toArray 110)) (by simp) (fun b hb => Below.heap_alloc wr.drew _ b (H2.out.lt b hb))
      refine R_run 12 9 (v := .pointer (some ⟨wr.drew.heap.size, 0, none⟩)) (w' := wr.drew.alloc (.cells zeroFr.toArray 110)) rfl rfl (by rfl) (by kernel_rfl) (run_op_alloc _ i9 _ _ rfl hi9 hz9 rfl) (fun _ => HSSH.out _ hk3) ?_
      simp only [zSA, zSB, zSC]
      have hB9 := Blk.new wr.drew 110 zeroFr.toArray
      have ht9 := htr.drew.alloc (.cells zeroFr.toArray 110)
      have hl9 : w1.heap.size ≤ wr.drew.heap.size := htr.size
      obtain ⟨g9, hg9⟩ : ∃ g, g = wr.drew.heap.size := ⟨_, rfl⟩
      obtain ⟨w3, hw3⟩ : ∃ w3, w3 = wr.drew.alloc (.cells zeroFr.toArray 110) := ⟨_, rfl⟩
      rw [← hw3, ← hg9] at hB9 ⊢
      rw [← hw3] at ht9
      rw [← hg9] at hl9
      clear hw3 hg9 hk3 hS HL HSSH
      refine R_store 13 (n := .skip) (w' := w3.setRow g9 (frCells it A c).toArray) rfl rfl (by rfl) (by kernel_rfl) (run_op_store _ _ _ _ _ rfl rfl rfl (run_storeVar_part w3 g9 0 _ _ _ (frCells it A c).toArray hB9 fr_size (by show 0 + 9 ≤ 9; omega) (frCells_one it A c))) (.inl rfl) (fun h => nomatch h) ?_
      refine R_done (by kernel_rfl) ?_ _
      rename_i K9 hK9
      refine hK9 _ _ ?_
      have hB9 := hB9.setRow (frCells it A c).toArray
      have ht9 := ht9.setRow (g := g9) (.inr hl9) (frCells it A c).toArray
      obtain ⟨w4, hw4⟩ : ∃ w4, w4 = w3.setRow g9 (frCells it A c).toArray := ⟨_, rfl⟩
      rw [← hw4] at hB9 ht9 ⊢
      clear hw4
      have f7 := hB9.cell 7
      simp only [frCells, zGA, zGB, zGC, hd] at f7
      clear hB9 hcell
      go_wp2_with fail
      go_roundw
      case rel => exact ⟨k + 1, hmeas, rfl, rfl, by go_num, ht9⟩
      case measure => simp [intOf]; omega
    · obtain rfl : k = q.length := by omega
      clear hB2
      go_wp2_with fail
      go_ret
      exact ⟨rfl, ht1.trans (htr.wider (fun b h => h.elim) (fun b hb => .inl hb))⟩
end Go.Proofs.YtndglfiepeefdaaGreat

/- The walks of package pool: writes, in general. -/
namespace Go.Proofs.YtndglfiepeefdaaGreat
open Go.RowKit Go.Conc

theorem frCells_wash (it : Sp.It) (A : Option Addr) (c j : Nat) (hj : j < 9) : (frCells { it with dirty := false, from_ := 0 } A c)[j]? = if j = 8 then some (.int .u64 0) else if j = 7 then some (.bool false) else (frCells it A c)[j]? := by
  match j, hj with
  | 0, _ | 1, _ | 2, _ | 3, _ | 4, _ | 5, _ | 6, _ | 7, _ | 8, _ => rfl

/-- A page that is clean now. -/
theorem IsPlAt.washed {F R : Foot} {w : World} {gp gd gl at_ base fb cb mb s r : Nat} {v : Value} {cs : Array Value} {fl ids : List Nat} {p : Sp.Pl} (h : IsPlAt F R w gp gd gl at_ base fb cb mb v s r cs fl ids p) {it : Sp.It} (hit : it ∈ p.items) :
    IsPlAt F R ((w.setCell ⟨fb, it.idx * 9 + 7, none⟩ (.bool false)).setCell ⟨fb, it.idx * 9 + 8, none⟩ (.int .u64 0)) gp gd gl at_ base fb cb mb v s r ((cs.setIfInBounds (it.idx * 9 + 7) (.bool false)).setIfInBounds (it.idx * 9 + 8) (.int .u64 0)) fl ids (p.upd it.page.id fun x => { x with dirty := false, from_ := 0 }) := by
  obtain ⟨A, c, hA, hR, hc⟩ := h.fr.item it hit
  have hkeep : ∀ b, F b → b ≠ fb → ((w.setCell ⟨fb, it.idx * 9 + 7, none⟩ (.bool false)).setCell ⟨fb, it.idx * 9 + 8, none⟩ (.int .u64 0)).heap[b]? = w.heap[b]? := fun b _ hb => (Below.heap_setCell _ _ _ b hb).trans (Below.heap_setCell w _ _ b hb)
  have hsz : w.heap.size ≤ ((w.setCell ⟨fb, it.idx * 9 + 7, none⟩ (.bool false)).setCell ⟨fb, it.idx * 9 + 8, none⟩ (.int .u64 0)).heap.size := by simp [World.setCell]
  refine h.upd (f := fun x => { x with dirty := false, from_ := 0 }) ⟨fun _ => rfl, fun _ => rfl⟩ hit ⟨(h.wf.pg it hit).1, (h.wf.pg it hit).2, (h.wf.small it hit).1, by simp⟩ hsz hkeep ((h.fr.blk.set_ _ _).set_ _ _) ((Framed.cell (by omega) _).trans (Framed.cell (by omega) _)) ⟨A, c, hA, hR.keep hsz (fun b hb => hkeep b (h.rows b hb).1 (h.rows b hb).2.2.1), fun j hj => ?_⟩
  have hlt := h.wf.idx_lt hit
  have hcs := h.fr.size
  rw [frCells_wash it A c j hj]
  split
  · rename_i e
    subst e
    rw [Array.getElem?_setIfInBounds_self_of_lt (by simp; omega)]
  · rw [Array.getElem?_setIfInBounds_ne (by omega)]
    split
    · rename_i e
      subst e
      rw [Array.getElem?_setIfInBounds_self_of_lt (by omega)]
    · rw [Array.getElem?_setIfInBounds_ne (by omega)]
      exact hc j hj

/-- A pool, its disk and its log in memory. -/
structure Mem (F D G R : Foot) (w : World) (gp gd gl at_ base fb cb mb : Nat) (v : Value) (s r : Nat) (cs : Array Value) (fl ids : List Nat) (p : Sp.Pl) (d : Sp.Dk) (l : Sp.Lg) : Prop where
  pl : IsPlAt F R w gp gd gl at_ base fb cb mb v s r cs fl ids p
  dk : IsDk D w gd d
  lg : IsLg G w gl gd l
  FD : ∀ b, F b → ¬ D b
  FG : ∀ b, F b → ¬ G b
  DG : ∀ b, D b → ¬ G b
/-- What is asked of a disk and its log. -/
structure DkLg (at_ base : Nat) (d : Sp.Dk) (l : Sp.Lg) : Prop where
  loose : d.loose = []
  fuse : d.fuse = -1
  fit : l.at_ + l.n ≤ d.sure.length
  area : at_ + 33 ≤ d.sure.length
  homes : base ≤ d.sure.length
  next : l.next < 4611686018427387904

/-- All blocks of the three. -/
abbrev allF (F D G : Foot) : Foot := fun b => F b ∨ D b ∨ G b

/-- What a force up to an LSN that there is leaves. -/
theorem log_force {G D : Foot} {w : World} {gl gd : Nat} {l : Sp.Lg} {d : Sp.Dk} {at_ base : Nat} (h : IsLg G w gl gd l) (hd : IsDk D w gd d) (hDG : ∀ b, D b → ¬ G b) (ok : DkLg at_ base d l) {lsn : Nat} (hl : lsn ≤ l.next) :
    Calls Tryz.prog 14 #[ptr gl, .int .u64 lsn] w (ForcePost G D w gl gd (l.forceTo lsn) (d.forceTo l lsn)) := by
  by_cases h1 : lsn < l.forced ∨ l.forced = l.next
  · refine (log_force_idle h hl h1).mono ?_
    rintro e w' ⟨rfl, hb⟩
    unfold Sp.Lg.forceTo Sp.Dk.forceTo
    rw [if_pos h1, if_pos h1]
    exact ⟨D, rfl, hd.below hb, h.below hb, fun b hb => .inl hb, Turns.of_below hb _⟩
  · have := log_force_do h hd (fun b hG hD => hDG b hD hG) ok.loose ok.fuse ok.fit ok.next hl (by omega) (by omega)
    unfold Sp.Lg.forceTo Sp.Dk.forceTo
    rw [if_neg h1, if_neg h1]
    exact this

/-- What writes answers and leaves, of some pages in order. -/
def Wrote (at_ base : Nat) (p : Sp.Pl) (d : Sp.Dk) (l : Sp.Lg) (q : List Nat) (c : Nat) (p' : Sp.Pl) (d' : Sp.Dk) (l' : Sp.Lg) : Prop :=
  (p.dirt q = [] ∧ c = 0 ∧ p' = p ∧ d' = d ∧ l' = l) ∨
  (p.dirt q ≠ [] ∧ l.next < p.topOf q ∧ c = 2 ∧ p' = p ∧ d' = d ∧ l' = l) ∨
  (p.dirt q ≠ [] ∧ p.topOf q ≤ l.next ∧ c = 0 ∧ p' = p.wash ((p.dirt q).map (·.1)) ∧ d' = (d.forceTo l (p.topOf q)).acts (Sp.twinActs at_ base (p.dirt q)) ∧ l' = l.forceTo (p.topOf q))
def WrtPost (F D G R : Foot) (w : World) (gp gd gl at_ base fb cb mb : Nat) (v : Value) (s r : Nat) (fl ids : List Nat) (p : Sp.Pl) (d : Sp.Dk) (l : Sp.Lg) (gx : Nat) (q : List Nat) (e : Ending) (w' : World) : Prop :=
  ∃ (c : Nat) (D' : Foot) (cs' : Array Value) (p' : Sp.Pl) (d' : Sp.Dk) (l' : Sp.Lg), e = .returned (.int .i64 c) ∧ Wrote at_ base p d l q c p' d' l' ∧ (c ≠ 0 → D' = D) ∧ Mem F D' G R w' gp gd gl at_ base fb cb mb v s r cs' fl ids p' d' l' ∧ Turns (fun b => allF F D G b ∨ b = gx) (fun b => allF F D' G b ∨ b = gx) w w'

theorem home_all : (Tryz.prog.info? 86).map (fun i => (i.zero, i.size, i.bytes)) = some (some (.agg #[.int .u32 0, .string ⟨#[]⟩]), 2, 24) := home_info

set_option maxRecDepth 100000 in
set_option maxHeartbeats 8000000 in
theorem pool_writes_dirty {F D G R : Foot} {w : World} {gp gd gl at_ base fb cb mb s r : Nat} {v : Value} {cs : Array Value} {fl ids : List Nat} {p : Sp.Pl} {d : Sp.Dk} {l : Sp.Lg} (h : Mem F D G R w gp gd gl at_ base fb cb mb v s r cs fl ids p d l) (ok : DkLg at_ base d l)
    {ql : List Nat} {gx cap : Nat} {xs : Array Value} (hb : Blk w gx 28 xs) (hgx : ¬ allF F D G gx) (hl : ql.length ≤ 12) (hxs : ∀ j, j < ql.length → xs[j]? = some (u32v ql[j]!))
    (hin : ∀ n ∈ ql, n < 4294967296 ∧ Sp.inside d.sure.length at_ base n ∧ ∃ it, p.find n = some it) (hnd : ql.Nodup) (h8 : (p.dirt (Sp.sorted ql)).length ≤ 8) (hdirt : p.dirt (Sp.sorted ql) ≠ []) :
    Calls Tryz.prog 65 #[ptr gp, .slice (some ⟨gx, 0, none⟩) ql.length cap] w (WrtPost F D G R w gp gd gl at_ base fb cb mb v s r fl ids p d l gx (Sp.sorted ql)) := by
  have HS := Lib.hid (sort_row (cap := cap) hb hl hxs)
  have HMEM := Lib.hid h
  have hgl : gx < w.heap.size := hb.lt
  have hperm := (Sp.sorted_spec ql).1
  have hin2 : ∀ n ∈ Sp.sorted ql, n < 4294967296 ∧ Sp.inside d.sure.length at_ base n ∧ ∃ it, p.find n = some it := fun n hn => hin n (hperm.mem_iff.1 hn)
  have hnd2 := hperm.nodup_iff.2 hnd
  have hps := hperm.length_eq
  have HIN := Lib.hid hin2
  have HND := Lib.hid hnd2
  have H8 := Lib.hid h8
  have HDI := Lib.hid hdirt
  have hn64 := h.pl.wf.n64
  obtain ⟨i9, hi9, hz9, hz91, hz92⟩ := info_parts fr_info
  obtain ⟨iH, hiH0, hyH00, hyH10, hyH20⟩ := info_parts home_all
  have hiH := Lib.hid hiH0
  have hyH0 := Lib.hid hyH00
  have hyH1 := Lib.hid hyH10
  have hyH2 := Lib.hid hyH20
  clear hiH0 hyH00 hyH10 hyH20 h hb hxs hin hin2 hnd hnd2 h8 hdirt
  go_enter Tryz.func65, Tryz.ntmps65
  go_wp2_with fail
  refine HS.out.mono ?_
  rintro e w1 ⟨rfl, cs1, hb1, hcs1, hc1, hg1⟩
  rw [← hps] at hc1
  have ht1 : Turns (only gx) (only gx) w w1 := (Turns.refl (only gx) w).grown hg1 (fun k hk => .inl (by injection hk with hk; exact hk.symm))
  have H1 := Lib.hid (HMEM.out.pl.keep ht1.size (fun b hb => ht1.block b (HMEM.out.pl.lt b hb) (fun e => hgx (by have e : b = gx := e; rw [← e]; exact .inl hb))))
  have HDK1 := Lib.hid (HMEM.out.dk.keep (fun b hb => ht1.block b (HMEM.out.dk.in_ b hb) (fun e => hgx (by have e : b = gx := e; rw [← e]; exact .inr (.inl hb)))))
  have HLG1 := Lib.hid (HMEM.out.lg.keep (fun b hb => ht1.block b (HMEM.out.lg.in_ b hb) (fun e => hgx (by have e : b = gx := e; rw [← e]; exact .inr (.inr hb)))))
  have HT1 := Lib.hid ht1
  have HC1 := Lib.hid hc1
  have HB1 := Lib.hid hb1
  have HG := Lib.hid hgx
  clear HS hg1 hc1 hb1 hperm hgx ht1
  generalize Sp.sorted ql = q at *
  rw [← hps] at hl ⊢
  clear hps
  go_wp2_with fail
  go_loopw [5, 6, 21] (fun v5 v6 i wr => ∃ (k : Nat) (A5 : Option Addr) (n5 c5 : Nat), k ≤ q.length ∧ v5 = .slice A5 n5 c5 ∧ n5 = (p.dirt (q.take k)).length ∧ wr.ownsRow w1.heap.size 86 2 (.slice A5 n5 c5) (p.dirt (q.take k)).length (hcs (p.dirt (q.take k))) ∧ v6 = .int .u64 (p.topOf (q.take k)) ∧ i = .int .i64 k ∧ Turns noFoot noFoot w1 wr) (fun _ _ i _ => q.length - (intOf i).toNat)
  case atStart => exact ⟨0, none, 0, 0, by omega, rfl, rfl, World.ownsRow_nil _ _ _ _, rfl, rfl, Turns.refl _ _⟩
  case round =>
    obtain ⟨k, A5, n5, c5, hk, rfl, hn5, hown, rfl, rfl, htr⟩ := hrel
    have H2 := Lib.hid (H1.out.keep htr.size (fun b hb => htr.block b (H1.out.lt b hb) (fun e => e)))
    have hB2 := HB1.out.turns htr (fun e => e)
    have HO := Lib.hid hown
    have HN5 := Lib.hid hn5
    clear hown hn5
    by_cases hlt : k < q.length
    · have hcell := (hB2.cell k).trans (HC1.out k hlt)
      obtain ⟨hid, hins, it, hf⟩ := HIN.out q[k]! (by rw [getElem!_pos _ k hlt]; exact List.getElem_mem hlt)
      have hDT := Lib.hid (Sp.Pl.dirt_take (p := p) hlt)
      have hTT := Lib.hid (Sp.Pl.topOf_take (p := p) hlt)
      have hmeas : k + 1 ≤ q.length := hlt
      have hdlen := Sp.Pl.dirt_len p (q.take k)
      have htkl : (q.take k).length ≤ k := by simp; omega
      clear hB2
      generalize q[k]! = id at *
      obtain ⟨hit, rfl⟩ := Sp.Pl.find_mem hf
      have hisd : Hid (p.isD it.page.id = it.dirty ∧ p.lsnAt it.page.id = it.page.lsn ∧ p.pgAt it.page.id = pgBytes it.page) := Lib.hid (by unfold Sp.Pl.isD Sp.Pl.lsnAt Sp.Pl.pgAt; rw [hf]; exact ⟨rfl, rfl, rfl⟩)
      have hpgw := H2.out.wf.pg it hit
      obtain ⟨A, c, hA, hR, hc⟩ := H2.out.fr.item it hit
      have hlt9 := H2.out.wf.idx_lt hit
      have hload := fun (W : World) (hb : Blk W fb 110 cs) => load_frame hb rfl hc
      have HSS : ∀ W, IsPlAt F R W gp gd gl at_ base fb cb mb v s r cs fl ids p → W.cell? ⟨gp, 4, none⟩ = some (.slice (some ⟨fb, 0, none⟩) p.n p.n) ∧ W.cell? ⟨gp, 6, none⟩ = some (.map (some mb)) ∧
          (Instr.lookup 106 (.map (some mb)) (u32v it.page.id) false).run Tryz.prog W = .ok (.int .i64 it.idx) W ∧ Blk W fb 110 cs := fun W h => by
        obtain ⟨c0, c1, c2, c3, c4, c5, c6, c7⟩ := h.cells
        exact ⟨c4, c6, h.look hid hf, h.fr.blk⟩
      have HSSH := Lib.hid HSS
      have HL := Lib.hid hload
      have HRR := Lib.hid hR
      have hRl : ∀ b, R b → b < wr.heap.size := fun b hb => H2.out.lt b (H2.out.rows b hb).1
      clear HSS hload hc hA hR hf
      go_wp2_with fail
      refine R_begin (fun W => W.cell? ⟨gp, 4, none⟩ = some (.slice (some ⟨fb, 0, none⟩) p.n p.n) ∧ W.cell? ⟨gp, 6, none⟩ = some (.map (some mb)) ∧
          (Instr.lookup 106 (.map (some mb)) (u32v it.page.id) false).run Tryz.prog W = .ok (.int .i64 it.idx) W ∧ Blk W fb 110 cs) (fun j => j == 13) rfl ?_
      have hS := Lib.hid (HSSH.out wr.drew (H2.out.keep (Nat.le_refl _) (fun _ _ => rfl)))
      refine R_take 0 25 (v := ?_) rfl rfl (by rfl) (by kernel_rfl) (fun _ _ _ h => h) hS.out ?_ ?_
      rotate_left
      · intro w hSw; (try dsimp only at hSw); go_simp; (try with_reducible rfl)
      simp only [zSA, zSB, zSC]
      refine R_take 1 26 (v := ?_) rfl rfl (by rfl) (by kernel_rfl) (fun _ _ _ h => h) hS.out ?_ ?_
      rotate_left
      · intro w hSw; (try dsimp only at hSw); go_simp; (try with_reducible rfl)
      simp only [zSA, zSB, zSC]
      refine R_take 2 27 (v := ?_) rfl rfl (by rfl) (by kernel_rfl) (fun _ _ _ h => h) hS.out ?_ ?_
      rotate_left
      · intro w hSw; (try dsimp only at hSw); go_simp; (try with_reducible rfl)
      simp only [zSA, zSB, zSC]
      refine R_take 3 28 (v := ?_) rfl rfl (by rfl) (by kernel_rfl) (fun _ _ _ h => h) hS.out ?_ ?_
      rotate_left
      · intro w hSw; (try dsimp only at hSw); go_simp; (try with_reducible rfl)
      simp only [zSA, zSB, zSC]
      refine R_take 4 29 (v := ?_) rfl rfl (by rfl) (by kernel_rfl) (fun _ _ _ h => h) hS.out ?_ ?_
      rotate_left
      · intro w hSw; (try dsimp only at hSw); go_simp; (try with_reducible rfl)
      simp only [zSA, zSB, zSC]
      refine R_take 5 30 (v := ?_) rfl rfl (by rfl) (by kernel_rfl) (fun _ _ _ h => h) hS.out ?_ ?_
      rotate_left
      · intro w hSw; (try dsimp only at hSw); go_simp; (try with_reducible rfl)
      simp only [zSA, zSB, zSC]
      refine R_take 6 31 (v := ?_) rfl rfl (by rfl) (by kernel_rfl) (fun _ _ _ h => h) hS.out ?_ ?_
      rotate_left
      · intro w hSw; (try dsimp only at hSw); go_simp; (try with_reducible rfl)
      simp only [zSA, zSB, zSC]
      refine R_take 7 32 (v := ?_) rfl rfl (by rfl) (by kernel_rfl) (fun _ _ _ h => h) hS.out ?_ ?_
      rotate_left
      · intro w hSw; (try dsimp only at hSw); go_simp; (try with_reducible rfl)
      simp only [zSA, zSB, zSC]
      refine R_take 8 33 (v := ?_) rfl rfl (by rfl) (by kernel_rfl) (fun _ _ _ h => h) hS.out ?_ ?_
      rotate_left
      · intro w hSw; (try dsimp only at hSw); go_simp; (try with_reducible rfl)
      simp only [zSA, zSB, zSC]
      refine R_take 9 34 (v := ?_) rfl rfl (by rfl) (by kernel_rfl) (fun _ _ _ h => h) hS.out ?_ ?_
      rotate_left
      · intro w hSw; (try dsimp only at hSw); go_simp; (try with_reducible rfl)
      simp only [zSA, zSB, zSC]
      refine R_take 10 35 (v := ?_) rfl rfl (by rfl) (by kernel_rfl) (fun _ _ _ h => h) hS.out ?_ ?_
      rotate_left
      · intro w hSw; (try dsimp only at hSw); go_simp; (try with_reducible rfl)
      simp only [zSA, zSB, zSC]
      refine R_take 11 36 (v := .agg (frCells it A c).toArray) rfl rfl (by rfl) (by kernel_rfl) (fun _ _ _ h => h) hS.out ?_ ?_
      · intro w hSw
        exact run_op_load _ _ _ rfl rfl (HL.out w hSw.2.2.2)
      simp only [zSA, zSB, zSC]
      have hk3 := H2.out.keep (w' := wr.drew.alloc (.cells zeroFr.toArray 110)) (by simp) (fun b hb => Below.heap_alloc wr.drew _ b (H2.out.lt b hb))
      refine R_run 12 9 (v := .pointer (some ⟨wr.drew.heap.size, 0, none⟩)) (w' := wr.drew.alloc (.cells zeroFr.toArray 110)) rfl rfl (by rfl) (by kernel_rfl) (run_op_alloc _ i9 _ _ rfl hi9 hz9 rfl) (fun _ => HSSH.out _ hk3) ?_
      simp only [zSA, zSB, zSC]
      have hB9 := Blk.new wr.drew 110 zeroFr.toArray
      have ht9 := htr.drew.alloc (.cells zeroFr.toArray 110)
      have hl9 : w1.heap.size ≤ wr.drew.heap.size := htr.size
      have htw9 := (Turns.refl noFoot wr).drew.alloc (.cells zeroFr.toArray 110)
      have hlw9 : wr.heap.size ≤ wr.drew.heap.size := Nat.le_refl _
      obtain ⟨g9, hg9⟩ : ∃ g, g = wr.drew.heap.size := ⟨_, rfl⟩
      obtain ⟨w3, hw3⟩ : ∃ w3, w3 = wr.drew.alloc (.cells zeroFr.toArray 110) := ⟨_, rfl⟩
      rw [← hw3, ← hg9] at hB9 ⊢
      rw [← hw3] at ht9 htw9
      rw [← hg9] at hl9 hlw9
      clear hw3 hg9 hk3 hS HL HSSH
      refine R_store 13 (n := .skip) (w' := w3.setRow g9 (frCells it A c).toArray) rfl rfl (by rfl) (by kernel_rfl) (run_op_store _ _ _ _ _ rfl rfl rfl (run_storeVar_part w3 g9 0 _ _ _ (frCells it A c).toArray hB9 fr_size (by show 0 + 9 ≤ 9; omega) (frCells_one it A c))) (.inl rfl) (fun h => nomatch h) ?_
      refine R_done (by kernel_rfl) ?_ _
      rename_i K9 hK9
      refine hK9 _ _ ?_
      have hB9 := hB9.setRow (frCells it A c).toArray
      have ht9 := ht9.setRow (g := g9) (.inr hl9) (frCells it A c).toArray
      have htw9 := htw9.setRow (g := g9) (.inr hlw9) (frCells it A c).toArray
      obtain ⟨w4, hw4⟩ : ∃ w4, w4 = w3.setRow g9 (frCells it A c).toArray := ⟨_, rfl⟩
      rw [← hw4] at hB9 ht9 htw9 ⊢
      clear hw4
      have hOw4 := own_keep HO.out (w' := w4) (fun b hb => htw9.block b (HO.out.lt b hb).2 (fun e => e))
      have f7 := hB9.cell 7
      simp only [frCells, zGA, zGB, zGC] at f7
      obtain ⟨hisd, hlsn, hpga⟩ := hisd.out
      rw [hisd, hpga] at hDT
      rw [hisd, hlsn] at hTT
      cases hd : it.dirty with
      | false =>
        rw [hd] at f7 hDT hTT
        rw [if_neg (by decide)] at hDT hTT
        have HO4 := Lib.hid hOw4
        clear hB9 hcell hOw4 htw9 hpga hlsn hisd hd
        go_wp2_with fail
        go_roundw
        case rel => exact ⟨k + 1, A5, n5, c5, hmeas, rfl, by rw [hDT.out]; exact HN5.out, by rw [hDT.out]; exact HO4.out, by rw [hTT.out], by go_num, ht9⟩
        case measure => simp [intOf]; omega
      | true =>
        rw [hd] at f7 hDT hTT
        rw [if_pos rfl] at hDT hTT
        have z0 := hB9.cell 0
        have z1 := hB9.cell 1
        have z2 := hB9.cell 2
        have z3 := hB9.cell 3
        have z4 := hB9.cell 4
        have z5 := hB9.cell 5
        simp only [frCells, zGA, zGB, zGC] at z0 z1 z2 z3 z4 z5
        have HPE := Lib.hid (page_encode (w := w4) (c := c) (HRR.out.keep (w' := w4) htw9.size (fun b hb => htw9.block b (hRl b hb) (fun e => e))) hpgw.1 hpgw.2)
        have HO4 := Lib.hid hOw4
        have HB9 := Lib.hid hB9
        have hsw4 := htw9.size
        clear hB9 hcell hOw4 htw9 hpga hlsn hisd hd HRR
        go_wp2_with fail
        refine HPE.out.mono ?_
        rintro e w5 ⟨rfl, hb5⟩
        have HO5 := Lib.hid (own_below HO4.out hb5)
        have z3' := (HB9.out.below hb5 HB9.out.lt).cell 3
        simp only [frCells, zGA, zGB, zGC] at z3'
        have ht5 := ht9.next hb5
        clear z0 z1 z2 z3 z4 z5 f7 HO4 HPE
        have hba := (Below.refl w5.heap.size w5).alloc (Nat.le_refl _) (.cells #[u32v it.page.id, str (pgBytes it.page)] 86)
        have hOa := Lib.hid (own_below HO5.out hba)
        have hs5 := hb5.size
        have hs1 := htr.size
        have hn13 : (p.dirt (q.take k)).length ≤ 12 := by omega
        have hmx : max ((p.topOf (q.take k) : Nat) : Int) (it.page.lsn : Nat) = ((max (p.topOf (q.take k)) it.page.lsn : Nat) : Int) := by omega
        rw [HN5.out] at *
        go_wp2_with (at_builtin; refine wpList_append_own2 _ rfl _ _ 153 rfl w1.heap.size 86 iH _ 2 24 Tryz.underlying153 hiH.out hyH0.out hyH1.out hyH2.out rfl (by decide) _ _ _ rfl hOa.out ⟨w5.heap.size, 0, none⟩ 1 1 [u32v it.page.id, str (pgBytes it.page)] rfl rfl (fun j u hu => ?cells) ?one (by unfold maxLen; omega) (by omega) (by simp; omega) ?next)
        case cells =>
          match j, hu with
          | 0, hu => exact ((Blk.new w5 _ _).cell 0).trans hu
          | 1, hu => exact ((Blk.new w5 _ _).cell 1).trans hu
          | j + 2, hu => simp at hu
        case one =>
          intro u hu
          simp only [List.mem_cons, List.not_mem_nil, or_false] at hu
          rcases hu with rfl | rfl <;> rfl
        case next =>
          intro v6 w6 hown6 hgrow6 _
          have hB6 := (((HB9.out.below hb5 HB9.out.lt).below hba (by have := (HB9.out.below hb5 HB9.out.lt).lt; exact this))).grown hgrow6 (fun e => own_ne hOa.out ((HB9.out.below hb5 HB9.out.lt).below hba (by have := (HB9.out.below hb5 HB9.out.lt).lt; exact this)) (by decide) e.symm)
          have z3' := hB6.cell 3
          simp only [frCells, zGA, zGB, zGC] at z3'
          have ht6 : Turns noFoot noFoot w1 w6 := by
            have h1 := (ht5.next hba).grown hgrow6 (fun b hb => .inr (hOa.out.lt b hb).1)
            exact h1
          obtain ⟨g6, c6, rfl⟩ := own_form' hown6 (by omega)
          have HO6 := Lib.hid hown6
          clear hown6 hgrow6 hB6 hOa hba HB9
          go_wp2_with fail
          go_roundw
          case rel =>
            refine ⟨k + 1, _, _, c6, hmeas, rfl, by rw [hDT.out]; simp, ?_, by rw [hTT.out], by go_num, ht6⟩
            rw [hDT.out, List.length_append, hcs_app]
            exact HO6.out
          case measure => simp [intOf]; omega
    · obtain rfl : k = q.length := by omega
      rw [List.take_length] at HO HN5 ⊢
      clear hB2 H2
      have hn1 : 1 ≤ (p.dirt q).length := List.length_pos_iff.2 HDI.out
      have hdn0 : ((n5 : Int) == 0) = false := by have := HN5.out; simp; omega
      obtain ⟨gh, ch, hv5⟩ := own_form' HO.out hn1
      injection hv5 with e1 e2 e3
      subst e1 e2 e3
      have HLG := Lib.hid (HLG1.out.keep (fun b hb => htr.block b (HLG1.out.in_ b hb) (fun e => e)))
      have HDK := Lib.hid (HDK1.out.keep (fun b hb => htr.block b (HDK1.out.in_ b hb) (fun e => e)))
      have H2 := Lib.hid (H1.out.keep htr.size (fun b hb => htr.block b (H1.out.lt b hb) (fun e => e)))
      obtain ⟨c0, c1, c2, c3, c4, c5', c6, c7⟩ := H2.out.cells
      have hd1 : ((p.dirt q).length == 0) = false := by simp; exact HDI.out
      have hd2 : ¬ p.dirt q = [] := HDI.out
      have hTW : Turns (fun b => allF F D G b ∨ b = gx) (fun b => allF F D G b ∨ b = gx) w wr :=
        (HT1.out.wider (fun b hb => .inr hb) (fun b hb => .inl hb)).trans (htr.wider (fun b hb => hb.elim) (fun b hb => .inl hb))
      have hs1 := HT1.out.size
      have hsr := htr.size
      have HTW := Lib.hid hTW
      clear c0 c2 c3 c4 c5' c6 c7 hTW
      by_cases htop : p.topOf q ≤ l.next
      · have HFO := Lib.hid (log_force HLG.out HDK.out HMEM.out.DG ok htop)
        go_wp2_with fail
        refine HFO.out.mono ?_
        rintro e w5 ⟨D5, rfl, hD5, hG5, hD5n, ht5⟩
        have hDin := HMEM.out.dk.in_
        have hGin := HMEM.out.lg.in_
        have hFin := HMEM.out.pl.lt
        have hO5 := own_keep HO.out (w' := w5) (fun b hb => ht5.block b (HO.out.lt b hb).2 (fun e => by
          have := (HO.out.lt b hb).1
          rcases e with e | e
          · have := hGin b e; omega
          · have := hDin b e; omega))
        have H5 := Lib.hid (H2.out.keep ht5.size (fun b hb => ht5.block b (H2.out.lt b hb) (fun e => e.elim (HMEM.out.FG b hb) (HMEM.out.FD b hb))))
        obtain ⟨c0, c1', c2, c3, c4, c5', c6, c7⟩ := H5.out.cells
        have hsp := Sp.Dk.forceTo_spec ok.loose ok.fuse HLG.out.wf (p.topOf q)
        have hR5 := own_reads hO5
        have hpp : ∀ x ∈ p.dirt q, x.1 < 4294967296 ∧ x.2.length = 512 ∧ Sp.inside (d.forceTo l (p.topOf q)).sure.length at_ base x.1 := fun x hx => by
          obtain ⟨hx1, it, hf, _, hx2⟩ := Sp.Pl.dirt_mem hx
          obtain ⟨i1, i2, _⟩ := HIN.out x.1 hx1
          rw [hsp.2.2.1, hx2]
          exact ⟨i1, pgBytes_length (H5.out.wf.pg it (Sp.Pl.find_mem hf).1).2, i2⟩
        have hTWR := twin_write (w := w5.drew) (c := c5) (hD5.below (Below.refl _ w5).drew) hsp.2.1 (by rw [hsp.1]; simp) at_ base hR5 hn1 H8.out hpp (by rw [Sp.Pl.dirt_ids]; exact HND.out.filter _) (by rw [hsp.2.2.1]; exact ok.area) (by rw [hsp.2.2.1]; exact ok.homes)
        have HTWR := Lib.hid hTWR
        have hS := Lib.hid (show w5.drew.cell? ⟨gp, 0, none⟩ = some (ptr gd) ∧ w5.drew.cell? ⟨gp, 2, none⟩ = some (.int .i64 at_) ∧ w5.drew.cell? ⟨gp, 3, none⟩ = some (.int .i64 base) from ⟨c0, c2, c3⟩)
        have HO5 := Lib.hid hO5
        have HT5 := Lib.hid ht5
        have HG5 := Lib.hid hG5
        have hsz5 := ht5.size
        clear c0 c1' c2 c3 c4 c5' c6 c7 hsp hR5 hpp hTWR hD5 hO5 ht5 hG5 HFO c1
        go_wp2_with fail
        refine R_begin (fun W => W.cell? ⟨gp, 0, none⟩ = some (ptr gd) ∧ W.cell? ⟨gp, 2, none⟩ = some (.int .i64 at_) ∧ W.cell? ⟨gp, 3, none⟩ = some (.int .i64 base)) (fun j => decide (13 ≤ j)) rfl ?_
        refine R_tt 0 72 hS.out ?_
        refine R_tt 1 73 hS.out ?_
        refine R_tt 2 74 hS.out ?_
        refine R_tt 3 75 hS.out ?_
        refine R_tt 4 76 hS.out ?_
        refine R_tt 5 77 hS.out ?_
        refine R_tt 6 78 hS.out ?_
        refine R_tt 7 79 hS.out ?_
        refine R_tt 8 80 hS.out ?_
        refine R_tt 9 81 hS.out ?_
        refine R_tt 10 82 hS.out ?_
        refine R_tt 11 83 hS.out ?_
        refine R_tt 12 84 hS.out ?_
        simp only [zSA, zSB, zSC]
        refine R_call 13 85 (w' := w5.drew) rfl rfl (by rfl) (by kernel_rfl) ?_ HTWR.out ?_
        · go_simp
        rintro e w6 ⟨D6, rfl, hD6, ht6⟩
        refine ⟨_, rfl, (fun h => nomatch h), ?_⟩
        simp only [zSA, zSB, zSC]
        refine R_run 14 13 (v := .int .i64 0) (w' := w6) rfl rfl (by rfl) (by kernel_rfl) (by go_simp) (fun h => nomatch h) ?_
        simp only [zSA, zSB, zSC]
        refine R_done (by kernel_rfl) ?_ _
        rename_i K9 hK9
        refine hK9 _ _ ?_
        clear hK9 hS HTWR
        have hD6n : ∀ b, D6 b → D b ∨ wr.heap.size ≤ b := fun b hb => by
          rcases ht6.foot b hb with h | h
          · exact hD5n b h
          · exact .inr (Nat.le_trans hsz5 h)
        have hF6 : ∀ b, F b → ¬ D5 b := fun b hF hD => by
          rcases hD5n b hD with h | h
          · exact HMEM.out.FD b hF h
          · have := hFin b hF; omega
        have hG6 : ∀ b, G b → ¬ D5 b := fun b hF hD => by
          rcases hD5n b hD with h | h
          · exact HMEM.out.DG b h hF
          · have := hGin b hF; omega
        replace ht6 : Turns D5 D6 w5 w6 := ⟨ht6.os, ht6.tape, ht6.output, ht6.size, ht6.block, ht6.foot⟩
        have hO6 := own_keep HO5.out (w' := w6) (fun b hb => ht6.block b (HO5.out.lt b hb).2 (fun e => by
          have h1 := (HO.out.lt b hb)
          rcases hD5n b e with h | h
          · have := hDin b h; omega
          · omega))
        have H6 := Lib.hid (H5.out.keep ht6.size (fun b hb => ht6.block b (H5.out.lt b hb) (hF6 b hb)))
        have HG6 := Lib.hid (HG5.out.keep (fun b hb => ht6.block b (HG5.out.in_ b hb) (hG6 b hb)))
        have HD6 := Lib.hid hD6
        have hTW6 : Turns (fun b => allF F D G b ∨ b = gx) (fun b => allF F D6 G b ∨ b = gx) w w6 := by
          refine ⟨ht6.os.trans (HT5.out.os.trans HTW.out.os), ht6.tape.trans (HT5.out.tape.trans HTW.out.tape), ht6.output.trans (HT5.out.output.trans HTW.out.output), by have := ht6.size; omega, fun b hb hn => ?_, fun b hb => ?_⟩
          · rw [ht6.block b (by omega) (fun e => by
              rcases hD5n b e with h | h
              · exact hn (.inl (.inr (.inl h)))
              · omega), HT5.out.block b (by omega) (fun e => hn (e.elim (fun h => .inl (.inr (.inr h))) (fun h => .inl (.inr (.inl h)))))]
            exact HTW.out.block b hb hn
          · rcases hb with (h | h | h) | h
            · exact .inl (.inl (.inl h))
            · rcases hD6n b h with h | h
              · exact .inl (.inl (.inr (.inl h)))
              · exact .inr (by omega)
            · exact .inl (.inl (.inr (.inr h)))
            · exact .inl (.inr h)
        have HTW6 := Lib.hid hTW6
        have HO6 := Lib.hid hO6
        have hgh1 := (HO.out.lt gh rfl)
        have hFgh : ¬ F gh := fun e => by have := hFin gh e; omega
        have hFz : ∀ b, F b → b < w.heap.size := hFin
        have hs6 := ht6.size
        clear hTW6 hO6 hD6 ht6 HT5 HO5 H5 HG5 HTW
        go_wp2_with fail
        go_loopw [91] (fun i wx => ∃ (j : Nat) (csj : Array Value), j ≤ (p.dirt q).length ∧ i = .int .i64 j ∧ IsPlAt F R wx gp gd gl at_ base fb cb mb v s r csj fl ids (p.wash (((p.dirt q).take j).map (·.1))) ∧ Turns F F w6 wx) (fun i _ => (p.dirt q).length - (intOf i).toNat)
        case atStart => exact ⟨0, cs, by omega, rfl, by simpa [Sp.Pl.wash_nil] using H6.out, Turns.refl _ _⟩
        case round =>
          obtain ⟨j, csj, hj, rfl, hpj, htj⟩ := hrel
          by_cases hlt : j < (p.dirt q).length
          · have hOj := own_keep HO6.out (w' := wr) (fun b hb => htj.block b (HO6.out.lt b hb).2 (fun e => by
              have e2 : b = gh := by simpa [Value.ownBlock, eq_comm] using hb
              exact hFgh (e2 ▸ e)))
            have hat := hcs_at hlt
            have r0 := hOj.cells (g := gh) rfl _ _ hat.1
            have r1 := hOj.cells (g := gh) rfl _ _ hat.2
            rw [add_lit] at r0 r1
            obtain ⟨hx1, it0, hf0, hdt, hx2⟩ := Sp.Pl.dirt_mem (List.getElem_mem hlt)
            obtain ⟨hid, _, _⟩ := HIN.out _ hx1
            have hfj := Sp.Pl.wash_find p (((p.dirt q).take j).map (·.1)) (p.dirt q)[j].1
            rw [hf0, Option.map_some] at hfj
            have hws : Hid ((p.wash (((p.dirt q).take j).map (·.1))).upd (p.dirt q)[j].1 (fun x => { x with dirty := false, from_ := 0 }) = p.wash (((p.dirt q).take (j + 1)).map (·.1))) := by
              show _ = _
              rw [Sp.Pl.wash_snoc, List.take_succ_eq_append_getElem hlt, List.map_append]
              rfl
            obtain ⟨it, hite⟩ : ∃ it : Sp.It, it = if it0.page.id ∈ ((p.dirt q).take j).map (·.1) then { it0 with dirty := false, from_ := 0 } else it0 := ⟨_, rfl⟩
            rw [← hite] at hfj
            have hmeas : j + 1 ≤ (p.dirt q).length := hlt
            have hj8 := H8.out
            clear hat hOj hite hf0 hdt hx2 hx1
            generalize (p.dirt q)[j] = xx at *
            obtain ⟨id, bts⟩ := xx
            dsimp only at *
            generalize p.wash (((p.dirt q).take j).map (·.1)) = pj at *
            obtain ⟨hit, rfl⟩ := Sp.Pl.find_mem hfj
            have hba := (Below.refl wr.heap.size wr).alloc (Nat.le_refl _) (.cells #[u32v it.page.id, str bts] 86)
            have hpa := hpj.keep hba.size (fun b hb => hba.block b (hpj.lt b hb))
            have hta := htj.alloc (.cells #[u32v it.page.id, str bts] 86)
            have hxa := Blk.new wr 86 #[u32v it.page.id, str bts]
            go_wp2_with fail
            obtain ⟨w7, hw7⟩ : ∃ w7, w7 = wr.alloc (.cells #[u32v it.page.id, str bts] 86) := ⟨_, rfl⟩
            rw [← hw7] at hpa hta hxa hba ⊢
            obtain ⟨g15, hg15⟩ : ∃ g, g = wr.heap.size := ⟨_, rfl⟩
            rw [← hg15] at hxa ⊢
            clear hw7 hg15 r0 r1 hpj htj
            obtain ⟨c0, c1', c2, c3, c4, c5', c6, c7⟩ := hpa.cells
            have hlk := (hpa.keep (w' := w7.drew) (Nat.le_refl _) (fun _ _ => rfl)).look hid hfj
            have hlt9 := hpa.wf.idx_lt hit
            have cx := hxa.cell 0
            simp only [List.getElem?_toArray, List.getElem?_cons_zero] at cx
            have hS := Lib.hid (show w7.drew.cell? ⟨gp, 4, none⟩ = some (.slice (some ⟨fb, 0, none⟩) pj.n pj.n) ∧ w7.drew.cell? ⟨gp, 6, none⟩ = some (.map (some mb)) ∧ w7.drew.cell? ⟨g15, 0, none⟩ = some (u32v it.page.id) ∧
              (Instr.lookup 106 (.map (some mb)) (u32v it.page.id) false).run Tryz.prog w7.drew = .ok (.int .i64 it.idx) w7.drew from ⟨c4, c6, cx, hlk⟩)
            clear c0 c1' c2 c3 c4 c5' c6 c7 cx hlk
            refine R_begin (fun W => W.cell? ⟨gp, 4, none⟩ = some (.slice (some ⟨fb, 0, none⟩) pj.n pj.n) ∧ W.cell? ⟨gp, 6, none⟩ = some (.map (some mb)) ∧ W.cell? ⟨g15, 0, none⟩ = some (u32v it.page.id) ∧
              (Instr.lookup 106 (.map (some mb)) (u32v it.page.id) false).run Tryz.prog W = .ok (.int .i64 it.idx) W) (fun _ => false) rfl ?_
            refine R_tk 0 95 hS.out ?_
            refine R_tk 1 96 hS.out ?_
            refine R_tk 2 97 hS.out ?_
            refine R_tk 3 98 hS.out ?_
            simp only [zSA, zSB, zSC]
            refine R_tk 4 99 hS.out ?_
            refine R_tk 5 100 hS.out ?_
            refine R_tk 6 101 hS.out ?_
            refine R_tk 7 102 hS.out ?_
            simp only [zSA, zSB, zSC]
            refine R_tk 8 103 hS.out ?_
            refine R_tk 9 104 hS.out ?_
            simp only [zSA, zSB, zSC]
            refine R_tk 10 105 hS.out ?_
            simp only [zSA, zSB, zSC]
            refine R_tk 11 106 hS.out ?_
            simp only [zSA, zSB, zSC]
            refine R_tk 12 16 hS.out ?_
            simp only [zSA, zSB, zSC]
            refine R_done (by kernel_rfl) ?_ _
            rename_i K9 hK9
            refine hK9 _ _ ?_
            clear hK9 hS
            have hpd := hpa.keep (w' := w7.drew) (Nat.le_refl _) (fun _ _ => rfl)
            obtain ⟨A9, c9, _, _, hc9⟩ := hpd.fr.item it hit
            have k7 := (hpd.fr.blk.cell (it.idx * 9 + 7)).trans (hc9 7 (by omega))
            have k8 := (hpd.fr.blk.cell (it.idx * 9 + 8)).trans (hc9 8 (by omega))
            simp only [frCells, List.getElem?_cons_succ, List.getElem?_cons_zero] at k7 k8
            have z7 := hpd.pins_frozen (it.idx * 9 + 7)
            have z8 := hpd.pins_frozen (it.idx * 9 + 8)
            have hFfb := hpd.foot.2.1
            have HWA := Lib.hid (hpd.washed hit)
            have HTA := Lib.hid (((hta.drew).setCell (p := ⟨fb, it.idx * 9 + 7, none⟩) (.inl hFfb) (.bool false)).setCell (p := ⟨fb, it.idx * 9 + 8, none⟩) (.inl hFfb) (.int .u64 0))
            rw [hws.out] at HWA
            obtain ⟨w8, hw8⟩ : ∃ w8, w8 = w7.drew := ⟨_, rfl⟩
            rw [← hw8] at k7 k8 z7 z8 HWA HTA ⊢
            clear hw8 hpd hpa hta hc9 hba hxa
            go_wp2_with fail
            go_roundw
            case rel => exact ⟨j + 1, _, hmeas, by go_num, HWA.out, HTA.out⟩
            case measure => simp [intOf]; omega
          · obtain rfl : j = (p.dirt q).length := by omega
            rw [List.take_length] at hpj
            have HPJ := Lib.hid hpj
            have hGn : ∀ b, D6 b → ¬ G b := fun b hD hG => by
              rcases hD6n b hD with h | h
              · exact HMEM.out.DG b h hG
              · have := hGin b hG; omega
            have hFn : ∀ b, F b → ¬ D6 b := fun b hF hD => by
              rcases hD6n b hD with h | h
              · exact HMEM.out.FD b hF h
              · have := hFin b hF; omega
            have HD9 := Lib.hid (HD6.out.keep (fun b hb => htj.block b (HD6.out.in_ b hb) (fun hF => hFn b hF hb)))
            have HG9 := Lib.hid (HG6.out.keep (fun b hb => htj.block b (HG6.out.in_ b hb) (fun hF => HMEM.out.FG b hF hb)))
            have HTJ := Lib.hid (HTW6.out.trans (htj.wider (F := fun b => allF F D6 G b ∨ b = gx) (F' := fun b => allF F D6 G b ∨ b = gx) (fun b hb => .inl (.inl hb)) (fun b hb => .inl hb)))
            clear hpj htj
            go_wp2_with fail
            go_ret
            exact ⟨0, D6, _, _, _, _, rfl, .inr (.inr ⟨HDI.out, htop, rfl, rfl, rfl, rfl⟩), fun h => absurd rfl h, ⟨HPJ.out, HD9.out, HG9.out, hFn, HMEM.out.FG, hGn⟩, HTJ.out⟩
      · have HFO := Lib.hid (log_force_bad HLG.out (Nat.lt_of_not_le htop))
        have hdt : decide (l.next < p.topOf q) = true := by rw [decide_eq_true_iff]; omega
        go_wp2_with fail
        refine HFO.out.mono ?_
        rintro e w5 ⟨rfl, hb5⟩
        have h5p := Lib.hid (H2.out.keep hb5.size (fun b hb => hb5.block b (H2.out.lt b hb)))
        have h5d := Lib.hid (HDK.out.below hb5)
        have h5g := Lib.hid (HLG.out.below hb5)
        have h5t := Lib.hid (HTW.out.trans (Turns.of_below hb5 _))
        clear hb5
        go_wp2_with fail
        go_ret
        exact ⟨2, D, cs, p, d, l, rfl, .inr (.inl ⟨HDI.out, by omega, rfl, rfl, rfl, rfl⟩), fun _ => rfl, ⟨h5p.out, h5d.out, h5g.out, HMEM.out.FD, HMEM.out.FG, HMEM.out.DG⟩, h5t.out⟩

theorem Sp.Pl.dirt_nil {p : Sp.Pl} {q : List Nat} (hin : ∀ n ∈ q, ∃ it, p.find n = some it) (h : p.dirt q = []) : ∀ n ∈ q, ∃ it, p.find n = some it ∧ it.dirty = false := fun n hn => by
  obtain ⟨it, hf⟩ := hin n hn
  refine ⟨it, hf, ?_⟩
  have h2 : q.filter p.isD = [] := by
    have := congrArg (List.map (·.1)) h
    rwa [Sp.Pl.dirt_ids] at this
  have := List.filter_eq_nil_iff.1 h2 n hn
  unfold Sp.Pl.isD at this
  rw [hf] at this
  simpa using this

/-- writes, whatever is dirty. -/
theorem pool_writes {F D G R : Foot} {w : World} {gp gd gl at_ base fb cb mb s r : Nat} {v : Value} {cs : Array Value} {fl ids : List Nat} {p : Sp.Pl} {d : Sp.Dk} {l : Sp.Lg} (h : Mem F D G R w gp gd gl at_ base fb cb mb v s r cs fl ids p d l) (ok : DkLg at_ base d l)
    {ql : List Nat} {gx cap : Nat} {xs : Array Value} (hb : Blk w gx 28 xs) (hgx : ¬ allF F D G gx) (hl : ql.length ≤ 12) (hxs : ∀ j, j < ql.length → xs[j]? = some (u32v ql[j]!))
    (hin : ∀ n ∈ ql, n < 4294967296 ∧ Sp.inside d.sure.length at_ base n ∧ ∃ it, p.find n = some it) (hnd : ql.Nodup) (h8 : (p.dirt (Sp.sorted ql)).length ≤ 8) :
    Calls Tryz.prog 65 #[ptr gp, .slice (some ⟨gx, 0, none⟩) ql.length cap] w (WrtPost F D G R w gp gd gl at_ base fb cb mb v s r fl ids p d l gx (Sp.sorted ql)) := by
  by_cases hdirt : p.dirt (Sp.sorted ql) = []
  · have hperm := (Sp.sorted_spec ql).1
    have hc := Sp.Pl.dirt_nil (fun n hn => (hin n (hperm.mem_iff.1 hn)).2.2) hdirt
    refine (pool_writes_clean h.pl hb (fun e => hgx (.inl e)) hl hxs (fun n hn => ⟨(hin n hn).1, hc n (hperm.mem_iff.2 hn)⟩)).mono ?_
    rintro e w' ⟨rfl, ht⟩
    have hk : ∀ b, allF F D G b → b < w.heap.size → w'.heap[b]? = w.heap[b]? := fun b hb hlt => ht.block b hlt (fun e => hgx (by have e : b = gx := e; rw [← e]; exact hb))
    exact ⟨0, D, cs, p, d, l, rfl, .inl ⟨hdirt, rfl, rfl, rfl, rfl⟩, fun _ => rfl, ⟨h.pl.keep ht.size (fun b hb => hk b (.inl hb) (h.pl.lt b hb)), h.dk.keep (fun b hb => hk b (.inr (.inl hb)) (h.dk.in_ b hb)), h.lg.keep (fun b hb => hk b (.inr (.inr hb)) (h.lg.in_ b hb)), h.FD, h.FG, h.DG⟩,
      ht.wider (fun b hb => .inr hb) (fun b hb => .inl hb)⟩
  · exact pool_writes_dirty h ok hb hgx hl hxs hin hnd h8 hdirt
end Go.Proofs.YtndglfiepeefdaaGreat

/- The walks of package pool: drops of a page that is clean. -/
namespace Go.Proofs.YtndglfiepeefdaaGreat
open Go.RowKit Go.Conc

def DropPost (F R : Foot) (w : World) (gp gd gl at_ base fb cb mb s r : Nat) (fl ids : List Nat) (p : Sp.Pl) (it : Sp.It) (e : Ending) (w' : World) : Prop :=
  e = .returned (.int .i64 0) ∧ ∃ F' v' cs', IsPlAt F' R w' gp gd gl at_ base fb cb mb v' (s + 1) r cs' (fl ++ [it.idx]) (ids.filter (fun x => !(x == it.page.id))) (p.drop it.page.id it.idx) ∧ Turns F F' w w'

set_option maxRecDepth 100000 in
set_option maxHeartbeats 2000000 in
theorem pool_drops_clean {F R : Foot} {w : World} {gp gd gl at_ base fb cb mb s r : Nat} {v : Value} {cs : Array Value} {ids : List Nat} {p : Sp.Pl} (h : IsPlAt F R w gp gd gl at_ base fb cb mb v s r cs p.free ids p)
    {id : Nat} (hid : id < 4294967296) {it : Sp.It} (hf : p.find id = some it) (hd : it.dirty = false) :
    Calls Tryz.prog 67 #[ptr gp, u32v id] w (DropPost F R w gp gd gl at_ base fb cb mb s r p.free ids p it) := by
  obtain ⟨hit, rfl⟩ := Sp.Pl.find_mem hf
  refine calls_of_wpN Tryz.func67 rfl ?_
  simp only [Tryz.ntmps67, List.size_toArray, List.length_cons, List.length_nil, Nat.reduceAdd, Nat.reduceSub, Array.replicate_succ, Array.replicate_zero, List.push_toArray, List.append_toArray, List.nil_append, List.cons_append]
  have hb0 := Blk.new w 28 #[u32v it.page.id]
  have h0 := h.keep (w' := w.alloc (.cells #[u32v it.page.id] 28)) (by simp) (fun b hb => Below.heap_alloc w _ b (h.lt b hb))
  have ht0 := (Turns.refl F w).alloc (.cells #[u32v it.page.id] 28)
  have ht0n := (Turns.refl noFoot w).alloc (.cells #[u32v it.page.id] 28)
  have hFl := h.lt
  refine wpN_seq_k ?_
  intro K hK
  go_wp2_with fail
  have hl0 : w.heap.size ≤ w.heap.size := Nat.le_refl _
  obtain ⟨w1, hw1⟩ : ∃ w1, w1 = w.alloc (.cells #[u32v it.page.id] 28) := ⟨_, rfl⟩
  rw [← hw1] at h0 hb0 ht0 ht0n ⊢
  obtain ⟨b3, hb3⟩ : ∃ b3, b3 = w.heap.size := ⟨_, rfl⟩
  rw [← hb3] at hb0 ⊢
  have hl3 : w.heap.size ≤ b3 := by omega
  clear hw1 hb3 hl0
  have H0 := Lib.hid h0
  have HB0 := Lib.hid hb0
  have c3 := hb0.cell 0
  simp only [List.getElem?_toArray, List.getElem?_cons_zero] at c3
  -- region 1 to 3: writes
  have hb1 := Blk.new w1 28 #[u32v it.page.id]
  have h1 := h0.keep (w' := w1.alloc (.cells #[u32v it.page.id] 28)) (by simp) (fun b hb => Below.heap_alloc w1 _ b (h0.lt b hb))
  have HWR := Lib.hid (pool_writes_clean (l := [it.page.id]) (gx := w1.heap.size) (cap := 1) h1 hb1 (fun hF => by have := h0.lt _ hF; omega) (by simp) (fun j hj => by
    have : j = 0 := by simpa using hj
    subst this; rfl) (fun n hn => by
      rw [List.mem_singleton.1 hn]
      exact ⟨hid, it, hf, hd⟩))
  clear h0 h1 hb0 hb1
  refine wpN_seq_k ?_
  intro K hK
  go_wp2_with fail
  refine HWR.out.mono ?_
  rintro e w2 ⟨rfl, ht2⟩
  have hbl3 : b3 < w1.heap.size := HB0.out.lt
  have hn2 : Turns noFoot noFoot w w2 := by
    have hz := ht0.size
    refine ⟨ht2.os.trans ht0.os, ht2.tape.trans ht0.tape, ht2.output.trans ht0.output, ?_, fun b hb _ => ?_, fun b hb => hb.elim⟩
    · have := ht2.size; simp at this; omega
    · rw [ht2.block b (by simp; omega) (fun e => by have e : b = w1.heap.size := e; omega), Below.heap_alloc w1 _ b (by omega)]
      exact ht0n.block b hb (fun e => e)
  have hb2 := (HB0.out.alloc (.cells #[u32v it.page.id] 28)).turns ht2 (fun e => by have e : b3 = w1.heap.size := e; omega)
  have h2 := h.keep hn2.size (fun b hb => hn2.block b (hFl b hb) (fun e => e))
  clear ht2 HWR HB0 H0 c3 ht0 ht0n
  go_wp2_with fail
  have hkd := fun (W : World) (hs : w2.heap.size ≤ W.heap.size) (hk : ∀ b, F b → W.heap[b]? = w2.heap[b]?) => (h2.keep hs hk).look hid hf
  obtain ⟨c0, c1, c2, c3, c4, c5, c6, c7⟩ := h2.cells
  have cb3 := hb2.cell 0
  simp only [List.getElem?_toArray, List.getElem?_cons_zero] at cb3
  have hS := Lib.hid (⟨c6, cb3, hkd w2.drew (Nat.le_refl _) (fun _ _ => rfl)⟩ : w2.drew.cell? ⟨gp, 6, none⟩ = some (.map (some mb)) ∧ w2.drew.cell? ⟨b3, 0, none⟩ = some (u32v it.page.id) ∧
      (Instr.lookup 106 (.map (some mb)) (u32v it.page.id) false).run Tryz.prog w2.drew = .ok (.int .i64 it.idx) w2.drew)
  clear hkd c0 c1 c2 c3 c4 c5 c6 c7 cb3
  refine wpN_seq_k ?_
  intro K hK
  refine R_begin (fun W => W.cell? ⟨gp, 6, none⟩ = some (.map (some mb)) ∧ W.cell? ⟨b3, 0, none⟩ = some (u32v it.page.id) ∧
      (Instr.lookup 106 (.map (some mb)) (u32v it.page.id) false).run Tryz.prog W = .ok (.int .i64 it.idx) W) (fun _ => false) rfl ?_
  refine R_take 0 14 (v := ?_) rfl rfl (by rfl) (by kernel_rfl) (fun _ _ _ h => h) hS.out ?_ ?_
  rotate_left
  · intro w hSw; (try dsimp only at hSw); go_simp; (try with_reducible rfl)
  simp only [zSA, zSB, zSC]
  refine R_take 1 15 (v := ?_) rfl rfl (by rfl) (by kernel_rfl) (fun _ _ _ h => h) hS.out ?_ ?_
  rotate_left
  · intro w hSw; (try dsimp only at hSw); go_simp; (try with_reducible rfl)
  simp only [zSA, zSB, zSC]
  refine R_take 2 16 (v := ?_) rfl rfl (by rfl) (by kernel_rfl) (fun _ _ _ h => h) hS.out ?_ ?_
  rotate_left
  · intro w hSw; (try dsimp only at hSw); go_simp; (try with_reducible rfl)
  simp only [zSA, zSB, zSC]
  refine R_take 3 17 (v := ?_) rfl rfl (by rfl) (by kernel_rfl) (fun _ _ _ h => h) hS.out ?_ ?_
  rotate_left
  · intro w hSw; (try dsimp only at hSw); go_simp; (try with_reducible rfl)
  simp only [zSA, zSB, zSC]
  refine R_take 4 18 (v := ?_) rfl rfl (by rfl) (by kernel_rfl) (fun _ _ _ h => h) hS.out ?_ ?_
  rotate_left
  · intro w hSw; (try dsimp only at hSw); go_simp; (try with_reducible rfl)
  simp only [zSA, zSB, zSC]
  refine R_take 5 19 (v := ?_) rfl rfl (by rfl) (by kernel_rfl) (fun _ _ _ h => h) hS.out ?_ ?_
  rotate_left
  · intro w hSw; (try dsimp only at hSw); go_simp; (try with_reducible rfl)
  simp only [zSA, zSB, zSC]
  refine R_take 6 6 (v := ?_) rfl rfl (by rfl) (by kernel_rfl) (fun _ _ _ h => h) hS.out ?_ ?_
  rotate_left
  · intro w hSw; (try dsimp only at hSw); go_simp; (try with_reducible rfl)
  simp only [zSA, zSB, zSC]
  refine R_done (by kernel_rfl) ?_ _
  refine hK _ _ ?_
  have h3 := h2.keep (w' := w2.drew) (Nat.le_refl _) (fun _ _ => rfl)
  have hb3' := hb2.drew
  have hn3 := hn2.drew
  obtain ⟨w3, hw3⟩ : ∃ w3, w3 = w2.drew := ⟨_, rfl⟩
  rw [← hw3] at h3 hb3' hn3 ⊢
  clear hw3 hS h2 hb2 hn2 hK K h
  -- region 5: the frame is made empty
  obtain ⟨c0, c1, c2, c3, c4, c5, c6, c7⟩ := h3.cells
  have hbz : ∀ W, (Instr.build 110 #[]).run Tryz.prog W = .ok (.agg zeroFr.toArray) W := fun W => by kernel_rfl
  have hlt9 := h3.wf.idx_lt hit
  have hn64 := h3.wf.n64
  have H3 := Lib.hid h3
  have hcs := h3.fr.size
  clear c0 c1 c2 c3 c5 c6 c7 h3
  have hB3 := H3.out.fr.blk
  have HST := run_storeVar_part (P := Tryz.prog) w3 fb (it.idx * 9) 110 110 cs zeroFr.toArray hB3 fr_size (by rw [hcs]; show it.idx * 9 + 9 ≤ p.n * 9; omega) (by simp [zeroFr, Value.oneCell'])
  refine wpN_seq_k ?_
  intro K hK
  go_wp2_with (first | ((with_reducible refine wpList_skip (w' := w3.setRow fb (partRow cs (it.idx * 9) zeroFr)) rfl rfl ?_ ?_); exact run_op_store _ _ _ ⟨fb, it.idx * 9, none⟩ (.agg zeroFr.toArray) rfl rfl rfl HST))
  clear HST
  obtain ⟨f1, f2, f3, f4, f5⟩ := H3.out.foot
  obtain ⟨n1, n2, n3, n4, n5, n6⟩ := H3.out.ne
  obtain ⟨o1, o2, o3, o4⟩ := H3.out.own_ne
  have hB4 := hB3.setRow (partRow cs (it.idx * 9) zeroFr)
  have hk4 : ∀ b, b ≠ fb → (w3.setRow fb (partRow cs (it.idx * 9) zeroFr)).heap[b]? = w3.heap[b]? := fun b hb => setRow_other w3 fb b _ hb
  have ht4 := (Turns.refl F w3).setRow (g := fb) (.inl f2) (partRow cs (it.idx * 9) zeroFr)
  have hb34 : b3 ≠ fb := fun e => by have := hFl fb f2; omega
  have hb4' := hb3'.keep (hk4 b3 hb34)
  have hP4 := H3.out.blk.keep (hk4 gp n1)
  have hM4 := H3.out.map.keep (hk4 mb (Ne.symm n5))
  obtain ⟨w4, hw4⟩ : ∃ w4, w4 = w3.setRow fb (partRow cs (it.idx * 9) zeroFr) := ⟨_, rfl⟩
  rw [← hw4] at hB4 hk4 ht4 hb4' hP4 hM4 ⊢
  clear hw4
  -- region 6: delete
  have c6 := hP4.cell 6
  simp only [plCells, zGA, zGB, zGC] at c6
  have cb3 := hb4'.cell 0
  simp only [List.getElem?_toArray, List.getElem?_cons_zero] at cb3
  have hS := Lib.hid (⟨c6, cb3⟩ : w4.drew.cell? ⟨gp, 6, none⟩ = some (.map (some mb)) ∧ w4.drew.cell? ⟨b3, 0, none⟩ = some (u32v it.page.id))
  clear c6 cb3
  refine wpN_seq_k ?_
  intro K hK
  refine R_begin (fun W => W.cell? ⟨gp, 6, none⟩ = some (.map (some mb)) ∧ W.cell? ⟨b3, 0, none⟩ = some (u32v it.page.id)) (fun _ => false) rfl ?_
  refine R_take 0 27 (v := ?_) rfl rfl (by rfl) (by kernel_rfl) (fun _ _ _ h => h) hS.out ?_ ?_
  rotate_left
  · intro w hSw; (try dsimp only at hSw); go_simp; (try with_reducible rfl)
  simp only [zSA, zSB, zSC]
  refine R_take 1 28 (v := ?_) rfl rfl (by rfl) (by kernel_rfl) (fun _ _ _ h => h) hS.out ?_ ?_
  rotate_left
  · intro w hSw; (try dsimp only at hSw); go_simp; (try with_reducible rfl)
  simp only [zSA, zSB, zSC]
  refine R_take 2 29 (v := ?_) rfl rfl (by rfl) (by kernel_rfl) (fun _ _ _ h => h) hS.out ?_ ?_
  rotate_left
  · intro w hSw; (try dsimp only at hSw); go_simp; (try with_reducible rfl)
  simp only [zSA, zSB, zSC]
  refine R_take 3 30 (v := ?_) rfl rfl (by rfl) (by kernel_rfl) (fun _ _ _ h => h) hS.out ?_ ?_
  rotate_left
  · intro w hSw; (try dsimp only at hSw); go_simp; (try with_reducible rfl)
  simp only [zSA, zSB, zSC]
  refine R_take 4 31 (v := ?_) rfl rfl (by rfl) (by kernel_rfl) (fun _ _ _ h => h) hS.out ?_ ?_
  rotate_left
  · intro w hSw; (try dsimp only at hSw); go_simp; (try with_reducible rfl)
  simp only [zSA, zSB, zSC]
  obtain ⟨w5, hdel, hM5, hg5⟩ := UMap.del (w := w4.drew) hM4.drew Tryz.underlying28 Tryz.underlying106 hid (i := it.idx) (by simp [Sp.Pl.lk, hf]) 0
  have hP5 := hP4.drew.grown hg5 (fun e => n3 (by injection e))
  have hbm : b3 ≠ mb := fun e => by have := hFl mb f4; omega
  have hb5 := hb4'.drew.grown hg5 (fun e => hbm (by injection e))
  have ht5 := ht4.drew.grown hg5 (fun k hk => .inl (by injection hk with hk; rw [← hk]; exact f4))
  have hB5 := hB4.drew.grown hg5 (fun e => n5 (by injection e))
  refine R_store 5 (n := .value (.tuple #[])) (w' := w5) rfl rfl (by rfl) (by kernel_rfl) (by go_simp) (.inr ⟨_, rfl⟩) (fun _ => ⟨(hP5.cell 6).trans rfl, (hb5.cell 0).trans rfl⟩) ?_
  refine R_done (by kernel_rfl) ?_ _
  refine hK _ _ ?_
  have hsz9 : it.idx * 9 + 9 ≤ cs.size := by omega
  have h5 := H3.out.drop (w' := w5) hit ht5.size (fun b hb h1 h2 => (hg5.block b (by have := H3.out.lt b hb; have := ht4.size; simp; omega) (fun e => h2 (by injection e))).trans (hk4 b h1)) hB5 (Framed.part rfl hsz9) (fun j hj => part_at rfl hsz9 hj) hM5
  have hc5 := h5.chan
  have hrow5 := h5.row
  have hF5 := h5.lt
  have c7 := hP5.cell 7
  have f7 := hP5.frozen 7
  simp only [plCells, zGA, zGB, zGC] at c7
  have hn3v : v.ownBlock ≠ some b3 := fun e => by have := hFl b3 (f5 b3 e); omega
  have HDR := Lib.hid (delete_row (w := w5) (asks_drops it.page.id b3) hrow5 hb5 hn3v)
  have H5 := Lib.hid h5
  have hlen := H3.out.wf.len
  have hit1 : 0 < p.items.length := List.length_pos_of_mem hit
  clear h5 hrow5 hdel hg5 hM5 hM4 hP4 hb4' ht4 hB4 hk4 hB3 hb3' hS hK K hB5 hc5 c4 hb5
  refine wpN_seq_k ?_
  intro K hK
  go_wp2_with fail
  refine HDR.out.mono ?_
  rintro e w6 ⟨v', rfl, r1, r2, r3⟩
  have ht6 : Turns F F w3 w6 := ht5.grown r2 (fun k hk => .inl (f5 k hk))
  have hP6 := hP5.grown r2 (fun e => o1 e.symm)
  have c7 := hP6.cell 7
  have f7 := hP6.frozen 7
  simp only [plCells, zGA, zGB, zGC] at c7
  have hrd := Lib.hid (H5.out.rowed (w' := w6.setCell ⟨gp, 7, none⟩ v') (v' := v') (ids' := ids.filter (fun x => !(x == it.page.id))) (by have := r2.size; simpa [World.setCell] using this)
    (fun b hb h1 h2 => (Below.heap_setCell w6 _ _ b h1).trans (r2.block b (hF5 b hb) (fun e => h2 e.symm))) (hP6.set_ 7 v')
    (row_keep r1 (fun b hb => Below.heap_setCell w6 _ _ b (fun e => o1 (by rw [r3 b hb, e])))) (fun b hb => .inl (r3 b hb)))
  have ht7 := ht6.setCell (p := ⟨gp, 7, none⟩) (.inl f1) v'
  obtain ⟨Av, nv, cv, rfl⟩ : ∃ A n c, v' = .slice A n c := by
    rcases r1.2 with ⟨h0, _⟩ | ⟨g6, c6, _, h0, _⟩
    · exact ⟨_, _, _, h0⟩
    · exact ⟨_, _, _, h0⟩
  clear r1 r2 HDR hP6 hP5 H5 H3 ht6
  go_wp2_with fail
  obtain ⟨w7, hw7⟩ : ∃ w7, w7 = w6.setCell ⟨gp, 7, none⟩ (.slice Av nv cv) := ⟨_, rfl⟩
  rw [← hw7] at hrd ht7 ⊢
  clear hw7
  have hc7 := hrd.out.chan
  obtain ⟨c0, c1, c2, c3, c4, c5, c6, c7'⟩ := hrd.out.cells
  clear c0 c1 c2 c3 c4 c6 c7'
  refine wpN_seq ?_
  refine wpN_region ?_
  change wpT _ _ _ [0, 1, 2, 3, 4, 5] _ _
  refine T_value 0 41 (v := ptr gp) (w' := w7) rfl rfl (by rfl) (by go_simp) ?_
  simp only [zSA, zSB, zSC]
  refine T_value 1 42 (v := ptr gp) (w' := w7) rfl rfl (by rfl) (by go_simp) ?_
  simp only [zSA, zSB, zSC]
  refine T_value 2 43 (v := .pointer (some ⟨gp, 5, none⟩)) (w' := w7) rfl rfl (by rfl) (by go_simp) ?_
  simp only [zSA, zSB, zSC]
  refine T_value 3 44 (v := .chan (some cb)) (w' := w7) rfl rfl (by rfl) (by go_simp) ?_
  simp only [zSA, zSB, zSC]
  refine T_value 4 45 (v := .int .i64 it.idx) (w' := w7) rfl rfl (by rfl) (by go_simp) ?_
  simp only [zSA, zSB, zSC]
  refine T_send 5 (c := cb) (cap := p.n) (buf := (p.free.map fun (i : Nat) => Value.int .i64 (i : Int)).toArray) (s := s) (r := r) (tm := false) (v := .int .i64 it.idx) (z := .tuple #[]) (w' := w7) rfl rfl (by rfl) (by simp [execOp, scase, Act.eval]) hc7 (by simp; omega) ?_
  refine T_done ?_
  simp only [Exit.then]
  refine wpN_of_wp ?_
  have hch := hrd.out.chans (fl' := p.free ++ [it.idx]) (s' := s + 1) (r' := r)
  change IsPlAt _ _ (w7.setChan cb p.n _ _ _ _ _) _ _ _ _ _ _ _ _ _ _ _ _ _ _ _ at hch
  have hgr := grown_setChan w7 cb p.n ((p.free ++ [it.idx]).map fun (i : Nat) => Value.int .i64 (i : Int)).toArray false (s + 1) r false
  have ht8 := ht7.grown hgr (fun k hk => .inl (by injection hk with hk; rw [← hk]; exact f3))
  have eb : ((p.free.map fun (i : Nat) => Value.int .i64 (i : Int)).toArray).push (.int .i64 (it.idx : Int)) = ((p.free ++ [it.idx]).map fun (i : Nat) => Value.int .i64 (i : Int)).toArray := by simp
  rw [eb]
  have HCH := Lib.hid hch
  clear hch hgr hrd hc7 ht7 eb
  generalize w7.setChan cb p.n ((p.free ++ [it.idx]).map fun (i : Nat) => Value.int .i64 (i : Int)).toArray false (s + 1) r false = w8 at *
  go_wp2_with fail
  go_ret
  refine ⟨rfl, _, _, _, HCH.out, ?_⟩
  have hn3z := hn3.size
  refine ⟨ht8.os.trans hn3.os, ht8.tape.trans hn3.tape, ht8.output.trans hn3.output, Nat.le_trans hn3z ht8.size, fun b hb hn => ?_, fun b hb => ?_⟩
  · rw [ht8.block b (by omega) hn]; exact hn3.block b hb (fun e => e)
  · rcases hb with hb | hb
    · exact .inl hb
    · exact .inl (f5 b (r3 b hb))
end Go.Proofs.YtndglfiepeefdaaGreat

/- The walks of package pool: drops of a page, by what writes leaves. -/
namespace Go.Proofs.YtndglfiepeefdaaGreat
open Go.RowKit Go.Conc

/-- What writes of one page leaves: an error, or what Y says. -/
def WritesPost (Y : Sp.Pl → Foot → World → Prop) (E : Nat → World → Prop) (H F R : Foot) (gp gd gl at_ base fb cb mb s r : Nat) (v : Value) (fl ids : List Nat) (it : Sp.It) (gx : Nat) (W : World) (e : Ending) (w' : World) : Prop :=
  (∃ c : Nat, c ≠ 0 ∧ e = .returned (.int .i64 c) ∧ E c w') ∨
  e = .returned (.int .i64 0) ∧ ∃ (H' : Foot) (p2 : Sp.Pl) (it2 : Sp.It) (cs2 : Array Value), IsPlAt F R w' gp gd gl at_ base fb cb mb v s r cs2 fl ids p2 ∧ p2.find it.page.id = some it2 ∧ it2.idx = it.idx ∧ p2.free = fl ∧
    Turns (fun b => H b ∨ b = gx) (fun b => H' b ∨ b = gx) W w' ∧ (∀ b, F b → H' b) ∧ Y p2 H' w'
def DropsPost (Y : Sp.Pl → Foot → World → Prop) (E : Nat → World → Prop) (H F R : Foot) (w : World) (gp gd gl at_ base fb cb mb s r : Nat) (ids : List Nat) (id : Nat) (e : Ending) (w' : World) : Prop :=
  (∃ c : Nat, c ≠ 0 ∧ e = .returned (.int .i64 c) ∧ E c w') ∨
  e = .returned (.int .i64 0) ∧ ∃ (H' : Foot) (p2 : Sp.Pl) (it2 : Sp.It) (w2 : World) (F' : Foot) (v' : Value) (cs' : Array Value), p2.find id = some it2 ∧ Y p2 H' w2 ∧ Turns H H' w w2 ∧ (∀ b, F b → H' b) ∧
    IsPlAt F' R w' gp gd gl at_ base fb cb mb v' (s + 1) r cs' (p2.free ++ [it2.idx]) (ids.filter (fun x => !(x == id))) (p2.drop id it2.idx) ∧ Turns F F' w2 w'

set_option maxRecDepth 100000 in
set_option maxHeartbeats 4000000 in
theorem pool_drops {F R H : Foot} {w : World} {gp gd gl at_ base fb cb mb s r : Nat} {v : Value} {cs : Array Value} {ids : List Nat} {p : Sp.Pl} (h : IsPlAt F R w gp gd gl at_ base fb cb mb v s r cs p.free ids p)
    {id : Nat} (hid : id < 4294967296) {it : Sp.It} (hfp : p.find id = some it) (hHl : ∀ b, H b → b < w.heap.size) (Y : Sp.Pl → Foot → World → Prop) (E : Nat → World → Prop)
    (hW : ∀ W gx, Below w.heap.size w W → w.heap.size ≤ gx → Blk W gx 28 #[u32v id] → Calls Tryz.prog 65 #[ptr gp, .slice (some ⟨gx, 0, none⟩) 1 1] W (WritesPost Y E H F R gp gd gl at_ base fb cb mb s r v p.free ids it gx W)) :
    Calls Tryz.prog 67 #[ptr gp, u32v id] w (DropsPost Y E H F R w gp gd gl at_ base fb cb mb s r ids id) := by
  have hfi := (Sp.Pl.find_mem hfp).2
  refine calls_of_wpN Tryz.func67 rfl ?_
  simp only [Tryz.ntmps67, List.size_toArray, List.length_cons, List.length_nil, Nat.reduceAdd, Nat.reduceSub, Array.replicate_succ, Array.replicate_zero, List.push_toArray, List.append_toArray, List.nil_append, List.cons_append]
  have hb0 := Blk.new w 28 #[u32v id]
  have h0 := h.keep (w' := w.alloc (.cells #[u32v id] 28)) (by simp) (fun b hb => Below.heap_alloc w _ b (h.lt b hb))
  have hbw := (Below.refl w.heap.size w).alloc (Nat.le_refl _) (.cells #[u32v id] 28)
  have hFl0 := h.lt
  refine wpN_seq_k ?_
  intro K hK
  go_wp2_with fail
  have hl0 : w.heap.size ≤ w.heap.size := Nat.le_refl _
  obtain ⟨w1, hw1⟩ : ∃ w1, w1 = w.alloc (.cells #[u32v id] 28) := ⟨_, rfl⟩
  rw [← hw1] at h0 hb0 hbw ⊢
  obtain ⟨b3, hb3⟩ : ∃ b3, b3 = w.heap.size := ⟨_, rfl⟩
  rw [← hb3] at hb0 ⊢
  have hl3 : w.heap.size ≤ b3 := by omega
  clear hw1 hb3 hl0
  have HB0 := Lib.hid hb0
  have c3 := hb0.cell 0
  simp only [List.getElem?_toArray, List.getElem?_cons_zero] at c3
  -- region 1 to 3: writes
  have hb1 := Blk.new w1 28 #[u32v id]
  have hbw1 := hbw.alloc hbw.size (.cells #[u32v id] 28)
  have HWR := Lib.hid (hW _ w1.heap.size hbw1 hbw.size hb1)
  have hz1 : w.heap.size ≤ w1.heap.size := hbw.size
  clear h0 hb0 hb1 hbw
  refine wpN_seq_k ?_
  intro K hK
  go_wp2_with fail
  refine HWR.out.mono ?_
  rintro e w2 (⟨c4, hc4, rfl, hE⟩ | ⟨rfl, H', p2, it2, cs2, h2, hf, hix, hfr2, ht2, hFH, hY⟩)
  · have dc : ((c4 : Int) != 0) = true := by simpa using hc4
    go_wp2_with fail
    go_ret
    exact .inl ⟨c4, hc4, rfl, hE⟩
  have hbl3 : b3 < w1.heap.size := HB0.out.lt
  have hn2 : Turns H H' w w2 := by
    have hz := hbw1.size
    refine ⟨ht2.os.trans hbw1.os, ht2.tape.trans hbw1.tape, ht2.output.trans hbw1.output, Nat.le_trans hz ht2.size, fun b hb hn => ?_, fun b hb => ?_⟩
    · rw [ht2.block b (by omega) (fun e => by rcases e with e | e; exact hn e; omega)]
      exact hbw1.block b hb
    · rcases ht2.foot b (.inl hb) with (e | e) | e
      · exact .inl e
      · exact .inr (by omega)
      · exact .inr (by omega)
  have hb2 := (HB0.out.alloc (.cells #[u32v id] 28)).turns ht2 (fun e => by rcases e with e | e; have := hHl b3 e; omega; omega)
  rw [hfi] at hf
  have hF3 : ∀ b, F b → b ≠ b3 := fun b hb e => by have := hFl0 b hb; omega
  have hFl := h2.lt
  have HH := Lib.hid (⟨hY, hn2, hFH⟩ : Y p2 H' w2 ∧ Turns H H' w w2 ∧ ∀ b, F b → H' b)
  have ht20 := Turns.refl F w2
  obtain ⟨hit, rfl⟩ := Sp.Pl.find_mem hf
  have hn2 : Turns noFoot noFoot w2 w2 := Turns.refl _ _
  clear ht2 HWR HB0 c3 hbw1 hfp hfi hY hFH hW h
  rw [← hfr2] at h2
  clear hfr2 hix
  go_wp2_with fail
  have hkd := fun (W : World) (hs : w2.heap.size ≤ W.heap.size) (hk : ∀ b, F b → W.heap[b]? = w2.heap[b]?) => (h2.keep hs hk).look hid hf
  obtain ⟨c0, c1, c2, c3, c4, c5, c6, c7⟩ := h2.cells
  have cb3 := hb2.cell 0
  simp only [List.getElem?_toArray, List.getElem?_cons_zero] at cb3
  have hS := Lib.hid (⟨c6, cb3, hkd w2.drew (Nat.le_refl _) (fun _ _ => rfl)⟩ : w2.drew.cell? ⟨gp, 6, none⟩ = some (.map (some mb)) ∧ w2.drew.cell? ⟨b3, 0, none⟩ = some (u32v it2.page.id) ∧
      (Instr.lookup 106 (.map (some mb)) (u32v it2.page.id) false).run Tryz.prog w2.drew = .ok (.int .i64 it2.idx) w2.drew)
  clear hkd c0 c1 c2 c3 c4 c5 c6 c7 cb3
  refine wpN_seq_k ?_
  intro K hK
  refine R_begin (fun W => W.cell? ⟨gp, 6, none⟩ = some (.map (some mb)) ∧ W.cell? ⟨b3, 0, none⟩ = some (u32v it2.page.id) ∧
      (Instr.lookup 106 (.map (some mb)) (u32v it2.page.id) false).run Tryz.prog W = .ok (.int .i64 it2.idx) W) (fun _ => false) rfl ?_
  refine R_take 0 14 (v := ?_) rfl rfl (by rfl) (by kernel_rfl) (fun _ _ _ h => h) hS.out ?_ ?_
  rotate_left
  · intro w hSw; (try dsimp only at hSw); go_simp; (try with_reducible rfl)
  simp only [zSA, zSB, zSC]
  refine R_take 1 15 (v := ?_) rfl rfl (by rfl) (by kernel_rfl) (fun _ _ _ h => h) hS.out ?_ ?_
  rotate_left
  · intro w hSw; (try dsimp only at hSw); go_simp; (try with_reducible rfl)
  simp only [zSA, zSB, zSC]
  refine R_take 2 16 (v := ?_) rfl rfl (by rfl) (by kernel_rfl) (fun _ _ _ h => h) hS.out ?_ ?_
  rotate_left
  · intro w hSw; (try dsimp only at hSw); go_simp; (try with_reducible rfl)
  simp only [zSA, zSB, zSC]
  refine R_take 3 17 (v := ?_) rfl rfl (by rfl) (by kernel_rfl) (fun _ _ _ h => h) hS.out ?_ ?_
  rotate_left
  · intro w hSw; (try dsimp only at hSw); go_simp; (try with_reducible rfl)
  simp only [zSA, zSB, zSC]
  refine R_take 4 18 (v := ?_) rfl rfl (by rfl) (by kernel_rfl) (fun _ _ _ h => h) hS.out ?_ ?_
  rotate_left
  · intro w hSw; (try dsimp only at hSw); go_simp; (try with_reducible rfl)
  simp only [zSA, zSB, zSC]
  refine R_take 5 19 (v := ?_) rfl rfl (by rfl) (by kernel_rfl) (fun _ _ _ h => h) hS.out ?_ ?_
  rotate_left
  · intro w hSw; (try dsimp only at hSw); go_simp; (try with_reducible rfl)
  simp only [zSA, zSB, zSC]
  refine R_take 6 6 (v := ?_) rfl rfl (by rfl) (by kernel_rfl) (fun _ _ _ h => h) hS.out ?_ ?_
  rotate_left
  · intro w hSw; (try dsimp only at hSw); go_simp; (try with_reducible rfl)
  simp only [zSA, zSB, zSC]
  refine R_done (by kernel_rfl) ?_ _
  refine hK _ _ ?_
  have h3 := h2.keep (w' := w2.drew) (Nat.le_refl _) (fun _ _ => rfl)
  have hb3' := hb2.drew
  have hn3 := hn2.drew
  obtain ⟨w3, hw3⟩ : ∃ w3, w3 = w2.drew := ⟨_, rfl⟩
  rw [← hw3] at h3 hb3' hn3 ⊢
  clear hw3 hS h2 hb2 hn2 hK K
  -- region 5: the frame is made empty
  obtain ⟨c0, c1, c2, c3, c4, c5, c6, c7⟩ := h3.cells
  have hbz : ∀ W, (Instr.build 110 #[]).run Tryz.prog W = .ok (.agg zeroFr.toArray) W := fun W => by kernel_rfl
  have hlt9 := h3.wf.idx_lt hit
  have hn64 := h3.wf.n64
  have H3 := Lib.hid h3
  have hcs := h3.fr.size
  clear c0 c1 c2 c3 c5 c6 c7 h3
  have hB3 := H3.out.fr.blk
  have HST := run_storeVar_part (P := Tryz.prog) w3 fb (it2.idx * 9) 110 110 cs2 zeroFr.toArray hB3 fr_size (by rw [hcs]; show it2.idx * 9 + 9 ≤ p2.n * 9; omega) (by simp [zeroFr, Value.oneCell'])
  refine wpN_seq_k ?_
  intro K hK
  go_wp2_with (first | ((with_reducible refine wpList_skip (w' := w3.setRow fb (partRow cs2 (it2.idx * 9) zeroFr)) rfl rfl ?_ ?_); exact run_op_store _ _ _ ⟨fb, it2.idx * 9, none⟩ (.agg zeroFr.toArray) rfl rfl rfl HST))
  clear HST
  obtain ⟨f1, f2, f3, f4, f5⟩ := H3.out.foot
  obtain ⟨n1, n2, n3, n4, n5, n6⟩ := H3.out.ne
  obtain ⟨o1, o2, o3, o4⟩ := H3.out.own_ne
  have hB4 := hB3.setRow (partRow cs2 (it2.idx * 9) zeroFr)
  have hk4 : ∀ b, b ≠ fb → (w3.setRow fb (partRow cs2 (it2.idx * 9) zeroFr)).heap[b]? = w3.heap[b]? := fun b hb => setRow_other w3 fb b _ hb
  have ht4 := (Turns.refl F w3).setRow (g := fb) (.inl f2) (partRow cs2 (it2.idx * 9) zeroFr)
  have hb34 : b3 ≠ fb := fun e => hF3 fb f2 e.symm
  have hb4' := hb3'.keep (hk4 b3 hb34)
  have hP4 := H3.out.blk.keep (hk4 gp n1)
  have hM4 := H3.out.map.keep (hk4 mb (Ne.symm n5))
  obtain ⟨w4, hw4⟩ : ∃ w4, w4 = w3.setRow fb (partRow cs2 (it2.idx * 9) zeroFr) := ⟨_, rfl⟩
  rw [← hw4] at hB4 hk4 ht4 hb4' hP4 hM4 ⊢
  clear hw4
  -- region 6: delete
  have c6 := hP4.cell 6
  simp only [plCells, zGA, zGB, zGC] at c6
  have cb3 := hb4'.cell 0
  simp only [List.getElem?_toArray, List.getElem?_cons_zero] at cb3
  have hS := Lib.hid (⟨c6, cb3⟩ : w4.drew.cell? ⟨gp, 6, none⟩ = some (.map (some mb)) ∧ w4.drew.cell? ⟨b3, 0, none⟩ = some (u32v it2.page.id))
  clear c6 cb3
  refine wpN_seq_k ?_
  intro K hK
  refine R_begin (fun W => W.cell? ⟨gp, 6, none⟩ = some (.map (some mb)) ∧ W.cell? ⟨b3, 0, none⟩ = some (u32v it2.page.id)) (fun _ => false) rfl ?_
  refine R_take 0 27 (v := ?_) rfl rfl (by rfl) (by kernel_rfl) (fun _ _ _ h => h) hS.out ?_ ?_
  rotate_left
  · intro w hSw; (try dsimp only at hSw); go_simp; (try with_reducible rfl)
  simp only [zSA, zSB, zSC]
  refine R_take 1 28 (v := ?_) rfl rfl (by rfl) (by kernel_rfl) (fun _ _ _ h => h) hS.out ?_ ?_
  rotate_left
  · intro w hSw; (try dsimp only at hSw); go_simp; (try with_reducible rfl)
  simp only [zSA, zSB, zSC]
  refine R_take 2 29 (v := ?_) rfl rfl (by rfl) (by kernel_rfl) (fun _ _ _ h => h) hS.out ?_ ?_
  rotate_left
  · intro w hSw; (try dsimp only at hSw); go_simp; (try with_reducible rfl)
  simp only [zSA, zSB, zSC]
  refine R_take 3 30 (v := ?_) rfl rfl (by rfl) (by kernel_rfl) (fun _ _ _ h => h) hS.out ?_ ?_
  rotate_left
  · intro w hSw; (try dsimp only at hSw); go_simp; (try with_reducible rfl)
  simp only [zSA, zSB, zSC]
  refine R_take 4 31 (v := ?_) rfl rfl (by rfl) (by kernel_rfl) (fun _ _ _ h => h) hS.out ?_ ?_
  rotate_left
  · intro w hSw; (try dsimp only at hSw); go_simp; (try with_reducible rfl)
  simp only [zSA, zSB, zSC]
  obtain ⟨w5, hdel, hM5, hg5⟩ := UMap.del (w := w4.drew) hM4.drew Tryz.underlying28 Tryz.underlying106 hid (i := it2.idx) (by simp [Sp.Pl.lk, hf]) 0
  have hP5 := hP4.drew.grown hg5 (fun e => n3 (by injection e))
  have hbm : b3 ≠ mb := fun e => hF3 mb f4 e.symm
  have hb5 := hb4'.drew.grown hg5 (fun e => hbm (by injection e))
  have ht5 := ht4.drew.grown hg5 (fun k hk => .inl (by injection hk with hk; rw [← hk]; exact f4))
  have hB5 := hB4.drew.grown hg5 (fun e => n5 (by injection e))
  refine R_store 5 (n := .value (.tuple #[])) (w' := w5) rfl rfl (by rfl) (by kernel_rfl) (by go_simp) (.inr ⟨_, rfl⟩) (fun _ => ⟨(hP5.cell 6).trans rfl, (hb5.cell 0).trans rfl⟩) ?_
  refine R_done (by kernel_rfl) ?_ _
  refine hK _ _ ?_
  have hsz9 : it2.idx * 9 + 9 ≤ cs2.size := by omega
  have h5 := H3.out.drop (w' := w5) hit ht5.size (fun b hb h1 h2 => (hg5.block b (by have := H3.out.lt b hb; have := ht4.size; simp; omega) (fun e => h2 (by injection e))).trans (hk4 b h1)) hB5 (Framed.part rfl hsz9) (fun j hj => part_at rfl hsz9 hj) hM5
  have hc5 := h5.chan
  have hrow5 := h5.row
  have hF5 := h5.lt
  have c7 := hP5.cell 7
  have f7 := hP5.frozen 7
  simp only [plCells, zGA, zGB, zGC] at c7
  have hn3v : v.ownBlock ≠ some b3 := fun e => hF3 b3 (f5 b3 e) rfl
  have HDR := Lib.hid (delete_row (w := w5) (asks_drops it2.page.id b3) hrow5 hb5 hn3v)
  have H5 := Lib.hid h5
  have hlen := H3.out.wf.len
  have hit1 : 0 < p2.items.length := List.length_pos_of_mem hit
  clear h5 hrow5 hdel hg5 hM5 hM4 hP4 hb4' ht4 hB4 hk4 hB3 hb3' hS hK K hB5 hc5 c4 hb5
  refine wpN_seq_k ?_
  intro K hK
  go_wp2_with fail
  refine HDR.out.mono ?_
  rintro e w6 ⟨v', rfl, r1, r2, r3⟩
  have ht6 : Turns F F w3 w6 := ht5.grown r2 (fun k hk => .inl (f5 k hk))
  have hP6 := hP5.grown r2 (fun e => o1 e.symm)
  have c7 := hP6.cell 7
  have f7 := hP6.frozen 7
  simp only [plCells, zGA, zGB, zGC] at c7
  have hrd := Lib.hid (H5.out.rowed (w' := w6.setCell ⟨gp, 7, none⟩ v') (v' := v') (ids' := ids.filter (fun x => !(x == it2.page.id))) (by have := r2.size; simpa [World.setCell] using this)
    (fun b hb h1 h2 => (Below.heap_setCell w6 _ _ b h1).trans (r2.block b (hF5 b hb) (fun e => h2 e.symm))) (hP6.set_ 7 v')
    (row_keep r1 (fun b hb => Below.heap_setCell w6 _ _ b (fun e => o1 (by rw [r3 b hb, e])))) (fun b hb => .inl (r3 b hb)))
  have ht7 := ht6.setCell (p := ⟨gp, 7, none⟩) (.inl f1) v'
  obtain ⟨Av, nv, cv, rfl⟩ : ∃ A n c, v' = .slice A n c := by
    rcases r1.2 with ⟨h0, _⟩ | ⟨g6, c6, _, h0, _⟩
    · exact ⟨_, _, _, h0⟩
    · exact ⟨_, _, _, h0⟩
  clear r1 r2 HDR hP6 hP5 H5 H3 ht6
  go_wp2_with fail
  obtain ⟨w7, hw7⟩ : ∃ w7, w7 = w6.setCell ⟨gp, 7, none⟩ (.slice Av nv cv) := ⟨_, rfl⟩
  rw [← hw7] at hrd ht7 ⊢
  clear hw7
  have hc7 := hrd.out.chan
  obtain ⟨c0, c1, c2, c3, c4, c5, c6, c7'⟩ := hrd.out.cells
  clear c0 c1 c2 c3 c4 c6 c7'
  refine wpN_seq ?_
  refine wpN_region ?_
  change wpT _ _ _ [0, 1, 2, 3, 4, 5] _ _
  refine T_value 0 41 (v := ptr gp) (w' := w7) rfl rfl (by rfl) (by go_simp) ?_
  simp only [zSA, zSB, zSC]
  refine T_value 1 42 (v := ptr gp) (w' := w7) rfl rfl (by rfl) (by go_simp) ?_
  simp only [zSA, zSB, zSC]
  refine T_value 2 43 (v := .pointer (some ⟨gp, 5, none⟩)) (w' := w7) rfl rfl (by rfl) (by go_simp) ?_
  simp only [zSA, zSB, zSC]
  refine T_value 3 44 (v := .chan (some cb)) (w' := w7) rfl rfl (by rfl) (by go_simp) ?_
  simp only [zSA, zSB, zSC]
  refine T_value 4 45 (v := .int .i64 it2.idx) (w' := w7) rfl rfl (by rfl) (by go_simp) ?_
  simp only [zSA, zSB, zSC]
  refine T_send 5 (c := cb) (cap := p2.n) (buf := (p2.free.map fun (i : Nat) => Value.int .i64 (i : Int)).toArray) (s := s) (r := r) (tm := false) (v := .int .i64 it2.idx) (z := .tuple #[]) (w' := w7) rfl rfl (by rfl) (by simp [execOp, scase, Act.eval]) hc7 (by simp; omega) ?_
  refine T_done ?_
  simp only [Exit.then]
  refine wpN_of_wp ?_
  have hch := hrd.out.chans (fl' := p2.free ++ [it2.idx]) (s' := s + 1) (r' := r)
  change IsPlAt _ _ (w7.setChan cb p2.n _ _ _ _ _) _ _ _ _ _ _ _ _ _ _ _ _ _ _ _ at hch
  have hgr := grown_setChan w7 cb p2.n ((p2.free ++ [it2.idx]).map fun (i : Nat) => Value.int .i64 (i : Int)).toArray false (s + 1) r false
  have ht8 := ht7.grown hgr (fun k hk => .inl (by injection hk with hk; rw [← hk]; exact f3))
  have eb : ((p2.free.map fun (i : Nat) => Value.int .i64 (i : Int)).toArray).push (.int .i64 (it2.idx : Int)) = ((p2.free ++ [it2.idx]).map fun (i : Nat) => Value.int .i64 (i : Int)).toArray := by simp
  rw [eb]
  have HCH := Lib.hid hch
  clear hch hgr hrd hc7 ht7 eb
  generalize w7.setChan cb p2.n ((p2.free ++ [it2.idx]).map fun (i : Nat) => Value.int .i64 (i : Int)).toArray false (s + 1) r false = w8 at *
  go_wp2_with fail
  go_ret
  obtain ⟨hY, hn0, hFH⟩ := HH.out
  refine .inr ⟨rfl, H', p2, it2, w2, _, _, _, hf, hY, hn0, hFH, HCH.out, ?_⟩
  have hn3z := hn3.size
  refine ⟨ht8.os.trans hn3.os, ht8.tape.trans hn3.tape, ht8.output.trans hn3.output, Nat.le_trans hn3z ht8.size, fun b hb hn => ?_, fun b hb => ?_⟩
  · rw [ht8.block b (by omega) hn]; exact hn3.block b hb (fun e => e)
  · rcases hb with hb | hb
    · exact .inl hb
    · exact .inl (f5 b (r3 b hb))
end Go.Proofs.YtndglfiepeefdaaGreat
