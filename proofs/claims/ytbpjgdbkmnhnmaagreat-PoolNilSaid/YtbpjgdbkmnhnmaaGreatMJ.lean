/- Maps from uint32 to int, as functions. No program is named here. -/
import Derived.Test.YtbpjgdbkmnhnmaaGreatMB
import Derived.Test.YtbpjgdbkmnhnmaaGreatMH
import Derived.Test.YtbpjgdbkmnhnmaaGreatMI

namespace Go.Proofs.YtbpjgdbkmnhnmaaGreat
open Go.RowKit Go.Maps

/-- Block b is a map of m entries that is this function. -/
def UMap (P : Program) (k e : TypeId) (w : World) (b m : Nat) (lk : Nat → Option Nat) : Prop :=
  ∃ D : DataW Unit, w.ownsMap P k (plainElem P e) b m D ∧ size D = m ∧
    ∀ p, (∀ i, lk p = some i → has D (uKey p) = true ∧ ∀ z, D.atKey (uKey p) z = .lit (.int .i64 (i : Int))) ∧ (lk p = none → has D (uKey p) = false)

section
variable {P : Program} {k e t : TypeId} {w w' : World} {b m : Nat} {lk : Nat → Option Nat}

theorem owns_norm {R : Value → Option (DataW Unit × List MemPlace)} {n : Nat} {D : DataW Unit} (h : w.ownsMap P k R b n D) : w.ownsMap P k R b (size D) D := by
  obtain ⟨es, clock, hb, F, _, rfl⟩ := h
  refine ⟨es, clock, hb, F, ?_, rfl⟩
  simp [Maps.size, length_sorted]

theorem UMap.lt (h : UMap P k e w b m lk) : b < w.heap.size := by obtain ⟨D, h1, _⟩ := h; exact World.ownsMap.lt h1
theorem UMap.keep (h : UMap P k e w b m lk) (hk : w'.heap[b]? = w.heap[b]?) : UMap P k e w' b m lk := by
  obtain ⟨D, ⟨es, clock, h1, rest⟩, h2⟩ := h
  exact ⟨D, ⟨es, clock, hk.trans h1, rest⟩, h2⟩
theorem UMap.kept {row : Option Nat} (h : UMap P k e w b m lk) (hg : w.grownBy w' row) (hne : some b ≠ row) : UMap P k e w' b m lk := h.keep (hg.block b h.lt hne)
theorem UMap.alloc (h : UMap P k e w b m lk) (o : Obj) : UMap P k e (w.alloc o) b m lk := h.keep (Below.heap_alloc w o b h.lt)
theorem UMap.drew (h : UMap P k e w b m lk) : UMap P k e w.drew b m lk := h.keep rfl
theorem UMap.far (h : UMap P k e w b m lk) {p : Addr} (hp : b ≠ p.block) (u : Value) : UMap P k e (w.setCell p u) b m lk := h.keep (Below.heap_setCell w p u b hp)
theorem UMap.below {B : Nat} (h : UMap P k e w b m lk) (hb : Below B w w') (hlt : b < B) : UMap P k e w' b m lk := h.keep (hb.block b hlt)
theorem UMap.turns {F F' : Foot} (h : UMap P k e w b m lk) (ht : Turns F F' w w') (hn : ¬ F b) : UMap P k e w' b m lk := h.keep (ht.block b h.lt hn)
theorem UMap.congr {lk' : Nat → Option Nat} (h : UMap P k e w b m lk) (he : ∀ p, lk' p = lk p) : UMap P k e w b m lk' := by
  have : lk' = lk := funext he
  rw [this]; exact h
theorem UMap.made (w : World) : UMap P k e (w.alloc (.map #[] 0)) w.heap.size 0 (fun _ => none) :=
  ⟨.map [], World.ownsMap_made w P k _, rfl, fun p => ⟨fun i h => by simp at h, fun _ => rfl⟩⟩

theorem int_of_lit (he : P.underlying e = some (.int .i64)) {v : Value} {i : Int} {ps : List MemPlace} (h : plainElem (H := Unit) P e v = some (.lit (.int .i64 i), ps)) : v = .int .i64 i := by
  obtain ⟨a, rfl, hz, _⟩ := plainElem_int_inv he h
  simp only [Prod.mk.injEq, DataW.lit.injEq, Lit.int.injEq, true_and] at hz
  rw [hz.1]

theorem UMap.look (h : UMap P k e w b m lk) (hk : P.underlying k = some (.int .u32)) (he : P.underlying e = some (.int .i64)) (ht : P.underlying t = some (.map k e)) (hz : (zeroValue e).run P w = .ok (.int .i64 0) w) {p i : Nat} (hp : p < 4294967296) (hi : lk p = some i) :
    (Instr.lookup t (.map (some b)) (.int .u32 (p : Int)) false).run P w = .ok (.int .i64 (i : Int)) w := by
  obtain ⟨D, h1, _, h3⟩ := h
  obtain ⟨v, ps, hrun, hv⟩ := World.ownsMap.lookup h1 (int_keyed hk) ht hz (plainElem_int he (by decide)) (keyOf_int_mk hk (uKey_wf hp))
  rw [((h3 p).1 i hi).2] at hv
  rw [hrun, int_of_lit he hv]

theorem UMap.look_ok (h : UMap P k e w b m lk) (hk : P.underlying k = some (.int .u32)) (he : P.underlying e = some (.int .i64)) (ht : P.underlying t = some (.map k e)) (hz : (zeroValue e).run P w = .ok (.int .i64 0) w) {p : Nat} (hp : p < 4294967296) :
    (Instr.lookup t (.map (some b)) (.int .u32 (p : Int)) true).run P w = .ok (.tuple #[.int .i64 (((lk p).getD 0 : Nat) : Int), .bool (lk p).isSome]) w := by
  obtain ⟨D, h1, _, h3⟩ := h
  obtain ⟨v, ps, hrun, hv⟩ := World.ownsMap.look_ok h1 (int_keyed hk) ht hz (plainElem_int he (by decide)) (keyOf_int_mk hk (uKey_wf hp))
  cases hl : lk p with
  | none =>
    rw [(h3 p).2 hl] at hrun
    rw [atKey_of_not_has ((h3 p).2 hl)] at hv
    rw [hrun, int_of_lit he hv]; rfl
  | some i =>
    rw [((h3 p).1 i hl).1] at hrun
    rw [((h3 p).1 i hl).2] at hv
    rw [hrun, int_of_lit he hv]; rfl

def lkPut (lk : Nat → Option Nat) (p i : Nat) : Nat → Option Nat := fun q => if q = p then some i else lk q
def lkDel (lk : Nat → Option Nat) (p : Nat) : Nat → Option Nat := fun q => if q = p then none else lk q

theorem UMap.put (h : UMap P k e w b m lk) (hk : P.underlying k = some (.int .u32)) (he : P.underlying e = some (.int .i64)) (ht : P.underlying t = some (.map k e)) (hm : m < 1000000000) {p i : Nat} (hp : p < 4294967296) (hi : i < 9223372036854775808) (hn : lk p = none) :
    ∃ w', (Instr.mapUpdate t (.map (some b)) (.int .u32 (p : Int)) (.int .i64 (i : Int))).run P w = .ok () w' ∧ UMap P k e w' b (m + 1) (lkPut lk p i) ∧ w.grownBy w' (some b) := by
  obtain ⟨D, h1, h2, h3⟩ := h
  have hwf : (Lit.int .i64 (i : Int)).wf = true := by
    have e1 : IntKind.i64.min = -9223372036854775808 := rfl
    have e2 : IntKind.i64.max = 9223372036854775807 := rfl
    simp [Lit.wf, e1, e2]; omega
  obtain ⟨w', r1, r2, r3⟩ := World.ownsMap.update h1 (int_keyed hk) ht (by unfold maxLen; omega) (keyOf_int_mk hk (uKey_wf hp)) (plainElem_int he hwf)
  have hT := World.ownsMap.tidy h1 (int_keyed hk)
  refine ⟨w', r1, ⟨_, r2, ?_, fun q => ?_⟩, r3⟩
  · rw [size_put hT, (h3 p).2 hn, h2]; rfl
  · by_cases hq : q = p
    · subst hq
      simp only [lkPut, if_pos]
      refine ⟨fun j hj => ?_, fun hc => by cases hc⟩
      injection hj with hj
      subst hj
      exact ⟨has_put_same hT.isMap (uKey_lit q) _, fun z => atKey_put_same hT.isMap (uKey_lit q) _ z⟩
    · have hne : uKey q ≠ uKey p := fun e => hq (uKey_inj e)
      simp only [lkPut, if_neg hq]
      refine ⟨fun j hj => ?_, fun hc => ?_⟩
      · rw [has_put_other hne]
        exact ⟨((h3 q).1 j hj).1, fun z => by rw [atKey_put_other hne]; exact ((h3 q).1 j hj).2 z⟩
      · rw [has_put_other hne]; exact (h3 q).2 hc

theorem UMap.del (h : UMap P k e w b m lk) (hk : P.underlying k = some (.int .u32)) (ht : P.underlying t = some (.map k e)) {p i : Nat} (hp : p < 4294967296) (hi : lk p = some i) (ty : TypeId) :
    ∃ w', (Builtin.delete_ #[t, k] ty #[.map (some b), .int .u32 (p : Int)]).run P w = .ok (.tuple #[]) w' ∧ UMap P k e w' b (m - 1) (lkDel lk p) ∧ w.grownBy w' (some b) := by
  obtain ⟨D, h1, h2, h3⟩ := h
  obtain ⟨w', r1, r2, r3⟩ := World.ownsMap.drop h1 (int_keyed hk) ht (keyOf_int_mk hk (uKey_wf hp)) ty
  have hT := World.ownsMap.tidy h1 (int_keyed hk)
  have hs := size_del (D := D) (k := uKey p) hT
  rw [((h3 p).1 i hi).1, if_pos rfl, h2] at hs
  have r4 := owns_norm r2
  have hs' : size (D.del (uKey p)) = m - 1 := by omega
  rw [hs'] at r4
  refine ⟨w', r1, ⟨_, r4, hs', fun q => ?_⟩, r3.grown⟩
  by_cases hq : q = p
  · subst hq
    simp only [lkDel, if_pos]
    exact ⟨fun j hj => (by cases hj), fun _ => has_del_same⟩
  · have hne : uKey q ≠ uKey p := fun e => hq (uKey_inj e)
    simp only [lkDel, if_neg hq]
    refine ⟨fun j hj => ?_, fun hc => ?_⟩
    · rw [has_del_other hne]
      exact ⟨((h3 q).1 j hj).1, fun z => by rw [atKey_del_other hne]; exact ((h3 q).1 j hj).2 z⟩
    · rw [has_del_other hne]; exact (h3 q).2 hc
end
end Go.Proofs.YtbpjgdbkmnhnmaaGreat

/- A pool in memory; New. -/
namespace Go.Proofs.YtbpjgdbkmnhnmaaGreat
open Go.RowKit

namespace Sp
/-- A page that is in: in which frame, how often it is pinned. -/
structure It where
  page : Pg
  pins : Nat
  dirty : Bool
  from_ : Nat
  idx : Nat
/-- A pool: its pages, who was pinned last stands last; the frames that are free. -/
structure Pl where
  n : Nat
  items : List It
  free : List Nat
def Pl.find (p : Pl) (id : Nat) : Option It := p.items.find? (fun it => it.page.id == id)
def Pl.lk (p : Pl) : Nat → Option Nat := fun id => (p.find id).map (·.idx)
structure Pl.wf (p : Pl) : Prop where
  n1 : 1 ≤ p.n
  n64 : p.n ≤ 64
  idx : (p.free ++ p.items.map (·.idx)).Perm (List.range p.n)
  ids : (p.items.map (·.page.id)).Nodup
  pg : ∀ it ∈ p.items, it.page.wf ∧ it.page.may
  small : ∀ it ∈ p.items, it.pins ≤ 1000000000 ∧ it.from_ < 18446744073709551616
end Sp

def frCells (it : Sp.It) (A : Option Addr) (c : Nat) : List Value :=
  [.int .u8 it.page.kind, .int .u8 it.page.level, .int .u32 it.page.id, .int .u64 it.page.lsn, .int .u32 it.page.next, .slice A it.page.rows.length c, .int .i64 it.pins, .bool it.dirty, .int .u64 it.from_]
def zeroFr : List Value := [.int .u8 0, .int .u8 0, .int .u32 0, .int .u64 0, .int .u32 0, .slice none 0 0, .int .i64 0, .bool false, .int .u64 0]

abbrev plCells (gd gl at_ base fb n cb mb : Nat) (v : Value) : Array Value :=
  #[ptr gd, ptr gl, .int .i64 at_, .int .i64 base, .slice (some ⟨fb, 0, none⟩) n n, .chan (some cb), .map (some mb), v]

/-- The frames' cells. -/
structure IsFr (R : Foot) (w : World) (fb : Nat) (p : Sp.Pl) (cs : Array Value) : Prop where
  blk : Blk w fb 88 cs
  size : cs.size = p.n * 9
  item : ∀ it ∈ p.items, ∃ A c, OkAddr A ∧ RowsAt R w A it.page.rows ∧ ∀ j, j < 9 → cs[it.idx * 9 + j]? = (frCells it A c)[j]?
  free : ∀ i ∈ p.free, ∀ j, j < 9 → cs[i * 9 + j]? = zeroFr[j]?

/-- The parts of a pool in memory; fl: which frames the channel has, ids: the row (while a call is under way they are not yet those of p). -/
structure IsPlAt (F R : Foot) (w : World) (gp gd gl at_ base fb cb mb : Nat) (v : Value) (s r : Nat) (cs : Array Value) (fl ids : List Nat) (p : Sp.Pl) : Prop where
  wf : p.wf
  blk : Blk w gp 83 (plCells gd gl at_ base fb p.n cb mb v)
  fr : IsFr R w fb p cs
  chan : w.heap[cb]? = some (.chan p.n (fl.map fun (i : Nat) => Value.int .i64 (i : Int)).toArray false s r false)
  map : UMap Tryz.prog 26 3 w mb p.items.length p.lk
  row : w.ownsRow 0 26 1 v ids.length (ids.map fun (i : Nat) => Value.int .u32 (i : Int))
  foot : F gp ∧ F fb ∧ F cb ∧ F mb ∧ ∀ b, v.ownBlock = some b → F b
  rows : ∀ b, R b → F b ∧ b ≠ gp ∧ b ≠ fb ∧ b ≠ cb ∧ b ≠ mb ∧ v.ownBlock ≠ some b
  lt : ∀ b, F b → b < w.heap.size

/-- A pool in memory: its struct in block gp; F is all its blocks. -/
def IsPl (F : Foot) (w : World) (gp gd gl at_ base : Nat) (p : Sp.Pl) : Prop :=
  ∃ R fb cb mb v s r cs, IsPlAt F R w gp gd gl at_ base fb cb mb v s r cs p.free (p.items.map (·.page.id)) p

theorem IsFr.keep {R : Foot} {w w' : World} {fb : Nat} {p : Sp.Pl} {cs : Array Value} (h : IsFr R w fb p cs) (hs : w.heap.size ≤ w'.heap.size) (hf : w'.heap[fb]? = w.heap[fb]?) (hk : ∀ b, R b → w'.heap[b]? = w.heap[b]?) : IsFr R w' fb p cs :=
  ⟨h.blk.keep hf, h.size, fun it hit => by
    obtain ⟨A, c, hA, hR, hc⟩ := h.item it hit
    exact ⟨A, c, hA, hR.keep hs hk, hc⟩, h.free⟩

theorem IsPlAt.keep {F R : Foot} {w w' : World} {gp gd gl at_ base fb cb mb s r : Nat} {v : Value} {cs : Array Value} {fl ids : List Nat} {p : Sp.Pl} (h : IsPlAt F R w gp gd gl at_ base fb cb mb v s r cs fl ids p) (hs : w.heap.size ≤ w'.heap.size)
    (hk : ∀ b, F b → w'.heap[b]? = w.heap[b]?) : IsPlAt F R w' gp gd gl at_ base fb cb mb v s r cs fl ids p := by
  obtain ⟨f1, f2, f3, f4, f5⟩ := h.foot
  refine ⟨h.wf, h.blk.keep (hk _ f1), h.fr.keep hs (hk _ f2) (fun b hb => hk b (h.rows b hb).1), (hk _ f3).trans h.chan, h.map.keep (hk _ f4), ⟨h.row.1, ?_⟩, h.foot, h.rows, fun b hb => Nat.lt_of_lt_of_le (h.lt b hb) hs⟩
  rcases h.row.2 with h' | ⟨b, cap, cur, rfl, hb, hh, rest⟩
  · exact .inl h'
  · exact .inr ⟨b, cap, cur, rfl, hb, (hk b (f5 b rfl)).trans hh, rest⟩
theorem IsPl.keep {F : Foot} {w w' : World} {gp gd gl at_ base : Nat} {p : Sp.Pl} (h : IsPl F w gp gd gl at_ base p) (hs : w.heap.size ≤ w'.heap.size) (hk : ∀ b, F b → w'.heap[b]? = w.heap[b]?) : IsPl F w' gp gd gl at_ base p := by
  obtain ⟨R, fb, cb, mb, v, s, r, cs, h⟩ := h
  exact ⟨R, fb, cb, mb, v, s, r, cs, h.keep hs hk⟩
theorem IsPl.lt {F : Foot} {w : World} {gp gd gl at_ base : Nat} {p : Sp.Pl} (h : IsPl F w gp gd gl at_ base p) : ∀ b, F b → b < w.heap.size := by
  obtain ⟨R, fb, cb, mb, v, s, r, cs, h⟩ := h
  exact h.lt
theorem IsPl.below {F : Foot} {w w' : World} {gp gd gl at_ base : Nat} {p : Sp.Pl} (h : IsPl F w gp gd gl at_ base p) (hb : Below w.heap.size w w') : IsPl F w' gp gd gl at_ base p :=
  h.keep hb.size (fun b hF => hb.block b (h.lt b hF))
theorem IsPl.wf {F : Foot} {w : World} {gp gd gl at_ base : Nat} {p : Sp.Pl} (h : IsPl F w gp gd gl at_ base p) : p.wf := by
  obtain ⟨R, fb, cb, mb, v, s, r, cs, h⟩ := h
  exact h.wf

def zeroFrA : Value := .agg zeroFr.toArray
theorem fr_info : (Tryz.prog.info? 88).map (fun i => (i.zero, i.size, i.bytes)) = some (some zeroFrA, 9, 72) := by kernel_rfl
theorem int_info2 : (Tryz.prog.info? 3).map (fun i => (i.zero, i.size, i.bytes)) = some (some (.int .i64 0), 1, 8) := by kernel_rfl

theorem made_at (n j : Nat) (i : Nat) (hi : i < n) (hj : j < 9) : (madeCells zeroFrA.cells (n * 9))[i * 9 + j]? = zeroFr[j]? := by
  unfold madeCells
  have e : zeroFrA.cells = zeroFr.toArray := rfl
  have hlt : i * 9 + j < n * 9 := by omega
  have hm : (i * 9 + j) % 9 = j := by omega
  rw [e]
  simp only [zeroFr, List.size_toArray, List.length_cons, List.length_nil, Nat.reduceAdd]
  simp [hlt, hm]
  match j, hj with
  | 0, _ | 1, _ | 2, _ | 3, _ | 4, _ | 5, _ | 6, _ | 7, _ | 8, _ => rfl
end Go.Proofs.YtbpjgdbkmnhnmaaGreat

/- slices.Clone of rows, slices.DeleteFunc of a row of numbers, in the words of this proof. -/
namespace Go.Proofs.YtbpjgdbkmnhnmaaGreat
open Go.RowKit Go.Shelf Go.Lib Go.Sort

abbrev u32v (i : Nat) : Value := .int .u32 (i : Int)
theorem u32_one : OneCell u32v := fun _ => rfl
theorem Tryz.z26 (w : World) : (zeroValue 26).run Tryz.prog w = .ok (u32v 0) w := by kernel_rfl

theorem nat_beq (x p : Nat) : ((x : Int) == (p : Int)) = (x == p) := by
  rw [Bool.eq_iff_iff, beq_iff_eq, beq_iff_eq]; omega

theorem pins1_any (x p B : Nat) (W : World) (hc : W.cell? ⟨B, 0, none⟩ = some (u32v p)) :
    Calls Tryz.prog 90 #[u32v x, ptr B] W fun e w' => e = .returned (.bool (x == p)) ∧ w' = W := by
  have HB := Lib.hid (nat_beq x p)
  go_enter Tryz.func90, Tryz.ntmps90
  go_wp2_with fail
  go_ret
  exact ⟨by rw [← HB.out]; rfl, rfl⟩
theorem drops1_any (x p B : Nat) (W : World) (hc : W.cell? ⟨B, 0, none⟩ = some (u32v p)) :
    Calls Tryz.prog 94 #[u32v x, ptr B] W fun e w' => e = .returned (.bool (x == p)) ∧ w' = W := by
  have HB := Lib.hid (nat_beq x p)
  go_enter Tryz.func94, Tryz.ntmps94
  go_wp2_with fail
  go_ret
  exact ⟨by rw [← HB.out]; rfl, rfl⟩

/-- A function value that asks 'is it p?', p in the variable of block B. -/
def AsksFor (f : Nat) (p B : Nat) : Prop := (∀ x W, W.cell? ⟨B, 0, none⟩ = some (u32v p) → Calls Tryz.prog f #[u32v x, ptr B] W fun e w' => e = .returned (.bool (x == p)) ∧ w' = W) ∧
  ∀ args w, (callFunc f args).run Tryz.prog w = .ok (.enter f args) w
theorem asks_pins (p B : Nat) : AsksFor 90 p B := ⟨fun x W h => pins1_any x p B W h, enters_of Tryz.func90 (by kernel_rfl) rfl⟩
theorem asks_drops (p B : Nat) : AsksFor 94 p B := ⟨fun x W h => drops1_any x p B W h, enters_of Tryz.func94 (by kernel_rfl) rfl⟩

set_option maxRecDepth 100000 in
set_option maxHeartbeats 1000000 in
theorem delete_empty (a : Option Addr) (c : Nat) (fv : Value) (w : World) :
    Calls Tryz.prog 89 #[.slice a 0 c, fv] w fun e w' => e = .returned (.slice a 0 c) ∧ w' = w := by
  have HI := Lib.hid (Tryz.slices_IndexFunc_empty_f134 (α := Nat) a c fv w)
  go_enter Tryz.func89, Tryz.ntmps89
  go_wp2_with fail
  refine HI.out.mono ?_
  rintro e w1 ⟨rfl, hw⟩
  subst w1
  go_wp2_with fail
  go_ret
  exact ⟨rfl, rfl⟩

theorem putRow_heap (w : World) (q b : Nat) (D : Array Nat) (cur : Array Value) (e : TypeId) (h : w.heap[b]? = some (.cells cur e (0, 0))) :
    (putRow u32v (Sort.ahead w q) b 0 D).heap[b]? = some (.cells (Go.Sort.putCells u32v 0 D cur) e (0, 0)) := by
  simp [putRow, mapBlock, Sort.ahead, Array.getElem?_modify, h, onCells]
theorem putRow_grown (w : World) (q b : Nat) (D : Array Nat) : w.grownBy (putRow u32v (Sort.ahead w q) b 0 D) (some b) :=
  ⟨rfl, rfl, rfl, by simp [putRow, mapBlock, Sort.ahead], fun k _ hk => by
    have : ¬ b = k := fun e => hk (by rw [e])
    simp [putRow, mapBlock, Sort.ahead, Array.getElem?_modify, this]⟩

/-- A row of numbers from which one is struck. -/
theorem delete_row {w : World} {base f p B : Nat} {v : Value} {ids : List Nat} (hf : AsksFor f p B) (h : w.ownsRow base 26 1 v ids.length (ids.map u32v)) (hB : Blk w B 26 #[u32v p]) (hne : v.ownBlock ≠ some B) :
    Calls Tryz.prog 89 #[v, .func (.func f) #[] #[ptr B]] w fun e w' => ∃ v', e = .returned v' ∧
      w'.ownsRow base 26 1 v' (ids.filter (fun x => !(x == p))).length ((ids.filter (fun x => !(x == p))).map u32v) ∧ w.grownBy w' v.ownBlock ∧ (∀ k, v'.ownBlock = some k → v.ownBlock = some k) := by
  rcases h.2 with ⟨rfl, h0⟩ | ⟨b, cap, cur, rfl, hbb, hh, h1, h2, h3, h4⟩
  · have hids : ids = [] := List.eq_nil_of_length_eq_zero h0
    subst hids
    refine (delete_empty none 0 _ w).mono ?_
    rintro e w1 ⟨rfl, rfl⟩
    exact ⟨_, rfl, World.ownsRow_nil _ _ _ _, ⟨rfl, rfl, rfl, Nat.le_refl _, fun _ _ _ => rfl⟩, fun k hk => hk⟩
  · have hnb : b ≠ B := fun e => hne (by rw [e]; rfl)
    have hlen : ids.toArray.size = ids.length := by simp
    have hcm : cap ≤ 9223372036854775807 := by unfold maxLen at h2; omega
    have hH : Holds u32v w b 0 ids.toArray := by
      intro j hj
      have hj' : j < ids.length := by simpa using hj
      rw [Nat.zero_add]
      refine ⟨(h.cellAt j (by omega)).trans ?_, h.frozenAt j⟩
      simp [hj']
    have hp : PredAt Tryz.prog f #[ptr B] u32v (fun x => x == p) w := fun W x hb => by
      refine (hf.1 x W ((hb.cell (p := ⟨B, 0, none⟩) hB.lt).trans (hB.cell 0))).mono ?_
      rintro e w' ⟨rfl, rfl⟩
      exact ⟨rfl, 0, rfl⟩
    have hpo : PredOver Tryz.prog f #[ptr B] u32v (fun x => x == p) b 0 ids.toArray.size w := fun n os dk x hdk => by
      refine (hf.1 x _ ?_).mono ?_
      · have e1 := putRow_grown w n b dk
        have e2 : (sortWorld u32v w b 0 n dk os).heap[B]? = w.heap[B]? := by
          have hsz : B < (putRow u32v (Sort.ahead w n) b 0 dk).heap.size := Nat.lt_of_lt_of_le hB.lt e1.size
          exact (Sort.heap_grow_old (putRow u32v (Sort.ahead w n) b 0 dk) os hsz).trans (e1.block B hB.lt (fun e => hnb (by injection e with e; exact e.symm)))
        exact (hB.keep e2).cell 0
      · rintro e w' ⟨rfl, rfl⟩
        exact ⟨rfl, 0, rfl⟩
    have hcall := Tryz.slices_DeleteFunc_f89 u32v u32_one (fun x => x == p) f #[ptr B] hf.2 0 Tryz.z26 b 0 cap ids.toArray w hp hpo hH (by rw [hlen]; omega) (by rw [hlen]; exact h1)
    rw [hlen] at hcall
    refine hcall.mono ?_
    rintro e w' ⟨rfl, q, rfl⟩
    have hlf : (ids.filter (fun x => !(x == p))).length ≤ ids.length := List.length_filter_le _ _
    have hcsz : cur.size = cap := by rw [h3, Nat.mul_one]
    refine ⟨_, rfl, ⟨by simp, .inr ⟨b, cap, _, rfl, hbb, putRow_heap w q b _ cur _ hh, Nat.le_trans hlf h1, h2, ?_, ?_⟩⟩, putRow_grown w q b _, fun k hk => hk⟩
    · simp [Go.Sort.putCells, h3]
    · apply List.ext_getElem?
      intro k
      rw [Nat.mul_one, List.getElem?_take]
      split
      · rename_i hk
        have hkc : k < cur.size := by omega
        simp only [Go.Sort.putCells, Array.getElem?_toList, Array.getElem?_mapIdx]
        rw [Array.getElem?_eq_getElem hkc]
        have hk2 : k < ((ids.filter (fun x => !(x == p))) ++ List.replicate (ids.length - (ids.filter (fun x => !(x == p))).length) 0).length := by
          rw [List.length_append, List.length_replicate]; omega
        simp only [Option.map_some, Nat.zero_le, Nat.zero_add, true_and, Nat.sub_zero, List.size_toArray]
        rw [if_pos hk2, List.getElem?_map, List.getElem?_eq_getElem hk]
        simp only [Option.map_some]
        congr 2
        rw [getElem!_pos _ k (by simpa using hk2)]
        simp [List.getElem_append_left hk]
      · rename_i hk
        rw [List.getElem?_eq_none (by simpa using hk)]

/-- A page's rows, copied. -/
theorem clone_rows {G : Foot} {w : World} {A : Option Addr} {c : Nat} {rows : List Sp.Bs} (hR : RowsAt G w A rows) (hA : OkAddr A) (hl : rows.length ≤ 1000000) :
    Calls Tryz.prog 88 #[.slice A rows.length c] w fun e w' => ∃ A' c', e = .returned (.slice A' rows.length c') ∧ OkAddr A' ∧ RowsAt (fun b => w.heap.size ≤ b) w' A' rows ∧ Below w.heap.size w w' := by
  obtain ⟨i0, hi, hz0, hz1, hz2⟩ := info_parts str_info
  rcases hA with rfl | ⟨b, o, rfl⟩
  · have h0 : rows = [] := by
      cases rows with
      | nil => rfl
      | cons x l =>
        obtain ⟨b, o, e, _⟩ := hR.2 (by simp)
        cases e
    subst h0
    refine (Tryz.slices_Clone_nil_f88 0 c w).mono ?_
    rintro e w1 ⟨rfl, rfl⟩
    exact ⟨none, 0, rfl, .inl rfl, Reads.none_, Below.refl _ _⟩
  · have hz23 : ∀ w, (Go.sizeOf 9).run Tryz.prog w = .ok 1 w := fun w => by kernel_rfl
    rcases Nat.eq_zero_or_pos rows.length with h0 | hpos
    · have h0' : rows = [] := List.eq_nil_of_length_eq_zero h0
      subst h0'
      refine (Tryz.slices_Clone_f88 i0 _ 1 16 hi hz0 hz1 hz2 rfl (by decide) hz23 b o 0 c [] w rfl (by unfold maxLen; omega) (by omega) (fun j u hu => by simp at hu) (fun u hu => by simp at hu)).mono ?_
      rintro e w1 ⟨v, rfl, hO, hnn, hb⟩
      obtain ⟨A', c', rfl, hA', hR'⟩ := own_rows (rows := []) hO
      exact ⟨A', c', rfl, hA', hR', hb⟩
    · obtain ⟨b2, o2, e2, _, _, hc⟩ := hR.2 hpos
      injection e2 with e2
      injection e2 with e3 e4
      subst e3 e4
      refine (Tryz.slices_Clone_f88 i0 _ 1 16 hi hz0 hz1 hz2 rfl (by decide) hz23 b o rows.length c (rcs rows) w (by simp) (by unfold maxLen; omega) (by omega) hc (fun u hu => by
        obtain ⟨x, _, rfl⟩ := List.mem_map.1 hu; rfl)).mono ?_
      rintro e w1 ⟨v, rfl, hO, hnn, hb⟩
      obtain ⟨A', c', rfl, hA', hR'⟩ := own_rows hO
      exact ⟨A', c', rfl, hA', hR', hb⟩
end Go.Proofs.YtbpjgdbkmnhnmaaGreat
