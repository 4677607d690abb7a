/- Words for memory: which blocks a thing owns, what a call turns, slices that read as lists. No program is named here. -/
import Derived.Below
import Derived.Laws.OwnMore
import Derived.Laws.Rows
import Derived.Deep.Draws
import Derived.Deep.AppendLies
import Derived.Lib.Hide
import Derived.Maps.OwnOps
import Derived.Maps.OwnSet
import Derived.Maps.Views
import Derived.Maps.Keyed
import Derived.Maps.Ext
import Derived.Test.YtclpmkinjjhncaaGreatProg
import Derived.WalkKit
import Derived.Outline
import Derived.LoopTactic
import Derived.IntWalk
import Derived.OwnWalk
import Derived.Lib.ConvBytes
import Derived.Deep.LoopGhost
import Derived.Deep.DeepFit
import Derived.Deep.DeepMust
import Derived.Deep.RegionHeld3
import Derived.Deep.RegionWith
import Derived.Deep.QuietTactic
import Derived.BigQuiet
import Derived.WalkLawsBesides
import Derived.WalkSpells
import Derived.Laws.BytesString
import Derived.Laws.IdiomStrings
import Derived.Laws.BytesArg
import Derived.Laws.BitsAllLaws
import Derived.Laws.MakeOwn
import Derived.Laws.Entries
import Derived.Lib.BufferWrite
import Derived.Lib.SlBuf
import Derived.Laws.CopyOwn
import Derived.RegionTactic
import Derived.BigRegion
import Derived.ChangeAlike
import Derived.Laws.Tables
import Derived.Deep.WholeRow
import Derived.Deep.MidRow
import Derived.Laws.ResultCell
import Derived.Laws.AppendOwn
import Derived.Maps.AppendAt
import Derived.Laws.Append
import Derived.OrdersHeld
import Derived.Deep.RegionHeld

namespace Go.Proofs.YtclpmkinjjhncaaGreat
open Go.RowKit

/-- A set of blocks. -/
abbrev Foot := Nat → Prop

/-- The blocks of 'G' lie in w, apart from those of 'F'. -/
def Apart (w : World) (F G : Foot) : Prop := ∀ b, G b → b < w.heap.size ∧ ¬ F b

/-- w' is w, but for blocks of 'F', and new ones; 'F'' is 'F' and new ones at most. -/
structure Turns (F F' : Foot) (w w' : World) : Prop where
  os : w'.os = w.os
  tape : w'.tape = w.tape
  output : w'.output = w.output
  size : w.heap.size ≤ w'.heap.size
  block : ∀ b, b < w.heap.size → ¬ F b → w'.heap[b]? = w.heap[b]?
  foot : ∀ b, F' b → F b ∨ w.heap.size ≤ b

def noFoot : Foot := fun _ => False
/-- one block. -/
abbrev only (h : Nat) : Foot := fun b => b = h

section
variable {F F' F'' G : Foot} {w w' w'' : World}
theorem Turns.refl (F : Foot) (w : World) : Turns F F w w := ⟨rfl, rfl, rfl, Nat.le_refl _, fun _ _ _ => rfl, fun _ h => .inl h⟩
theorem Turns.trans (h : Turns F F' w w') (k : Turns F' F'' w' w'') : Turns F F'' w w'' :=
  ⟨k.os.trans h.os, k.tape.trans h.tape, k.output.trans h.output, Nat.le_trans h.size k.size, fun b hb hF => (k.block b (Nat.lt_of_lt_of_le hb h.size) (fun hF' => by
      rcases h.foot b hF' with h' | h'
      · exact hF h'
      · omega)).trans (h.block b hb hF),
    fun b hb => by
      rcases k.foot b hb with h1 | h1
      · exact h.foot b h1
      · exact .inr (Nat.le_trans h.size h1)⟩
theorem Turns.of_below (h : Below w.heap.size w w') (F : Foot) : Turns F F w w' :=
  ⟨h.os, h.tape, h.output, h.size, fun b hb _ => h.block b hb, fun _ hb => .inl hb⟩
theorem Turns.below (h : Turns F F' w w') {n : Nat} (hn : n ≤ w.heap.size) (hF : ∀ b, F b → n ≤ b) : Below n w w' :=
  ⟨h.os, h.tape, h.output, h.size, fun b hb => h.block b (by omega) (fun hf => by have := hF b hf; omega)⟩
theorem Turns.below_none (h : Turns noFoot F' w w') : Below w.heap.size w w' := h.below (Nat.le_refl _) (fun _ hb => hb.elim)
theorem Turns.keep (h : Turns F F' w w') (hG : Apart w F G) : ∀ b, G b → w'.heap[b]? = w.heap[b]? := fun b hb => h.block b (hG b hb).1 (hG b hb).2
theorem Turns.apart (h : Turns F F' w w') (hG : Apart w F G) : Apart w' F' G := fun b hb =>
  ⟨Nat.lt_of_lt_of_le (hG b hb).1 h.size, fun hF' => by
    rcases h.foot b hF' with h' | h'
    · exact (hG b hb).2 h'
    · have := (hG b hb).1; omega⟩
/-- A call that turned blocks of F1 alone, seen from a greater set. -/
theorem Turns.wider {F1 F1' : Foot} (h : Turns F1 F1' w w') (hF : ∀ b, F1 b → F b) (hF' : ∀ b, F' b → F b ∨ F1' b) : Turns F F' w w' :=
  ⟨h.os, h.tape, h.output, h.size, fun b hb hn => h.block b hb (fun h1 => hn (hF b h1)), fun b hb => by
    rcases hF' b hb with h1 | h1
    · exact .inl h1
    · rcases h.foot b h1 with h2 | h2
      · exact .inl (hF b h2)
      · exact .inr h2⟩
theorem Turns.drew (h : Turns F F' w w') : Turns F F' w w'.drew := ⟨h.os, h.tape, h.output, h.size, h.block, h.foot⟩
theorem Turns.drewN (h : Turns F F' w w') (n : Nat) : Turns F F' w (w'.drewN n) := ⟨h.os, h.tape, h.output, h.size, h.block, h.foot⟩
theorem Turns.alloc (h : Turns F F' w w') (o : Obj) : Turns F F' w (w'.alloc o) :=
  ⟨h.os, h.tape, h.output, Nat.le_trans h.size (by simp), fun b hb hn => (Below.heap_alloc w' o b (Nat.lt_of_lt_of_le hb h.size)).trans (h.block b hb hn), h.foot⟩
theorem Turns.setCell (h : Turns F F' w w') {p : Addr} (hp : F p.block ∨ w.heap.size ≤ p.block) (u : Value) : Turns F F' w (w'.setCell p u) :=
  ⟨h.os, h.tape, h.output, by simpa [World.setCell] using h.size, fun b hb hn => (Below.heap_setCell w' p u b (by
      rintro rfl
      rcases hp with hp | hp
      · exact hn hp
      · omega)).trans (h.block b hb hn), h.foot⟩
theorem Turns.grown (h : Turns F F' w w') {row : Option Nat} (hg : w'.grownBy w'' row) (hr : ∀ k, row = some k → F k ∨ w.heap.size ≤ k) : Turns F F' w w'' :=
  ⟨hg.os.trans h.os, hg.tape.trans h.tape, hg.output.trans h.output, Nat.le_trans h.size hg.size, fun b hb hn => (hg.block b (Nat.lt_of_lt_of_le hb h.size) (fun e => by
      rcases hr b e.symm with h1 | h1
      · exact hn h1
      · omega)).trans (h.block b hb hn), h.foot⟩
theorem Turns.next (h : Turns F F' w w') (hb : Below w'.heap.size w' w'') : Turns F F' w w'' := h.trans (Turns.of_below hb F')
theorem Apart.below (h : Apart w F G) (hb : w.heap.size ≤ w'.heap.size) : Apart w' F G := fun b hG => ⟨Nat.lt_of_lt_of_le (h b hG).1 hb, (h b hG).2⟩
end

/-- Block g is just the cells cs, of element type t, none frozen. -/
def Blk (w : World) (g : Nat) (t : TypeId) (cs : Array Value) : Prop := w.heap[g]? = some (.cells cs t (0, 0))

section
variable {w w' : World} {g : Nat} {t : TypeId} {cs : Array Value}
theorem Blk.lt (h : Blk w g t cs) : g < w.heap.size := by
  rcases Nat.lt_or_ge g w.heap.size with hlt | hge
  · exact hlt
  · unfold Blk at h; rw [Array.getElem?_eq_none hge] at h; cases h
theorem Blk.cell (h : Blk w g t cs) (i : Nat) : w.cell? ⟨g, i, none⟩ = cs[i]? := cell_of_row w g i cs t (0, 0) h
theorem Blk.frozen (h : Blk w g t cs) (i : Nat) : w.frozen? ⟨g, i, none⟩ = false := by
  unfold Blk at h
  simp [World.frozen?, h]
theorem Blk.new (w : World) (t : TypeId) (cs : Array Value) : Blk (w.alloc (.cells cs t)) w.heap.size t cs := heap_alloc_new w _
theorem Blk.drew (h : Blk w g t cs) : Blk w.drew g t cs := h
theorem Blk.drewN (h : Blk w g t cs) (n : Nat) : Blk (w.drewN n) g t cs := h
theorem Blk.alloc (h : Blk w g t cs) (o : Obj) : Blk (w.alloc o) g t cs := (Below.heap_alloc w o g h.lt).trans h
theorem Blk.set_ (h : Blk w g t cs) (i : Nat) (u : Value) : Blk (w.setCell ⟨g, i, none⟩ u) g t (cs.setIfInBounds i u) := by
  unfold Blk at h ⊢
  simp [World.setCell, Array.getElem?_modify, h]
theorem Blk.far (h : Blk w g t cs) {p : Addr} (hp : g ≠ p.block) (u : Value) : Blk (w.setCell p u) g t cs := (Below.heap_setCell w p u g hp).trans h
theorem Blk.below {B : Nat} (h : Blk w g t cs) (hb : Below B w w') (hg : g < B) : Blk w' g t cs := (hb.block g hg).trans h
theorem Blk.keep (h : Blk w g t cs) (hk : w'.heap[g]? = w.heap[g]?) : Blk w' g t cs := hk.trans h
theorem Blk.turns {F F' : Foot} (h : Blk w g t cs) (hb : Turns F F' w w') (hg : ¬ F g) : Blk w' g t cs := (hb.block g h.lt hg).trans h
theorem Blk.grown {row : Option Nat} (h : Blk w g t cs) (hb : w.grownBy w' row) (hg : some g ≠ row) : Blk w' g t cs := (hb.block g h.lt hg).trans h
theorem Blk.ne_ {g' : Nat} {t' : TypeId} {cs' : Array Value} (h : Blk w g t cs) (h' : Blk w g' t' cs') (hne : t ≠ t') : g ≠ g' := by
  rintro rfl
  unfold Blk at h h'
  rw [h] at h'
  injection h' with h'
  injection h' with _ ht
  exact hne ht
theorem Blk.cells_eq {t' : TypeId} {cs' : Array Value} (h : Blk w g t cs) (h' : Blk w g t' cs') : cs = cs' := by
  unfold Blk at h h'
  rw [h] at h'
  injection h' with h'
  injection h'
end

theorem Blk.setRow {w : World} {g : Nat} {t : TypeId} {cs : Array Value} (h : Blk w g t cs) (cs' : Array Value) : Blk (w.setRow g cs') g t cs' := setRow_heap w g cs cs' t _ h
theorem heap_setRow_other (w : World) (g k : Nat) (cs : Array Value) (h : k ≠ g) : (w.setRow g cs).heap[k]? = w.heap[k]? := setRow_other w g k cs h
theorem Turns.setRow {F F' : Foot} {w w' : World} (h : Turns F F' w w') {g : Nat} (hp : F g ∨ w.heap.size ≤ g) (cs : Array Value) : Turns F F' w (w'.setRow g cs) :=
  ⟨h.os, h.tape, h.output, by simpa using h.size, fun b hb hn => (heap_setRow_other w' g b cs (by
      rintro rfl
      rcases hp with hp | hp
      · exact hn hp
      · omega)).trans (h.block b hb hn), h.foot⟩
theorem below_setRow {B : Nat} {a w : World} (h : Below B a w) {g : Nat} (hp : B ≤ g) (cs : Array Value) : Below B a (w.setRow g cs) :=
  ⟨h.os, h.tape, h.output, by simpa using h.size, fun b hb => (heap_setRow_other w g b cs (by omega)).trans (h.block b hb)⟩

theorem below_cell {W w1 : World} (hb : Below W.heap.size W w1) : (∀ b o, b < W.heap.size → w1.cell? ⟨b, o, none⟩ = W.cell? ⟨b, o, none⟩) ∧ (∀ b o, b < W.heap.size → w1.frozen? ⟨b, o, none⟩ = W.frozen? ⟨b, o, none⟩) :=
  ⟨fun b o h => hb.cell (p := ⟨b, o, none⟩) h, fun b o h => hb.frozen (p := ⟨b, o, none⟩) h⟩

/-- The slice value '.slice A n c' reads as the cells xs (n elements of 'size' cells); where it has any, its block is of G. -/
def Reads (G : Foot) (w : World) (size : Nat) (A : Option Addr) (n : Nat) (xs : List Value) : Prop :=
  xs.length = n * size ∧ (0 < n → ∃ b o, A = some ⟨b, o, none⟩ ∧ G b ∧ b < w.heap.size ∧ ∀ j u, xs[j]? = some u → w.cell? ⟨b, o + j, none⟩ = some u)

section
variable {G : Foot} {w w' : World} {size n : Nat} {A : Option Addr} {xs : List Value}
theorem Reads.none_ : Reads G w size A 0 [] := ⟨by simp, fun h => absurd h (by omega)⟩
theorem Reads.zero : Reads G w size A 0 xs ↔ xs = [] := ⟨fun h => List.eq_nil_of_length_eq_zero (by simpa using h.1), fun h => h ▸ Reads.none_⟩
theorem Reads.keep (h : Reads G w size A n xs) (hs : w.heap.size ≤ w'.heap.size) (hk : ∀ b, G b → w'.heap[b]? = w.heap[b]?) : Reads G w' size A n xs :=
  ⟨h.1, fun hn => by
    obtain ⟨b, o, e, hG, hlt, hc⟩ := h.2 hn
    exact ⟨b, o, e, hG, Nat.lt_of_lt_of_le hlt hs, fun j u hu => (World.cell?_of_block (w := w) (a := ⟨b, o + j, none⟩) (hk b hG)).trans (hc j u hu)⟩⟩
theorem Reads.below (h : Reads G w size A n xs) (hb : Below w.heap.size w w') : Reads G w' size A n xs :=
  ⟨h.1, fun hn => by
    obtain ⟨b, o, e, hG, hlt, hc⟩ := h.2 hn
    exact ⟨b, o, e, hG, Nat.lt_of_lt_of_le hlt hb.size, fun j u hu => (hb.cell (p := ⟨b, o + j, none⟩) hlt).trans (hc j u hu)⟩⟩
theorem Reads.turns {F F' : Foot} (h : Reads G w size A n xs) (ht : Turns F F' w w') (hG : Apart w F G) : Reads G w' size A n xs := h.keep ht.size (ht.keep hG)
theorem Reads.mono {G' : Foot} (h : Reads G w size A n xs) (hG : ∀ b, G b → G' b) : Reads G' w size A n xs :=
  ⟨h.1, fun hn => by
    obtain ⟨b, o, e, hGb, hlt, hc⟩ := h.2 hn
    exact ⟨b, o, e, hG b hGb, hlt, hc⟩⟩
theorem Reads.at_ {k : Nat} (h : Reads G w 1 A n xs) (hk : k < n) : ∃ b o u, A = some ⟨b, o, none⟩ ∧ G b ∧ b < w.heap.size ∧ xs[k]? = some u ∧ w.cell? ⟨b, o + k, none⟩ = some u := by
  obtain ⟨b, o, e, hG, hb, hc⟩ := h.2 (by omega)
  have hl : k < xs.length := by have := h.1; omega
  exact ⟨b, o, xs[k], e, hG, hb, List.getElem?_eq_getElem hl, hc k _ (List.getElem?_eq_getElem hl)⟩
end

/-- A list of strings as cells. -/
def strCells (l : List ByteArray) : List Value := l.map Value.string
/-- The slice reads as these strings. -/
def Strs (G : Foot) (w : World) (A : Option Addr) (l : List ByteArray) : Prop := Reads G w 1 A l.length (strCells l)

end Go.Proofs.YtclpmkinjjhncaaGreat

/- Maps keyed by uint32, as plain functions of numbers. No program is named here. -/
namespace Go.Proofs.YtclpmkinjjhncaaGreat
open Go.RowKit Go.Maps

abbrev uKey (p : Nat) : Lit := .int .u32 (p : Int)
theorem uKey_wf {p : Nat} (h : p < 4294967296) : (uKey p).wf = true := by
  have h1 : IntKind.u32.min = 0 := rfl
  have h2 : IntKind.u32.max = 4294967295 := rfl
  simp [Lit.wf, h1, h2]; omega
theorem uKey_lit (p : Nat) : WideAt.IsKeyLit (uKey p) := trivial
theorem uKey_inj {p q : Nat} (h : uKey p = uKey q) : p = q := by
  injection h with _ h; omega

theorem bool_inv {H : Type} {P : Program} {e : TypeId} (he : P.underlying e = some .bool) {v : Value} {x : Bool} {ps : List MemPlace} (h : plainElem (H := H) P e v = some (.lit (.bool x), ps)) : v = .bool x := by
  unfold plainElem at h
  rw [he] at h
  cases v <;> simp at h
  rw [h.1]

/-- Block b is a set of these numbers, of map type [uint32]bool. -/
def USet (P : Program) (k e : TypeId) (w : World) (b n : Nat) (l : List Nat) : Prop := w.ownsMap P k (plainElem (H := Unit) P e) b n (setOf (.lit (.bool true)) (l.map uKey))

section
variable {P : Program} {k e t : TypeId} {w w' : World} {b n : Nat} {l : List Nat}
theorem USet.lt (h : USet P k e w b n l) : b < w.heap.size := World.ownsMap.lt h
theorem USet.kept {row : Option Nat} (h : USet P k e w b n l) (hg : w.grownBy w' row) (hne : some b ≠ row) : USet P k e w' b n l := World.ownsMap.kept h hg hne
theorem USet.alloc (h : USet P k e w b n l) (o : Obj) : USet P k e (w.alloc o) b n l := World.ownsMap.alloc h o
theorem USet.below {B : Nat} (h : USet P k e w b n l) (hb : Below B w w') (hlt : b < B) : USet P k e w' b n l := by
  obtain ⟨es, clock, h1, rest⟩ := h
  exact ⟨es, clock, (hb.block b hlt).trans h1, rest⟩
theorem USet.made (w : World) : USet P k e (w.alloc (.map #[] 0)) w.heap.size 0 [] := World.ownsMap_made w P k _

theorem USet.has_ (p : Nat) (l : List Nat) : has (setOf (H := Unit) (.lit (.bool true)) (l.map uKey)) (uKey p) = decide (p ∈ l) := by
  rw [has_setOf _ _ _ (fun x hx => by obtain ⟨q, _, rfl⟩ := List.mem_map.1 hx; exact uKey_lit q)]
  by_cases h : p ∈ l
  · simp only [h, decide_true]
    rw [List.any_eq_true]
    exact ⟨uKey p, List.mem_map.2 ⟨p, h, rfl⟩, WideAt.sameKey_self (uKey_lit p)⟩
  · simp only [h, decide_false]
    rw [List.any_eq_false]
    intro x hx
    obtain ⟨q, hq, rfl⟩ := List.mem_map.1 hx
    intro hs
    exact h (uKey_inj ((WideAt.sameKey_iff (uKey_lit p)).1 hs) ▸ hq)

/-- It is asked for a number that it has not. -/
theorem USet.look_not (h : USet P k e w b n l) (hk : P.underlying k = some (.int .u32)) (he : P.underlying e = some .bool) (ht : P.underlying t = some (.map k e)) (hz : (zeroValue e).run P w = .ok (.bool false) w) {p : Nat} (hp : p < 4294967296) (hn : p ∉ l) :
    (Instr.lookup t (.map (some b)) (.int .u32 (p : Int)) false).run P w = .ok (.bool false) w := by
  obtain ⟨v, ps, hrun, hv⟩ := World.ownsMap.lookup h (int_keyed hk) ht hz (plainElem_bool he false) (keyOf_int_mk hk (uKey_wf hp))
  have hno : has (setOf (H := Unit) (.lit (.bool true)) (l.map uKey)) (uKey p) = false := by rw [USet.has_]; simpa using hn
  rw [atKey_of_not_has hno] at hv
  rw [hrun, bool_inv he hv]

theorem USet.put (h : USet P k e w b n l) (hk : P.underlying k = some (.int .u32)) (he : P.underlying e = some .bool) (ht : P.underlying t = some (.map k e)) (hn : n < maxLen) {p : Nat} (hp : p < 4294967296) :
    ∃ w', (Instr.mapUpdate t (.map (some b)) (.int .u32 (p : Int)) (.bool true)).run P w = .ok () w' ∧ USet P k e w' b (n + 1) (l ++ [p]) ∧ w.grownBy w' (some b) := by
  obtain ⟨w', h1, h2, h3⟩ := World.ownsMap.update h (int_keyed hk) ht hn (keyOf_int_mk hk (uKey_wf hp)) (plainElem_bool he true)
  refine ⟨w', h1, ?_, h3⟩
  unfold USet
  rw [List.map_append, List.map_singleton, setOf_snoc]
  exact h2
end
end Go.Proofs.YtclpmkinjjhncaaGreat

/- Maps from uint32 to int, as functions. No program is named here. -/
namespace Go.Proofs.YtclpmkinjjhncaaGreat
open Go.RowKit Go.Maps

/-- Block b is a map of m entries that is this function. -/
def UMap (P : Program) (k e : TypeId) (w : World) (b m : Nat) (lk : Nat → Option Nat) : Prop :=
  ∃ D : DataW Unit, w.ownsMap P k (plainElem P e) b m D ∧ size D = m ∧
    ∀ p, (∀ i, lk p = some i → has D (uKey p) = true ∧ ∀ z, D.atKey (uKey p) z = .lit (.int .i64 (i : Int))) ∧ (lk p = none → has D (uKey p) = false)

section
variable {P : Program} {k e t : TypeId} {w w' : World} {b m : Nat} {lk : Nat → Option Nat}

theorem owns_norm {R : Value → Option (DataW Unit × List MemPlace)} {n : Nat} {D : DataW Unit} (h : w.ownsMap P k R b n D) : w.ownsMap P k R b (size D) D := by
  obtain ⟨es, clock, hb, F, _, rfl⟩ := h
  refine ⟨es, clock, hb, F, ?_, rfl⟩
  simp [Maps.size, length_sorted]

theorem UMap.lt (h : UMap P k e w b m lk) : b < w.heap.size := by obtain ⟨D, h1, _⟩ := h; exact World.ownsMap.lt h1
theorem UMap.keep (h : UMap P k e w b m lk) (hk : w'.heap[b]? = w.heap[b]?) : UMap P k e w' b m lk := by
  obtain ⟨D, ⟨es, clock, h1, rest⟩, h2⟩ := h
  exact ⟨D, ⟨es, clock, hk.trans h1, rest⟩, h2⟩
theorem UMap.kept {row : Option Nat} (h : UMap P k e w b m lk) (hg : w.grownBy w' row) (hne : some b ≠ row) : UMap P k e w' b m lk := h.keep (hg.block b h.lt hne)
theorem UMap.alloc (h : UMap P k e w b m lk) (o : Obj) : UMap P k e (w.alloc o) b m lk := h.keep (Below.heap_alloc w o b h.lt)
theorem UMap.drew (h : UMap P k e w b m lk) : UMap P k e w.drew b m lk := h.keep rfl
theorem UMap.far (h : UMap P k e w b m lk) {p : Addr} (hp : b ≠ p.block) (u : Value) : UMap P k e (w.setCell p u) b m lk := h.keep (Below.heap_setCell w p u b hp)
theorem UMap.below {B : Nat} (h : UMap P k e w b m lk) (hb : Below B w w') (hlt : b < B) : UMap P k e w' b m lk := h.keep (hb.block b hlt)
theorem UMap.turns {F F' : Foot} (h : UMap P k e w b m lk) (ht : Turns F F' w w') (hn : ¬ F b) : UMap P k e w' b m lk := h.keep (ht.block b h.lt hn)
theorem UMap.congr {lk' : Nat → Option Nat} (h : UMap P k e w b m lk) (he : ∀ p, lk' p = lk p) : UMap P k e w b m lk' := by
  have : lk' = lk := funext he
  rw [this]; exact h
theorem UMap.made (w : World) : UMap P k e (w.alloc (.map #[] 0)) w.heap.size 0 (fun _ => none) :=
  ⟨.map [], World.ownsMap_made w P k _, rfl, fun p => ⟨fun i h => by simp at h, fun _ => rfl⟩⟩

theorem int_of_lit (he : P.underlying e = some (.int .i64)) {v : Value} {i : Int} {ps : List MemPlace} (h : plainElem (H := Unit) P e v = some (.lit (.int .i64 i), ps)) : v = .int .i64 i := by
  obtain ⟨a, rfl, hz, _⟩ := plainElem_int_inv he h
  simp only [Prod.mk.injEq, DataW.lit.injEq, Lit.int.injEq, true_and] at hz
  rw [hz.1]

theorem UMap.look (h : UMap P k e w b m lk) (hk : P.underlying k = some (.int .u32)) (he : P.underlying e = some (.int .i64)) (ht : P.underlying t = some (.map k e)) (hz : (zeroValue e).run P w = .ok (.int .i64 0) w) {p i : Nat} (hp : p < 4294967296) (hi : lk p = some i) :
    (Instr.lookup t (.map (some b)) (.int .u32 (p : Int)) false).run P w = .ok (.int .i64 (i : Int)) w := by
  obtain ⟨D, h1, _, h3⟩ := h
  obtain ⟨v, ps, hrun, hv⟩ := World.ownsMap.lookup h1 (int_keyed hk) ht hz (plainElem_int he (by decide)) (keyOf_int_mk hk (uKey_wf hp))
  rw [((h3 p).1 i hi).2] at hv
  rw [hrun, int_of_lit he hv]

theorem UMap.look_ok (h : UMap P k e w b m lk) (hk : P.underlying k = some (.int .u32)) (he : P.underlying e = some (.int .i64)) (ht : P.underlying t = some (.map k e)) (hz : (zeroValue e).run P w = .ok (.int .i64 0) w) {p : Nat} (hp : p < 4294967296) :
    (Instr.lookup t (.map (some b)) (.int .u32 (p : Int)) true).run P w = .ok (.tuple #[.int .i64 (((lk p).getD 0 : Nat) : Int), .bool (lk p).isSome]) w := by
  obtain ⟨D, h1, _, h3⟩ := h
  obtain ⟨v, ps, hrun, hv⟩ := World.ownsMap.look_ok h1 (int_keyed hk) ht hz (plainElem_int he (by decide)) (keyOf_int_mk hk (uKey_wf hp))
  cases hl : lk p with
  | none =>
    rw [(h3 p).2 hl] at hrun
    rw [atKey_of_not_has ((h3 p).2 hl)] at hv
    rw [hrun, int_of_lit he hv]; rfl
  | some i =>
    rw [((h3 p).1 i hl).1] at hrun
    rw [((h3 p).1 i hl).2] at hv
    rw [hrun, int_of_lit he hv]; rfl

def lkPut (lk : Nat → Option Nat) (p i : Nat) : Nat → Option Nat := fun q => if q = p then some i else lk q
def lkDel (lk : Nat → Option Nat) (p : Nat) : Nat → Option Nat := fun q => if q = p then none else lk q

theorem UMap.put (h : UMap P k e w b m lk) (hk : P.underlying k = some (.int .u32)) (he : P.underlying e = some (.int .i64)) (ht : P.underlying t = some (.map k e)) (hm : m < 1000000000) {p i : Nat} (hp : p < 4294967296) (hi : i < 9223372036854775808) (hn : lk p = none) :
    ∃ w', (Instr.mapUpdate t (.map (some b)) (.int .u32 (p : Int)) (.int .i64 (i : Int))).run P w = .ok () w' ∧ UMap P k e w' b (m + 1) (lkPut lk p i) ∧ w.grownBy w' (some b) := by
  obtain ⟨D, h1, h2, h3⟩ := h
  have hwf : (Lit.int .i64 (i : Int)).wf = true := by
    have e1 : IntKind.i64.min = -9223372036854775808 := rfl
    have e2 : IntKind.i64.max = 9223372036854775807 := rfl
    simp [Lit.wf, e1, e2]; omega
  obtain ⟨w', r1, r2, r3⟩ := World.ownsMap.update h1 (int_keyed hk) ht (by unfold maxLen; omega) (keyOf_int_mk hk (uKey_wf hp)) (plainElem_int he hwf)
  have hT := World.ownsMap.tidy h1 (int_keyed hk)
  refine ⟨w', r1, ⟨_, r2, ?_, fun q => ?_⟩, r3⟩
  · rw [size_put hT, (h3 p).2 hn, h2]; rfl
  · by_cases hq : q = p
    · subst hq
      simp only [lkPut, if_pos]
      refine ⟨fun j hj => ?_, fun hc => by cases hc⟩
      injection hj with hj
      subst hj
      exact ⟨has_put_same hT.isMap (uKey_lit q) _, fun z => atKey_put_same hT.isMap (uKey_lit q) _ z⟩
    · have hne : uKey q ≠ uKey p := fun e => hq (uKey_inj e)
      simp only [lkPut, if_neg hq]
      refine ⟨fun j hj => ?_, fun hc => ?_⟩
      · rw [has_put_other hne]
        exact ⟨((h3 q).1 j hj).1, fun z => by rw [atKey_put_other hne]; exact ((h3 q).1 j hj).2 z⟩
      · rw [has_put_other hne]; exact (h3 q).2 hc

theorem UMap.del (h : UMap P k e w b m lk) (hk : P.underlying k = some (.int .u32)) (ht : P.underlying t = some (.map k e)) {p i : Nat} (hp : p < 4294967296) (hi : lk p = some i) (ty : TypeId) :
    ∃ w', (Builtin.delete_ #[t, k] ty #[.map (some b), .int .u32 (p : Int)]).run P w = .ok (.tuple #[]) w' ∧ UMap P k e w' b (m - 1) (lkDel lk p) ∧ w.grownBy w' (some b) := by
  obtain ⟨D, h1, h2, h3⟩ := h
  obtain ⟨w', r1, r2, r3⟩ := World.ownsMap.drop h1 (int_keyed hk) ht (keyOf_int_mk hk (uKey_wf hp)) ty
  have hT := World.ownsMap.tidy h1 (int_keyed hk)
  have hs := size_del (D := D) (k := uKey p) hT
  rw [((h3 p).1 i hi).1, if_pos rfl, h2] at hs
  have r4 := owns_norm r2
  have hs' : size (D.del (uKey p)) = m - 1 := by omega
  rw [hs'] at r4
  refine ⟨w', r1, ⟨_, r4, hs', fun q => ?_⟩, r3.grown⟩
  by_cases hq : q = p
  · subst hq
    simp only [lkDel, if_pos]
    exact ⟨fun j hj => (by cases hj), fun _ => has_del_same⟩
  · have hne : uKey q ≠ uKey p := fun e => hq (uKey_inj e)
    simp only [lkDel, if_neg hq]
    refine ⟨fun j hj => ?_, fun hc => ?_⟩
    · rw [has_del_other hne]
      exact ⟨((h3 q).1 j hj).1, fun z => by rw [atKey_del_other hne]; exact ((h3 q).1 j hj).2 z⟩
    · rw [has_del_other hne]; exact (h3 q).2 hc
end
end Go.Proofs.YtclpmkinjjhncaaGreat

/- Plain words on bytes: numbers in bytes, a piece laid over others, an area with a directory, a page. No program is named here. -/
namespace Go.Proofs.YtclpmkinjjhncaaGreat.Sp

abbrev Bs := List UInt8

/-- n in k bytes, the highest first. -/
def be : Nat → Nat → Bs
  | 0, _ => []
  | k + 1, n => be k (n / 256) ++ [UInt8.ofNat n]

/-- the number that stands there. -/
def num (l : Bs) : Nat := l.foldl (fun a b => a * 256 + b.toNat) 0

@[simp] theorem be_length : ∀ (k n : Nat), (be k n).length = k
  | 0, _ => rfl
  | k + 1, n => by simp [be, be_length k]

theorem be_get : ∀ (k n j : Nat), j < k → (be k n)[j]? = some (UInt8.ofNat (n / 256 ^ (k - 1 - j)))
  | 0, _, _, h => absurd h (by omega)
  | k + 1, n, j, h => by
    rw [be]
    rcases Nat.lt_or_ge j k with hj | hj
    · rw [List.getElem?_append_left (by simpa using hj), be_get k _ j hj, Nat.div_div_eq_div_mul]
      have : 256 * 256 ^ (k - 1 - j) = 256 ^ (k + 1 - 1 - j) := by
        rw [Nat.mul_comm, ← Nat.pow_succ]; congr 1; omega
      rw [this]
    · obtain rfl : j = k := by omega
      rw [List.getElem?_append_right (by simp)]
      simp

theorem num_snoc (l : Bs) (b : UInt8) : num (l ++ [b]) = num l * 256 + b.toNat := by simp [num]

theorem num_be : ∀ (k n : Nat), num (be k n) = n % 256 ^ k
  | 0, n => by simp [be, num, Nat.mod_one]
  | k + 1, n => by
    rw [be, num_snoc, num_be k, Nat.pow_succ, UInt8.toNat_ofNat']
    rw [Nat.mul_comm (256 ^ k) 256, Nat.mod_mul]
    omega

theorem num_be_lt {k n : Nat} (h : n < 256 ^ k) : num (be k n) = n := by rw [num_be, Nat.mod_eq_of_lt h]

theorem num_lt : ∀ (l : Bs), num l < 256 ^ l.length := by
  intro l
  suffices h : ∀ m (l : Bs), l.length = m → num l < 256 ^ m from h _ l rfl
  intro m
  induction m with
  | zero => intro l h; rw [List.eq_nil_of_length_eq_zero h]; simp [num]
  | succ m ih =>
    intro l h
    have hne : l ≠ [] := by rintro rfl; simp at h
    obtain ⟨l', b, rfl⟩ : ∃ l' b, l = l' ++ [b] := ⟨l.dropLast, l.getLast hne, (List.dropLast_concat_getLast hne).symm⟩
    rw [num_snoc, Nat.pow_succ]
    have h1 := ih l' (by simpa using h)
    have h2 := b.toNat_lt
    omega

theorem be_num : ∀ (m : Nat) (l : Bs), l.length = m → be m (num l) = l
  | 0, l, h => by rw [List.eq_nil_of_length_eq_zero h]; rfl
  | m + 1, l, h => by
    have hne : l ≠ [] := by rintro rfl; simp at h
    obtain ⟨l', b, rfl⟩ : ∃ l' b, l = l' ++ [b] := ⟨l.dropLast, l.getLast hne, (List.dropLast_concat_getLast hne).symm⟩
    have hb := b.toNat_lt
    rw [num_snoc, be]
    have e1 : (num l' * 256 + b.toNat) / 256 = num l' := by omega
    rw [e1, be_num m l' (by simpa using h)]
    congr 2
    apply UInt8.toNat_inj.1
    rw [UInt8.toNat_ofNat']
    omega

/-- a piece laid over others, from a place on. -/
def patch (l : Bs) (at_ : Nat) (p : Bs) : Bs := l.take at_ ++ p ++ l.drop (at_ + p.length)

theorem patch_length {l : Bs} {k : Nat} {p : Bs} (h : k + p.length ≤ l.length) : (patch l k p).length = l.length := by
  simp [patch]; omega

theorem patch_mid {x y z p : Bs} {k : Nat} (hk : k = x.length) (hp : p.length = y.length) : patch (x ++ y ++ z) k p = x ++ p ++ z := by
  subst hk
  unfold patch
  rw [List.append_assoc x y z, List.take_left, hp]
  congr 1
  rw [show x ++ (y ++ z) = (x ++ y) ++ z by simp, show x.length + y.length = (x ++ y).length by simp, List.drop_left]

def zeros (n : Nat) : Bs := List.replicate n 0

/-- bytes of all texts. -/
def total (rows : List Bs) : Nat := (rows.map List.length).sum

@[simp] theorem total_nil : total [] = 0 := rfl
@[simp] theorem total_cons (r : Bs) (rows : List Bs) : total (r :: rows) = r.length + total rows := by simp [total]
@[simp] theorem total_append (a b : List Bs) : total (a ++ b) = total a + total b := by simp [total]

/-- the directory of texts that stand from 'low' down. -/
def dir : Nat → List Bs → Bs
  | _, [] => []
  | low, r :: rs => be 2 (low - r.length) ++ be 2 r.length ++ dir (low - r.length) rs

theorem dir_length : ∀ (low : Nat) (rows : List Bs), (dir low rows).length = 4 * rows.length
  | _, [] => rfl
  | low, r :: rs => by simp [dir, dir_length _ rs]; omega

theorem dir_append : ∀ (low : Nat) (a b : List Bs), dir low (a ++ b) = dir low a ++ dir (low - total a) b
  | low, [], b => by simp [dir]
  | low, r :: rs, b => by
    simp only [List.cons_append, dir, dir_append _ rs b, total_cons, List.append_assoc]
    rw [Nat.sub_sub]

/-- an area of so many bytes with these texts, one put behind the other. -/
def area (size : Nat) (rows : List Bs) : Bs :=
  be 2 rows.length ++ be 2 (size - total rows) ++ dir size rows ++ zeros (size - total rows - 4 - 4 * rows.length) ++ rows.reverse.flatten

theorem flatten_length (rows : List Bs) : rows.flatten.length = total rows := by
  induction rows with
  | nil => rfl
  | cons r rs ih => simp [ih]

theorem total_reverse (rows : List Bs) : total rows.reverse = total rows := by
  induction rows with
  | nil => rfl
  | cons r rs ih => simp [ih]; omega

theorem area_length {size : Nat} {rows : List Bs} (h : 4 + 4 * rows.length + total rows ≤ size) : (area size rows).length = size := by
  simp only [area, List.length_append, be_length, dir_length, zeros, List.length_replicate, flatten_length, total_reverse]
  omega

theorem area_new (size : Nat) (h : 4 ≤ size) : area size [] = patch (zeros size) 2 (be 2 size) := by
  have e : zeros size = zeros 2 ++ zeros 2 ++ zeros (size - 4) := by
    unfold zeros; rw [List.replicate_append_replicate, List.replicate_append_replicate]; congr 1; omega
  rw [e, patch_mid (by simp [zeros]) (by simp [zeros])]
  simp [area, dir, be, zeros]

/-- what a put behind all does, write by write. -/
theorem area_put {size : Nat} {rows : List Bs} {r : Bs} (h : 8 + 4 * rows.length + total rows + r.length ≤ size) :
    patch (patch (patch (patch (patch (area size rows) (size - total rows - r.length) r) 2 (be 2 (size - total rows - r.length))) 0 (be 2 (rows.length + 1))) (4 + 4 * rows.length) (be 2 (size - total rows - r.length)))
      (4 + 4 * rows.length + 2) (be 2 r.length) = area size (rows ++ [r]) := by
  obtain ⟨z, hz⟩ : ∃ z, size - total rows - 4 - 4 * rows.length = 4 + z + r.length := ⟨size - total rows - 4 - 4 * rows.length - 4 - r.length, by omega⟩
  have e0 : area size rows = (be 2 rows.length ++ be 2 (size - total rows) ++ dir size rows ++ zeros 4 ++ zeros z) ++ zeros r.length ++ rows.reverse.flatten := by
    unfold area
    rw [hz]
    have : zeros (4 + z + r.length) = zeros 4 ++ zeros z ++ zeros r.length := by
      unfold zeros; rw [List.replicate_append_replicate, List.replicate_append_replicate]
    rw [this]
    simp only [List.append_assoc]
  rw [e0, patch_mid (by simp [dir_length, zeros]; omega) (by simp [zeros])]
  rw [show (be 2 rows.length ++ be 2 (size - total rows) ++ dir size rows ++ zeros 4 ++ zeros z) ++ r ++ rows.reverse.flatten = be 2 rows.length ++ be 2 (size - total rows) ++ (dir size rows ++ zeros 4 ++ zeros z ++ r ++ rows.reverse.flatten) by simp only [List.append_assoc]]
  rw [patch_mid (by simp) (by simp)]
  rw [show be 2 rows.length ++ be 2 (size - total rows - r.length) ++ (dir size rows ++ zeros 4 ++ zeros z ++ r ++ rows.reverse.flatten) = [] ++ be 2 rows.length ++ (be 2 (size - total rows - r.length) ++ (dir size rows ++ zeros 4 ++ zeros z ++ r ++ rows.reverse.flatten)) by simp only [List.append_assoc, List.nil_append]]
  rw [patch_mid (by simp) (by simp)]
  have e4 : zeros 4 = zeros 2 ++ zeros 2 := rfl
  rw [show [] ++ be 2 (rows.length + 1) ++ (be 2 (size - total rows - r.length) ++ (dir size rows ++ zeros 4 ++ zeros z ++ r ++ rows.reverse.flatten)) = (be 2 (rows.length + 1) ++ be 2 (size - total rows - r.length) ++ dir size rows) ++ zeros 2 ++ (zeros 2 ++ zeros z ++ r ++ rows.reverse.flatten) by rw [e4]; simp only [List.append_assoc, List.nil_append]]
  rw [patch_mid (by simp [dir_length]; omega) (by simp [zeros])]
  rw [show (be 2 (rows.length + 1) ++ be 2 (size - total rows - r.length) ++ dir size rows) ++ be 2 (size - total rows - r.length) ++ (zeros 2 ++ zeros z ++ r ++ rows.reverse.flatten) = (be 2 (rows.length + 1) ++ be 2 (size - total rows - r.length) ++ dir size rows ++ be 2 (size - total rows - r.length)) ++ zeros 2 ++ (zeros z ++ r ++ rows.reverse.flatten) by simp only [List.append_assoc]]
  rw [patch_mid (by simp [dir_length]; omega) (by simp [zeros])]
  unfold area
  have hz' : size - total (rows ++ [r]) - 4 - 4 * (rows ++ [r]).length = z := by simp; omega
  rw [hz', dir_append]
  simp [dir, Nat.sub_sub]

end Go.Proofs.YtclpmkinjjhncaaGreat.Sp

/- What all walks import. -/
namespace Go.Proofs.YtclpmkinjjhncaaGreat
open Go.RowKit

/-- A text as a value. -/
abbrev str (l : Sp.Bs) : Value := .string ⟨l.toArray⟩

/-- The bytes l as cells. -/
def bcs (l : Sp.Bs) : List Value := l.map fun b => Value.int .u8 (b.toNat : Int)
@[simp] theorem bcs_length (l : Sp.Bs) : (bcs l).length = l.length := by simp [bcs]
theorem bcs_get (l : Sp.Bs) (j : Nat) : (bcs l)[j]? = (l[j]?).map fun b => Value.int .u8 (b.toNat : Int) := by simp [bcs]
theorem bcs_at (l : Sp.Bs) (j : Nat) (h : j < l.length) : (bcs l)[j]? = some (Value.int .u8 (l[j].toNat : Int)) := by simp [bcs, h]
theorem bcs_append (a b : Sp.Bs) : bcs (a ++ b) = bcs a ++ bcs b := by simp [bcs]

/-- 'string(b)' of a slice whose cells are the bytes l, at an address in plain form. -/
theorem run_bytes_back {P : Program} (w : World) (src dst e : TypeId) (b o n cap : Nat) (l : Sp.Bs) (hs : P.underlying src = some (.slice e)) (he : P.underlying e = some (.int .u8)) (hd : P.underlying dst = some .string)
    (hn : n = l.length) (hc : ∀ j (hj : j < l.length), w.cell? ⟨b, o + j, none⟩ = some (.int .u8 (l[j].toNat : Int))) :
    (convert src dst (.slice (some ⟨b, o, none⟩) n cap)).run P w = .ok (str l) w := by
  subst hn
  refine run_convert_bytes_back w src dst e ⟨b, o, none⟩ cap l hs he hd (fun j hj => ?_)
  have e1 : (⟨b, o, none⟩ : Addr).add j = ⟨b, o + j, none⟩ := by unfold Addr.add; split <;> simp_all
  rw [e1]
  exact hc j hj

@[simp] theorem str_size (l : Sp.Bs) : (⟨l.toArray⟩ : ByteArray).size = l.length := by simp [ByteArray.size]

theorem str_extract (l : Sp.Bs) (a b : Nat) : (⟨l.toArray⟩ : ByteArray).extract a b = ⟨((l.drop a).take (b - a)).toArray⟩ := by
  apply ByteArray.ext
  apply Array.toList_inj.1
  simp [ByteArray.data_extract, List.extract_eq_take_drop]
theorem str_append (a b : Sp.Bs) : (⟨a.toArray⟩ : ByteArray) ++ ⟨b.toArray⟩ = ⟨(a ++ b).toArray⟩ := by
  apply ByteArray.ext
  simp
theorem str_inj {a b : Sp.Bs} (h : str a = str b) : a = b := by
  injection h with h
  injection h with h
  simpa using h

/-- '[]byte(s)': a new row whose first cells are the bytes. -/
theorem conv_bytes {P : Program} (w : World) (src dst e : TypeId) (l : Sp.Bs) {u : TypeDesc} (hs : P.underlying src = some u) (hd : P.underlying dst = some (.slice e)) (he : P.underlying e = some (.int .u8)) :
    ∃ gc w1, (convert src dst (str l)).run P w = .ok (.slice (some ⟨w.heap.size, 0, none⟩) l.length gc) w1 ∧ Below w.heap.size w w1 ∧ w1.heap.size = w.heap.size + 1 ∧
      (∀ j (hj : j < l.length), w1.cell? ⟨w.heap.size, j, none⟩ = some (.int .u8 (l[j].toNat : Int))) ∧ (∀ j, j < l.length → w1.frozen? ⟨w.heap.size, j, none⟩ = false) := by
  refine ⟨_, _, Lib.run_convert_string_bytes w src dst e ⟨l.toArray⟩ hs hd he |>.trans (by rw [str_size]), ⟨?_, ?_, ?_, ?_, ?_⟩, Lib.bytesWorld_size _ _ _, fun j hj => ?_, fun j hj => ?_⟩
  · simp [Lib.bytesWorld, World.freeze, World.alloc, World.drew, -World.alloc_eq, -World.drew_eq]
  · simp [Lib.bytesWorld, World.freeze, World.alloc, World.drew, -World.alloc_eq, -World.drew_eq]
  · simp [Lib.bytesWorld, World.freeze, World.alloc, World.drew, -World.alloc_eq, -World.drew_eq]
  · rw [Lib.bytesWorld_size]; omega
  · exact fun k hk => Lib.bytesWorld_at_old _ _ _ _ hk
  · rw [Lib.bytesWorld_cell _ _ _ _ (by simpa using hj)]
    simp [List.getD, hj]
  · have hsz : l.length ≤ (Lib.bytesCells w e ⟨l.toArray⟩).size := by simp [Lib.bytesCells]
    simp [World.frozen?, Lib.bytesWorld_at_new]
    omega

/-- The world behind '[]byte(s)', and the new slice's capacity, under names that the walk leaves closed. -/
def bytesW (w : World) (e : TypeId) (l : Sp.Bs) : World := Lib.bytesWorld w e ⟨l.toArray⟩
def bytesC (w : World) (e : TypeId) (l : Sp.Bs) : Nat := grownCap w l.length 0 e
theorem conv_any {P : Program} (src dst e : TypeId) (l : Sp.Bs) {u : TypeDesc} (hs : P.underlying src = some u) (hd : P.underlying dst = some (.slice e)) (he : P.underlying e = some (.int .u8)) :
    ∀ w, (convert src dst (str l)).run P w = .ok (.slice (some ⟨w.heap.size, 0, none⟩) l.length (bytesC w e l)) (bytesW w e l) := fun w =>
  (Lib.run_convert_string_bytes w src dst e ⟨l.toArray⟩ hs hd he).trans (by rw [str_size]; rfl)
theorem bytesC_le (w : World) (e : TypeId) (l : Sp.Bs) (h : l.length ≤ maxLen) : l.length ≤ bytesC w e l ∧ bytesC w e l ≤ maxLen := ⟨grownCap_ge _ _ _ _, grownCap_le_maxLen _ _ _ _ h⟩
theorem bytesW_facts (w : World) (e : TypeId) (l : Sp.Bs) : Below w.heap.size w (bytesW w e l) ∧ (bytesW w e l).heap.size = w.heap.size + 1 ∧
    (∀ j (hj : j < l.length), (bytesW w e l).cell? ⟨w.heap.size, j, none⟩ = some (.int .u8 (l[j].toNat : Int))) ∧ (∀ j, j < l.length → (bytesW w e l).frozen? ⟨w.heap.size, j, none⟩ = false) := by
  refine ⟨⟨?_, ?_, ?_, ?_, ?_⟩, Lib.bytesWorld_size _ _ _, fun j hj => ?_, fun j hj => ?_⟩
  · simp [bytesW, Lib.bytesWorld, World.freeze, World.alloc, World.drew, -World.alloc_eq, -World.drew_eq]
  · simp [bytesW, Lib.bytesWorld, World.freeze, World.alloc, World.drew, -World.alloc_eq, -World.drew_eq]
  · simp [bytesW, Lib.bytesWorld, World.freeze, World.alloc, World.drew, -World.alloc_eq, -World.drew_eq]
  · rw [bytesW, Lib.bytesWorld_size]; omega
  · exact fun k hk => Lib.bytesWorld_at_old _ _ _ _ hk
  · rw [bytesW, Lib.bytesWorld_cell _ _ _ _ (by simpa using hj)]
    simp [List.getD, hj]
  · have hsz : l.length ≤ (Lib.bytesCells w e ⟨l.toArray⟩).size := by simp [Lib.bytesCells]
    simp [bytesW, World.frozen?, Lib.bytesWorld_at_new]
    omega

theorem ofInt_i64 (a : Nat) (ha : a < 9223372036854775808) : (BitVec.ofInt 64 (a : Int)).toNat = a := by
  rw [BitVec.ofInt_natCast, BitVec.toNat_ofNat]; exact Nat.mod_eq_of_lt (by omega)
theorem i64_or_nat (a b : Nat) (ha : a < 9223372036854775808) (hb : b < 9223372036854775808) : bits .or .i64 (a : Int) (b : Int) = ((a ||| b : Nat) : Int) := by
  have hx : a ||| b < 2 ^ 63 := Nat.or_lt_two_pow (by omega) (by omega)
  show IntKind.i64.wrap ((BitVec.ofInt 64 (a : Int) ||| BitVec.ofInt 64 (b : Int)).toNat : Int) = _
  rw [BitVec.toNat_or, ofInt_i64 a ha, ofInt_i64 b hb, IntKind.wrap_i64]
  omega

/-- A quiet callee in a region that stands behind other draws. -/
theorem quiet_add {P : Program} {f : FuncId} {args : Array Value} {w : World} {a n : Nat} {v : Value}
    (h : Calls P f args (w.drewN (a + n)) fun e w' => e = .returned v ∧ ∃ m, w' = (w.drewN (a + n)).drewN m) :
    Calls P f args (w.drewN (a + n)) fun e w'' => e = .returned v ∧ ∃ m, w'' = w.drewN (a + m) :=
  h.mono fun _ _ ⟨he, m, hm⟩ => ⟨he, n + m, by rw [hm, World.drewN_drewN, Nat.add_assoc]⟩
theorem quiet_left {P : Program} {f : FuncId} {args : Array Value} {w : World} {n : Nat} {v : Value}
    (h : Calls P f args (w.drewN n) fun e w' => e = .returned v ∧ w.drewN n = w') : Calls P f args (w.drewN n) fun e w'' => e = .returned v ∧ ∃ m, w'' = w.drewN m :=
  h.mono fun _ _ ⟨he, hm⟩ => ⟨he, n, hm.symm⟩

theorem run_make_rowN {P : Program} (t e : TypeId) (i : TypeInfo) (z : Value) (ht : P.underlying t = some (.slice e)) (hi : P.info? e = some i) (hz : i.zero = some z)
    (kl kc : IntKind) (n c : Nat) (hnc : n ≤ c) (hbytes : i.bytes * c ≤ 281474976710656) (h63 : c ≤ 9223372036854775807) (w : World) :
    (Instr.makeSlice t (.int kl (n : Int)) (.int kc (c : Int))).run P w = .ok (.slice (some ⟨w.heap.size, 0, none⟩) n c) (w.alloc (.cells (madeCells z.cells (c * i.size)) e)) := by
  have hb : (i.bytes : Int) * (c : Int) ≤ 281474976710656 := by
    have h : ((i.bytes * c : Nat) : Int) ≤ 281474976710656 := by omega
    rwa [Int.natCast_mul] at h
  have hr := run_make (P := P) w t e i z ht hi hz kl kc n c (by omega) (by omega) hb (by omega)
  simp only [Int.toNat_natCast] at hr
  exact hr
theorem madeCells_one (v : Value) (n : Nat) : madeCells #[v] n = (List.replicate n v).toArray := by
  unfold madeCells
  apply Array.ext_getElem?
  intro j
  rcases Nat.lt_or_ge j n with hj | hj
  · simp [hj, Nat.mod_one]
  · rw [Array.getElem?_eq_none (by simpa using hj)]; simp; omega
end Go.Proofs.YtclpmkinjjhncaaGreat

/- Plain words on pages: what stands where in an area, a page's bytes. No program is named here. -/
namespace Go.Proofs.YtclpmkinjjhncaaGreat.Sp

/-- the two bytes' number at a place. -/
def two (l : Bs) (k : Nat) : Nat := num ((l.drop k).take 2)

theorem take2_mid {x y z : Bs} {k n : Nat} (hk : k = x.length) (hn : n = y.length) : ((x ++ y ++ z).drop k).take n = y := by
  subst hk hn
  rw [List.append_assoc, List.drop_left, List.take_left]

theorem two_mid {x z : Bs} {k n : Nat} (hk : k = x.length) (hn : n < 65536) : two (x ++ be 2 n ++ z) k = n := by
  unfold two
  rw [take2_mid hk (by simp), num_be_lt (by omega)]

theorem area_count {size : Nat} {rows : List Bs} (h : rows.length < 65536) : two (area size rows) 0 = rows.length := by
  unfold area
  rw [show be 2 rows.length ++ be 2 (size - total rows) ++ dir size rows ++ zeros (size - total rows - 4 - 4 * rows.length) ++ rows.reverse.flatten =
    [] ++ be 2 rows.length ++ (be 2 (size - total rows) ++ dir size rows ++ zeros (size - total rows - 4 - 4 * rows.length) ++ rows.reverse.flatten) by simp only [List.append_assoc, List.nil_append]]
  exact two_mid (by simp) h

theorem area_low {size : Nat} {rows : List Bs} (h : size < 65536) : two (area size rows) 2 = size - total rows := by
  unfold area
  rw [show be 2 rows.length ++ be 2 (size - total rows) ++ dir size rows ++ zeros (size - total rows - 4 - 4 * rows.length) ++ rows.reverse.flatten =
    be 2 rows.length ++ be 2 (size - total rows) ++ (dir size rows ++ zeros (size - total rows - 4 - 4 * rows.length) ++ rows.reverse.flatten) by simp only [List.append_assoc]]
  exact two_mid (by simp) (by omega)

theorem split_at (rows : List Bs) (i : Nat) (h : i < rows.length) : rows = rows.take i ++ rows[i] :: rows.drop (i + 1) := by
  rw [← List.drop_eq_getElem_cons h, List.take_append_drop]

theorem total_take_succ (rows : List Bs) (i : Nat) (h : i < rows.length) : total (rows.take (i + 1)) = total (rows.take i) + rows[i].length := by
  rw [List.take_succ_eq_append_getElem h, total_append, total_cons, total_nil, Nat.add_zero]

theorem total_take_le (rows : List Bs) (i : Nat) : total (rows.take i) ≤ total rows := by
  conv => rhs; rw [← List.take_append_drop i rows, total_append]
  omega

theorem total_take_mono (rows : List Bs) {i j : Nat} (h : i ≤ j) : total (rows.take i) ≤ total (rows.take j) := by
  have := total_take_le (rows.take j) i
  rwa [List.take_take, Nat.min_eq_left h] at this

theorem area_from {size : Nat} {rows : List Bs} {i : Nat} (hi : i < rows.length) (h : size < 65536) : two (area size rows) (4 + 4 * i) = size - total (rows.take (i + 1)) := by
  unfold area
  rw [total_take_succ rows i hi]
  generalize hz : zeros (size - total rows - 4 - 4 * rows.length) = z
  generalize hf : rows.reverse.flatten = f
  generalize hl : be 2 (size - total rows) = l
  have hll : l.length = 2 := by rw [← hl]; simp
  generalize hc : be 2 rows.length = c
  have hcl : c.length = 2 := by rw [← hc]; simp
  have hs := split_at rows i hi
  generalize hr : rows[i] = r at hs ⊢
  have hd : dir size rows = dir size (rows.take i) ++ (be 2 (size - total (rows.take i) - r.length) ++ be 2 r.length ++ dir (size - total (rows.take i) - r.length) (rows.drop (i + 1))) := by
    conv => lhs; rw [hs]
    rw [dir_append, dir]
  rw [hd, show c ++ l ++ (dir size (rows.take i) ++ (be 2 (size - total (rows.take i) - r.length) ++ be 2 r.length ++ dir (size - total (rows.take i) - r.length) (rows.drop (i + 1)))) ++ z ++ f =
    (c ++ l ++ dir size (rows.take i)) ++ be 2 (size - total (rows.take i) - r.length) ++ (be 2 r.length ++ dir (size - total (rows.take i) - r.length) (rows.drop (i + 1)) ++ z ++ f) by simp only [List.append_assoc]]
  rw [two_mid (by simp [hcl, hll, dir_length]; omega) (by omega), Nat.sub_sub]

theorem area_len {size : Nat} {rows : List Bs} {i : Nat} (hi : i < rows.length) (h : rows[i].length < 65536) : two (area size rows) (4 + 4 * i + 2) = rows[i].length := by
  unfold area
  generalize hz : zeros (size - total rows - 4 - 4 * rows.length) = z
  generalize hf : rows.reverse.flatten = f
  generalize hl : be 2 (size - total rows) = l
  have hll : l.length = 2 := by rw [← hl]; simp
  generalize hc : be 2 rows.length = c
  have hcl : c.length = 2 := by rw [← hc]; simp
  have hs := split_at rows i hi
  generalize hr : rows[i] = r at hs h ⊢
  have hd : dir size rows = dir size (rows.take i) ++ (be 2 (size - total (rows.take i) - r.length) ++ be 2 r.length ++ dir (size - total (rows.take i) - r.length) (rows.drop (i + 1))) := by
    conv => lhs; rw [hs]
    rw [dir_append, dir]
  rw [hd, show c ++ l ++ (dir size (rows.take i) ++ (be 2 (size - total (rows.take i) - r.length) ++ be 2 r.length ++ dir (size - total (rows.take i) - r.length) (rows.drop (i + 1)))) ++ z ++ f =
    (c ++ l ++ dir size (rows.take i) ++ be 2 (size - total (rows.take i) - r.length)) ++ be 2 r.length ++ (dir (size - total (rows.take i) - r.length) (rows.drop (i + 1)) ++ z ++ f) by simp only [List.append_assoc]]
  rw [two_mid (by simp [hcl, hll, dir_length]; omega) (by omega)]

theorem area_text {size : Nat} {rows : List Bs} {i : Nat} (hi : i < rows.length) (h : 4 + 4 * rows.length + total rows ≤ size) : ((area size rows).drop (size - total (rows.take (i + 1)))).take rows[i].length = rows[i] := by
  have hlen := area_length h
  have hs := split_at rows i hi
  have ht := total_take_succ rows i hi
  have hle := total_take_le rows (i + 1)
  generalize hr : rows[i] = r at hs ht ⊢
  have e : area size rows = (be 2 rows.length ++ be 2 (size - total rows) ++ dir size rows ++ zeros (size - total rows - 4 - 4 * rows.length) ++ (rows.drop (i + 1)).reverse.flatten) ++ r ++ (rows.take i).reverse.flatten := by
    unfold area
    conv => lhs; arg 2; rw [hs]
    simp
  have htot : total rows = total (rows.take (i + 1)) + total (rows.drop (i + 1)) := by
    conv => lhs; rw [← List.take_append_drop (i + 1) rows, total_append]
  rw [e]
  refine take2_mid ?_ rfl
  simp only [List.length_append, be_length, dir_length, zeros, List.length_replicate, flatten_length, total_reverse]
  omega

theorem patch_take {l p : Bs} {k n : Nat} (h : n ≤ k) (hk : k ≤ l.length) : (patch l k p).take n = l.take n := by
  unfold patch
  rw [List.append_assoc, List.take_append_of_le_length (by simp; omega), List.take_take, Nat.min_eq_left h]

theorem two_patch0 {l p : Bs} {k : Nat} (h : 2 ≤ k) (hk : k ≤ l.length) : two (patch l k p) 0 = two l 0 := by
  unfold two
  rw [List.drop_zero, List.drop_zero, patch_take h hk]

/-- a page. -/
structure Pg where
  kind : Nat
  level : Nat
  id : Nat
  lsn : Nat
  next : Nat
  rows : List Bs
  deriving Inhabited

/-- A page that may be. -/
def Pg.may (p : Pg) : Prop := p.kind ≤ 5 ∧ 1 ≤ p.id ∧ p.id ≤ 1024 ∧ p.next ≤ 1024 ∧ 4 * p.rows.length + total p.rows ≤ 484

/-- numbers in their bounds. -/
def Pg.wf (p : Pg) : Prop := p.kind < 256 ∧ p.level < 256 ∧ p.id < 4294967296 ∧ p.lsn < 18446744073709551616 ∧ p.next < 4294967296

def Pg.head (p : Pg) : Bs := be 1 p.kind ++ be 1 p.level ++ be 4 p.id ++ be 8 p.lsn ++ be 4 p.next ++ be 2 0

theorem Pg.head_length (p : Pg) : p.head.length = 20 := by simp [head]

def Pg.body (p : Pg) : Bs := p.head ++ area 488 p.rows

theorem Pg.body_length {p : Pg} (h : p.may) : p.body.length = 508 := by
  obtain ⟨_, _, _, _, h⟩ := h
  simp [body, head_length, area_length (size := 488) (rows := p.rows) (by omega)]

end Go.Proofs.YtclpmkinjjhncaaGreat.Sp

/- The walks of package slot: what a page needs of an area: a new one, texts put behind all, its bytes; one that is loaded, and read. -/
namespace Go.Proofs.YtclpmkinjjhncaaGreat
open Go.RowKit

/-- The bytes l stand in block h from place o on. -/
def BytesAt (w : World) (h o : Nat) (l : Sp.Bs) : Prop := ∀ j (hj : j < l.length), w.cell? ⟨h, o + j, none⟩ = some (.int .u8 (l[j].toNat : Int))

/-- An area that is read: its struct in block g, its bytes in block h. -/
structure AreaR (w : World) (g h : Nat) (l : Sp.Bs) : Prop where
  area : ∃ c, Blk w g 292 #[.slice (some ⟨h, 0, none⟩) l.length c] ∧ l.length ≤ c ∧ c ≤ maxLen
  bytes : BytesAt w h 0 l
  some_ : 16 ≤ l.length
  few : l.length ≤ 4096
  in_ : h < w.heap.size

theorem AreaR.below {w w' : World} {g h : Nat} {l : Sp.Bs} (hA : AreaR w g h l) (hb : Below w.heap.size w w') : AreaR w' g h l := by
  obtain ⟨⟨c, h1, hc⟩, h2, h3, h4, h5⟩ := hA
  exact ⟨⟨c, h1.below hb h1.lt, hc⟩, fun j hj => ((below_cell hb).1 _ _ h5).trans (h2 j hj), h3, h4, Nat.lt_of_lt_of_le h5 hb.size⟩
theorem AreaR.drewN {w : World} {g h : Nat} {l : Sp.Bs} (hA : AreaR w g h l) (n : Nat) : AreaR (w.drewN n) g h l := ⟨hA.area, hA.bytes, hA.some_, hA.few, hA.in_⟩

theorem below_drewN' {B : Nat} {a w : World} (h : Below B a w) (n : Nat) : Below B a (w.drewN n) := ⟨h.os, h.tape, h.output, h.size, h.block⟩

theorem two_lt (l : Sp.Bs) (k : Nat) : Sp.two l k < 65536 := by
  unfold Sp.two
  refine Nat.lt_of_lt_of_le (Sp.num_lt _) ?_
  have h : ((l.drop k).take 2).length ≤ 2 := by simp; omega
  exact Nat.le_trans (Nat.pow_le_pow_right (by omega) h) (by decide)

set_option maxRecDepth 100000 in
set_option maxHeartbeats 2000000 in
theorem slot_none {w : World} {g h : Nat} {l : Sp.Bs} (hA : AreaR w g h l) :
    Calls Tryz.prog 203 #[.pointer (some ⟨g, 0, none⟩)] w fun e w' => e = .returned (.bool false) ∧ w = w' := by
  obtain ⟨⟨c, h1, _, _⟩, _, h3, _, _⟩ := hA
  have hc := h1.cell 0
  generalize l.length = n at *
  have hl : ((n : Int) == 0) = false := by rw [beq_eq_false_iff_ne]; omega
  go_enter Tryz.func203, Tryz.ntmps203
  go_wp2_with fail
  go_ret
  exact ⟨rfl, rfl⟩

theorem two_get (l : Sp.Bs) (k : Nat) (h : k + 1 < l.length) : Sp.two l k = (l[k]'(by omega)).toNat * 256 + l[k + 1].toNat := by
  unfold Sp.two
  rw [List.drop_eq_getElem_cons (by omega), List.drop_eq_getElem_cons h]
  simp only [List.take_succ_cons, List.take_zero, Sp.num, List.foldl_cons, List.foldl_nil, Nat.zero_mul, Nat.zero_add]

set_option maxRecDepth 100000 in
set_option maxHeartbeats 2000000 in
theorem slot_get {w : World} {g h : Nat} {l : Sp.Bs} (hA : AreaR w g h l) (k : Nat) (hk : k + 1 < l.length) :
    Calls Tryz.prog 227 #[.pointer (some ⟨g, 0, none⟩), .int .i64 k] w fun e w' => e = .returned (.int .i64 (Sp.two l k)) ∧ ∃ n, w' = w.drewN n := by
  obtain ⟨⟨c, h1, hlc, hcm⟩, hb, h3, h4, _⟩ := hA
  unfold maxLen at hcm
  have hc := h1.cell 0
  have e0 := hb k (by omega)
  have e1 := hb (k + 1) hk
  rw [Nat.zero_add] at e0 e1
  have H2 := Lib.hid (two_get l k hk)
  have b0 := (l[k]'(by omega)).toNat_lt
  have b1 := l[k + 1].toNat_lt
  generalize (l[k]'(by omega)).toNat = x at *
  generalize l[k + 1].toNat = y at *
  have i0 : (0 : Int) ≤ (k : Int) := by omega
  have i1 : (k : Int) < (l.length : Int) := by omega
  have i2 : (k : Int) + 1 < (l.length : Int) := by omega
  have i3 : (0 : Int) ≤ (k : Int) + 1 := by omega
  have i4 : IntKind.i64.wrap ((k : Int) + 1) = (k : Int) + 1 := IntWalk.i64_in _ (by omega)
  have i5 : ((k : Int) + 1).toNat = k + 1 := by omega
  clear hb
  go_enter Tryz.func227, Tryz.ntmps227
  go_wp2_with fail
  go_quiet (fail)
  go_wp2_with fail
  go_ret
  refine ⟨?_, _, rfl⟩
  show Ending.returned (.int .i64 (bits .or .i64 ((x : Int) * 256) (y : Int))) = _
  rw [show (x : Int) * 256 = ((x * 256 : Nat) : Int) by omega, i64_or_nat _ _ (by omega) (by omega), nat_join 8 _ _ (by omega) (by omega), H2.out]

set_option maxRecDepth 100000 in
set_option maxHeartbeats 2000000 in
theorem slot_len {w : World} {g h : Nat} {l : Sp.Bs} (hA : AreaR w g h l) :
    Calls Tryz.prog 168 #[.pointer (some ⟨g, 0, none⟩)] w fun e w' => e = .returned (.int .i64 (Sp.two l 0)) ∧ ∃ n, w' = w.drewN n := by
  go_enter Tryz.func168, Tryz.ntmps168
  go_wp2_with fail
  refine (slot_none hA).mono ?_
  rintro e w' ⟨rfl, rfl⟩
  go_wp2_with fail
  refine (slot_get hA 0 (by have := hA.some_; omega)).mono ?_
  rintro e w' ⟨rfl, n, rfl⟩
  go_wp2_with fail
  go_ret
  exact ⟨rfl, n, rfl⟩

set_option maxRecDepth 100000 in
set_option maxHeartbeats 2000000 in
theorem slot_gap {w : World} {g h : Nat} {l : Sp.Bs} (hA : AreaR w g h l) :
    Calls Tryz.prog 205 #[.pointer (some ⟨g, 0, none⟩)] w fun e w' => e = .returned (.int .i64 ((Sp.two l 2 : Int) - 4 - 4 * Sp.two l 0)) ∧ ∃ n, w' = w.drewN n := by
  have b2 := two_lt l 2
  have b0 := two_lt l 0
  go_enter Tryz.func205, Tryz.ntmps205
  go_wp2_with fail
  refine (slot_none hA).mono ?_
  rintro e w' ⟨rfl, rfl⟩
  go_wp2_with fail
  refine (slot_get hA 2 (by have := hA.some_; omega)).mono ?_
  rintro e w' ⟨rfl, n, rfl⟩
  go_wp2_with fail
  refine (slot_len (hA.drewN n)).mono ?_
  rintro e w' ⟨rfl, m, rfl⟩
  go_wp2_with fail
  go_ret
  exact ⟨rfl, n + m, rfl⟩

set_option maxRecDepth 100000 in
set_option maxHeartbeats 2000000 in
theorem slot_entry {w : World} {g h : Nat} {l : Sp.Bs} (hA : AreaR w g h l) (i : Nat) (hi : 4 + 4 * i + 3 < l.length) :
    Calls Tryz.prog 262 #[.pointer (some ⟨g, 0, none⟩), .int .i64 i] w fun e w' => e = .returned (.tuple #[.int .i64 (Sp.two l (4 + 4 * i)), .int .i64 (Sp.two l (4 + 4 * i + 2))]) ∧ ∃ n, w' = w.drewN n := by
  have i1 : (i : Int) ≤ 4096 := by have := hA.few; omega
  go_enter Tryz.func262, Tryz.ntmps262
  go_wp2_with fail
  rw [show (4 + 4 * (i : Int)) = ((4 + 4 * i : Nat) : Int) by omega]
  refine (slot_get hA (4 + 4 * i) (by omega)).mono ?_
  rintro e w' ⟨rfl, n, rfl⟩
  go_wp2_with fail
  rw [show (4 + 4 * (i : Int) + 2) = ((4 + 4 * i + 2 : Nat) : Int) by omega]
  refine (slot_get (hA.drewN n) (4 + 4 * i + 2) (by omega)).mono ?_
  rintro e w' ⟨rfl, m, rfl⟩
  go_wp2_with fail
  go_ret2
  exact ⟨rfl, n + m, rfl⟩

set_option maxRecDepth 100000 in
set_option maxHeartbeats 2000000 in
/-- The text of a place whose entry says (f, n). -/
theorem slot_text {w : World} {g h : Nat} {l : Sp.Bs} (hA : AreaR w g h l) (i f n : Nat) (hi : 4 + 4 * i + 3 < l.length) (hf : Sp.two l (4 + 4 * i) = f) (hn : Sp.two l (4 + 4 * i + 2) = n) (hfn : f + n ≤ l.length) :
    Calls Tryz.prog 229 #[.pointer (some ⟨g, 0, none⟩), .int .i64 i] w fun e w' => e = .returned (str ((l.drop f).take n)) ∧ ∃ n, w' = w.drewN n := by
  go_enter Tryz.func229, Tryz.ntmps229
  go_wp2_with fail
  refine (slot_entry hA i hi).mono ?_
  rintro e w' ⟨rfl, q, rfl⟩
  rw [hf, hn]
  clear hf hn
  obtain ⟨⟨c, h1, hlc, hcm⟩, hb, h3, h4, _⟩ := hA
  unfold maxLen at hcm
  have hc := h1.cell 0
  have i1 : (f : Int) ≤ (f : Int) + (n : Int) := by omega
  have i2 : (f : Int) + (n : Int) ≤ (c : Int) := by omega
  rcases Nat.lt_or_ge f c with hfc | hfc
  · have hcb := run_bytes_back (P := Tryz.prog) (w.drewN q) 102 9 5 h f n (c - f) ((l.drop f).take n) Tryz.underlying102 Tryz.underlying5 Tryz.underlying9 (by simp; omega) (fun j hj => by
      have h5 := hb (f + j) (by simp at hj; omega)
      rw [Nat.zero_add] at h5
      simpa using h5)
    have hne : ¬ c = f := by omega
    clear hb
    go_wp2_with fail
    go_ret
    exact ⟨rfl, q, rfl⟩
  · obtain rfl : c = f := by omega
    obtain rfl : n = 0 := by omega
    have hcb := run_bytes_back (P := Tryz.prog) (w.drewN q) 102 9 5 h 0 0 0 [] Tryz.underlying102 Tryz.underlying5 Tryz.underlying9 rfl (fun j hj => absurd hj (by simp))
    clear hb
    go_wp2_with fail
    go_ret
    exact ⟨rfl, q, rfl⟩

/-- An area that may be: its entries stand behind the low place, within the area, and none meets another. -/
structure AreaOk (l : Sp.Bs) : Prop where
  gap : 4 + 4 * Sp.two l 0 ≤ Sp.two l 2
  low : Sp.two l 2 ≤ l.length
  each : ∀ i, i < Sp.two l 0 → Sp.two l 2 ≤ Sp.two l (4 + 4 * i) ∧ Sp.two l (4 + 4 * i) + Sp.two l (4 + 4 * i + 2) ≤ l.length
  apart : ∀ i j, i < Sp.two l 0 → j < i → Sp.two l (4 + 4 * i + 2) = 0 ∨ Sp.two l (4 + 4 * j + 2) = 0 ∨ Sp.two l (4 + 4 * i) + Sp.two l (4 + 4 * i + 2) ≤ Sp.two l (4 + 4 * j) ∨ Sp.two l (4 + 4 * j) + Sp.two l (4 + 4 * j + 2) ≤ Sp.two l (4 + 4 * i)

set_option maxRecDepth 100000 in
set_option maxHeartbeats 4000000 in
theorem slot_may {w : World} {g h : Nat} {l : Sp.Bs} (hA : AreaR w g h l) (hO : AreaOk l) :
    Calls Tryz.prog 226 #[.pointer (some ⟨g, 0, none⟩)] w fun e w' => e = .returned (.bool true) ∧ ∃ n, w' = w.drewN n := by
  obtain ⟨o1, o2, o3, o4⟩ := hO
  obtain ⟨⟨c, h1, _, _⟩, _, h3, h4, _⟩ := id hA
  have hc := h1.cell 0
  have hgap := Lib.hid fun n => slot_gap (hA.drewN n)
  have hlow := Lib.hid fun n => slot_get (hA.drewN n) 2 (by omega)
  have hlen := Lib.hid fun n => slot_len (hA.drewN n)
  have hent := Lib.hid fun n i hi => slot_entry (hA.drewN n) i hi
  have b0 := two_lt l 0
  have b2 := two_lt l 2
  have O3 := Lib.hid o3
  have O4 := Lib.hid o4
  clear o3 o4 hA h1
  have hk : ∀ i, i < Sp.two l 0 → 4 + 4 * i + 3 < l.length := fun i hi => by omega
  have HK := Lib.hid hk
  clear hk
  have d1 : decide ((l.length : Int) < 16) = false := by rw [decide_eq_false_iff_not]; omega
  have d2 : decide ((4096 : Int) < (l.length : Int)) = false := by rw [decide_eq_false_iff_not]; omega
  have d3 : decide ((Sp.two l 2 : Int) - 4 - 4 * (Sp.two l 0 : Int) < 0) = false := by rw [decide_eq_false_iff_not]; omega
  have d4 : decide ((l.length : Int) < (Sp.two l 2 : Int)) = false := by rw [decide_eq_false_iff_not]; omega
  generalize hm : Sp.two l 0 = m at *
  generalize hlo : Sp.two l 2 = low at *
  have HM := Lib.hid hm
  have HLO := Lib.hid hlo
  clear hm hlo
  go_enter Tryz.func226, Tryz.ntmps226
  go_wp2_with fail
  go_step3
  go_wp2_with fail
  go_quiet (first
    | (go_at_call 205; exact Calls.quiet_of (hgap.out _))
    | (go_at_call 227; exact Calls.quiet_of (hlow.out _)))
  go_wp2_with fail
  go_step3
  go_wp2_with fail
  refine (hlen.out _).mono ?_
  rintro e w' ⟨rfl, q0, rfl⟩
  go_wp2_with fail
  go_loopw [3, 41] (fun f i wr => ∃ k : Nat, k ≤ m ∧ i = .int .i64 k ∧ f = .bool true ∧ ∃ q, wr = w.drewN q) (fun _ i _ => m - (intOf i).toNat)
  case atStart => exact ⟨0, by omega, rfl, rfl, _, rfl⟩
  case round =>
    obtain ⟨k, hk, rfl, rfl, q, rfl⟩ := hrel
    by_cases hlt : k < m
    · obtain ⟨f1, f2⟩ := O3.out k hlt
      have f3 := O4.out k
      have hek := hent.out q k (HK.out k hlt)
      have F3 := Lib.hid f3
      clear f3
      generalize hF : Sp.two l (4 + 4 * k) = F at *
      generalize hN : Sp.two l (4 + 4 * k + 2) = N at *
      clear hF hN
      have HE := Lib.hid hek
      clear hek
      have e1 : decide ((low : Int) ≤ (F : Int)) = true := by rw [decide_eq_true_eq]; omega
      have e2 : decide ((F : Int) + (N : Int) ≤ (l.length : Int)) = true := by rw [decide_eq_true_eq]; omega
      go_wp2_with fail
      refine HE.out.mono ?_
      rintro e w' ⟨rfl, q1, rfl⟩
      go_wp2_with fail
      refine (hlow.out _).mono ?_
      rintro e w' ⟨rfl, q2, rfl⟩
      go_wp2_with fail
      clear e1 e2 HE
      go_loopw [3, 68] (fun f i wr => ∃ j : Nat, j ≤ k ∧ i = .int .i64 j ∧ f = .bool true ∧ ∃ q, wr = w.drewN q) (fun _ i _ => k - (intOf i).toNat)
      case atStart => exact ⟨0, by omega, rfl, rfl, _, rfl⟩
      case round =>
        obtain ⟨j, hj, rfl, rfl, q3, rfl⟩ := hrel
        by_cases hlt2 : j < k
        · have f4 := F3.out j hlt hlt2
          have hej := hent.out q3 j (HK.out j (by omega))
          generalize hF' : Sp.two l (4 + 4 * j) = F' at *
          generalize hN' : Sp.two l (4 + 4 * j + 2) = N' at *
          have bF : F' < 65536 := by rw [← hF']; exact two_lt _ _
          have bN : N' < 65536 := by rw [← hN']; exact two_lt _ _
          clear hF' hN'
          have HE := Lib.hid hej
          clear hej
          have key : (((N : Int) == 0) = true ∧ True) ∨ (((N : Int) == 0) = false ∧ ((N' : Int) == 0) = true) ∨ (((N : Int) == 0) = false ∧ ((N' : Int) == 0) = false ∧ decide ((F : Int) + (N : Int) ≤ (F' : Int)) = true) ∨
              (((N : Int) == 0) = false ∧ ((N' : Int) == 0) = false ∧ decide ((F : Int) + (N : Int) ≤ (F' : Int)) = false ∧ decide ((F' : Int) + (N' : Int) ≤ (F : Int)) = true) := by
            by_cases n1 : N = 0
            · exact .inl ⟨by rw [beq_iff_eq]; omega, trivial⟩
            · have m1 : ((N : Int) == 0) = false := by rw [beq_eq_false_iff_ne]; omega
              by_cases n2 : N' = 0
              · exact .inr (.inl ⟨m1, by rw [beq_iff_eq]; omega⟩)
              · have m2 : ((N' : Int) == 0) = false := by rw [beq_eq_false_iff_ne]; omega
                by_cases n3 : F + N ≤ F'
                · exact .inr (.inr (.inl ⟨m1, m2, by rw [decide_eq_true_eq]; omega⟩))
                · have n4 : F' + N' ≤ F := by rcases f4 with h | h | h | h <;> omega
                  exact .inr (.inr (.inr ⟨m1, m2, by rw [decide_eq_false_iff_not]; omega, by rw [decide_eq_true_eq]; omega⟩))
          have bF' := Lib.hid f4
          clear f4
          have lF : (F : Int) ≤ 4096 := by omega
          have lN : (N : Int) ≤ 4096 := by omega
          have lF' : (F' : Int) < 65536 := by omega
          have lN' : (N' : Int) < 65536 := by omega
          rcases key with ⟨k1, _⟩ | ⟨k1, k2⟩ | ⟨k1, k2, k3⟩ | ⟨k1, k2, k3, k4⟩
          all_goals
            go_wp2_with fail
            refine HE.out.mono ?_
            rintro e w' ⟨rfl, q4, rfl⟩
            go_wp2_with fail
            go_roundw
            case rel => exact ⟨j + 1, by omega, by go_num, rfl, _, rfl⟩
            case measure => simp [intOf]; omega
        · go_wp2_with fail
          go_roundw
          case rel => exact ⟨k + 1, by omega, by go_num, rfl, _, rfl⟩
          case measure => simp [intOf]; omega
    · go_wp2_with fail
      rw [Exit.noGoto_ret]
      go_ret
      exact ⟨rfl, _, rfl⟩

set_option maxRecDepth 100000 in
set_option maxHeartbeats 2000000 in
theorem slot_there {w : World} {g h : Nat} {l : Sp.Bs} (hA : AreaR w g h l) (i : Nat) (hi : i < Sp.two l 0) :
    Calls Tryz.prog 228 #[.pointer (some ⟨g, 0, none⟩), .int .i64 i] w fun e w' => e = .returned (.int .i64 0) ∧ ∃ n, w' = w.drewN n := by
  have d1 : decide ((Sp.two l 0 : Int) ≤ (i : Int)) = false := by rw [decide_eq_false_iff_not]; omega
  go_enter Tryz.func228, Tryz.ntmps228
  go_wp2_with fail
  refine (slot_none hA).mono ?_
  rintro e w' ⟨rfl, rfl⟩
  go_wp2_with fail
  refine (slot_len hA).mono ?_
  rintro e w' ⟨rfl, n, rfl⟩
  go_wp2_with fail
  go_ret
  exact ⟨rfl, n, rfl⟩

set_option maxRecDepth 100000 in
set_option maxHeartbeats 2000000 in
theorem slot_Get {w : World} {g h : Nat} {l : Sp.Bs} (hA : AreaR w g h l) (i f n : Nat) (hi : i < Sp.two l 0) (hi' : 4 + 4 * i + 3 < l.length) (hf : Sp.two l (4 + 4 * i) = f) (hn : Sp.two l (4 + 4 * i + 2) = n) (hfn : f + n ≤ l.length) :
    Calls Tryz.prog 169 #[.pointer (some ⟨g, 0, none⟩), .int .i64 i] w fun e w' => e = .returned (.tuple #[str ((l.drop f).take n), .int .i64 0]) ∧ ∃ n, w' = w.drewN n := by
  go_enter Tryz.func169, Tryz.ntmps169
  go_wp2_with fail
  refine (slot_there hA i hi).mono ?_
  rintro e w' ⟨rfl, q, rfl⟩
  go_wp2_with fail
  refine (slot_text (hA.drewN q) i f n hi' hf hn hfn).mono ?_
  rintro e w' ⟨rfl, q2, rfl⟩
  go_wp2_with fail
  go_ret2
  exact ⟨rfl, q + q2, rfl⟩

set_option maxRecDepth 100000 in
set_option maxHeartbeats 2000000 in
theorem slot_load (l : Sp.Bs) (w : World) (h1 : 16 ≤ l.length) (h2 : l.length ≤ 4096) (hO : AreaOk l) :
    Calls Tryz.prog 167 #[str l] w fun e w' => ∃ g h, e = .returned (.tuple #[.pointer (some ⟨g, 0, none⟩), .int .i64 0]) ∧ AreaR w' g h l ∧ w.heap.size ≤ g ∧ w.heap.size ≤ h ∧ Below w.heap.size w w' := by
  have hcv := conv_any (P := Tryz.prog) 9 102 5 l Tryz.underlying9 Tryz.underlying102 Tryz.underlying5
  have d1 : decide ((l.length : Int) < 16) = false := by rw [decide_eq_false_iff_not]; omega
  go_enter Tryz.func167, Tryz.ntmps167
  go_wp2_with fail
  obtain ⟨hb1, hs1, hnew, _⟩ := bytesW_facts w 5 l
  obtain ⟨c1, c2⟩ := bytesC_le w 5 l (by unfold maxLen; omega)
  clear hcv
  generalize bytesW w 5 l = w1 at *
  generalize bytesC w 5 l = c at *
  have hb2 : Below w1.heap.size w1 (w1.alloc (.cells #[.slice (some ⟨w.heap.size, 0, none⟩) l.length c] 292)) := (Below.refl _ _).alloc (Nat.le_refl _) _
  have hA : AreaR (w1.alloc (.cells #[.slice (some ⟨w.heap.size, 0, none⟩) l.length c] 292)) w1.heap.size w.heap.size l :=
    ⟨⟨c, Blk.new w1 _ _, c1, c2⟩, fun j hj => by
      rw [Nat.zero_add, (below_cell hb2).1 _ _ (by omega)]
      exact hnew j hj, h1, h2, by simp; omega⟩
  clear hs1
  refine (slot_may hA hO).mono ?_
  rintro e w' ⟨rfl, q, rfl⟩
  go_wp2_with fail
  go_ret2
  exact ⟨_, _, rfl, hA.drewN q, hb1.size, Nat.le_refl _, below_drewN' (hb1.trans (hb2.mono hb1.size)) q⟩

end Go.Proofs.YtclpmkinjjhncaaGreat

/- The walks of package word. -/
namespace Go.Proofs.YtclpmkinjjhncaaGreat
open Go.RowKit

/-- The array of word.Put behind k rounds. -/
def putCells (n k : Nat) : Array Value := ((List.range 8).map fun j => Value.int .u8 (if 8 ≤ j + k then ((n / 256 ^ (7 - j) % 256 : Nat) : Int) else 0)).toArray

theorem putCells_next (n k : Nat) (hk : k < 8) (v : Int) (hv : v = ((n / 256 ^ k % 256 : Nat) : Int)) : (putCells n k).setIfInBounds (7 - k) (.int .u8 v) = putCells n (k + 1) := by
  subst hv
  unfold putCells
  match k, hk with
  | 0, _ => simp [List.range_succ]
  | 1, _ => simp [List.range_succ]
  | 2, _ => simp [List.range_succ]
  | 3, _ => simp [List.range_succ]
  | 4, _ => simp [List.range_succ]
  | 5, _ => simp [List.range_succ]
  | 6, _ => simp [List.range_succ]
  | 7, _ => simp [List.range_succ]

theorem putCells_at (n size j : Nat) (hj : j < size) (h8 : size ≤ 8) (hj' : j < (Sp.be size n).length) : (putCells n 8)[8 - size + j]? = some (Value.int .u8 ((Sp.be size n)[j].toNat : Int)) := by
  have h1 := Sp.be_get size n j hj
  rw [List.getElem?_eq_getElem hj', Option.some.injEq] at h1
  rw [h1]
  have e : 7 - (8 - size + j) = size - 1 - j := by omega
  have hlt : 8 - size + j < 8 := by omega
  simp only [putCells, List.getElem?_toArray, List.getElem?_map, List.getElem?_range hlt, Option.map_some]
  rw [if_pos (by omega), e, UInt8.toNat_ofNat']

theorem byte_cast (n k : Nat) : ((n : Int) / 2 ^ (8 * k) % 256) = ((n / 256 ^ k % 256 : Nat) : Int) := by
  rw [show 256 ^ k = 2 ^ (8 * k) by rw [Nat.pow_mul]]; simp

set_option maxRecDepth 100000 in
set_option maxHeartbeats 2000000 in
theorem word_put (n size : Nat) (w : World) (h1 : 1 ≤ size) (h8 : size ≤ 8) (hn : n < 256 ^ size) (hn64 : n < 18446744073709551616) :
    Calls Tryz.prog 133 #[.int .u64 n, .int .i64 size] w fun e w' => e = .returned (.tuple #[str (Sp.be size n), .bool true]) ∧ Below w.heap.size w w' := by
  have d1 : decide ((size : Int) < 1) = false := by simp; omega
  have d2 : decide ((8 : Int) < (size : Int)) = false := by simp; omega
  have d3 : (((n : Int) / 2 ^ (8 * size)) != 0) = false := by
    have e : (2 : Int) ^ (8 * size) = ((256 ^ size : Nat) : Int) := by rw [show 256 ^ size = 2 ^ (8 * size) by rw [Nat.pow_mul]]; simp
    rw [e, ← Int.natCast_ediv, Nat.div_eq_of_lt hn]
    rfl
  have i3 : (size : Int) ≤ 8 := by omega
  have i0 : (0 : Int) ≤ 8 - (size : Int) := by omega
  have i1 : (8 : Int) - (size : Int) ≤ 8 := by omega
  have i2 : (8 - (size : Int)).toNat = 8 - size := by omega
  have hN := Lib.hid hn
  have hN64 := Lib.hid hn64
  clear hn hn64
  rcases Nat.lt_or_ge size 8 with hlt | hge
  all_goals
    go_enter Tryz.func133, Tryz.ntmps133
    go_wp2
    go_loopw [7, 25] (fun _ i wr => ∃ k : Nat, k ≤ 8 ∧ i = .int .i64 k ∧ Blk wr w.heap.size 283 (putCells n k) ∧ Below w.heap.size w wr) (fun _ i _ => 8 - (intOf i).toNat)
    case atStart => exact ⟨0, by omega, rfl, Blk.new w _ _, (Below.refl _ _).alloc (Nat.le_refl _) _⟩
    case round =>
      obtain ⟨k, hk, rfl, hblk, hb⟩ := hrel
      by_cases hlt : k < 8
      · obtain ⟨v0, hv0⟩ : ∃ v, (putCells n k)[7 - k]? = some v := ⟨_, Array.getElem?_eq_getElem (by simp [putCells]; omega)⟩
        have hcell := (hblk.cell (7 - k)).trans hv0
        have hfz := hblk.frozen (7 - k)
        clear hv0
        go_wp2
        go_roundw
        case rel =>
          refine ⟨k + 1, by omega, by go_num, ?_, hb.setCell (Nat.le_refl _) _⟩
          rw [← putCells_next n k hlt _ (byte_cast n k)]
          exact hblk.set_ _ _
        case measure => simp [intOf]; omega
      · obtain rfl : k = 8 := by omega
        have hc0 : ∀ j (hj : j < (Sp.be size n).length), wr.cell? ⟨w.heap.size, 8 - size + j, none⟩ = some (.int .u8 ((Sp.be size n)[j].toNat : Int)) := fun j hj => by
          have hj' : j < size := by simpa using hj
          rw [hblk.cell]
          exact putCells_at n size j hj' h8 hj
        have hcv : ∀ o n1 n2, o = 8 - size → n1 = size → (convert 102 9 (.slice (some ⟨w.heap.size, o, none⟩) n1 n2)).run Tryz.prog wr = .ok (str (Sp.be size n)) wr := fun o n1 n2 ho hn1 => by
          subst ho hn1
          exact run_bytes_back wr 102 9 5 w.heap.size (8 - n1) n1 n2 (Sp.be n1 n) Tryz.underlying102 Tryz.underlying5 Tryz.underlying9 (by simp) hc0
        clear hc0
        have hcv1 := hcv (8 - size) (8 - (8 - size)) (8 - (8 - size)) rfl (by omega)
        first
          | (have hcv2 := hcv 0 8 8 (by omega) (by omega); clear hcv; go_wp2; go_ret2; exact ⟨rfl, hb⟩)
          | (clear hcv; go_wp2; go_ret2; exact ⟨rfl, hb⟩)

set_option maxRecDepth 100000 in
set_option maxHeartbeats 2000000 in
theorem word_cut (l : Sp.Bs) (a n : Nat) (w : World) (h : a + n ≤ l.length) (hl : l.length ≤ 1000000000) :
    Calls Tryz.prog 166 #[str l, .int .i64 a, .int .i64 n] w fun e w' => e = .returned (.tuple #[str ((l.drop a).take n), .bool true]) ∧ w = w' := by
  have d1 : decide ((a : Int) < 0) = false := by simp
  have d2 : decide ((n : Int) < 0) = false := by simp
  have d3 : decide ((l.length : Int) < (a : Int)) = false := by simp; omega
  have d4 : decide ((l.length : Int) - (a : Int) < (n : Int)) = false := by simp; omega
  have i1 : (a : Int) ≤ (a : Int) + (n : Int) := by omega
  have i2 : (a : Int) + (n : Int) ≤ (l.length : Int) := by omega
  go_enter Tryz.func166, Tryz.ntmps166
  go_wp2
  go_ret2
  exact ⟨by show Ending.returned (.tuple #[.string (ByteArray.extract _ _ _), .bool true]) = _; rw [str_extract, Nat.add_sub_cancel_left], rfl⟩

theorem getStep (m : Nat) (b : UInt8) (h : m < 72057594037927936) : bits .or .u64 ((m : Int) * 256) (IntKind.u64.wrap (b.toNat : Int)) = ((m * 256 + b.toNat : Nat) : Int) := by
  have hb := b.toNat_lt
  have e : IntKind.u64.wrap (b.toNat : Int) = ((b.toNat : Nat) : Int) := by
    rw [IntKind.wrap_u64]; omega
  have e2 : (m : Int) * 256 = ((m * 256 : Nat) : Int) := by omega
  rw [e, e2, u64_or_nat _ _ (by omega) (by omega), nat_join 8 _ _ (by omega) (by omega)]

set_option maxRecDepth 100000 in
set_option maxHeartbeats 2000000 in
theorem word_get (l : Sp.Bs) (a n : Nat) (w : World) (h : a + n ≤ l.length) (h1 : 1 ≤ n) (h8 : n ≤ 8) (hl : l.length ≤ 1000000000) :
    Calls Tryz.prog 131 #[str l, .int .i64 a, .int .i64 n] w fun e w' => e = .returned (.tuple #[.int .u64 (Sp.num ((l.drop a).take n)), .bool true]) ∧ Below w.heap.size w w' := by
  have d1 : decide ((n : Int) < 1) = false := by simp; omega
  have d2 : decide ((8 : Int) < (n : Int)) = false := by simp; omega
  go_enter Tryz.func131, Tryz.ntmps131
  go_wp2_with fail
  refine (word_cut l a n _ h hl).mono ?_
  rintro e w' ⟨rfl, rfl⟩
  have hlen : ((l.drop a).take n).length = n := by simp; omega
  generalize hp : (l.drop a).take n = p at *
  have HP := Lib.hid hp
  clear hp
  obtain ⟨gc, w1, hcv, hb0, _, hnew, _⟩ := conv_bytes (P := Tryz.prog) w 9 102 5 p Tryz.underlying9 Tryz.underlying102 Tryz.underlying5
  subst hlen
  go_wp2_with fail
  go_loop [6, 10, 31] (fun x _ i => ∃ k : Nat, k ≤ p.length ∧ i = .int .i64 k ∧ x = .int .u64 (Sp.num (p.take k))) (fun _ _ i => p.length - (intOf i).toNat)
  case atStart => exact ⟨0, by omega, rfl, rfl⟩
  case round =>
    obtain ⟨k, hk, rfl, rfl⟩ := hrel
    by_cases hlt : k < p.length
    · have hcell := hnew k hlt
      clear hnew hcv
      have hm : Sp.num (p.take k) < 72057594037927936 := by
        have h3 := Sp.num_lt (p.take k)
        have h4 : (256 : Nat) ^ (p.take k).length ≤ 256 ^ 7 := Nat.pow_le_pow_right (by omega) (by simp; omega)
        have h5 : (256 : Nat) ^ 7 = 72057594037927936 := by decide
        omega
      have hst := getStep _ p[k] hm
      have hnx : Sp.num (p.take (k + 1)) = Sp.num (p.take k) * 256 + p[k].toNat := by
        rw [List.take_succ_eq_append_getElem hlt, Sp.num_snoc]
      have HX := Lib.hid hnx
      have HS := Lib.hid hst
      clear hnx hst
      generalize Sp.num (p.take k) = m at *
      go_wp2
      go_round
      case rel => exact ⟨k + 1, by omega, by go_num, by rw [HX.out, HS.out]⟩
      case measure => simp [intOf]; omega
    · obtain rfl : k = p.length := by omega
      clear hnew hcv
      go_wp2
      go_ret2
      refine ⟨?_, hb0⟩
      show Ending.returned (.tuple #[.int .u64 (Sp.num p), .bool true]) = _
      rw [HP.out]
end Go.Proofs.YtclpmkinjjhncaaGreat

/- The walks of package slot that write: a new area, texts put behind all, its bytes. -/
namespace Go.Proofs.YtclpmkinjjhncaaGreat
open Go.RowKit

/-- An area that is written: its struct in block g, its bytes, all of them, in block h. -/
structure AreaW (w : World) (g h : Nat) (l : Sp.Bs) : Prop where
  area : Blk w g 292 #[.slice (some ⟨h, 0, none⟩) l.length l.length]
  bytes : Blk w h 5 (bcs l).toArray
  some_ : 16 ≤ l.length
  few : l.length ≤ 4096

theorem AreaW.ne {w : World} {g h : Nat} {l : Sp.Bs} (hA : AreaW w g h l) : g ≠ h := hA.area.ne_ hA.bytes (by decide)
theorem AreaW.read {w : World} {g h : Nat} {l : Sp.Bs} (hA : AreaW w g h l) : AreaR w g h l :=
  ⟨⟨_, hA.area, Nat.le_refl _, by unfold maxLen; have := hA.few; omega⟩, fun j hj => by rw [hA.bytes.cell]; simpa using bcs_at l _ (by omega), hA.some_, hA.few, hA.bytes.lt⟩
theorem AreaW.below {w w' : World} {g h : Nat} {l : Sp.Bs} (hA : AreaW w g h l) (hb : Below w.heap.size w w') : AreaW w' g h l :=
  ⟨hA.area.below hb hA.area.lt, hA.bytes.below hb hA.bytes.lt, hA.some_, hA.few⟩
theorem AreaW.drewN {w : World} {g h : Nat} {l : Sp.Bs} (hA : AreaW w g h l) (n : Nat) : AreaW (w.drewN n) g h l := ⟨hA.area, hA.bytes, hA.some_, hA.few⟩

theorem AreaW.patched {w : World} {g h : Nat} {l : Sp.Bs} (hA : AreaW w g h l) {k : Nat} {p : Sp.Bs} (hk : k + p.length ≤ l.length) : AreaW (w.setRow h (bcs (Sp.patch l k p)).toArray) g h (Sp.patch l k p) := by
  have hl := Sp.patch_length hk
  refine ⟨?_, hA.bytes.setRow _, by rw [hl]; exact hA.some_, by rw [hl]; exact hA.few⟩
  rw [hl]
  exact hA.area.keep (heap_setRow_other _ _ _ _ hA.ne)

theorem byteCells_bcs (l : Sp.Bs) : Lib.byteCells l = bcs l := rfl
theorem u8_info : (Tryz.prog.info? 5).map (·.size) = some 1 := by kernel_rfl

/-- 'copy(b[k:], s)' onto a block of bytes: a piece laid over. -/
theorem run_copy_patch (w : World) (h k n c : Nat) (l p : Sp.Bs) (ty : TypeId) (hB : Blk w h 5 (bcs l).toArray) (hk : k + p.length ≤ l.length) (hn : p.length ≤ n) :
    (Builtin.copy_ #[102, 9] ty #[.slice (some ⟨h, k, none⟩) n c, str p]).run Tryz.prog w = .ok (goInt p.length) (w.setRow h (bcs (Sp.patch l k p)).toArray) := by
  have := Lib.run_copy_row_string (P := Tryz.prog) w 102 9 ty 5 h k n c ⟨p.toArray⟩ (bcs l).toArray 5 Tryz.underlying102 u8_info hB (by simpa using hn) (by simpa using hk)
  rw [this]
  simp [byteCells_bcs, Sp.patch, bcs, List.map_take, List.map_drop]

set_option maxRecDepth 100000 in
set_option maxHeartbeats 2000000 in
theorem slot_two {w : World} {g h : Nat} {l : Sp.Bs} (hA : AreaW w g h l) (k n : Nat) (hk : k + 2 ≤ l.length) (hn : n < 65536) :
    Calls Tryz.prog 202 #[.pointer (some ⟨g, 0, none⟩), .int .i64 k, .int .i64 n] w fun e w' => e = .returned (.tuple #[]) ∧ AreaW w' g h (Sp.patch l k (Sp.be 2 n)) ∧ Turns (only h) (only h) w w' := by
  go_enter Tryz.func202, Tryz.ntmps202
  go_wp2_with fail
  refine (word_put n 2 w (by omega) (by omega) (by omega) (by omega)).mono ?_
  rintro e w1 ⟨rfl, hb⟩
  have hA1 := hA.below hb
  have hc := hA1.area.cell 0
  have hcp := Lib.hid fun ty => run_copy_patch w1 h k (l.length - k) (l.length - k) l (Sp.be 2 n) ty hA1.bytes (by simpa using hk) (by simp; omega)
  have i1 : (k : Int) ≤ (l.length : Int) := by omega
  have hne : ¬ l.length = k := by omega
  have HA := Lib.hid hA1
  clear hA1
  go_wp2_with (with_reducible refine Lib.wpList_copy_run _ rfl (.tmp 19) (.tmp 20) 102 9 rfl _ _ rfl rfl (hcp.out _) ?_)
  go_end0
  refine ⟨rfl, HA.out.patched (by simpa using hk), (Turns.of_below hb (only h)).setRow (.inl rfl) _⟩

set_option maxRecDepth 100000 in
set_option maxHeartbeats 2000000 in
theorem slot_place {w : World} {g h : Nat} {l : Sp.Bs} (hA : AreaW w g h l) (i f n : Nat) (hi : 4 + 4 * i + 4 ≤ l.length) (hf : f < 65536) (hn : n < 65536) :
    Calls Tryz.prog 209 #[.pointer (some ⟨g, 0, none⟩), .int .i64 i, .int .i64 f, .int .i64 n] w fun e w' => e = .returned (.tuple #[]) ∧
      AreaW w' g h (Sp.patch (Sp.patch l (4 + 4 * i) (Sp.be 2 f)) (4 + 4 * i + 2) (Sp.be 2 n)) ∧ Turns (only h) (only h) w w' := by
  have i1 : (i : Int) ≤ 4096 := by have := hA.few; omega
  have hl : (Sp.patch l (4 + 4 * i) (Sp.be 2 f)).length = l.length := Sp.patch_length (by simp; omega)
  go_enter Tryz.func209, Tryz.ntmps209
  go_wp2_with fail
  rw [show (4 + 4 * (i : Int)) = ((4 + 4 * i : Nat) : Int) by omega]
  refine (slot_two hA (4 + 4 * i) f (by omega) hf).mono ?_
  rintro e w1 ⟨rfl, hA1, ht1⟩
  have HL := Lib.hid hl
  clear hl
  go_wp2_with fail
  rw [show (4 + 4 * (i : Int) + 2) = ((4 + 4 * i + 2 : Nat) : Int) by omega]
  refine (slot_two hA1 (4 + 4 * i + 2) n (by rw [HL.out]; omega) hn).mono ?_
  rintro e w2 ⟨rfl, hA2, ht2⟩
  go_wp2_with fail
  go_end0
  exact ⟨rfl, hA2, ht1.trans ht2⟩

set_option maxRecDepth 100000 in
set_option maxHeartbeats 2000000 in
theorem slot_below {w : World} {g h : Nat} {l : Sp.Bs} (hA : AreaW w g h l) (p : Sp.Bs) (low : Nat) (hlow : Sp.two l 2 = low + p.length) (hle : low + p.length ≤ l.length) :
    Calls Tryz.prog 207 #[.pointer (some ⟨g, 0, none⟩), str p] w fun e w' => e = .returned (.int .i64 low) ∧
      AreaW w' g h (Sp.patch (Sp.patch l low p) 2 (Sp.be 2 low)) ∧ Turns (only h) (only h) w w' := by
  have hsm := hA.some_
  have hfew := hA.few
  have hl : (Sp.patch l low p).length = l.length := Sp.patch_length hle
  have HG := Lib.hid (slot_get hA.read 2 (by omega))
  rw [hlow] at HG
  clear hlow
  go_enter Tryz.func207, Tryz.ntmps207
  go_wp2_with fail
  refine HG.out.mono ?_
  rintro e w1 ⟨rfl, q, rfl⟩
  have hA1 := hA.drewN q
  have hc := hA1.area.cell 0
  have HL := Lib.hid hl
  clear hl
  have i1 : (low : Int) ≤ (l.length : Int) := by omega
  have i2 : (0 : Int) ≤ (low : Int) := by omega
  have i3 : ((low + p.length : Nat) : Int) - (p.length : Int) = (low : Int) := by omega
  have hneg : ∃ o, (if l.length = low then 0 else low) = o := ⟨_, rfl⟩
  rcases Nat.lt_or_ge low l.length with hlt | hge
  · have hcp := Lib.hid fun ty => run_copy_patch (w.drewN q) h low (l.length - low) (l.length - low) l p ty hA1.bytes hle (by omega)
    have hne : ¬ l.length = low := by omega
    have HA := Lib.hid hA1
    clear hA1 hneg hA HG
    go_wp2_with (with_reducible refine Lib.wpList_copy_run _ rfl (.tmp 16) (.tmp 17) 102 9 rfl _ _ rfl rfl (hcp.out _) ?_)
    refine (slot_two (HA.out.patched hle) 2 low (by rw [HL.out]; omega) (by omega)).mono ?_
    rintro e w2 ⟨rfl, hA2, ht2⟩
    go_wp2_with fail
    go_ret
    exact ⟨rfl, hA2, (((Turns.refl (only h) w).drewN q).setRow (.inl rfl) _).trans ht2⟩
  · obtain rfl : low = l.length := by omega
    obtain rfl : p = [] := List.eq_nil_of_length_eq_zero (by omega)
    have hcp := Lib.hid fun ty => run_copy_patch (w.drewN q) h 0 0 0 l [] ty hA1.bytes (by simp) (by simp)
    have hP1 : Sp.patch l 0 [] = l := by simp [Sp.patch]
    have hP2 : Sp.patch l l.length [] = l := by simp [Sp.patch]
    have HA := Lib.hid (hA1.patched (k := 0) (p := []) (by simp))
    rw [hP1] at hcp HA
    have HP2 := Lib.hid hP2
    clear hA1 hneg hA HG hP1 hP2 HL
    go_wp2_with (with_reducible refine Lib.wpList_copy_run _ rfl (.tmp 16) (.tmp 17) 102 9 rfl _ _ rfl rfl (hcp.out _) ?_)
    refine (slot_two HA.out 2 l.length (by omega) (by omega)).mono ?_
    rintro e w2 ⟨rfl, hA2, ht2⟩
    go_wp2_with fail
    go_ret
    exact ⟨rfl, by rw [HP2.out]; exact hA2, (((Turns.refl (only h) w).drewN q).setRow (.inl rfl) _).trans ht2⟩

theorem area_info : (Tryz.prog.info? 5).map (fun i => (i.zero, i.size, i.bytes)) = some (some (.int .u8 0), 1, 1) := by kernel_rfl

set_option maxRecDepth 100000 in
set_option maxHeartbeats 2000000 in
theorem slot_new (n : Nat) (w : World) (h1 : 16 ≤ n) (h2 : n ≤ 4096) :
    Calls Tryz.prog 151 #[.int .i64 n] w fun e w' => ∃ g h, e = .returned (.tuple #[.pointer (some ⟨g, 0, none⟩), .int .i64 0]) ∧ AreaW w' g h (Sp.area n []) ∧ w.heap.size ≤ g ∧ w.heap.size ≤ h ∧ Below w.heap.size w w' := by
  obtain ⟨i0, hi, hz0, hz1, hz2⟩ := info_parts area_info
  have hmk : ∀ W, (Instr.makeSlice 102 (.int .i64 (n : Int)) (.int .i64 (n : Int))).run Tryz.prog W = .ok (.slice (some ⟨W.heap.size, 0, none⟩) n n) (W.alloc (.cells (bcs (Sp.zeros n)).toArray 5)) := fun W => by
    have := run_make_rowN (P := Tryz.prog) 102 5 i0 (.int .u8 0) Tryz.underlying102 hi hz0 .i64 .i64 n n (Nat.le_refl _) (by rw [hz2]; omega) (by omega) W
    rw [this, hz1, Nat.mul_one, show (Value.int .u8 0).cells = #[.int .u8 0] from rfl, madeCells_one]
    simp [bcs, Sp.zeros]
  clear hi hz0 hz1 hz2
  go_enter Tryz.func151, Tryz.ntmps151
  go_wp2_with fail
  have hW : AreaW ((w.alloc (.cells (bcs (Sp.zeros n)).toArray 5)).alloc (.cells #[.slice (some ⟨w.heap.size, 0, none⟩) n n] 292)) (w.heap.size + 1) w.heap.size (Sp.zeros n) := by
    have hz : (Sp.zeros n).length = n := by simp [Sp.zeros]
    refine ⟨?_, (Blk.new w _ _).alloc _, by omega, by omega⟩
    rw [hz]
    have := Blk.new (w.alloc (.cells (bcs (Sp.zeros n)).toArray 5)) 292 #[.slice (some ⟨w.heap.size, 0, none⟩) n n]
    rwa [World.size_alloc] at this
  refine (slot_two hW 2 n (by simp [Sp.zeros]; omega) (by omega)).mono ?_
  rintro e w2 ⟨rfl, hA2, ht2⟩
  have HAR := Lib.hid (Sp.area_new n (by omega))
  go_wp2_with fail
  go_ret2
  refine ⟨_, _, rfl, by rw [HAR.out]; exact hA2, by omega, Nat.le_refl _, ?_⟩
  exact (((Below.refl _ w).alloc (Nat.le_refl _) _).alloc (by simp) _).trans (ht2.below (by simp; omega) (fun b hb => by rw [hb]; exact Nat.le_refl _))
end Go.Proofs.YtclpmkinjjhncaaGreat

/- The walks of package slot: Bytes, Free, and Put behind all. -/
namespace Go.Proofs.YtclpmkinjjhncaaGreat
open Go.RowKit

set_option maxRecDepth 100000 in
set_option maxHeartbeats 2000000 in
theorem slot_bytes {w : World} {g h : Nat} {l : Sp.Bs} (hA : AreaR w g h l) :
    Calls Tryz.prog 154 #[.pointer (some ⟨g, 0, none⟩)] w fun e w' => e = .returned (str l) ∧ w = w' := by
  obtain ⟨⟨c, h1, hlc, hcm⟩, hb, h3, h4, _⟩ := id hA
  have hc := h1.cell 0
  have hcb := run_bytes_back (P := Tryz.prog) w 102 9 5 h 0 l.length c l Tryz.underlying102 Tryz.underlying5 Tryz.underlying9 rfl hb
  go_enter Tryz.func154, Tryz.ntmps154
  go_wp2_with fail
  refine (slot_none hA).mono ?_
  rintro e w' ⟨rfl, rfl⟩
  go_wp2_with fail
  go_ret
  exact ⟨rfl, rfl⟩

/-- how long the first k texts are together. -/
def szs (l : Sp.Bs) : Nat → Nat
  | 0 => 0
  | k + 1 => szs l k + Sp.two l (4 + 4 * k + 2)

theorem szs_le (l : Sp.Bs) : ∀ k, szs l k ≤ 65535 * k
  | 0 => Nat.le_refl _
  | k + 1 => by
    have h1 := szs_le l k
    have h2 := two_lt l (4 + 4 * k + 2)
    unfold szs
    omega

set_option maxRecDepth 100000 in
set_option maxHeartbeats 2000000 in
theorem slot_free {w : World} {g h : Nat} {l : Sp.Bs} (hA : AreaR w g h l) (hm : 4 + 4 * Sp.two l 0 ≤ l.length) :
    Calls Tryz.prog 204 #[.pointer (some ⟨g, 0, none⟩)] w fun e w' => e = .returned (.int .i64 ((l.length : Int) - 4 - 4 * Sp.two l 0 - szs l (Sp.two l 0))) ∧ ∃ n, w' = w.drewN n := by
  obtain ⟨⟨c, h1, hlc, hcm⟩, hb, h3, h4, _⟩ := id hA
  have hc := h1.cell 0
  have HN := Lib.hid (slot_none hA)
  have HL := Lib.hid fun n => slot_len (hA.drewN n)
  have HE := Lib.hid fun n i hi => slot_entry (hA.drewN n) i hi
  have HS := Lib.hid (szs_le l)
  have HSS : Hid (∀ k, szs l (k + 1) = szs l k + Sp.two l (4 + 4 * k + 2)) := fun _ => rfl
  clear hA h1 hb
  generalize hmm : Sp.two l 0 = m at *
  have HM := Lib.hid hmm
  clear hmm
  go_enter Tryz.func204, Tryz.ntmps204
  go_wp2_with fail
  refine HN.out.mono ?_
  rintro e w' ⟨rfl, rfl⟩
  go_wp2_with fail
  go_quiet ((go_at_call 168; exact Calls.quiet_of (HL.out _)))
  go_wp2_with fail
  refine (HL.out _).mono ?_
  rintro e w' ⟨rfl, q0, rfl⟩
  go_wp2_with fail
  go_loopw [3, 21] (fun v i wr => ∃ k : Nat, k ≤ m ∧ i = .int .i64 k ∧ v = .int .i64 ((l.length : Int) - 4 - 4 * m - szs l k) ∧ ∃ q, wr = w.drewN q) (fun _ i _ => m - (intOf i).toNat)
  case atStart => exact ⟨0, by omega, rfl, by simp [szs], _, rfl⟩
  case round =>
    obtain ⟨k, hk, rfl, rfl, q, rfl⟩ := hrel
    by_cases hlt : k < m
    · have hek := Lib.hid (HE.out q k (by omega))
      have b1 := HS.out k
      have b2 := two_lt l (4 + 4 * k + 2)
      have HX := Lib.hid (HSS.out k)
      generalize hF : Sp.two l (4 + 4 * k) = F at *
      generalize hN : Sp.two l (4 + 4 * k + 2) = N at *
      generalize hSz : szs l k = S at *
      have b3 : N < 65536 := by rw [← hN]; exact two_lt _ _
      have b4 : S ≤ 65535 * k := by rw [← hSz]; exact HS.out k
      clear hF hN b1 b2 hSz
      go_wp2_with fail
      refine hek.out.mono ?_
      rintro e w' ⟨rfl, q1, rfl⟩
      go_wp2_with fail
      go_roundw
      case rel => exact ⟨k + 1, by omega, by go_num, by rw [HX.out]; go_num, _, rfl⟩
      case measure => simp [intOf]; omega
    · obtain rfl : k = m := by omega
      go_wp2_with fail
      go_ret
      exact ⟨rfl, _, rfl⟩

set_option maxRecDepth 100000 in
set_option maxHeartbeats 2000000 in
/-- A copy of no bytes. -/
theorem clone_none (a : Addr) (c : Nat) (w : World) :
    Calls Tryz.prog 208 #[.slice (some a) 0 c] w fun e w' => (∃ A c', e = .returned (.slice A 0 c')) ∧ Below w.heap.size w w' := by
  obtain ⟨i0, hi, hz0, hz1, hz2⟩ := info_parts area_info
  have hq := fun w => Lib.run_eql_slice_nil (P := Tryz.prog) w 102 5 (some a) 0 c 0 0 Tryz.underlying102
  go_enter Tryz.func208, Tryz.ntmps208
  go_wp2_with (at_builtin; refine wpList_append_own _ rfl _ _ 102 rfl w.heap.size 5 i0 (.int .u8 0) 1 1 Tryz.underlying102 hi hz0 hz1 hz2 rfl (by omega) _ _ _ rfl (World.ownsRow_made w #[] 0 (Nat.le_refl _) (Nat.zero_le _) (by simp)) a 0 c [] rfl rfl (fun j u hj => by simp at hj) (by simp) (by simp [maxLen]) (by omega) (by simp) ?_)
  intro v' w1 hown hgrow hnil
  go_wp2_with fail
  go_ret
  have hb : Below w.heap.size w w1 := ((Below.refl _ w).alloc (Nat.le_refl _) _).grown hgrow (by simp) (by simp [Value.ownBlock])
  refine ⟨?_, hb⟩
  rcases hown.2 with ⟨rfl, _⟩ | ⟨g, cap, cur, rfl, _⟩
  · exact ⟨none, 0, rfl⟩
  · exact ⟨some ⟨g, 0, none⟩, cap, rfl⟩

theorem szs_area {size : Nat} {rows : List Sp.Bs} (h : 4 + 4 * rows.length + Sp.total rows ≤ size) (hs : size ≤ 4096) : ∀ k, k ≤ rows.length → szs (Sp.area size rows) k = Sp.total (rows.take k)
  | 0, _ => by simp [szs]
  | k + 1, hk => by
    have hlt : k < rows.length := by omega
    have hle := Sp.total_take_le rows (k + 1)
    have htk := Sp.total_take_succ rows k hlt
    unfold szs
    rw [szs_area h hs k (by omega), Sp.area_len hlt (by omega), htk]

set_option maxRecDepth 100000 in
set_option maxHeartbeats 4000000 in
theorem slot_put {w : World} {g h size : Nat} {rows : List Sp.Bs} (r : Sp.Bs) (hA : AreaW w g h (Sp.area size rows)) (hfit : 8 + 4 * rows.length + Sp.total rows + r.length ≤ size) (hs : size ≤ 4096) :
    Calls Tryz.prog 152 #[.pointer (some ⟨g, 0, none⟩), .int .i64 rows.length, str r] w fun e w' => e = .returned (.int .i64 0) ∧ AreaW w' g h (Sp.area size (rows ++ [r])) ∧ Turns (only h) (only h) w w' := by
  have hl : (Sp.area size rows).length = size := Sp.area_length (by omega)
  have hc0 : Sp.two (Sp.area size rows) 0 = rows.length := Sp.area_count (by omega)
  have hc2 : Sp.two (Sp.area size rows) 2 = size - Sp.total rows := Sp.area_low (by omega)
  have hsz : szs (Sp.area size rows) rows.length = Sp.total rows := by rw [szs_area (by omega) hs _ (Nat.le_refl _), List.take_length]
  have HP := Lib.hid (Sp.area_put (size := size) (rows := rows) (r := r) hfit)
  have HN := Lib.hid (slot_none hA.read)
  have hfree := fun n => slot_free (hA.read.drewN n) (by rw [hc0, hl]; omega)
  have hgap := fun n => slot_gap (hA.read.drewN n)
  have hbel := fun n => slot_below (hA.drewN n) r (size - Sp.total rows - r.length) (by rw [hc2]; omega) (by rw [hl]; omega)
  have hlen := fun n => slot_len (hA.read.drewN n)
  have hp0 : Sp.two (Sp.patch (Sp.patch (Sp.area size rows) (size - Sp.total rows - r.length) r) 2 (Sp.be 2 (size - Sp.total rows - r.length))) 0 = rows.length := by
    rw [Sp.two_patch0 (by omega) (by rw [Sp.patch_length (by rw [hl]; omega), hl]; omega), Sp.two_patch0 (by omega) (by rw [hl]; omega), hc0]
  have hpl : (Sp.patch (Sp.patch (Sp.area size rows) (size - Sp.total rows - r.length) r) 2 (Sp.be 2 (size - Sp.total rows - r.length))).length = size := by
    rw [Sp.patch_length (by rw [Sp.patch_length (by rw [hl]; omega), hl]; simp; omega), Sp.patch_length (by rw [hl]; omega), hl]
  rw [hc0] at hlen hgap hfree
  rw [hc2] at hgap
  rw [hsz, hl] at hfree
  have HF := Lib.hid hfree
  have HG := Lib.hid hgap
  have HB := Lib.hid hbel
  have HL := Lib.hid hlen
  have HP0 := Lib.hid hp0
  have HPL := Lib.hid hpl
  clear hfree hgap hbel hlen hc0 hc2 hsz hl hp0 hpl hA
  have hcp := fun (W : World) (ty : TypeId) (d A : Option Addr) (dl dc sc : Nat) => run_copy_none (P := Tryz.prog) W 102 102 ty 5 d A dl dc 0 sc Tryz.underlying102 u8_info (Nat.zero_min _)
  generalize hm : rows.length = m at *
  generalize htt : Sp.total rows = tt at *
  obtain ⟨low, hlow⟩ : ∃ low, low + r.length + tt = size := ⟨size - tt - r.length, by omega⟩
  have e1 : size - tt - r.length = low := by omega
  have e2 : size - tt = low + r.length := by omega
  rw [e1] at HB HP HP0 HPL
  rw [e2] at HG
  have d1 : decide ((m : Int) < (m : Int)) = false := by simp
  have d2 : decide ((size : Int) - 4 - 4 * (m : Int) - (tt : Int) < (r.length : Int) + 4) = false := by rw [decide_eq_false_iff_not]; omega
  have d3 : decide (((low + r.length : Nat) : Int) - 4 - 4 * (m : Int) < (r.length : Int) + 4) = false := by rw [decide_eq_false_iff_not]; omega
  have HM := Lib.hid hm
  have HT := Lib.hid htt
  clear e1 e2 hm htt
  go_enter Tryz.func152, Tryz.ntmps152
  go_wp2_with fail
  refine HN.out.mono ?_
  rintro e w' ⟨rfl, rfl⟩
  go_wp2_with fail
  refine (HL.out 0).mono ?_
  rintro e w' ⟨rfl, q, rfl⟩
  go_wp2_with fail
  refine (HF.out _).mono ?_
  rintro e w' ⟨rfl, q2, rfl⟩
  go_wp2_with fail
  refine (HG.out _).mono ?_
  rintro e w' ⟨rfl, q3, rfl⟩
  go_wp2_with fail
  refine (HB.out _).mono ?_
  rintro e w2 ⟨rfl, hA2, ht2⟩
  go_wp2_with fail
  have hl2 := slot_len hA2.read
  rw [HP0.out] at hl2
  have HL2 := Lib.hid hl2
  clear hl2
  refine HL2.out.mono ?_
  rintro e w' ⟨rfl, q4, rfl⟩
  have hA3 := hA2.drewN q4
  generalize hL2 : Sp.patch (Sp.patch (Sp.area size rows) low r) 2 (Sp.be 2 low) = L2 at *
  have HLL := Lib.hid hL2
  clear hL2 HL2 hA2
  have hc := hA3.area.cell 0
  rw [HPL.out] at hc
  have hgl := hA3.area.lt
  have HA := Lib.hid hA3
  clear hA3
  have i1 : (m : Int) ≤ 4096 := by omega
  have i2 : (4 : Int) + 4 * (m : Int) + 4 ≤ (size : Int) := by omega
  have i3 : (4 : Int) + 4 * (m : Int) ≤ (size : Int) := by omega
  have i4 : ((4 : Int) + 4 * (m : Int)).toNat = 4 + 4 * m := by omega
  have i5 : ((4 : Int) + 4 * (m : Int) + 4).toNat = 4 + 4 * m + 4 := by omega
  have i6 : IntKind.i64.wrap (4 * (m : Int)) = 4 * (m : Int) := IntWalk.i64_in _ (by omega)
  have i7 : IntKind.i64.wrap (4 + 4 * (m : Int)) = 4 + 4 * (m : Int) := IntWalk.i64_in _ (by omega)
  have i8 : IntKind.i64.wrap (4 + 4 * (m : Int) + 4) = 4 + 4 * (m : Int) + 4 := IntWalk.i64_in _ (by omega)
  have i9 : (0 : Int) ≤ 4 + 4 * (m : Int) := by omega
  have i10 : (0 : Int) ≤ 4 + 4 * (m : Int) + 4 := by omega
  have hne : ¬ size = 4 + 4 * m := by omega
  have htw : Turns (only h) (only h) w (w2.drewN q4) := (((Turns.refl (only h) w).drewN _).trans ht2).drewN _
  generalize w2.drewN q4 = w3 at *
  clear ht2
  rcases Nat.lt_or_ge (4 + 4 * m + 4) size with hx | hx
  · have hne2 : ¬ size = 4 + 4 * m + 4 := by omega
    go_wp2_with fail
    go_region_held3 (fun w' => w'.cell? ⟨g, 0, none⟩ = some (.slice (some ⟨h, 0, none⟩) size size) ∧ Below w3.heap.size w3 w')
      (first
        | exact ⟨hc, (Below.refl _ _).drew⟩
        | (go_split_ands; exact ⟨((below_cell hb).1 _ _ (Nat.lt_of_lt_of_le hgl (by assumption : Below _ _ _).size)).trans (by assumption), (by assumption : Below w3.heap.size w3 _).trans (hb.mono (by assumption : Below w3.heap.size w3 _).size)⟩)
        | go_keep)
      (first
        | (go_at_call 208; refine (clone_none _ _ _).mono ?_; rintro e w4 ⟨⟨A, c', rfl⟩, hb⟩))
    have hb4 : Below w3.heap.size w3 w4 := by
      rename_i hh
      exact hh.2
    have hA4 := HA.out.below hb4
    have HA4 := Lib.hid hA4
    have j1 : (m : Int) + 1 ≤ 4097 := by omega
    clear hA4 hb hcp hc
    go_wp2_with fail
    rw [show (m : Int) + 1 = ((m + 1 : Nat) : Int) by omega]
    refine (slot_two HA4.out 0 (m + 1) (by rw [HPL.out]; omega) (by omega)).mono ?_
    rintro e w5 ⟨rfl, hA5, ht5⟩
    have hl5 : (Sp.patch L2 0 (Sp.be 2 (m + 1))).length = L2.length := Sp.patch_length (by rw [HPL.out, Sp.be_length]; omega)
    have HL5 := Lib.hid hl5
    clear hl5
    go_wp2_with fail
    refine (slot_place hA5 m low r.length (by rw [HL5.out, HPL.out]; omega) (by omega) (by omega)).mono ?_
    rintro e w6 ⟨rfl, hA6, ht6⟩
    go_wp2_with fail
    go_ret
    refine ⟨rfl, ?_, ((htw.next hb4).trans ht5).trans ht6⟩
    rw [← HP.out]
    exact hA6
  · obtain rfl : size = 4 + 4 * m + 4 := by omega
    have k1 : (4 : Int) + 4 * (m : Int) ≤ 4 + 4 * (m : Int) + 4 := by omega
    have k2 : 4 + 4 * m ≤ 4 + 4 * m + 4 := by omega
    go_wp2_with fail
    go_region_held3 (fun w' => w'.cell? ⟨g, 0, none⟩ = some (.slice (some ⟨h, 0, none⟩) (4 + 4 * m + 4) (4 + 4 * m + 4)) ∧ Below w3.heap.size w3 w')
      (first
        | exact ⟨hc, (Below.refl _ _).drew⟩
        | (go_split_ands; exact ⟨((below_cell hb).1 _ _ (Nat.lt_of_lt_of_le hgl (by assumption : Below _ _ _).size)).trans (by assumption), (by assumption : Below w3.heap.size w3 _).trans (hb.mono (by assumption : Below w3.heap.size w3 _).size)⟩)
        | go_keep)
      (first
        | (go_at_call 208; refine (clone_none _ _ _).mono ?_; rintro e w4 ⟨⟨A, c', rfl⟩, hb⟩))
    have hb4 : Below w3.heap.size w3 w4 := by
      rename_i hh
      exact hh.2
    have hA4 := HA.out.below hb4
    have HA4 := Lib.hid hA4
    have j1 : (m : Int) + 1 ≤ 4097 := by omega
    clear hA4 hb hcp hc
    go_wp2_with fail
    rw [show (m : Int) + 1 = ((m + 1 : Nat) : Int) by omega]
    refine (slot_two HA4.out 0 (m + 1) (by rw [HPL.out]; omega) (by omega)).mono ?_
    rintro e w5 ⟨rfl, hA5, ht5⟩
    have hl5 : (Sp.patch L2 0 (Sp.be 2 (m + 1))).length = L2.length := Sp.patch_length (by rw [HPL.out, Sp.be_length]; omega)
    have HL5 := Lib.hid hl5
    clear hl5
    go_wp2_with fail
    refine (slot_place hA5 m low r.length (by rw [HL5.out, HPL.out]; omega) (by omega) (by omega)).mono ?_
    rintro e w6 ⟨rfl, hA6, ht6⟩
    go_wp2_with fail
    go_ret
    refine ⟨rfl, ?_, ((htw.next hb4).trans ht5).trans ht6⟩
    rw [← HP.out]
    exact hA6
end Go.Proofs.YtclpmkinjjhncaaGreat

/- The walks of package page on a head: numbers written and read, part by part. (Printed by gen_head.py.) -/
namespace Go.Proofs.YtclpmkinjjhncaaGreat
open Go.RowKit

/-- The block of a head: the page's six cells, the text, the place, reading or not, whether it went wrong. -/
abbrev hdCells (c0 c1 c2 c3 c4 c5 : Value) (s : Sp.Bs) (at_ : Nat) (rd bad : Bool) : Array Value := #[c0, c1, c2, c3, c4, c5, str s, .int .i64 at_, .bool rd, .bool bad]

set_option maxRecDepth 100000 in
set_option maxHeartbeats 4000000 in
theorem num_w_uint8 {w : World} {b bx ox : Nat} {c0 c1 c2 c3 c4 c5 : Value} {s : Sp.Bs} {at_ size n : Nat} (hH : Blk w b 237 (hdCells c0 c1 c2 c3 c4 c5 s at_ false false))
    (hx : w.cell? ⟨bx, ox, none⟩ = some (.int .u8 n)) (h1 : 1 ≤ size) (h8 : size ≤ 8) (hn : n < 256 ^ size) (_hn64 : n < 256) (hlen : s.length ≤ 1000000) :
    Calls Tryz.prog 259 #[.pointer (some ⟨b, 0, none⟩), .pointer (some ⟨bx, ox, none⟩), .int .i64 size] w fun e w' => e = .returned (.tuple #[]) ∧
      Blk w' b 237 (hdCells c0 c1 c2 c3 c4 c5 (s ++ Sp.be size n) at_ false false) ∧ Turns (only b) (only b) w w' := by
  have hc6 := hH.cell 6
  have hc8 := hH.cell 8
  have hc9 := hH.cell 9
  simp only [hdCells, List.getElem?_toArray, List.getElem?_cons_succ, List.getElem?_cons_zero] at hc6 hc8 hc9
  have HH := Lib.hid hH
  have HP := Lib.hid (word_put n size w h1 h8 hn (by omega))
  clear hH hn
  go_enter Tryz.func259, Tryz.ntmps259
  go_wp2_with fail
  refine HP.out.mono ?_
  rintro e w1 ⟨rfl, hb⟩
  have hH1 := HH.out.below hb HH.out.lt
  have d6 := hH1.cell 6
  have d9 := hH1.cell 9
  have f6 := hH1.frozen 6
  have f9 := hH1.frozen 9
  simp only [hdCells, List.getElem?_toArray, List.getElem?_cons_succ, List.getElem?_cons_zero] at d6 d9
  have HH1 := Lib.hid hH1
  clear hc6 hc8 hc9 hx hH1
  go_wp2_with fail
  go_region
  go_end0
  refine ⟨rfl, ?_, (((Turns.of_below hb (only b)).setCell (p := ⟨b, 6, none⟩) (.inl rfl) _).setCell (p := ⟨b, 9, none⟩) (.inl rfl) _).drew⟩
  have h2 := ((HH1.out.set_ 6 (.string (⟨s.toArray⟩ ++ ⟨(Sp.be size n).toArray⟩))).set_ 9 (.bool false)).drew
  have e2 : ((hdCells c0 c1 c2 c3 c4 c5 s at_ false false).setIfInBounds 6 (.string (⟨s.toArray⟩ ++ ⟨(Sp.be size n).toArray⟩))).setIfInBounds 9 (.bool false) = hdCells c0 c1 c2 c3 c4 c5 (s ++ Sp.be size n) at_ false false := by
    rw [str_append]; rfl
  rw [e2] at h2
  exact h2

set_option maxRecDepth 100000 in
set_option maxHeartbeats 4000000 in
/-- A number is read into a field of the head's own page. -/
theorem num_r_uint8 {w : World} {b o : Nat} {cs : Array Value} {c0 c1 c2 c3 c4 c5 : Value} {s : Sp.Bs} {at_ size N : Nat} {v0 : Value} (hcs : cs = hdCells c0 c1 c2 c3 c4 c5 s at_ true false) (hH : Blk w b 237 cs)
    (ho : o < 5) (hx : cs[o]? = some v0) (h1 : 1 ≤ size) (h8 : size ≤ 8) (hat : at_ + size ≤ s.length) (hN : Sp.num ((s.drop at_).take size) = N) (_hn64 : N < 256) (hlen : s.length ≤ 1000000) :
    Calls Tryz.prog 259 #[.pointer (some ⟨b, 0, none⟩), .pointer (some ⟨b, o, none⟩), .int .i64 size] w fun e w' => e = .returned (.tuple #[]) ∧
      Blk w' b 237 ((hdCells c0 c1 c2 c3 c4 c5 s (at_ + size) true false).setIfInBounds o (.int .u8 N)) ∧ Turns (only b) (only b) w w' := by
  have hc6 := hH.cell 6
  have hc7 := hH.cell 7
  have hc8 := hH.cell 8
  rw [hcs] at hc6 hc7 hc8
  simp only [hdCells, List.getElem?_toArray, List.getElem?_cons_succ, List.getElem?_cons_zero] at hc6 hc7 hc8
  have HH := Lib.hid hH
  have HC := Lib.hid hcs
  have HP := Lib.hid fun n => word_get s at_ size (w.drewN n) hat h1 h8 (by omega)
  rw [hN] at HP
  have HX := Lib.hid hx
  have o7 : ¬ o = 7 := by omega
  have o7' : ¬ 7 = o := by omega
  have o9 : ¬ o = 9 := by omega
  have o9' : ¬ 9 = o := by omega
  clear hH hcs hN hx
  go_enter Tryz.func259, Tryz.ntmps259
  go_wp2_with fail
  have hlt := HH.out.lt
  go_region_held3 (fun w' => w'.cell? ⟨b, 6, none⟩ = some (str s) ∧ w'.cell? ⟨b, 7, none⟩ = some (.int .i64 at_) ∧ Below w.heap.size w w')
    (first
      | exact ⟨hc6, hc7, (Below.refl _ _).drew⟩
      | (go_split_ands; exact ⟨((below_cell hb).1 _ _ (Nat.lt_of_lt_of_le hlt (by assumption : Below _ _ _).size)).trans (by assumption), ((below_cell hb).1 _ _ (Nat.lt_of_lt_of_le hlt (by assumption : Below _ _ _).size)).trans (by assumption), (by assumption : Below w.heap.size w _).trans (hb.mono (by assumption : Below w.heap.size w _).size)⟩)
      | go_keep)
    (first
      | (go_at_call 131; refine (HP.out 1).mono ?_; rintro e w1 ⟨rfl, hb⟩))
  have hb4 : Below w.heap.size w w1 := by
    rename_i hh
    exact hh.2.2
  have hH1 := HH.out.below hb4 hlt
  have d0 := (hH1.cell o).trans HX.out
  have d7 := hH1.cell 7
  have d9 := hH1.cell 9
  have f0 := hH1.frozen o
  have f7 := hH1.frozen 7
  have f9 := hH1.frozen 9
  rw [HC.out] at d7 d9
  simp only [hdCells, List.getElem?_toArray, List.getElem?_cons_succ, List.getElem?_cons_zero] at d7 d9
  have HH1 := Lib.hid hH1
  clear hc6 hc7 hc8 hH1 hb
  go_wp2_with fail
  refine bodyPost_ret (results_none rfl _ _ _) rfl ⟨rfl, ?_, ((((Turns.of_below hb4 (only b)).setCell (p := ⟨b, o, none⟩) (.inl rfl) _).setCell (p := ⟨b, 9, none⟩) (.inl rfl) _).setCell (p := ⟨b, 7, none⟩) (.inl rfl) _)⟩
  have h2 := (((HH1.out.set_ o (.int .u8 N)).set_ 9 (.bool false)).set_ 7 (.int .i64 ((at_ : Int) + (size : Int))))
  have e2 : (((cs.setIfInBounds o (.int .u8 N)).setIfInBounds 9 (.bool false)).setIfInBounds 7 (.int .i64 ((at_ : Int) + (size : Int)))) = (hdCells c0 c1 c2 c3 c4 c5 s (at_ + size) true false).setIfInBounds o (.int .u8 N) := by
    rw [HC.out, ← Int.natCast_add]
    match o, ho with
    | 0, _ => rfl
    | 1, _ => rfl
    | 2, _ => rfl
    | 3, _ => rfl
    | 4, _ => rfl
  rw [e2] at h2
  exact h2

set_option maxRecDepth 100000 in
set_option maxHeartbeats 4000000 in
theorem num_w_uint32 {w : World} {b bx ox : Nat} {c0 c1 c2 c3 c4 c5 : Value} {s : Sp.Bs} {at_ size n : Nat} (hH : Blk w b 237 (hdCells c0 c1 c2 c3 c4 c5 s at_ false false))
    (hx : w.cell? ⟨bx, ox, none⟩ = some (.int .u32 n)) (h1 : 1 ≤ size) (h8 : size ≤ 8) (hn : n < 256 ^ size) (_hn64 : n < 4294967296) (hlen : s.length ≤ 1000000) :
    Calls Tryz.prog 260 #[.pointer (some ⟨b, 0, none⟩), .pointer (some ⟨bx, ox, none⟩), .int .i64 size] w fun e w' => e = .returned (.tuple #[]) ∧
      Blk w' b 237 (hdCells c0 c1 c2 c3 c4 c5 (s ++ Sp.be size n) at_ false false) ∧ Turns (only b) (only b) w w' := by
  have hc6 := hH.cell 6
  have hc8 := hH.cell 8
  have hc9 := hH.cell 9
  simp only [hdCells, List.getElem?_toArray, List.getElem?_cons_succ, List.getElem?_cons_zero] at hc6 hc8 hc9
  have HH := Lib.hid hH
  have HP := Lib.hid (word_put n size w h1 h8 hn (by omega))
  clear hH hn
  go_enter Tryz.func260, Tryz.ntmps260
  go_wp2_with fail
  refine HP.out.mono ?_
  rintro e w1 ⟨rfl, hb⟩
  have hH1 := HH.out.below hb HH.out.lt
  have d6 := hH1.cell 6
  have d9 := hH1.cell 9
  have f6 := hH1.frozen 6
  have f9 := hH1.frozen 9
  simp only [hdCells, List.getElem?_toArray, List.getElem?_cons_succ, List.getElem?_cons_zero] at d6 d9
  have HH1 := Lib.hid hH1
  clear hc6 hc8 hc9 hx hH1
  go_wp2_with fail
  go_region
  go_end0
  refine ⟨rfl, ?_, (((Turns.of_below hb (only b)).setCell (p := ⟨b, 6, none⟩) (.inl rfl) _).setCell (p := ⟨b, 9, none⟩) (.inl rfl) _).drew⟩
  have h2 := ((HH1.out.set_ 6 (.string (⟨s.toArray⟩ ++ ⟨(Sp.be size n).toArray⟩))).set_ 9 (.bool false)).drew
  have e2 : ((hdCells c0 c1 c2 c3 c4 c5 s at_ false false).setIfInBounds 6 (.string (⟨s.toArray⟩ ++ ⟨(Sp.be size n).toArray⟩))).setIfInBounds 9 (.bool false) = hdCells c0 c1 c2 c3 c4 c5 (s ++ Sp.be size n) at_ false false := by
    rw [str_append]; rfl
  rw [e2] at h2
  exact h2

set_option maxRecDepth 100000 in
set_option maxHeartbeats 4000000 in
/-- A number is read into a field of the head's own page. -/
theorem num_r_uint32 {w : World} {b o : Nat} {cs : Array Value} {c0 c1 c2 c3 c4 c5 : Value} {s : Sp.Bs} {at_ size N : Nat} {v0 : Value} (hcs : cs = hdCells c0 c1 c2 c3 c4 c5 s at_ true false) (hH : Blk w b 237 cs)
    (ho : o < 5) (hx : cs[o]? = some v0) (h1 : 1 ≤ size) (h8 : size ≤ 8) (hat : at_ + size ≤ s.length) (hN : Sp.num ((s.drop at_).take size) = N) (_hn64 : N < 4294967296) (hlen : s.length ≤ 1000000) :
    Calls Tryz.prog 260 #[.pointer (some ⟨b, 0, none⟩), .pointer (some ⟨b, o, none⟩), .int .i64 size] w fun e w' => e = .returned (.tuple #[]) ∧
      Blk w' b 237 ((hdCells c0 c1 c2 c3 c4 c5 s (at_ + size) true false).setIfInBounds o (.int .u32 N)) ∧ Turns (only b) (only b) w w' := by
  have hc6 := hH.cell 6
  have hc7 := hH.cell 7
  have hc8 := hH.cell 8
  rw [hcs] at hc6 hc7 hc8
  simp only [hdCells, List.getElem?_toArray, List.getElem?_cons_succ, List.getElem?_cons_zero] at hc6 hc7 hc8
  have HH := Lib.hid hH
  have HC := Lib.hid hcs
  have HP := Lib.hid fun n => word_get s at_ size (w.drewN n) hat h1 h8 (by omega)
  rw [hN] at HP
  have HX := Lib.hid hx
  have o7 : ¬ o = 7 := by omega
  have o7' : ¬ 7 = o := by omega
  have o9 : ¬ o = 9 := by omega
  have o9' : ¬ 9 = o := by omega
  clear hH hcs hN hx
  go_enter Tryz.func260, Tryz.ntmps260
  go_wp2_with fail
  have hlt := HH.out.lt
  go_region_held3 (fun w' => w'.cell? ⟨b, 6, none⟩ = some (str s) ∧ w'.cell? ⟨b, 7, none⟩ = some (.int .i64 at_) ∧ Below w.heap.size w w')
    (first
      | exact ⟨hc6, hc7, (Below.refl _ _).drew⟩
      | (go_split_ands; exact ⟨((below_cell hb).1 _ _ (Nat.lt_of_lt_of_le hlt (by assumption : Below _ _ _).size)).trans (by assumption), ((below_cell hb).1 _ _ (Nat.lt_of_lt_of_le hlt (by assumption : Below _ _ _).size)).trans (by assumption), (by assumption : Below w.heap.size w _).trans (hb.mono (by assumption : Below w.heap.size w _).size)⟩)
      | go_keep)
    (first
      | (go_at_call 131; refine (HP.out 1).mono ?_; rintro e w1 ⟨rfl, hb⟩))
  have hb4 : Below w.heap.size w w1 := by
    rename_i hh
    exact hh.2.2
  have hH1 := HH.out.below hb4 hlt
  have d0 := (hH1.cell o).trans HX.out
  have d7 := hH1.cell 7
  have d9 := hH1.cell 9
  have f0 := hH1.frozen o
  have f7 := hH1.frozen 7
  have f9 := hH1.frozen 9
  rw [HC.out] at d7 d9
  simp only [hdCells, List.getElem?_toArray, List.getElem?_cons_succ, List.getElem?_cons_zero] at d7 d9
  have HH1 := Lib.hid hH1
  clear hc6 hc7 hc8 hH1 hb
  go_wp2_with fail
  refine bodyPost_ret (results_none rfl _ _ _) rfl ⟨rfl, ?_, ((((Turns.of_below hb4 (only b)).setCell (p := ⟨b, o, none⟩) (.inl rfl) _).setCell (p := ⟨b, 9, none⟩) (.inl rfl) _).setCell (p := ⟨b, 7, none⟩) (.inl rfl) _)⟩
  have h2 := (((HH1.out.set_ o (.int .u32 N)).set_ 9 (.bool false)).set_ 7 (.int .i64 ((at_ : Int) + (size : Int))))
  have e2 : (((cs.setIfInBounds o (.int .u32 N)).setIfInBounds 9 (.bool false)).setIfInBounds 7 (.int .i64 ((at_ : Int) + (size : Int)))) = (hdCells c0 c1 c2 c3 c4 c5 s (at_ + size) true false).setIfInBounds o (.int .u32 N) := by
    rw [HC.out, ← Int.natCast_add]
    match o, ho with
    | 0, _ => rfl
    | 1, _ => rfl
    | 2, _ => rfl
    | 3, _ => rfl
    | 4, _ => rfl
  rw [e2] at h2
  exact h2

set_option maxRecDepth 100000 in
set_option maxHeartbeats 4000000 in
theorem num_w_uint64 {w : World} {b bx ox : Nat} {c0 c1 c2 c3 c4 c5 : Value} {s : Sp.Bs} {at_ size n : Nat} (hH : Blk w b 237 (hdCells c0 c1 c2 c3 c4 c5 s at_ false false))
    (hx : w.cell? ⟨bx, ox, none⟩ = some (.int .u64 n)) (h1 : 1 ≤ size) (h8 : size ≤ 8) (hn : n < 256 ^ size) (_hn64 : n < 18446744073709551616) (hlen : s.length ≤ 1000000) :
    Calls Tryz.prog 261 #[.pointer (some ⟨b, 0, none⟩), .pointer (some ⟨bx, ox, none⟩), .int .i64 size] w fun e w' => e = .returned (.tuple #[]) ∧
      Blk w' b 237 (hdCells c0 c1 c2 c3 c4 c5 (s ++ Sp.be size n) at_ false false) ∧ Turns (only b) (only b) w w' := by
  have hc6 := hH.cell 6
  have hc8 := hH.cell 8
  have hc9 := hH.cell 9
  simp only [hdCells, List.getElem?_toArray, List.getElem?_cons_succ, List.getElem?_cons_zero] at hc6 hc8 hc9
  have HH := Lib.hid hH
  have HP := Lib.hid (word_put n size w h1 h8 hn (by omega))
  clear hH hn
  go_enter Tryz.func261, Tryz.ntmps261
  go_wp2_with fail
  refine HP.out.mono ?_
  rintro e w1 ⟨rfl, hb⟩
  have hH1 := HH.out.below hb HH.out.lt
  have d6 := hH1.cell 6
  have d9 := hH1.cell 9
  have f6 := hH1.frozen 6
  have f9 := hH1.frozen 9
  simp only [hdCells, List.getElem?_toArray, List.getElem?_cons_succ, List.getElem?_cons_zero] at d6 d9
  have HH1 := Lib.hid hH1
  clear hc6 hc8 hc9 hx hH1
  go_wp2_with fail
  go_region
  go_end0
  refine ⟨rfl, ?_, (((Turns.of_below hb (only b)).setCell (p := ⟨b, 6, none⟩) (.inl rfl) _).setCell (p := ⟨b, 9, none⟩) (.inl rfl) _).drew⟩
  have h2 := ((HH1.out.set_ 6 (.string (⟨s.toArray⟩ ++ ⟨(Sp.be size n).toArray⟩))).set_ 9 (.bool false)).drew
  have e2 : ((hdCells c0 c1 c2 c3 c4 c5 s at_ false false).setIfInBounds 6 (.string (⟨s.toArray⟩ ++ ⟨(Sp.be size n).toArray⟩))).setIfInBounds 9 (.bool false) = hdCells c0 c1 c2 c3 c4 c5 (s ++ Sp.be size n) at_ false false := by
    rw [str_append]; rfl
  rw [e2] at h2
  exact h2

set_option maxRecDepth 100000 in
set_option maxHeartbeats 4000000 in
/-- A number is read into a field of the head's own page. -/
theorem num_r_uint64 {w : World} {b o : Nat} {cs : Array Value} {c0 c1 c2 c3 c4 c5 : Value} {s : Sp.Bs} {at_ size N : Nat} {v0 : Value} (hcs : cs = hdCells c0 c1 c2 c3 c4 c5 s at_ true false) (hH : Blk w b 237 cs)
    (ho : o < 5) (hx : cs[o]? = some v0) (h1 : 1 ≤ size) (h8 : size ≤ 8) (hat : at_ + size ≤ s.length) (hN : Sp.num ((s.drop at_).take size) = N) (_hn64 : N < 18446744073709551616) (hlen : s.length ≤ 1000000) :
    Calls Tryz.prog 261 #[.pointer (some ⟨b, 0, none⟩), .pointer (some ⟨b, o, none⟩), .int .i64 size] w fun e w' => e = .returned (.tuple #[]) ∧
      Blk w' b 237 ((hdCells c0 c1 c2 c3 c4 c5 s (at_ + size) true false).setIfInBounds o (.int .u64 N)) ∧ Turns (only b) (only b) w w' := by
  have hc6 := hH.cell 6
  have hc7 := hH.cell 7
  have hc8 := hH.cell 8
  rw [hcs] at hc6 hc7 hc8
  simp only [hdCells, List.getElem?_toArray, List.getElem?_cons_succ, List.getElem?_cons_zero] at hc6 hc7 hc8
  have HH := Lib.hid hH
  have HC := Lib.hid hcs
  have HP := Lib.hid fun n => word_get s at_ size (w.drewN n) hat h1 h8 (by omega)
  rw [hN] at HP
  have HX := Lib.hid hx
  have o7 : ¬ o = 7 := by omega
  have o7' : ¬ 7 = o := by omega
  have o9 : ¬ o = 9 := by omega
  have o9' : ¬ 9 = o := by omega
  clear hH hcs hN hx
  go_enter Tryz.func261, Tryz.ntmps261
  go_wp2_with fail
  have hlt := HH.out.lt
  go_region_held3 (fun w' => w'.cell? ⟨b, 6, none⟩ = some (str s) ∧ w'.cell? ⟨b, 7, none⟩ = some (.int .i64 at_) ∧ Below w.heap.size w w')
    (first
      | exact ⟨hc6, hc7, (Below.refl _ _).drew⟩
      | (go_split_ands; exact ⟨((below_cell hb).1 _ _ (Nat.lt_of_lt_of_le hlt (by assumption : Below _ _ _).size)).trans (by assumption), ((below_cell hb).1 _ _ (Nat.lt_of_lt_of_le hlt (by assumption : Below _ _ _).size)).trans (by assumption), (by assumption : Below w.heap.size w _).trans (hb.mono (by assumption : Below w.heap.size w _).size)⟩)
      | go_keep)
    (first
      | (go_at_call 131; refine (HP.out 1).mono ?_; rintro e w1 ⟨rfl, hb⟩))
  have hb4 : Below w.heap.size w w1 := by
    rename_i hh
    exact hh.2.2
  have hH1 := HH.out.below hb4 hlt
  have d0 := (hH1.cell o).trans HX.out
  have d7 := hH1.cell 7
  have d9 := hH1.cell 9
  have f0 := hH1.frozen o
  have f7 := hH1.frozen 7
  have f9 := hH1.frozen 9
  rw [HC.out] at d7 d9
  simp only [hdCells, List.getElem?_toArray, List.getElem?_cons_succ, List.getElem?_cons_zero] at d7 d9
  have HH1 := Lib.hid hH1
  clear hc6 hc7 hc8 hH1 hb
  go_wp2_with fail
  refine bodyPost_ret (results_none rfl _ _ _) rfl ⟨rfl, ?_, ((((Turns.of_below hb4 (only b)).setCell (p := ⟨b, o, none⟩) (.inl rfl) _).setCell (p := ⟨b, 9, none⟩) (.inl rfl) _).setCell (p := ⟨b, 7, none⟩) (.inl rfl) _)⟩
  have h2 := (((HH1.out.set_ o (.int .u64 N)).set_ 9 (.bool false)).set_ 7 (.int .i64 ((at_ : Int) + (size : Int))))
  have e2 : (((cs.setIfInBounds o (.int .u64 N)).setIfInBounds 9 (.bool false)).setIfInBounds 7 (.int .i64 ((at_ : Int) + (size : Int)))) = (hdCells c0 c1 c2 c3 c4 c5 s (at_ + size) true false).setIfInBounds o (.int .u64 N) := by
    rw [HC.out, ← Int.natCast_add]
    match o, ho with
    | 0, _ => rfl
    | 1, _ => rfl
    | 2, _ => rfl
    | 3, _ => rfl
    | 4, _ => rfl
  rw [e2] at h2
  exact h2

set_option maxRecDepth 100000 in
set_option maxHeartbeats 4000000 in
/-- A number is read into a variable beside the head. -/
theorem num_rl {w : World} {b bx : Nat} {c0 c1 c2 c3 c4 c5 : Value} {s : Sp.Bs} {at_ size N : Nat} {v0 : Value} (hH : Blk w b 237 (hdCells c0 c1 c2 c3 c4 c5 s at_ true false))
    (hX : Blk w bx 25 #[v0]) (h1 : 1 ≤ size) (h8 : size ≤ 8) (hat : at_ + size ≤ s.length) (hN : Sp.num ((s.drop at_).take size) = N) (hn64 : N < 4294967296) (hlen : s.length ≤ 1000000) :
    Calls Tryz.prog 260 #[.pointer (some ⟨b, 0, none⟩), .pointer (some ⟨bx, 0, none⟩), .int .i64 size] w fun e w' => e = .returned (.tuple #[]) ∧
      Blk w' b 237 (hdCells c0 c1 c2 c3 c4 c5 s (at_ + size) true false) ∧ Blk w' bx 25 #[.int .u32 N] ∧ Turns (fun x => x = b ∨ x = bx) (fun x => x = b ∨ x = bx) w w' := by
  have hne : b ≠ bx := hH.ne_ hX (by decide)
  have hne' : bx ≠ b := hne.symm
  have hc6 := hH.cell 6
  have hc7 := hH.cell 7
  have hc8 := hH.cell 8
  simp only [hdCells, List.getElem?_toArray, List.getElem?_cons_succ, List.getElem?_cons_zero] at hc6 hc7 hc8
  have HH := Lib.hid hH
  have HX := Lib.hid hX
  have HP := Lib.hid fun n => word_get s at_ size (w.drewN n) hat h1 h8 (by omega)
  rw [hN] at HP
  clear hH hN hX
  go_enter Tryz.func260, Tryz.ntmps260
  go_wp2_with fail
  have hlt := HH.out.lt
  go_region_held3 (fun w' => w'.cell? ⟨b, 6, none⟩ = some (str s) ∧ w'.cell? ⟨b, 7, none⟩ = some (.int .i64 at_) ∧ Below w.heap.size w w')
    (first
      | exact ⟨hc6, hc7, (Below.refl _ _).drew⟩
      | (go_split_ands; exact ⟨((below_cell hb).1 _ _ (Nat.lt_of_lt_of_le hlt (by assumption : Below _ _ _).size)).trans (by assumption), ((below_cell hb).1 _ _ (Nat.lt_of_lt_of_le hlt (by assumption : Below _ _ _).size)).trans (by assumption), (by assumption : Below w.heap.size w _).trans (hb.mono (by assumption : Below w.heap.size w _).size)⟩)
      | go_keep)
    (first
      | (go_at_call 131; refine (HP.out 1).mono ?_; rintro e w1 ⟨rfl, hb⟩))
  have hb4 : Below w.heap.size w w1 := by
    rename_i hh
    exact hh.2.2
  have hH1 := HH.out.below hb4 hlt
  have hX1 := HX.out.below hb4 HX.out.lt
  have d0 := hX1.cell 0
  have d7 := hH1.cell 7
  have d9 := hH1.cell 9
  have f0 := hX1.frozen 0
  have f7 := hH1.frozen 7
  have f9 := hH1.frozen 9
  simp only [hdCells, List.getElem?_toArray, List.getElem?_cons_succ, List.getElem?_cons_zero] at d0 d7 d9
  have HH1 := Lib.hid hH1
  have HX1 := Lib.hid hX1
  clear hc6 hc7 hc8 hH1 hb hX1
  go_wp2_with fail
  refine bodyPost_ret (results_none rfl _ _ _) rfl ⟨rfl, ?_, ?_, ((((Turns.of_below hb4 (fun x => x = b ∨ x = bx)).setCell (p := ⟨bx, 0, none⟩) (.inl (.inr rfl)) _).setCell (p := ⟨b, 9, none⟩) (.inl (.inl rfl)) _).setCell (p := ⟨b, 7, none⟩) (.inl (.inl rfl)) _)⟩
  · have h2 := (((HH1.out.far (p := ⟨bx, 0, none⟩) hne (.int .u32 N)).set_ 9 (.bool false)).set_ 7 (.int .i64 ((at_ : Int) + (size : Int))))
    have e2 : (((hdCells c0 c1 c2 c3 c4 c5 s at_ true false).setIfInBounds 9 (.bool false)).setIfInBounds 7 (.int .i64 ((at_ : Int) + (size : Int)))) = hdCells c0 c1 c2 c3 c4 c5 s (at_ + size) true false := by
      rw [← Int.natCast_add]
      rfl
    rw [e2] at h2
    exact h2
  · exact (((HX1.out.set_ 0 (.int .u32 N)).far (p := ⟨b, 9, none⟩) hne' (.bool false)).far (p := ⟨b, 7, none⟩) hne' _)
end Go.Proofs.YtclpmkinjjhncaaGreat

/- The walks of package page on a head: its parts, and all of them. (Printed by gen_head.py.) -/
namespace Go.Proofs.YtclpmkinjjhncaaGreat
open Go.RowKit

set_option maxRecDepth 100000 in
set_option maxHeartbeats 4000000 in
theorem kind_w {w : World} {b n : Nat} {c1 c2 c3 c4 c5 : Value} {s : Sp.Bs} {at_ : Nat} (hH : Blk w b 237 (hdCells (.int .u8 n) c1 c2 c3 c4 c5 s at_ false false)) (hn : n < 256) (hlen : s.length ≤ 1000000) :
    Calls Tryz.prog 196 #[.pointer (some ⟨b, 0, none⟩)] w fun e w' => e = .returned (.tuple #[]) ∧
      Blk w' b 237 (hdCells (.int .u8 n) c1 c2 c3 c4 c5 (s ++ Sp.be 1 n) at_ false false) ∧ Turns (only b) (only b) w w' := by
  have HC := Lib.hid (num_w_uint8 hH (hH.cell 0) (by omega) (by omega) (size := 1) (n := n) (by omega) (by omega) hlen)
  clear hH
  go_enter Tryz.func196, Tryz.ntmps196
  go_wp2_with fail
  refine HC.out.mono ?_
  rintro e w1 ⟨rfl, h1, h2⟩
  go_wp2_with fail
  go_end0
  exact ⟨rfl, h1, h2⟩

set_option maxRecDepth 100000 in
set_option maxHeartbeats 4000000 in
theorem kind_r {w : World} {b N : Nat} {c0 c1 c2 c3 c4 c5 : Value} {s : Sp.Bs} {at_ : Nat} (hH : Blk w b 237 (hdCells c0 c1 c2 c3 c4 c5 s at_ true false)) (hat : at_ + 1 ≤ s.length) (hN : Sp.num ((s.drop at_).take 1) = N) (hlen : s.length ≤ 1000000) :
    Calls Tryz.prog 196 #[.pointer (some ⟨b, 0, none⟩)] w fun e w' => e = .returned (.tuple #[]) ∧
      Blk w' b 237 (hdCells (.int .u8 N) c1 c2 c3 c4 c5 s (at_ + 1) true false) ∧ Turns (only b) (only b) w w' := by
  have hn : N < 256 := by
    rw [← hN]
    exact Nat.lt_of_lt_of_le (Sp.num_lt _) (Nat.le_trans (Nat.pow_le_pow_right (by omega) (show _ ≤ 1 by simp; omega)) (by decide))
  have HC := Lib.hid (num_r_uint8 (o := 0) rfl hH (by omega) rfl (by omega) (by omega) hat hN hn hlen)
  clear hH hN hn
  go_enter Tryz.func196, Tryz.ntmps196
  go_wp2_with fail
  refine HC.out.mono ?_
  rintro e w1 ⟨rfl, h1, h2⟩
  go_wp2_with fail
  go_end0
  exact ⟨rfl, h1, h2⟩

set_option maxRecDepth 100000 in
set_option maxHeartbeats 4000000 in
theorem level_w {w : World} {b n : Nat} {c0 c2 c3 c4 c5 : Value} {s : Sp.Bs} {at_ : Nat} (hH : Blk w b 237 (hdCells c0 (.int .u8 n) c2 c3 c4 c5 s at_ false false)) (hn : n < 256) (hlen : s.length ≤ 1000000) :
    Calls Tryz.prog 197 #[.pointer (some ⟨b, 0, none⟩)] w fun e w' => e = .returned (.tuple #[]) ∧
      Blk w' b 237 (hdCells c0 (.int .u8 n) c2 c3 c4 c5 (s ++ Sp.be 1 n) at_ false false) ∧ Turns (only b) (only b) w w' := by
  have HC := Lib.hid (num_w_uint8 hH (hH.cell 1) (by omega) (by omega) (size := 1) (n := n) (by omega) (by omega) hlen)
  clear hH
  go_enter Tryz.func197, Tryz.ntmps197
  go_wp2_with fail
  refine HC.out.mono ?_
  rintro e w1 ⟨rfl, h1, h2⟩
  go_wp2_with fail
  go_end0
  exact ⟨rfl, h1, h2⟩

set_option maxRecDepth 100000 in
set_option maxHeartbeats 4000000 in
theorem level_r {w : World} {b N : Nat} {c0 c1 c2 c3 c4 c5 : Value} {s : Sp.Bs} {at_ : Nat} (hH : Blk w b 237 (hdCells c0 c1 c2 c3 c4 c5 s at_ true false)) (hat : at_ + 1 ≤ s.length) (hN : Sp.num ((s.drop at_).take 1) = N) (hlen : s.length ≤ 1000000) :
    Calls Tryz.prog 197 #[.pointer (some ⟨b, 0, none⟩)] w fun e w' => e = .returned (.tuple #[]) ∧
      Blk w' b 237 (hdCells c0 (.int .u8 N) c2 c3 c4 c5 s (at_ + 1) true false) ∧ Turns (only b) (only b) w w' := by
  have hn : N < 256 := by
    rw [← hN]
    exact Nat.lt_of_lt_of_le (Sp.num_lt _) (Nat.le_trans (Nat.pow_le_pow_right (by omega) (show _ ≤ 1 by simp; omega)) (by decide))
  have HC := Lib.hid (num_r_uint8 (o := 1) rfl hH (by omega) rfl (by omega) (by omega) hat hN hn hlen)
  clear hH hN hn
  go_enter Tryz.func197, Tryz.ntmps197
  go_wp2_with fail
  refine HC.out.mono ?_
  rintro e w1 ⟨rfl, h1, h2⟩
  go_wp2_with fail
  go_end0
  exact ⟨rfl, h1, h2⟩

set_option maxRecDepth 100000 in
set_option maxHeartbeats 4000000 in
theorem id_w {w : World} {b n : Nat} {c0 c1 c3 c4 c5 : Value} {s : Sp.Bs} {at_ : Nat} (hH : Blk w b 237 (hdCells c0 c1 (.int .u32 n) c3 c4 c5 s at_ false false)) (hn : n < 4294967296) (hlen : s.length ≤ 1000000) :
    Calls Tryz.prog 198 #[.pointer (some ⟨b, 0, none⟩)] w fun e w' => e = .returned (.tuple #[]) ∧
      Blk w' b 237 (hdCells c0 c1 (.int .u32 n) c3 c4 c5 (s ++ Sp.be 4 n) at_ false false) ∧ Turns (only b) (only b) w w' := by
  have HC := Lib.hid (num_w_uint32 hH (hH.cell 2) (by omega) (by omega) (size := 4) (n := n) (by omega) (by omega) hlen)
  clear hH
  go_enter Tryz.func198, Tryz.ntmps198
  go_wp2_with fail
  refine HC.out.mono ?_
  rintro e w1 ⟨rfl, h1, h2⟩
  go_wp2_with fail
  go_end0
  exact ⟨rfl, h1, h2⟩

set_option maxRecDepth 100000 in
set_option maxHeartbeats 4000000 in
theorem id_r {w : World} {b N : Nat} {c0 c1 c2 c3 c4 c5 : Value} {s : Sp.Bs} {at_ : Nat} (hH : Blk w b 237 (hdCells c0 c1 c2 c3 c4 c5 s at_ true false)) (hat : at_ + 4 ≤ s.length) (hN : Sp.num ((s.drop at_).take 4) = N) (hlen : s.length ≤ 1000000) :
    Calls Tryz.prog 198 #[.pointer (some ⟨b, 0, none⟩)] w fun e w' => e = .returned (.tuple #[]) ∧
      Blk w' b 237 (hdCells c0 c1 (.int .u32 N) c3 c4 c5 s (at_ + 4) true false) ∧ Turns (only b) (only b) w w' := by
  have hn : N < 4294967296 := by
    rw [← hN]
    exact Nat.lt_of_lt_of_le (Sp.num_lt _) (Nat.le_trans (Nat.pow_le_pow_right (by omega) (show _ ≤ 4 by simp; omega)) (by decide))
  have HC := Lib.hid (num_r_uint32 (o := 2) rfl hH (by omega) rfl (by omega) (by omega) hat hN hn hlen)
  clear hH hN hn
  go_enter Tryz.func198, Tryz.ntmps198
  go_wp2_with fail
  refine HC.out.mono ?_
  rintro e w1 ⟨rfl, h1, h2⟩
  go_wp2_with fail
  go_end0
  exact ⟨rfl, h1, h2⟩

set_option maxRecDepth 100000 in
set_option maxHeartbeats 4000000 in
theorem lsn_w {w : World} {b n : Nat} {c0 c1 c2 c4 c5 : Value} {s : Sp.Bs} {at_ : Nat} (hH : Blk w b 237 (hdCells c0 c1 c2 (.int .u64 n) c4 c5 s at_ false false)) (hn : n < 18446744073709551616) (hlen : s.length ≤ 1000000) :
    Calls Tryz.prog 199 #[.pointer (some ⟨b, 0, none⟩)] w fun e w' => e = .returned (.tuple #[]) ∧
      Blk w' b 237 (hdCells c0 c1 c2 (.int .u64 n) c4 c5 (s ++ Sp.be 8 n) at_ false false) ∧ Turns (only b) (only b) w w' := by
  have HC := Lib.hid (num_w_uint64 hH (hH.cell 3) (by omega) (by omega) (size := 8) (n := n) (by omega) (by omega) hlen)
  clear hH
  go_enter Tryz.func199, Tryz.ntmps199
  go_wp2_with fail
  refine HC.out.mono ?_
  rintro e w1 ⟨rfl, h1, h2⟩
  go_wp2_with fail
  go_end0
  exact ⟨rfl, h1, h2⟩

set_option maxRecDepth 100000 in
set_option maxHeartbeats 4000000 in
theorem lsn_r {w : World} {b N : Nat} {c0 c1 c2 c3 c4 c5 : Value} {s : Sp.Bs} {at_ : Nat} (hH : Blk w b 237 (hdCells c0 c1 c2 c3 c4 c5 s at_ true false)) (hat : at_ + 8 ≤ s.length) (hN : Sp.num ((s.drop at_).take 8) = N) (hlen : s.length ≤ 1000000) :
    Calls Tryz.prog 199 #[.pointer (some ⟨b, 0, none⟩)] w fun e w' => e = .returned (.tuple #[]) ∧
      Blk w' b 237 (hdCells c0 c1 c2 (.int .u64 N) c4 c5 s (at_ + 8) true false) ∧ Turns (only b) (only b) w w' := by
  have hn : N < 18446744073709551616 := by
    rw [← hN]
    exact Nat.lt_of_lt_of_le (Sp.num_lt _) (Nat.le_trans (Nat.pow_le_pow_right (by omega) (show _ ≤ 8 by simp; omega)) (by decide))
  have HC := Lib.hid (num_r_uint64 (o := 3) rfl hH (by omega) rfl (by omega) (by omega) hat hN hn hlen)
  clear hH hN hn
  go_enter Tryz.func199, Tryz.ntmps199
  go_wp2_with fail
  refine HC.out.mono ?_
  rintro e w1 ⟨rfl, h1, h2⟩
  go_wp2_with fail
  go_end0
  exact ⟨rfl, h1, h2⟩

set_option maxRecDepth 100000 in
set_option maxHeartbeats 4000000 in
theorem next_w {w : World} {b n : Nat} {c0 c1 c2 c3 c5 : Value} {s : Sp.Bs} {at_ : Nat} (hH : Blk w b 237 (hdCells c0 c1 c2 c3 (.int .u32 n) c5 s at_ false false)) (hn : n < 4294967296) (hlen : s.length ≤ 1000000) :
    Calls Tryz.prog 200 #[.pointer (some ⟨b, 0, none⟩)] w fun e w' => e = .returned (.tuple #[]) ∧
      Blk w' b 237 (hdCells c0 c1 c2 c3 (.int .u32 n) c5 (s ++ Sp.be 4 n) at_ false false) ∧ Turns (only b) (only b) w w' := by
  have HC := Lib.hid (num_w_uint32 hH (hH.cell 4) (by omega) (by omega) (size := 4) (n := n) (by omega) (by omega) hlen)
  clear hH
  go_enter Tryz.func200, Tryz.ntmps200
  go_wp2_with fail
  refine HC.out.mono ?_
  rintro e w1 ⟨rfl, h1, h2⟩
  go_wp2_with fail
  go_end0
  exact ⟨rfl, h1, h2⟩

set_option maxRecDepth 100000 in
set_option maxHeartbeats 4000000 in
theorem next_r {w : World} {b N : Nat} {c0 c1 c2 c3 c4 c5 : Value} {s : Sp.Bs} {at_ : Nat} (hH : Blk w b 237 (hdCells c0 c1 c2 c3 c4 c5 s at_ true false)) (hat : at_ + 4 ≤ s.length) (hN : Sp.num ((s.drop at_).take 4) = N) (hlen : s.length ≤ 1000000) :
    Calls Tryz.prog 200 #[.pointer (some ⟨b, 0, none⟩)] w fun e w' => e = .returned (.tuple #[]) ∧
      Blk w' b 237 (hdCells c0 c1 c2 c3 (.int .u32 N) c5 s (at_ + 4) true false) ∧ Turns (only b) (only b) w w' := by
  have hn : N < 4294967296 := by
    rw [← hN]
    exact Nat.lt_of_lt_of_le (Sp.num_lt _) (Nat.le_trans (Nat.pow_le_pow_right (by omega) (show _ ≤ 4 by simp; omega)) (by decide))
  have HC := Lib.hid (num_r_uint32 (o := 4) rfl hH (by omega) rfl (by omega) (by omega) hat hN hn hlen)
  clear hH hN hn
  go_enter Tryz.func200, Tryz.ntmps200
  go_wp2_with fail
  refine HC.out.mono ?_
  rintro e w1 ⟨rfl, h1, h2⟩
  go_wp2_with fail
  go_end0
  exact ⟨rfl, h1, h2⟩
end Go.Proofs.YtclpmkinjjhncaaGreat

/- The walks of package page on a head: the part that is nought, and all parts. -/
namespace Go.Proofs.YtclpmkinjjhncaaGreat
open Go.RowKit

set_option maxRecDepth 100000 in
set_option maxHeartbeats 4000000 in
theorem none_w {w : World} {b : Nat} {c0 c1 c2 c3 c4 c5 : Value} {s : Sp.Bs} {at_ : Nat} (hH : Blk w b 237 (hdCells c0 c1 c2 c3 c4 c5 s at_ false false)) (hlen : s.length ≤ 1000000) :
    Calls Tryz.prog 201 #[.pointer (some ⟨b, 0, none⟩)] w fun e w' => e = .returned (.tuple #[]) ∧
      Blk w' b 237 (hdCells c0 c1 c2 c3 c4 c5 (s ++ Sp.be 2 0) at_ false false) ∧ Turns (only b) (only b) w w' := by
  have hne : b ≠ w.heap.size := by have := hH.lt; omega
  have HH := Lib.hid hH
  clear hH
  go_enter Tryz.func201, Tryz.ntmps201
  go_wp2_with fail
  have hN := Blk.new w 25 #[.int .u32 0]
  refine (num_w_uint32 (HH.out.alloc _) (hN.cell 0) (by omega) (by omega) (size := 2) (n := 0) (by omega) (by omega) hlen).mono ?_
  rintro e w1 ⟨rfl, h1, h2⟩
  have hN1 := hN.turns h2 (fun e => hne e.symm)
  have d0 := hN1.cell 0
  have d9 := h1.cell 9
  have f9 := h1.frozen 9
  simp only [hdCells, List.getElem?_toArray, List.getElem?_cons_succ, List.getElem?_cons_zero] at d0 d9
  have HH1 := Lib.hid h1
  clear h1 hN hN1
  go_wp2_with fail
  go_end0
  refine ⟨rfl, ?_, (((Turns.refl (only b) w).alloc _).trans h2).setCell (p := ⟨b, 9, none⟩) (.inl rfl) _⟩
  exact HH1.out.set_ 9 (.bool false)

set_option maxRecDepth 100000 in
set_option maxHeartbeats 4000000 in
theorem none_r {w : World} {b : Nat} {c0 c1 c2 c3 c4 c5 : Value} {s : Sp.Bs} {at_ : Nat} (hH : Blk w b 237 (hdCells c0 c1 c2 c3 c4 c5 s at_ true false)) (hat : at_ + 2 ≤ s.length) (hN : Sp.num ((s.drop at_).take 2) = 0) (hlen : s.length ≤ 1000000) :
    Calls Tryz.prog 201 #[.pointer (some ⟨b, 0, none⟩)] w fun e w' => e = .returned (.tuple #[]) ∧
      Blk w' b 237 (hdCells c0 c1 c2 c3 c4 c5 s (at_ + 2) true false) ∧ Turns (only b) (only b) w w' := by
  have hlt := hH.lt
  have HH := Lib.hid hH
  clear hH
  go_enter Tryz.func201, Tryz.ntmps201
  go_wp2_with fail
  have hNn := Blk.new w 25 #[.int .u32 0]
  refine (num_rl (HH.out.alloc _) hNn (by omega) (by omega) (size := 2) hat hN (by omega) hlen).mono ?_
  rintro e w1 ⟨rfl, h1, h3, h2⟩
  have d0 := h3.cell 0
  have d9 := h1.cell 9
  have f9 := h1.frozen 9
  simp only [hdCells, List.getElem?_toArray, List.getElem?_cons_succ, List.getElem?_cons_zero] at d0 d9
  have HH1 := Lib.hid h1
  clear h1 hNn h3
  go_wp2_with fail
  go_end0
  refine ⟨rfl, HH1.out.set_ 9 (.bool false), ?_⟩
  refine Turns.setCell (F := only b) (w := w) (p := ⟨b, 9, none⟩) ?_ (.inl rfl) _
  refine ⟨h2.os, h2.tape, h2.output, Nat.le_trans (by simp) h2.size, fun k hk hn => (h2.block k (by simp; omega) (fun hx => ?_)).trans (Below.heap_alloc w _ k hk), fun k hk => .inl hk⟩
  rcases hx with hx | hx
  · exact hn hx
  · omega

/-- The parts of a head, as they are written. -/
def headParts (p : Sp.Pg) : List Sp.Bs := [Sp.be 1 p.kind, Sp.be 1 p.level, Sp.be 4 p.id, Sp.be 8 p.lsn, Sp.be 4 p.next, Sp.be 2 0]

theorem head_parts (p : Sp.Pg) : p.head = (headParts p).flatten := by simp [Sp.Pg.head, headParts]

abbrev pgCells (p : Sp.Pg) (rows : Value) (s : Sp.Bs) (at_ : Nat) (rd : Bool) : Array Value := hdCells (.int .u8 p.kind) (.int .u8 p.level) (.int .u32 p.id) (.int .u64 p.lsn) (.int .u32 p.next) rows s at_ rd false

def headFns (b : Nat) : Array Value := #[.func (.func 196) #[.pointer (some ⟨b, 0, none⟩)] #[], .func (.func 197) #[.pointer (some ⟨b, 0, none⟩)] #[], .func (.func 198) #[.pointer (some ⟨b, 0, none⟩)] #[],
  .func (.func 199) #[.pointer (some ⟨b, 0, none⟩)] #[], .func (.func 200) #[.pointer (some ⟨b, 0, none⟩)] #[], .func (.func 201) #[.pointer (some ⟨b, 0, none⟩)] #[]]

set_option maxRecDepth 100000 in
set_option maxHeartbeats 8000000 in
theorem all_w {w : World} {b : Nat} {p : Sp.Pg} {rows : Value} (hp : p.wf) (hH : Blk w b 237 (pgCells p rows [] 0 false)) :
    Calls Tryz.prog 150 #[.pointer (some ⟨b, 0, none⟩)] w fun e w' => e = .returned (.tuple #[]) ∧
      Blk w' b 237 (pgCells p rows p.head 0 false) ∧ Turns (only b) (only b) w w' := by
  obtain ⟨q1, q2, q3, q4, q5⟩ := hp
  have hlt := hH.lt
  have HH := Lib.hid hH
  have HP := Lib.hid (head_parts p)
  clear hH
  go_enter Tryz.func150, Tryz.ntmps150
  go_wp2_with fail
  go_loopw [3, 18] (fun _ i wr => ∃ k : Nat, k ≤ 6 ∧ i = .int .i64 k ∧ Blk wr b 237 (pgCells p rows ((headParts p).take k).flatten 0 false) ∧ Turns (only b) (only b) (w.alloc (.cells (headFns b) 1)) wr) (fun _ i _ => 6 - (intOf i).toNat)
  case atStart => exact ⟨0, by omega, rfl, HH.out.alloc _, Turns.refl _ _⟩
  case round =>
    obtain ⟨k, hk, rfl, hB, ht⟩ := hrel
    have hF := (Blk.new w 1 (headFns b)).turns ht (fun e => by have e : w.heap.size = b := e; omega)
    have hlk : ∀ k, k < 6 → ((headParts p).take k).flatten.length ≤ 1000000 := fun k hk => by
      have h1 : ((headParts p).take k).flatten.length ≤ (headParts p).flatten.length := by
        conv => rhs; rw [← List.take_append_drop k (headParts p), List.flatten_append, List.length_append]
        omega
      have h2 : (headParts p).flatten.length = 20 := by simp [headParts]
      omega
    have HK := Lib.hid hlk
    clear hlk
    rcases (by omega : k = 0 ∨ k = 1 ∨ k = 2 ∨ k = 3 ∨ k = 4 ∨ k = 5 ∨ k = 6) with rfl | rfl | rfl | rfl | rfl | rfl | rfl
    · have hc := hF.cell 0
      simp only [headFns, List.getElem?_toArray, List.getElem?_cons_zero] at hc
      have HB := Lib.hid hB
      clear hB hF
      go_wp2_with fail
      refine (kind_w HB.out q1 (HK.out 0 (by omega))).mono ?_
      rintro e w1 ⟨rfl, h1, h2⟩
      have HB1 := Lib.hid h1
      clear h1
      go_wp2_with fail
      go_roundw
      case rel => exact ⟨1, by omega, rfl, by simpa [headParts] using HB1.out, ht.trans h2⟩
      case measure => simp [intOf]
    · have hc := hF.cell 1
      simp only [headFns, List.getElem?_toArray, List.getElem?_cons_succ, List.getElem?_cons_zero] at hc
      have HB := Lib.hid hB
      clear hB hF
      go_wp2_with fail
      refine (level_w HB.out q2 (HK.out 1 (by omega))).mono ?_
      rintro e w1 ⟨rfl, h1, h2⟩
      have HB1 := Lib.hid h1
      clear h1
      go_wp2_with fail
      go_roundw
      case rel => exact ⟨2, by omega, rfl, by simpa [headParts] using HB1.out, ht.trans h2⟩
      case measure => simp [intOf]
    · have hc := hF.cell 2
      simp only [headFns, List.getElem?_toArray, List.getElem?_cons_succ, List.getElem?_cons_zero] at hc
      have HB := Lib.hid hB
      clear hB hF
      go_wp2_with fail
      refine (id_w HB.out q3 (HK.out 2 (by omega))).mono ?_
      rintro e w1 ⟨rfl, h1, h2⟩
      have HB1 := Lib.hid h1
      clear h1
      go_wp2_with fail
      go_roundw
      case rel => exact ⟨3, by omega, rfl, by simpa [headParts] using HB1.out, ht.trans h2⟩
      case measure => simp [intOf]
    · have hc := hF.cell 3
      simp only [headFns, List.getElem?_toArray, List.getElem?_cons_succ, List.getElem?_cons_zero] at hc
      have HB := Lib.hid hB
      clear hB hF
      go_wp2_with fail
      refine (lsn_w HB.out q4 (HK.out 3 (by omega))).mono ?_
      rintro e w1 ⟨rfl, h1, h2⟩
      have HB1 := Lib.hid h1
      clear h1
      go_wp2_with fail
      go_roundw
      case rel => exact ⟨4, by omega, rfl, by simpa [headParts] using HB1.out, ht.trans h2⟩
      case measure => simp [intOf]
    · have hc := hF.cell 4
      simp only [headFns, List.getElem?_toArray, List.getElem?_cons_succ, List.getElem?_cons_zero] at hc
      have HB := Lib.hid hB
      clear hB hF
      go_wp2_with fail
      refine (next_w HB.out q5 (HK.out 4 (by omega))).mono ?_
      rintro e w1 ⟨rfl, h1, h2⟩
      have HB1 := Lib.hid h1
      clear h1
      go_wp2_with fail
      go_roundw
      case rel => exact ⟨5, by omega, rfl, by simpa [headParts] using HB1.out, ht.trans h2⟩
      case measure => simp [intOf]
    · have hc := hF.cell 5
      simp only [headFns, List.getElem?_toArray, List.getElem?_cons_succ, List.getElem?_cons_zero] at hc
      have HB := Lib.hid hB
      clear hB hF
      go_wp2_with fail
      refine (none_w HB.out (HK.out 5 (by omega))).mono ?_
      rintro e w1 ⟨rfl, h1, h2⟩
      have HB1 := Lib.hid h1
      clear h1
      go_wp2_with fail
      go_roundw
      case rel => exact ⟨6, by omega, rfl, by simpa [headParts] using HB1.out, ht.trans h2⟩
      case measure => simp [intOf]
    · have HB := Lib.hid hB
      clear hB hF
      go_wp2_with fail
      go_end0
      refine ⟨rfl, ?_, ((Turns.refl (only b) w).alloc _).trans ht⟩
      rw [HP.out]
      exact HB.out

/-- What is read of a text that begins as a head. -/
theorem head_nums {p : Sp.Pg} (hp : p.wf) (t rest : Sp.Bs) (h : t = p.head ++ rest) :
    Sp.num ((t.drop 0).take 1) = p.kind ∧ Sp.num ((t.drop 1).take 1) = p.level ∧ Sp.num ((t.drop 2).take 4) = p.id ∧ Sp.num ((t.drop 6).take 8) = p.lsn ∧ Sp.num ((t.drop 14).take 4) = p.next ∧ Sp.num ((t.drop 18).take 2) = 0 := by
  obtain ⟨q1, q2, q3, q4, q5⟩ := hp
  subst h
  unfold Sp.Pg.head
  refine ⟨?_, ?_, ?_, ?_, ?_, ?_⟩
  · rw [show Sp.be 1 p.kind ++ Sp.be 1 p.level ++ Sp.be 4 p.id ++ Sp.be 8 p.lsn ++ Sp.be 4 p.next ++ Sp.be 2 0 ++ rest = [] ++ Sp.be 1 p.kind ++ (Sp.be 1 p.level ++ Sp.be 4 p.id ++ Sp.be 8 p.lsn ++ Sp.be 4 p.next ++ Sp.be 2 0 ++ rest) by simp only [List.append_assoc, List.nil_append],
      Sp.take2_mid (by simp) (by simp), Sp.num_be_lt (by omega)]
  · rw [show Sp.be 1 p.kind ++ Sp.be 1 p.level ++ Sp.be 4 p.id ++ Sp.be 8 p.lsn ++ Sp.be 4 p.next ++ Sp.be 2 0 ++ rest = Sp.be 1 p.kind ++ Sp.be 1 p.level ++ (Sp.be 4 p.id ++ Sp.be 8 p.lsn ++ Sp.be 4 p.next ++ Sp.be 2 0 ++ rest) by simp only [List.append_assoc],
      Sp.take2_mid (by simp) (by simp), Sp.num_be_lt (by omega)]
  · rw [show Sp.be 1 p.kind ++ Sp.be 1 p.level ++ Sp.be 4 p.id ++ Sp.be 8 p.lsn ++ Sp.be 4 p.next ++ Sp.be 2 0 ++ rest = (Sp.be 1 p.kind ++ Sp.be 1 p.level) ++ Sp.be 4 p.id ++ (Sp.be 8 p.lsn ++ Sp.be 4 p.next ++ Sp.be 2 0 ++ rest) by simp only [List.append_assoc],
      Sp.take2_mid (by simp) (by simp), Sp.num_be_lt (by omega)]
  · rw [show Sp.be 1 p.kind ++ Sp.be 1 p.level ++ Sp.be 4 p.id ++ Sp.be 8 p.lsn ++ Sp.be 4 p.next ++ Sp.be 2 0 ++ rest = (Sp.be 1 p.kind ++ Sp.be 1 p.level ++ Sp.be 4 p.id) ++ Sp.be 8 p.lsn ++ (Sp.be 4 p.next ++ Sp.be 2 0 ++ rest) by simp only [List.append_assoc],
      Sp.take2_mid (by simp) (by simp), Sp.num_be_lt (by omega)]
  · rw [show Sp.be 1 p.kind ++ Sp.be 1 p.level ++ Sp.be 4 p.id ++ Sp.be 8 p.lsn ++ Sp.be 4 p.next ++ Sp.be 2 0 ++ rest = (Sp.be 1 p.kind ++ Sp.be 1 p.level ++ Sp.be 4 p.id ++ Sp.be 8 p.lsn) ++ Sp.be 4 p.next ++ (Sp.be 2 0 ++ rest) by simp only [List.append_assoc],
      Sp.take2_mid (by simp) (by simp), Sp.num_be_lt (by omega)]
  · rw [show Sp.be 1 p.kind ++ Sp.be 1 p.level ++ Sp.be 4 p.id ++ Sp.be 8 p.lsn ++ Sp.be 4 p.next ++ Sp.be 2 0 ++ rest = (Sp.be 1 p.kind ++ Sp.be 1 p.level ++ Sp.be 4 p.id ++ Sp.be 8 p.lsn ++ Sp.be 4 p.next) ++ Sp.be 2 0 ++ rest by simp only [List.append_assoc],
      Sp.take2_mid (by simp) (by simp), Sp.num_be_lt (by omega)]

/-- A head of which k parts are read. -/
def rdCells (p : Sp.Pg) (rows : Value) (t : Sp.Bs) : Nat → Array Value
  | 0 => hdCells (.int .u8 0) (.int .u8 0) (.int .u32 0) (.int .u64 0) (.int .u32 0) rows t 0 true false
  | 1 => hdCells (.int .u8 p.kind) (.int .u8 0) (.int .u32 0) (.int .u64 0) (.int .u32 0) rows t 1 true false
  | 2 => hdCells (.int .u8 p.kind) (.int .u8 p.level) (.int .u32 0) (.int .u64 0) (.int .u32 0) rows t 2 true false
  | 3 => hdCells (.int .u8 p.kind) (.int .u8 p.level) (.int .u32 p.id) (.int .u64 0) (.int .u32 0) rows t 6 true false
  | 4 => hdCells (.int .u8 p.kind) (.int .u8 p.level) (.int .u32 p.id) (.int .u64 p.lsn) (.int .u32 0) rows t 14 true false
  | 5 => hdCells (.int .u8 p.kind) (.int .u8 p.level) (.int .u32 p.id) (.int .u64 p.lsn) (.int .u32 p.next) rows t 18 true false
  | _ => pgCells p rows t 20 true

set_option maxRecDepth 100000 in
set_option maxHeartbeats 8000000 in
theorem all_r {w : World} {b : Nat} {p : Sp.Pg} {rows : Value} {t rest : Sp.Bs} (hp : p.wf) (hh : t = p.head ++ rest) (hlen : t.length ≤ 1000000) (hH : Blk w b 237 (rdCells p rows t 0)) :
    Calls Tryz.prog 150 #[.pointer (some ⟨b, 0, none⟩)] w fun e w' => e = .returned (.tuple #[]) ∧
      Blk w' b 237 (pgCells p rows t 20 true) ∧ Turns (only b) (only b) w w' := by
  have hl20 : 20 ≤ t.length := by rw [hh, List.length_append, Sp.Pg.head_length]; omega
  obtain ⟨n1, n2, n3, n4, n5, n6⟩ := head_nums hp t rest hh
  have hlt := hH.lt
  have HH := Lib.hid hH
  have N1 := Lib.hid n1
  have N2 := Lib.hid n2
  have N3 := Lib.hid n3
  have N4 := Lib.hid n4
  have N5 := Lib.hid n5
  have N6 := Lib.hid n6
  clear hH hh n1 n2 n3 n4 n5 n6
  go_enter Tryz.func150, Tryz.ntmps150
  go_wp2_with fail
  go_loopw [3, 18] (fun _ i wr => ∃ k : Nat, k ≤ 6 ∧ i = .int .i64 k ∧ Blk wr b 237 (rdCells p rows t k) ∧ Turns (only b) (only b) (w.alloc (.cells (headFns b) 1)) wr) (fun _ i _ => 6 - (intOf i).toNat)
  case atStart => exact ⟨0, by omega, rfl, HH.out.alloc _, Turns.refl _ _⟩
  case round =>
    obtain ⟨k, hk, rfl, hB, ht⟩ := hrel
    have hF := (Blk.new w 1 (headFns b)).turns ht (fun e => by have e : w.heap.size = b := e; omega)
    rcases (by omega : k = 0 ∨ k = 1 ∨ k = 2 ∨ k = 3 ∨ k = 4 ∨ k = 5 ∨ k = 6) with rfl | rfl | rfl | rfl | rfl | rfl | rfl
    · have hc := hF.cell 0
      simp only [headFns, List.getElem?_toArray, List.getElem?_cons_zero] at hc
      have HB := Lib.hid hB
      clear hB hF
      go_wp2_with fail
      refine (kind_r HB.out (by omega) N1.out hlen).mono ?_
      rintro e w1 ⟨rfl, h1, h2⟩
      have HB1 := Lib.hid h1
      clear h1
      go_wp2_with fail
      go_roundw
      case rel => exact ⟨1, by omega, rfl, HB1.out, ht.trans h2⟩
      case measure => simp [intOf]
    · have hc := hF.cell 1
      simp only [headFns, List.getElem?_toArray, List.getElem?_cons_succ, List.getElem?_cons_zero] at hc
      have HB := Lib.hid hB
      clear hB hF
      go_wp2_with fail
      refine (level_r HB.out (by omega) N2.out hlen).mono ?_
      rintro e w1 ⟨rfl, h1, h2⟩
      have HB1 := Lib.hid h1
      clear h1
      go_wp2_with fail
      go_roundw
      case rel => exact ⟨2, by omega, rfl, HB1.out, ht.trans h2⟩
      case measure => simp [intOf]
    · have hc := hF.cell 2
      simp only [headFns, List.getElem?_toArray, List.getElem?_cons_succ, List.getElem?_cons_zero] at hc
      have HB := Lib.hid hB
      clear hB hF
      go_wp2_with fail
      refine (id_r HB.out (by omega) N3.out hlen).mono ?_
      rintro e w1 ⟨rfl, h1, h2⟩
      have HB1 := Lib.hid h1
      clear h1
      go_wp2_with fail
      go_roundw
      case rel => exact ⟨3, by omega, rfl, HB1.out, ht.trans h2⟩
      case measure => simp [intOf]
    · have hc := hF.cell 3
      simp only [headFns, List.getElem?_toArray, List.getElem?_cons_succ, List.getElem?_cons_zero] at hc
      have HB := Lib.hid hB
      clear hB hF
      go_wp2_with fail
      refine (lsn_r HB.out (by omega) N4.out hlen).mono ?_
      rintro e w1 ⟨rfl, h1, h2⟩
      have HB1 := Lib.hid h1
      clear h1
      go_wp2_with fail
      go_roundw
      case rel => exact ⟨4, by omega, rfl, HB1.out, ht.trans h2⟩
      case measure => simp [intOf]
    · have hc := hF.cell 4
      simp only [headFns, List.getElem?_toArray, List.getElem?_cons_succ, List.getElem?_cons_zero] at hc
      have HB := Lib.hid hB
      clear hB hF
      go_wp2_with fail
      refine (next_r HB.out (by omega) N5.out hlen).mono ?_
      rintro e w1 ⟨rfl, h1, h2⟩
      have HB1 := Lib.hid h1
      clear h1
      go_wp2_with fail
      go_roundw
      case rel => exact ⟨5, by omega, rfl, HB1.out, ht.trans h2⟩
      case measure => simp [intOf]
    · have hc := hF.cell 5
      simp only [headFns, List.getElem?_toArray, List.getElem?_cons_succ, List.getElem?_cons_zero] at hc
      have HB := Lib.hid hB
      clear hB hF
      go_wp2_with fail
      refine (none_r HB.out (by omega) N6.out hlen).mono ?_
      rintro e w1 ⟨rfl, h1, h2⟩
      have HB1 := Lib.hid h1
      clear h1
      go_wp2_with fail
      go_roundw
      case rel => exact ⟨6, by omega, rfl, HB1.out, ht.trans h2⟩
      case measure => simp [intOf]
    · have HB := Lib.hid hB
      clear hB hF
      go_wp2_with fail
      go_end0
      exact ⟨rfl, HB.out, ((Turns.refl (only b) w).alloc _).trans ht⟩
end Go.Proofs.YtclpmkinjjhncaaGreat

/- The walks of package page: May. -/
namespace Go.Proofs.YtclpmkinjjhncaaGreat
open Go.RowKit

/-- Rows as cells. -/
def rcs (rows : List Sp.Bs) : List Value := rows.map fun r => str r
@[simp] theorem rcs_length (rows : List Sp.Bs) : (rcs rows).length = rows.length := by simp [rcs]
/-- The slice reads as these rows. -/
abbrev RowsAt (G : Foot) (w : World) (A : Option Addr) (rows : List Sp.Bs) : Prop := Reads G w 1 A rows.length (rcs rows)
theorem RowsAt.row {G : Foot} {w : World} {A : Option Addr} {rows : List Sp.Bs} (h : RowsAt G w A rows) {k : Nat} (hk : k < rows.length) : ∃ b o, A = some ⟨b, o, none⟩ ∧ G b ∧ b < w.heap.size ∧ w.cell? ⟨b, o + k, none⟩ = some (str rows[k]) := by
  obtain ⟨b, o, u, hA, hG, hlt, hu, hc⟩ := h.at_ hk
  simp [rcs, hk] at hu
  subst hu
  exact ⟨b, o, hA, hG, hlt, hc⟩

/-- A page as a value. -/
abbrev pgV (p : Sp.Pg) (A : Option Addr) (c : Nat) : Value := .agg #[.int .u8 p.kind, .int .u8 p.level, .int .u32 p.id, .int .u64 p.lsn, .int .u32 p.next, .slice A p.rows.length c]

def mayB (p : Sp.Pg) : Bool := decide (p.kind ≤ 5) && decide (1 ≤ p.id) && decide (p.id ≤ 1024) && decide (p.next ≤ 1024) && decide (4 * p.rows.length + Sp.total p.rows ≤ 484)

theorem mayB_iff (p : Sp.Pg) : mayB p = true ↔ p.may := by simp [mayB, Sp.Pg.may, and_assoc]

set_option maxRecDepth 100000 in
set_option maxHeartbeats 4000000 in
theorem page_may {w : World} {G : Foot} {p : Sp.Pg} {A : Option Addr} {c : Nat} (hR : RowsAt G w A p.rows) (hn : p.rows.length ≤ 1000000000) (ht : Sp.total p.rows ≤ 1000000000) :
    Calls Tryz.prog 111 #[pgV p A c] w fun e w' => e = .returned (.bool (mayB p)) ∧ Below w.heap.size w w' := by
  have key : (decide ((p.kind : Int) ≤ 5) = false ∧ mayB p = false) ∨ (decide ((p.kind : Int) ≤ 5) = true ∧ decide (1 ≤ (p.id : Int)) = false ∧ mayB p = false) ∨
      (decide ((p.kind : Int) ≤ 5) = true ∧ decide (1 ≤ (p.id : Int)) = true ∧ decide ((p.id : Int) ≤ 1024) = false ∧ mayB p = false) ∨
      (decide ((p.kind : Int) ≤ 5) = true ∧ decide (1 ≤ (p.id : Int)) = true ∧ decide ((p.id : Int) ≤ 1024) = true ∧ decide ((p.next : Int) ≤ 1024) = false ∧ mayB p = false) ∨
      (decide ((p.kind : Int) ≤ 5) = true ∧ decide (1 ≤ (p.id : Int)) = true ∧ decide ((p.id : Int) ≤ 1024) = true ∧ decide ((p.next : Int) ≤ 1024) = true ∧ decide ((Sp.total p.rows : Int) ≤ (484 : Int) - 4 * p.rows.length) = false ∧ mayB p = false) ∨
      (decide ((p.kind : Int) ≤ 5) = true ∧ decide (1 ≤ (p.id : Int)) = true ∧ decide ((p.id : Int) ≤ 1024) = true ∧ decide ((p.next : Int) ≤ 1024) = true ∧ decide ((Sp.total p.rows : Int) ≤ (484 : Int) - 4 * p.rows.length) = true ∧ mayB p = true) := by
    by_cases a1 : p.kind ≤ 5
    · by_cases a2 : 1 ≤ p.id
      · by_cases a3 : p.id ≤ 1024
        · by_cases a4 : p.next ≤ 1024
          · by_cases a5 : 4 * p.rows.length + Sp.total p.rows ≤ 484
            · refine .inr (.inr (.inr (.inr (.inr ⟨?_, ?_, ?_, ?_, ?_, by simp [mayB, a1, a2, a3, a4, a5]⟩)))) <;> rw [decide_eq_true_eq] <;> omega
            · refine .inr (.inr (.inr (.inr (.inl ⟨?_, ?_, ?_, ?_, ?_, by simp [mayB, a5]⟩)))) <;> first | (rw [decide_eq_true_eq]; omega) | (rw [decide_eq_false_iff_not]; omega)
          · refine .inr (.inr (.inr (.inl ⟨?_, ?_, ?_, ?_, by simp [mayB, a4]⟩))) <;> first | (rw [decide_eq_true_eq]; omega) | (rw [decide_eq_false_iff_not]; omega)
        · refine .inr (.inr (.inl ⟨?_, ?_, ?_, by simp [mayB, a3]⟩)) <;> first | (rw [decide_eq_true_eq]; omega) | (rw [decide_eq_false_iff_not]; omega)
      · refine .inr (.inl ⟨?_, ?_, by simp [mayB, a2]⟩) <;> first | (rw [decide_eq_true_eq]; omega) | (rw [decide_eq_false_iff_not]; omega)
    · refine .inl ⟨?_, by simp [mayB, a1]⟩; rw [decide_eq_false_iff_not]; omega
  obtain ⟨kind, level, id, lsn, next, rows⟩ := p
  dsimp only at *
  have HR := Lib.hid hR
  have HM : Hid (∃ mb, mayB ⟨kind, level, id, lsn, next, rows⟩ = mb) := ⟨_, rfl⟩
  generalize mayB ⟨kind, level, id, lsn, next, rows⟩ = mb at *
  clear hR HM
  rcases key with ⟨d1, hmb⟩ | ⟨d1, d2, hmb⟩ | ⟨d1, d2, d3, hmb⟩ | ⟨d1, d2, d3, d4, hmb⟩ | ⟨d1, d2, d3, d4, d5, hmb⟩ | ⟨d1, d2, d3, d4, d5, hmb⟩
  all_goals
    subst hmb
    go_enter Tryz.func111, Tryz.ntmps111
    go_wp2_with fail
    go_loop [3, 5, 9] (fun v _ i => ∃ k : Nat, k ≤ rows.length ∧ i = .int .i64 k ∧ v = .int .i64 ((484 : Int) - 4 * k - Sp.total (rows.take k))) (fun _ _ i => rows.length - (intOf i).toNat)
    case atStart => exact ⟨0, by omega, rfl, by simp⟩
    case round =>
      obtain ⟨k, hk, rfl, rfl⟩ := hrel
      by_cases hlt : k < rows.length
      · obtain ⟨b, o, rfl, _, hb, hc⟩ := HR.out.row hlt
        have htk := Lib.hid (Sp.total_take_succ rows k hlt)
        have hle := Sp.total_take_le rows k
        have hle2 := Sp.total_take_le rows (k + 1)
        rw [htk.out] at hle2
        have hc2 := (World.cell?_alloc_lt w (.cells #[.int .u8 kind, .int .u8 level, .int .u32 id, .int .u64 lsn, .int .u32 next, .slice (some ⟨b, o, none⟩) rows.length c] 50) ⟨b, o + k, none⟩ hb).trans hc
        generalize Sp.total (rows.take k) = T at *
        generalize rows[k] = r at *
        clear hc
        go_wp2_with fail
        go_round
        case rel => exact ⟨k + 1, by omega, by go_num, by rw [htk.out]; go_num⟩
        case measure => simp [intOf]; omega
      · obtain rfl : k = rows.length := by omega
        rw [List.take_length]
        go_wp2_with fail
        go_ret
        exact ⟨rfl, (Below.refl _ w).alloc (Nat.le_refl _) _⟩
end Go.Proofs.YtclpmkinjjhncaaGreat

/- Plain words on the sum of a text, and a text sealed by it. No program is named here. -/
namespace Go.Proofs.YtclpmkinjjhncaaGreat.Sp

def poly : Nat := 0x82F63B78
def crcStep (c : Nat) : Nat := (c / 2) ^^^ (poly * (c % 2))
def crcSteps : Nat → Nat → Nat
  | 0, c => c
  | k + 1, c => crcStep (crcSteps k c)
def crcTab (i : Nat) : Nat := crcSteps 8 i
def crcByte (c x : Nat) : Nat := crcTab ((c % 256) ^^^ x) ^^^ (c / 256)
def crcRun (c : Nat) (s : Bs) : Nat := s.foldl (fun c x => crcByte c x.toNat) c
def crc (s : Bs) : Nat := 4294967295 - crcRun 4294967295 s

theorem crcStep_lt {c : Nat} (h : c < 4294967296) : crcStep c < 4294967296 := by
  have h1 : c / 2 < 2 ^ 32 := by omega
  have h2 : poly * (c % 2) < 2 ^ 32 := by
    unfold poly
    have : c % 2 < 2 := Nat.mod_lt _ (by omega)
    omega
  exact Nat.xor_lt_two_pow h1 h2

theorem crcSteps_lt {c : Nat} (h : c < 4294967296) : ∀ k, crcSteps k c < 4294967296
  | 0 => h
  | k + 1 => crcStep_lt (crcSteps_lt h k)

theorem crcTab_lt {i : Nat} (h : i < 256) : crcTab i < 4294967296 := crcSteps_lt (by omega) 8

theorem xor_byte {c x : Nat} (hx : x < 256) : (c % 256) ^^^ x < 256 := Nat.xor_lt_two_pow (n := 8) (by omega) hx

theorem crcByte_lt {c x : Nat} (hc : c < 4294967296) (hx : x < 256) : crcByte c x < 4294967296 :=
  Nat.xor_lt_two_pow (n := 32) (crcTab_lt (xor_byte hx)) (by omega)

theorem crcRun_snoc (c : Nat) (s : Bs) (x : UInt8) : crcRun c (s ++ [x]) = crcByte (crcRun c s) x.toNat := by simp [crcRun]

theorem crcRun_lt {c : Nat} (hc : c < 4294967296) (s : Bs) : crcRun c s < 4294967296 := by
  induction s generalizing c with
  | nil => exact hc
  | cons x s ih => exact ih (crcByte_lt hc x.toNat_lt)

theorem crc_lt (s : Bs) : crc s < 4294967296 := by unfold crc; omega

/-- the sum's bytes, the lowest first. -/
def sumBytes (s : Bs) : Bs := [UInt8.ofNat (crc s), UInt8.ofNat (crc s / 256), UInt8.ofNat (crc s / 65536), UInt8.ofNat (crc s / 16777216)]
@[simp] theorem sumBytes_length (s : Bs) : (sumBytes s).length = 4 := rfl
def sealed (s : Bs) : Bs := s ++ sumBytes s
@[simp] theorem sealed_length (s : Bs) : (sealed s).length = s.length + 4 := by simp [sealed]
theorem sealed_take (s : Bs) : (sealed s).take ((sealed s).length - 4) = s := by simp [sealed]

/-- 508 bytes that are 0, behind them four more: no text is sealed so. -/
theorem zeros_unsealed : sealed (zeros 508) ≠ zeros 512 := by
  intro h
  have h1 : (sealed (zeros 508)).drop 508 = (zeros 512).drop 508 := by rw [h]
  have h2 : (sealed (zeros 508)).drop 508 = sumBytes (zeros 508) := List.drop_left' (List.length_replicate ..)
  rw [h2] at h1
  revert h1
  decide +kernel

end Go.Proofs.YtclpmkinjjhncaaGreat.Sp

/- The walks of package sum. -/
namespace Go.Proofs.YtclpmkinjjhncaaGreat
open Go.RowKit

/-- The table behind k rounds. -/
def tabCells (k : Nat) : Array Value := ((List.range 256).map fun j => Value.int .u32 (if j < k then ((Sp.crcTab j : Nat) : Int) else 0)).toArray
theorem tabCells_size (k : Nat) : (tabCells k).size = 256 := by simp [tabCells]
theorem tabCells_get (k j : Nat) (h : j < 256) : (tabCells k)[j]? = some (Value.int .u32 (if j < k then ((Sp.crcTab j : Nat) : Int) else 0)) := by
  simp only [tabCells, List.getElem?_toArray, List.getElem?_map, List.getElem?_range h, Option.map_some]
theorem tabCells_next (k : Nat) (_hk : k < 256) : (tabCells k).setIfInBounds k (.int .u32 ((Sp.crcTab k : Nat) : Int)) = tabCells (k + 1) := by
  apply Array.ext_getElem?
  intro j
  rw [Array.getElem?_setIfInBounds]
  rcases Nat.lt_or_ge j 256 with hj | hj
  · rw [tabCells_get _ _ hj, tabCells_get _ _ hj, tabCells_size]
    by_cases e : k = j
    · subst e; simp [hj]
    · rw [if_neg e]
      congr 2
      by_cases h : j < k
      · rw [if_pos h, if_pos (by omega)]
      · rw [if_neg h, if_neg (by omega)]
  · rw [Array.getElem?_eq_none (by rw [tabCells_size]; exact hj), Array.getElem?_eq_none (by rw [tabCells_size]; exact hj), tabCells_size]
    split <;> simp; omega
theorem tabCells_zero : tabCells 0 = Array.replicate 256 (.int .u32 0) := by
  apply Array.ext_getElem?
  intro j
  rcases Nat.lt_or_ge j 256 with hj | hj
  · rw [tabCells_get _ _ hj]; simp [hj]
  · rw [Array.getElem?_eq_none (by rw [tabCells_size]; exact hj)]; simp; omega

theorem tab_info : (Tryz.prog.info? 359).map (fun i => (i.zero, i.size)) = some (some (.agg (tabCells 0)), 256) := by
  rw [tabCells_zero]; kernel_rfl

theorem crcStep_cast (c : Nat) (h : c < 4294967296) : bits .xor .u32 ((c : Int) / 2) (2197175160 * bits .and .u32 (c : Int) 1 % 4294967296) = ((Sp.crcStep c : Nat) : Int) := by
  have e1 : bits .and .u32 (c : Int) 1 = ((c % 2 : Nat) : Int) := by
    rw [show (1 : Int) = ((1 : Nat) : Int) from rfl, u32_and_nat _ _ h (by omega), nat_mask1]
  have hm : c % 2 < 2 := Nat.mod_lt _ (by omega)
  have e2 : (2197175160 * ((c % 2 : Nat) : Int)) % 4294967296 = ((Sp.poly * (c % 2) : Nat) : Int) := by
    unfold Sp.poly; omega
  rw [e1, e2, show (c : Int) / 2 = ((c / 2 : Nat) : Int) by omega, u32_xor_nat _ _ (by omega) (by unfold Sp.poly; omega)]
  rfl

theorem xor_ones (c : Nat) (h : c < 4294967296) : bits .xor .u32 IntKind.u32.max (c : Int) = ((4294967295 - c : Nat) : Int) := by
  rw [show IntKind.u32.max = ((4294967295 : Nat) : Int) from rfl, u32_xor_nat _ _ (by omega) h]
  congr 1
  apply Nat.eq_of_testBit_eq
  intro i
  rw [Nat.testBit_xor, show 4294967295 - c = 2 ^ 32 - (c + 1) by omega, Nat.testBit_two_pow_sub_succ (by omega), show (4294967295 : Nat) = 2 ^ 32 - 1 from rfl, Nat.testBit_two_pow_sub_one]
  by_cases hi : i < 32
  · simp [hi]
  · have : c.testBit i = false := Nat.testBit_lt_two_pow (Nat.lt_of_lt_of_le h (show 2 ^ 32 ≤ 2 ^ i from Nat.pow_le_pow_right (by omega) (by omega)))
    simp [hi, this]

set_option maxRecDepth 100000 in
set_option maxHeartbeats 2000000 in
theorem sum_table (w : World) :
    Calls Tryz.prog 292 #[] w fun e w' => e = .returned (.agg (tabCells 256)) ∧ Below w.heap.size w w' := by
  obtain ⟨hz, hsz⟩ := zero_of_info tab_info
  go_enter Tryz.func292, Tryz.ntmps292
  go_wp2_with fail
  go_loopw [1, 2, 3] (fun _ _ i wr => ∃ k : Nat, k ≤ 256 ∧ i = .int .i64 k ∧ Blk wr w.heap.size 359 (tabCells k) ∧ Below w.heap.size w wr) (fun _ _ i _ => 256 - (intOf i).toNat)
  case atStart => exact ⟨0, by omega, rfl, Blk.new w _ _, (Below.refl _ _).alloc (Nat.le_refl _) _⟩
  case round =>
    obtain ⟨k, hk, rfl, hblk, hb⟩ := hrel
    by_cases hlt : k < 256
    · have hcell := (hblk.cell k).trans (tabCells_get k k hlt)
      have hfz := hblk.frozen k
      go_wp2_with fail
      go_loop [2, 8] (fun c i => ∃ j : Nat, j ≤ 8 ∧ i = .int .i64 j ∧ c = .int .u32 (Sp.crcSteps j k)) (fun _ i => 8 - (intOf i).toNat)
      case atStart => exact ⟨0, by omega, rfl, rfl⟩
      case round =>
        obtain ⟨j, hj, rfl, rfl⟩ := hrel
        have hc := Sp.crcSteps_lt (c := k) (by omega) j
        by_cases hlt2 : j < 8
        · have hst := Lib.hid (crcStep_cast _ hc)
          have hnx : Hid (Sp.crcSteps (j + 1) k = Sp.crcStep (Sp.crcSteps j k)) := rfl
          generalize Sp.crcSteps j k = c at *
          clear hcell hfz
          go_wp2_with fail
          go_round
          case rel => exact ⟨j + 1, by omega, by go_num, by rw [hnx.out, hst.out]⟩
          case measure => simp [intOf]; omega
        · obtain rfl : j = 8 := by omega
          have ht : Hid (Sp.crcSteps 8 k = Sp.crcTab k) := rfl
          generalize Sp.crcSteps 8 k = c at *
          go_wp2_with fail
          go_roundw
          case rel =>
            refine ⟨k + 1, by omega, by go_num, ?_, hb.setCell (Nat.le_refl _) _⟩
            rw [ht.out]
            rw [← tabCells_next k hlt]
            exact hblk.set_ _ _
          case measure => simp [intOf]; omega
    · obtain rfl : k = 256 := by omega
      have hsz2 : (Tryz.prog.info? 359).map (·.size) = some (tabCells 256).size := by rw [hsz, tabCells_size]
      have h1 : (tabCells 256).all (·.oneCell') = true := by
        rw [Array.all_eq_true_iff_forall_mem]
        intro v hv
        simp only [tabCells, List.mem_toArray, List.mem_map] at hv
        obtain ⟨_, _, rfl⟩ := hv
        rfl
      have HH := Lib.hid (And.intro hsz2 h1)
      clear hsz2 h1 hsz hz
      go_wp2_with (first
        | (refine wpList_load_row rfl 359 _ rfl w.heap.size rfl 359 (tabCells 256) (0, 0) _ hblk Tryz.underlying359 rfl HH.out.1 ?_)
        | (refine wpList_store_row rfl 359 _ _ rfl w.heap.size (tabCells 256) rfl rfl 359 (tabCells 256) hblk HH.out.1 rfl HH.out.2 ?_))
      refine bodyPost_ret (v := .agg (tabCells 256)) (results_cell_row rfl _ _ w.heap.size 359 _ (0, 0) _ rfl (hblk.setRow _) Tryz.underlying359 rfl HH.out.1) rfl ⟨rfl, below_setRow hb (Nat.le_refl _) _⟩

set_option maxRecDepth 100000 in
set_option maxHeartbeats 2000000 in
theorem sum_more (l : Sp.Bs) (w : World) (hl : l.length ≤ 1000000000) :
    Calls Tryz.prog 265 #[.int .u32 0, str l] w fun e w' => e = .returned (.int .u32 (Sp.crc l)) ∧ Below w.heap.size w w' := by
  obtain ⟨hz, hsz⟩ := zero_of_info tab_info
  have hsz2 : (Tryz.prog.info? 359).map (·.size) = some (tabCells 256).size := by rw [hsz, tabCells_size]
  have h1 : (tabCells 256).all (·.oneCell') = true := by
    rw [Array.all_eq_true_iff_forall_mem]
    intro v hv
    simp only [tabCells, List.mem_toArray, List.mem_map] at hv
    obtain ⟨_, _, rfl⟩ := hv
    rfl
  have HH := Lib.hid (And.intro hsz2 h1)
  clear hsz2 h1 hsz
  have hsize : ∀ k, (tabCells k).size = 256 := tabCells_size
  have HS := Lib.hid hsize
  clear hsize
  have hcv := conv_any (P := Tryz.prog) 9 102 5 l Tryz.underlying9 Tryz.underlying102 Tryz.underlying5
  go_enter Tryz.func265, Tryz.ntmps265
  go_wp2_with fail
  refine (sum_table w).mono ?_
  rintro e w1 ⟨rfl, hb1⟩
  go_wp2_with (refine wpList_store_row rfl 359 _ _ rfl w1.heap.size (tabCells 256) rfl rfl 359 (tabCells 0) (Blk.new w1 _ _) HH.out.1 (by rw [HS.out, HS.out]) HH.out.2 ?_)
  have hT : Blk ((w1.alloc (Obj.cells (tabCells 0) 359)).setRow w1.heap.size (tabCells 256)) w1.heap.size 359 (tabCells 256) := (Blk.new w1 _ _).setRow _
  have hb2 : Below w.heap.size w ((w1.alloc (Obj.cells (tabCells 0) 359)).setRow w1.heap.size (tabCells 256)) := below_setRow (hb1.alloc hb1.size _) hb1.size _
  have e1 : ((w1.alloc (Obj.cells (tabCells 0) 359)).setRow w1.heap.size (tabCells 256)).heap.size = w1.heap.size + 1 := by simp
  obtain ⟨hb3, hsz3, hnew, _⟩ := bytesW_facts ((w1.alloc (Obj.cells (tabCells 0) 359)).setRow w1.heap.size (tabCells 256)) 5 l
  rw [e1] at hsz3 hnew
  have hT3 := hT.below hb3 (by rw [e1]; omega)
  have hb4 : Below w.heap.size w (bytesW ((w1.alloc (Obj.cells (tabCells 0) 359)).setRow w1.heap.size (tabCells 256)) 5 l) := hb2.trans (hb3.mono hb2.size)
  clear hb3 hb2 hT hz hcv e1
  generalize bytesW ((w1.alloc (Obj.cells (tabCells 0) 359)).setRow w1.heap.size (tabCells 256)) 5 l = w3 at *
  generalize w1.heap.size = B at *
  clear hb1 hsz3
  go_loop [0, 7, 14] (fun c _ i => ∃ k : Nat, k ≤ l.length ∧ i = .int .i64 k ∧ c = .int .u32 (Sp.crcRun 4294967295 (l.take k))) (fun _ _ i => l.length - (intOf i).toNat)
  case atStart => exact ⟨0, by omega, rfl, rfl⟩
  case round =>
    obtain ⟨k, hk, rfl, rfl⟩ := hrel
    have hlt32 := Sp.crcRun_lt (c := 4294967295) (by omega) (l.take k)
    by_cases hlt : k < l.length
    · have hcell := hnew k hlt
      have hnx : Sp.crcRun 4294967295 (l.take (k + 1)) = Sp.crcByte (Sp.crcRun 4294967295 (l.take k)) l[k].toNat := by
        rw [List.take_succ_eq_append_getElem hlt, Sp.crcRun_snoc]
      have HX := Lib.hid hnx
      clear hnx hnew
      generalize Sp.crcRun 4294967295 (l.take k) = c at *
      have hx := l[k].toNat_lt
      obtain ⟨i, hi, he⟩ : ∃ i, i < 256 ∧ (c % 256) ^^^ l[k].toNat = i := ⟨_, Sp.xor_byte hx, rfl⟩
      have hxor : bits .xor .u8 ((c : Int) % 256) (l[k].toNat : Int) = (i : Int) := by
        rw [show (c : Int) % 256 = ((c % 256 : Nat) : Int) by omega, u8_xor_nat _ _ (by omega) hx, he]
      have hst : bits .xor .u32 ((Sp.crcTab i : Nat) : Int) ((c : Int) / 256) = ((Sp.crcByte c l[k].toNat : Nat) : Int) := by
        rw [show (c : Int) / 256 = ((c / 256 : Nat) : Int) by omega, u32_xor_nat _ _ (Sp.crcTab_lt hi) (by omega), Sp.crcByte, he]
      have HE := Lib.hid he
      have HT := Lib.hid hst
      clear he hst
      have hct := (hT3.cell i).trans (tabCells_get 256 i hi)
      rw [if_pos hi] at hct
      generalize Sp.crcTab i = tv at *
      go_wp2_with fail
      go_round
      case rel => exact ⟨k + 1, by omega, by go_num, by rw [HX.out, HT.out]⟩
      case measure => simp [intOf]; omega
    · obtain rfl : k = l.length := by omega
      have hN := Lib.hid (xor_ones _ hlt32)
      have he : Hid (Sp.crcRun 4294967295 (l.take l.length) = 4294967295 - Sp.crc l) := by
        have := Sp.crcRun_lt (c := 4294967295) (by omega) l
        show _ = _
        rw [List.take_length, Sp.crc]; omega
      have hlt3 := Sp.crc_lt l
      generalize Sp.crcRun 4294967295 (l.take l.length) = c at *
      clear hnew
      go_wp2_with fail
      go_ret
      refine ⟨?_, hb4⟩
      show Ending.returned (.int .u32 (bits .xor .u32 IntKind.u32.max (c : Int))) = _
      rw [hN.out, he.out]
      congr 3
      omega

set_option maxRecDepth 100000 in
set_option maxHeartbeats 2000000 in
theorem sum_of (l : Sp.Bs) (w : World) (hl : l.length ≤ 1000000000) :
    Calls Tryz.prog 210 #[str l] w fun e w' => e = .returned (.int .u32 (Sp.crc l)) ∧ Below w.heap.size w w' := by
  go_enter Tryz.func210, Tryz.ntmps210
  go_wp2_with fail
  refine (sum_more l w hl).mono ?_
  rintro e w1 ⟨rfl, hb1⟩
  go_wp2_with fail
  go_ret
  exact ⟨rfl, hb1⟩

set_option maxRecDepth 100000 in
set_option maxHeartbeats 2000000 in
theorem sum_seal (l : Sp.Bs) (w : World) (hl : l.length ≤ 1000000000) :
    Calls Tryz.prog 153 #[str l] w fun e w' => e = .returned (str (Sp.sealed l)) ∧ Below w.heap.size w w' := by
  go_enter Tryz.func153, Tryz.ntmps153
  go_wp2_with fail
  refine (sum_of l w hl).mono ?_
  rintro e w1 ⟨rfl, hb1⟩
  have hc := Sp.crc_lt l
  have hs : Hid (Sp.sealed l = l ++ [UInt8.ofNat (Sp.crc l), UInt8.ofNat (Sp.crc l / 256), UInt8.ofNat (Sp.crc l / 65536), UInt8.ofNat (Sp.crc l / 16777216)]) := rfl
  generalize Sp.crc l = c at *
  have hcb : (convert 102 9 (.slice (some ⟨w1.heap.size, 0, none⟩) 4 4)).run Tryz.prog (w1.alloc (.cells #[.int .u8 ((c : Int) % 256), .int .u8 ((c : Int) / 256 % 256), .int .u8 ((c : Int) / 65536 % 256), .int .u8 ((c : Int) / 16777216)] 5)) =
      .ok (str [UInt8.ofNat c, UInt8.ofNat (c / 256), UInt8.ofNat (c / 65536), UInt8.ofNat (c / 16777216)]) (w1.alloc (.cells #[.int .u8 ((c : Int) % 256), .int .u8 ((c : Int) / 256 % 256), .int .u8 ((c : Int) / 65536 % 256), .int .u8 ((c : Int) / 16777216)] 5)) := by
    refine run_bytes_back _ 102 9 5 w1.heap.size 0 4 4 _ Tryz.underlying102 Tryz.underlying5 Tryz.underlying9 rfl (fun j hj => ?_)
    rw [(Blk.new w1 _ _).cell]
    match j, hj with
    | 0, _ => simp
    | 1, _ => simp
    | 2, _ => simp
    | 3, _ => simp; omega
  go_wp2_with fail
  go_ret
  refine ⟨?_, hb1.alloc hb1.size _⟩
  show Ending.returned (.string (_ ++ _)) = _
  rw [str_append, hs.out]

set_option maxRecDepth 100000 in
set_option maxHeartbeats 2000000 in
/-- A sealed text is opened. -/
theorem sum_open_ok (l : Sp.Bs) (w : World) (hl : l.length ≤ 1000000000) :
    Calls Tryz.prog 165 #[str (Sp.sealed l)] w fun e w' => e = .returned (.tuple #[str l, .bool true]) ∧ Below w.heap.size w w' := by
  have hlen : (Sp.sealed l).length = l.length + 4 := Sp.sealed_length l
  have htk : Hid ((Sp.sealed l).take l.length = l) := by show _ = _; rw [Sp.sealed, List.take_left]
  have HS : Hid (∀ w, Calls Tryz.prog 153 #[str l] w fun e w' => e = .returned (str (Sp.sealed l)) ∧ Below w.heap.size w w') := fun w => sum_seal l w hl
  generalize hs : Sp.sealed l = s at *
  have HX := Lib.hid hs
  clear hs
  have hneq : ((⟨s.toArray⟩ : ByteArray).toList == (⟨s.toArray⟩ : ByteArray).toList) = true := by simp
  go_enter Tryz.func165, Tryz.ntmps165
  go_wp2_with fail
  have hex : (⟨s.toArray⟩ : ByteArray).extract 0 l.length = ⟨l.toArray⟩ := by rw [str_extract, Nat.sub_zero, List.drop_zero, htk.out]
  rw [hex]
  refine (HS.out w).mono ?_
  rintro e w1 ⟨rfl, hb1⟩
  go_wp2_with fail
  go_ret2
  exact ⟨rfl, hb1⟩
end Go.Proofs.YtclpmkinjjhncaaGreat

/- The walks of package page: Encode. -/
namespace Go.Proofs.YtclpmkinjjhncaaGreat
open Go.RowKit

/-- A page's bytes. -/
def pgBytes (p : Sp.Pg) : Sp.Bs := Sp.sealed p.body

theorem pgBytes_length {p : Sp.Pg} (h : p.may) : (pgBytes p).length = 512 := by rw [pgBytes, Sp.sealed_length, Sp.Pg.body_length h]

set_option maxRecDepth 100000 in
set_option maxHeartbeats 8000000 in
theorem page_encode {w : World} {G : Foot} {p : Sp.Pg} {A : Option Addr} {c : Nat} (hR : RowsAt G w A p.rows) (hw : p.wf) (hm : p.may) :
    Calls Tryz.prog 96 #[pgV p A c] w fun e w' => e = .returned (.tuple #[str (pgBytes p), .int .i64 0]) ∧ Below w.heap.size w w' := by
  have hfit := hm.2.2.2.2
  have hmay := fun W (h : RowsAt G W A p.rows) => page_may (w := W) (c := c) h (by omega) (by omega)
  rw [(mayB_iff p).2 hm] at hmay
  have HMY := Lib.hid hmay
  have HH0 : Hid (∀ (W : World) b rows, Blk W b 237 (pgCells p rows [] 0 false) → Calls Tryz.prog 150 #[.pointer (some ⟨b, 0, none⟩)] W fun e w' => e = .returned (.tuple #[]) ∧
      Blk w' b 237 (pgCells p rows p.head 0 false) ∧ Turns (only b) (only b) W w') := fun W b rows h => all_w hw h
  have HS := Lib.hid (fun W => sum_seal p.body W (by rw [Sp.Pg.body_length hm]; omega))
  have hpb : Hid (p.body = p.head ++ Sp.area 488 p.rows) := rfl
  have HE : Hid (pgBytes p = Sp.sealed p.body) := rfl
  have HR := Lib.hid hR
  clear hR hm hmay hw
  go_enter Tryz.func96, Tryz.ntmps96
  go_wp2_with fail
  refine (HMY.out _ (HR.out.below ((Below.refl _ w).alloc (Nat.le_refl _) _))).mono ?_
  rintro e w1 ⟨rfl, hb1⟩
  have hbx := (Blk.new w 50 #[.int .u8 p.kind, .int .u8 p.level, .int .u32 p.id, .int .u64 p.lsn, .int .u32 p.next, .slice A p.rows.length c]).below hb1 (by simp)
  have hbw : Below w.heap.size w w1 := ((Below.refl _ w).alloc (Nat.le_refl _) _).trans (hb1.mono (by simp))
  have hlt1 : w.heap.size < w1.heap.size := by have := hb1.size; simp at this; omega
  have x0 := hbx.cell 0
  have x1 := hbx.cell 1
  have x2 := hbx.cell 2
  have x3 := hbx.cell 3
  have x4 := hbx.cell 4
  have x5 := hbx.cell 5
  simp only [List.getElem?_toArray, List.getElem?_cons_succ, List.getElem?_cons_zero] at x0 x1 x2 x3 x4 x5
  have HX := Lib.hid hbx
  clear hbx
  go_wp2_with fail
  have hH := Blk.new w1 237 (pgCells p (.slice A p.rows.length c) [] 0 false)
  refine (HH0.out _ _ _ hH).mono ?_
  rintro e w2 ⟨rfl, hH2, ht2⟩
  have hbx2 := (HX.out.alloc _).turns ht2 (fun e => by have e : w.heap.size = w1.heap.size := e; omega)
  have hbw2 : Below w.heap.size w w2 := (hbw.alloc hbw.size _).trans (ht2.below (by simp; omega) (fun b hb => by rw [hb]; omega))
  have hs2 : w1.heap.size < w2.heap.size := by have := ht2.size; simp at this; omega
  clear x0 x1 x2 x3 x4 x5 hH hb1
  go_wp2_with fail
  refine (slot_new 488 w2 (by omega) (by omega)).mono ?_
  rintro e w3 ⟨g, h, rfl, hA3, hg, hh, hb3⟩
  have hbx3 := hbx2.below hb3 (by omega)
  have hH3 := hH2.below hb3 (by omega)
  have hbw3 : Below w.heap.size w w3 := hbw2.trans (hb3.mono hbw2.size)
  have x5 := hbx3.cell 5
  simp only [List.getElem?_toArray, List.getElem?_cons_succ, List.getElem?_cons_zero] at x5
  have HA3 := Lib.hid hA3
  have HH3 := Lib.hid hH3
  have hh1 : w1.heap.size ≠ h := by omega
  have hsz := hbw.size
  clear hA3 hH3 hH2 hbx2 hbx3 hb3 hbw2 hbw
  go_wp2_with fail
  go_loopw [7, 8, 9, 28] (fun _ _ _ i wr => ∃ k : Nat, k ≤ p.rows.length ∧ i = .int .i64 k ∧ AreaW wr g h (Sp.area 488 (p.rows.take k)) ∧ Turns (only h) (only h) w3 wr) (fun _ _ _ i _ => p.rows.length - (intOf i).toNat)
  case atStart => exact ⟨0, by omega, rfl, by simpa using HA3.out, Turns.refl _ _⟩
  case round =>
    obtain ⟨k, hk, rfl, hA, ht⟩ := hrel
    have hbr : Below w.heap.size w wr := hbw3.trans (ht.below hbw3.size (fun b hb => by rw [hb]; omega))
    by_cases hlt : k < p.rows.length
    · obtain ⟨b, o, rfl, _, _, hc⟩ := RowsAt.row (Reads.below HR.out hbr) hlt
      have hlen : (p.rows.take k).length = k := by simp; omega
      have hle := Sp.total_take_le p.rows (k + 1)
      rw [Sp.total_take_succ p.rows k hlt] at hle
      have hput := slot_put (size := 488) (rows := p.rows.take k) p.rows[k] hA (by rw [hlen]; omega) (by omega)
      rw [hlen, ← List.take_succ_eq_append_getElem hlt] at hput
      have HP := Lib.hid hput
      clear hput hlen hle hA
      generalize p.rows[k] = r at *
      go_wp2_with fail
      refine HP.out.mono ?_
      rintro e w4 ⟨rfl, hA4, ht4⟩
      have HA4 := Lib.hid hA4
      clear hA4
      go_wp2_with fail
      go_roundw
      case rel => exact ⟨k + 1, by omega, by go_num, HA4.out, ht.trans ht4⟩
      case measure => simp [intOf]; omega
    · obtain rfl : k = p.rows.length := by omega
      rw [List.take_length] at hA
      have hHr := HH3.out.turns ht hh1
      have h6 := hHr.cell 6
      simp only [pgCells, hdCells, List.getElem?_toArray, List.getElem?_cons_succ, List.getElem?_cons_zero] at h6
      have hltr := hHr.lt
      have HA := Lib.hid hA
      have l1 : p.head.length ≤ 20 := by rw [Sp.Pg.head_length]; omega
      have l2 : (Sp.area 488 p.rows).length ≤ 488 := by rw [Sp.area_length (by omega)]; omega
      have B9 : Hid (∀ W : World, (W.cell? ⟨w1.heap.size, 6, none⟩ = some (str p.head) ∧ Below wr.heap.size wr W) → Below wr.heap.size wr W) := fun _ h => h.2
      clear hA hHr x5
      go_wp2_with fail
      go_region_with (first
          | (go_at_call 154; refine (slot_bytes (HA.out.read.drewN 1)).mono ?_; rintro e w4 ⟨rfl, rfl⟩)
          | (go_at_call 153; rw [str_append, ← hpb.out]; refine (HS.out _).mono ?_; rintro e w5 ⟨rfl, hb⟩))
      all_goals
        go_wp2_with fail
        go_ret2
        refine ⟨?_, hbr.trans ((below_drewN' (Below.refl wr.heap.size wr) 1).trans hb |>.mono hbr.size)⟩
        rw [HE.out]
        rfl
end Go.Proofs.YtclpmkinjjhncaaGreat

/- The walks of package page: Decode, of a page's own bytes. -/
namespace Go.Proofs.YtclpmkinjjhncaaGreat
open Go.RowKit

theorem area_ok {size : Nat} {rows : List Sp.Bs} (h : 4 + 4 * rows.length + Sp.total rows ≤ size) (hs : size ≤ 4096) : AreaOk (Sp.area size rows) := by
  have hl := Sp.area_length h
  have hc : Sp.two (Sp.area size rows) 0 = rows.length := Sp.area_count (by omega)
  have hlow : Sp.two (Sp.area size rows) 2 = size - Sp.total rows := Sp.area_low (by omega)
  have hle : ∀ i, i < rows.length → Sp.total (rows.take (i + 1)) ≤ Sp.total rows := fun i _ => Sp.total_take_le rows (i + 1)
  have hlen : ∀ i (hi : i < rows.length), rows[i].length ≤ Sp.total rows := fun i hi => by
    have h1 := Sp.total_take_succ rows i hi
    have h2 := hle i hi
    omega
  refine ⟨by rw [hc, hlow]; omega, by rw [hlow, hl]; omega, fun i hi => ?_, fun i j hi hj => ?_⟩
  · rw [hc] at hi
    have h1 := Sp.total_take_succ rows i hi
    have h2 := hle i hi
    have h3 := hlen i hi
    rw [hlow, Sp.area_from hi (by omega), Sp.area_len hi (by omega), hl]
    omega
  · rw [hc] at hi
    have hj' : j < rows.length := by omega
    have h1 := Sp.total_take_succ rows i hi
    have h2 := hle i hi
    have h3 := hlen i hi
    have h4 := Sp.total_take_mono rows (show j + 1 ≤ i by omega)
    rw [Sp.area_from hi (by omega), Sp.area_len hi (by omega), Sp.area_from hj' (by omega), Sp.area_len hj' (by have := hlen j hj'; omega)]
    omega

theorem str_info : (Tryz.prog.info? 9).map (fun i => (i.zero, i.size, i.bytes)) = some (some (.string ByteArray.empty), 1, 16) := by kernel_rfl

/-- no row, or an address that is an element's. -/
def OkAddr (A : Option Addr) : Prop := A = none ∨ ∃ b o, A = some ⟨b, o, none⟩

/-- Owned rows, as rows that are read. -/
theorem own_rows {w : World} {base : Nat} {e : TypeId} {v : Value} {rows : List Sp.Bs} (h : w.ownsRow base e 1 v rows.length (rcs rows)) :
    ∃ A c, v = .slice A rows.length c ∧ OkAddr A ∧ RowsAt (fun b => base ≤ b) w A rows := by
  rcases h.2 with ⟨rfl, h0⟩ | ⟨g, cap, cur, rfl, hg, hh, h1, h2, h3, h4⟩
  · have : rows = [] := List.eq_nil_of_length_eq_zero h0
    subst this
    exact ⟨none, 0, rfl, .inl rfl, Reads.none_⟩
  · refine ⟨_, cap, rfl, .inr ⟨g, 0, rfl⟩, by simp, fun _ => ⟨g, 0, rfl, hg, ?_, fun j u hu => ?_⟩⟩
    · rcases Nat.lt_or_ge g w.heap.size with hlt | hge
      · exact hlt
      · rw [Array.getElem?_eq_none hge] at hh; cases hh
    · rw [Nat.zero_add, cell_of_row w g j cur e (0, 0) hh]
      rw [← h4] at hu
      have hj : j < (cur.toList.take (rows.length * 1)).length := (List.getElem?_eq_some_iff.1 hu).1
      rw [List.getElem?_take] at hu
      split at hu
      · simpa using hu
      · cases hu

theorem rcs_take_succ (rows : List Sp.Bs) (k : Nat) (h : k < rows.length) : rcs (rows.take (k + 1)) = rcs (rows.take k) ++ [str rows[k]] := by
  unfold rcs
  rw [List.take_succ_eq_append_getElem h, List.map_append]; rfl

theorem grown_set (w : World) (a : Addr) (u : Value) : w.grownBy (w.setCell a u) (some a.block) :=
  ⟨rfl, rfl, rfl, by simp [World.setCell], fun b _ hb => Below.heap_setCell w a u b (fun e => hb (congrArg some e))⟩

theorem six_set {w : World} {b : Nat} {t : TypeId} {c0 c1 c2 c3 c4 c5 : Value} (h : Blk w b t #[c0, c1, c2, c3, c4, c5]) (d0 d1 d2 d3 d4 d5 : Value) :
    ∃ w', (((((w.setCell ⟨b, 0, none⟩ d0).setCell ⟨b, 1, none⟩ d1).setCell ⟨b, 2, none⟩ d2).setCell ⟨b, 3, none⟩ d3).setCell ⟨b, 4, none⟩ d4).setCell ⟨b, 5, none⟩ d5 = w' ∧
      Blk w' b t #[d0, d1, d2, d3, d4, d5] ∧ Turns (only b) (only b) w w' ∧ ∀ k, k ≠ b → w'.heap[k]? = w.heap[k]? :=
  ⟨_, rfl, (((((h.set_ 0 d0).set_ 1 d1).set_ 2 d2).set_ 3 d3).set_ 4 d4).set_ 5 d5,
    ((((((Turns.refl (only b) w).setCell (.inl rfl) d0).setCell (.inl rfl) d1).setCell (.inl rfl) d2).setCell (.inl rfl) d3).setCell (.inl rfl) d4).setCell (.inl rfl) d5, fun k hk => by
      rw [Below.heap_setCell _ _ _ k hk, Below.heap_setCell _ _ _ k hk, Below.heap_setCell _ _ _ k hk, Below.heap_setCell _ _ _ k hk, Below.heap_setCell _ _ _ k hk, Below.heap_setCell _ _ _ k hk]⟩

theorem AreaR.turns {F F' : Foot} {w w' : World} {g h : Nat} {l : Sp.Bs} (hA : AreaR w g h l) (ht : Turns F F' w w') (hg : ¬ F g) (hh : ¬ F h) : AreaR w' g h l := by
  obtain ⟨⟨c, h1, hc⟩, h2, h3, h4, h5⟩ := hA
  refine ⟨⟨c, h1.turns ht hg, hc⟩, fun j hj => ?_, h3, h4, Nat.lt_of_lt_of_le h5 ht.size⟩
  rw [World.cell?_of_block (w := w) (w' := w') (a := ⟨h, 0 + j, none⟩) (ht.block h h5 hh)]
  exact h2 j hj

set_option maxRecDepth 100000 in
set_option maxHeartbeats 8000000 in
theorem page_decode {w : World} {p : Sp.Pg} (hw : p.wf) (hm : p.may) :
    Calls Tryz.prog 104 #[str (pgBytes p)] w fun e w' => ∃ A c, e = .returned (.tuple #[pgV p A c, .int .i64 0]) ∧ OkAddr A ∧ RowsAt (fun b => w.heap.size ≤ b) w' A p.rows ∧ Below w.heap.size w w' := by
  obtain ⟨i0, hi, hz0, hz1, hz2⟩ := info_parts str_info
  have hfit := hm.2.2.2.2
  have hal : (Sp.area 488 p.rows).length = 488 := Sp.area_length (by omega)
  have hO := Lib.hid (area_ok (size := 488) (rows := p.rows) (by omega) (by omega))
  have hbl := Sp.Pg.body_length hm
  have hpl := pgBytes_length hm
  have HO := Lib.hid fun W => sum_open_ok p.body W (by omega)
  have hseal : Sp.sealed p.body = pgBytes p := rfl
  rw [hseal] at HO
  have HAR := Lib.hid fun (W : World) b rows h => all_r (w := W) (b := b) (p := p) (rows := rows) (t := p.body) (rest := Sp.area 488 p.rows) hw rfl (by omega) h
  have HCUT := Lib.hid fun W => word_cut p.body 20 488 W (by omega) (by omega)
  have hcut : (p.body.drop 20).take 488 = Sp.area 488 p.rows := by
    have := Sp.take2_mid (x := p.head) (y := Sp.area 488 p.rows) (z := []) (k := 20) (n := 488) (by rw [Sp.Pg.head_length]) (by rw [hal])
    rwa [List.append_nil] at this
  rw [hcut] at HCUT
  have HENC := Lib.hid fun (W : World) G A c (h : RowsAt G W A p.rows) => page_encode (w := W) (c := c) h hw hm
  have hneq : ((⟨(pgBytes p).toArray⟩ : ByteArray).toList == (⟨(pgBytes p).toArray⟩ : ByteArray).toList) = true := by simp
  have d512 : (((pgBytes p).length : Int) == 512) = true := by rw [hpl]; rfl
  have HAL := Lib.hid hal
  have HBL := Lib.hid hbl
  clear hseal hcut hal hm hw
  have hlb : IntKind.i64.wrap ((p.body.length : Int) - 20) = 488 := by rw [hbl]; rfl
  clear hbl
  go_enter Tryz.func104, Tryz.ntmps104
  go_wp2_with fail
  refine (HO.out _).mono ?_
  rintro e w1 ⟨rfl, hb1⟩
  have hbx := (Blk.new w 50 #[.int .u8 0, .int .u8 0, .int .u32 0, .int .u64 0, .int .u32 0, .slice none 0 0]).below hb1 (by simp)
  have hbw := ((Below.refl _ w).alloc (Nat.le_refl _) (.cells #[.int .u8 0, .int .u8 0, .int .u32 0, .int .u64 0, .int .u32 0, .slice none 0 0] 50)).trans (hb1.mono (by simp))
  have hs1 : w.heap.size < w1.heap.size := by have := hb1.size; simp at this; omega
  have HX := Lib.hid hbx
  clear hbx hb1
  go_wp2_with fail
  refine (HAR.out _ _ _ (Blk.new w1 237 (rdCells p (.slice none 0 0) p.body 0))).mono ?_
  rintro e w2 ⟨rfl, hH2, ht2⟩
  have hX2 := (HX.out.alloc _).turns ht2 (fun e => by have e : w.heap.size = w1.heap.size := e; omega)
  have hbw2 : Below w.heap.size w w2 := (hbw.alloc hbw.size _).trans (ht2.below (by simp; omega) (fun b hb => by rw [hb]; omega))
  have hs2 : w1.heap.size < w2.heap.size := by have := ht2.size; simp at this; omega
  have h7 := hH2.cell 7
  have h8 := hH2.cell 8
  have h9 := hH2.cell 9
  have h6 := hH2.cell 6
  have h10 := hH2.cell 10
  simp only [pgCells, hdCells, List.getElem?_toArray, List.getElem?_cons_succ, List.getElem?_cons_zero] at h6 h7 h8 h9
  have HH := Lib.hid hH2
  have HX2 := Lib.hid hX2
  clear hH2 hX2 ht2 hbw HX
  go_wp2_with fail
  go_quiet ((go_at_call 166; exact quiet_left (HCUT.out _)))
  go_wp2_with fail
  refine (slot_load (Sp.area 488 p.rows) (w2.drewN nq) (by rw [HAL.out]; omega) (by rw [HAL.out]; omega) hO.out).mono ?_
  rintro e w3 ⟨g, h, rfl, hA3, hg, hh, hb3⟩
  have hbz : Below w2.heap.size w2 w3 := (below_drewN' (Below.refl w2.heap.size w2) nq).trans hb3
  have hg2 : w2.heap.size ≤ g := hg
  have hh2 : w2.heap.size ≤ h := hh
  have hs3 : w2.heap.size ≤ w3.heap.size := hbz.size
  have hbw3 : Below w.heap.size w w3 := hbw2.trans (hbz.mono hbw2.size)
  have hH3 := HH.out.below hbz (by omega)
  have hX3 := HX2.out.below hbz (by omega)
  have x4 := hH3.cell 8
  have x9 := hH3.cell 9
  simp only [pgCells, hdCells, List.getElem?_toArray, List.getElem?_cons_succ, List.getElem?_cons_zero] at x4 x9
  have HA3 := Lib.hid hA3
  have HH3 := Lib.hid hH3
  have HX3 := Lib.hid hX3
  have HTW := Lib.hid (Sp.area_count (size := 488) (rows := p.rows) (by omega))
  clear hA3 hH3 hX3 hg hh hb3 h6 h7 h8 h9 h10 HH HX2
  go_wp2_with fail
  refine (slot_len HA3.out).mono ?_
  rintro e w4 ⟨rfl, n4, rfl⟩
  rw [HTW.out]
  have HA4 := Lib.hid (HA3.out.drewN n4)
  have HH4 := Lib.hid (HH3.out.drewN n4)
  have HX4 := Lib.hid (HX3.out.drewN n4)
  have hbw4 := below_drewN' hbw3 n4
  have hs4 : w3.heap.size ≤ (w3.drewN n4).heap.size := Nat.le_refl _
  clear x4 x9 HA3 HH3 HX3 hbz hbw3 hbw2
  generalize w3.drewN n4 = w4 at *
  go_wp2_with fail
  go_loopw [10, 11, 12, 69] (fun _ _ _ i wr => ∃ (k : Nat) (v : Value), k ≤ p.rows.length ∧ i = .int .i64 k ∧ Blk wr w1.heap.size 237 (pgCells p v p.body 20 true) ∧ wr.ownsRow w4.heap.size 9 1 v k (rcs (p.rows.take k)) ∧ Turns (only w1.heap.size) (only w1.heap.size) w4 wr) (fun _ _ _ i _ => p.rows.length - (intOf i).toNat)
  case atStart => exact ⟨0, _, by omega, rfl, HH4.out, by simpa [rcs] using World.ownsRow_nil _ _ _ _, Turns.refl _ _⟩
  case round =>
    obtain ⟨k, v, hk, rfl, hB, hO1, ht⟩ := hrel
    have hlr := hB.lt
    have h5 := hB.cell 5
    simp only [pgCells, hdCells, List.getElem?_toArray, List.getElem?_cons_succ, List.getElem?_cons_zero] at h5
    have HAr := Lib.hid (HA4.out.turns ht (show ¬ g = w1.heap.size by omega) (show ¬ h = w1.heap.size by omega))
    have HB := Lib.hid hB
    have HO1 := Lib.hid hO1
    have hs5 := ht.size
    clear hB hO1
    by_cases hlt : k < p.rows.length
    · have hle := Sp.total_take_le p.rows (k + 1)
      have hle2 := Sp.total_take_succ p.rows k hlt
      have hll : p.rows[k].length < 65536 := by omega
      have hGet := slot_Get HAr.out k (488 - Sp.total (p.rows.take (k + 1))) p.rows[k].length (by rw [HTW.out]; exact hlt) (by rw [HAL.out]; omega) (Sp.area_from hlt (by omega)) (Sp.area_len hlt hll) (by rw [HAL.out]; omega)
      rw [Sp.area_text hlt (by omega)] at hGet
      have HG := Lib.hid hGet
      have HRC := Lib.hid (rcs_take_succ p.rows k hlt)
      clear hGet hle2 hle hll
      generalize p.rows[k] = r at *
      go_wp2_with fail
      refine HG.out.mono ?_
      rintro e w5 ⟨rfl, n5, rfl⟩
      have h5' : (wr.drewN n5).cell? ⟨w1.heap.size, 5, none⟩ = some v := h5
      have HO2 : Hid ((wr.drewN n5).ownsRow w4.heap.size 9 1 v k (rcs (p.rows.take k))) := Lib.hid HO1.out
      have HB2 := Lib.hid (HB.out.drewN n5)
      have ht5 := ht.drewN n5
      have hs5' : wr.heap.size ≤ (wr.drewN n5).heap.size := Nat.le_refl _
      clear h5 HG HO1 HB ht
      generalize wr.drewN n5 = w5 at *
      have g5 := ((HB2.out.alloc (.cells #[str r] 9)).cell 5)
      simp only [pgCells, hdCells, List.getElem?_toArray, List.getElem?_cons_succ, List.getElem?_cons_zero] at g5
      go_wp2_with (at_builtin; refine wpList_append_own _ rfl _ _ 26 rfl w4.heap.size 9 i0 (.string ByteArray.empty) 1 16 Tryz.underlying26 hi hz0 hz1 hz2 rfl (by decide) _ _ _ rfl (HO2.out.alloc _) ⟨w5.heap.size, 0, none⟩ 1 1 [str r] rfl rfl (cell_one_new _ _ _) (fun x hx => by simp at hx; subst hx; rfl) (by unfold maxLen; omega) (by omega) (by simp; omega) ?_)
      intro v' w6 hown hgrow hnil
      have hB6 := (HB2.out.alloc (.cells #[str r] 9)).grown hgrow (fun e => by have := (HO2.out.lt _ e.symm).1; omega)
      have ht6 := (ht5.alloc (.cells #[str r] 9)).grown hgrow (fun q hq => .inr (HO2.out.lt q hq).1)
      have f5 := hB6.frozen 5
      have f6 := hB6.cell 5
      simp only [pgCells, hdCells, List.getElem?_toArray, List.getElem?_cons_succ, List.getElem?_cons_zero] at f6
      obtain ⟨g6, c6, rfl⟩ : ∃ g6 c6, v' = .slice (some ⟨g6, 0, none⟩) (k + 1) c6 := by
        rcases hown.2 with ⟨_, h0⟩ | ⟨g6, c6, _, h0, _⟩
        · omega
        · exact ⟨g6, c6, h0⟩
      have HW := Lib.hid hown
      clear hnil hown hgrow
      have HB6 := Lib.hid hB6
      clear hB6 h5' g5 HB2 HO2
      go_wp2_with fail
      go_roundw
      case rel =>
        refine ⟨k + 1, _, by omega, by go_num, HB6.out.set_ 5 _, ?_, ht6.setCell (p := ⟨w1.heap.size, 5, none⟩) (.inl rfl) _⟩
        rw [HRC.out]
        exact HW.out.kept (grown_set _ ⟨w1.heap.size, 5, none⟩ _) (.inr (fun e => by
          have hq := (HW.out.lt g6 rfl).1
          injection e with e
          have e : g6 = w1.heap.size := e
          omega))
      case measure => simp [intOf]; omega
    · obtain rfl : k = p.rows.length := by omega
      rw [List.take_length] at HO1
      obtain ⟨A, c, rfl, hA, hR⟩ := own_rows HO1.out
      have HA := Lib.hid hA
      have HR := Lib.hid hR
      have y0 := HB.out.cell 0
      have y1 := HB.out.cell 1
      have y2 := HB.out.cell 2
      have y3 := HB.out.cell 3
      have y4 := HB.out.cell 4
      simp only [pgCells, hdCells, List.getElem?_toArray, List.getElem?_cons_succ, List.getElem?_cons_zero] at y0 y1 y2 y3 y4
      have hX := HX4.out.turns ht (show ¬ w.heap.size = w1.heap.size by omega)
      have hbwr : Below w.heap.size w wr := hbw4.trans (ht.below hbw4.size (fun b hb => by rw [hb]; omega))
      have HX := Lib.hid hX
      clear hR hX ht HO1 hA
      go_wp2_with fail
      refine (HENC.out wr _ A c HR.out).mono ?_
      rintro e w7 ⟨rfl, hb7⟩
      have hB7 := HB.out.below hb7 hlr
      have hX7 := HX.out.below hb7 (by omega)
      have hbw7 : Below w.heap.size w w7 := hbwr.trans (hb7.mono hbwr.size)
      have hs7 := hb7.size
      have hR7 := Lib.hid (HR.out.below hb7)
      have y0 := hB7.cell 0
      have y1 := hB7.cell 1
      have y2 := hB7.cell 2
      have y3 := hB7.cell 3
      have y4 := hB7.cell 4
      have y5 := hB7.cell 5
      simp only [pgCells, hdCells, List.getElem?_toArray, List.getElem?_cons_succ, List.getElem?_cons_zero] at y0 y1 y2 y3 y4 y5
      have z0 := hX7.cell 0
      have z1 := hX7.cell 1
      have z2 := hX7.cell 2
      have z3 := hX7.cell 3
      have z4 := hX7.cell 4
      have z5 := hX7.cell 5
      have f0 := hX7.frozen 0
      have f1 := hX7.frozen 1
      have f2 := hX7.frozen 2
      have f3 := hX7.frozen 3
      have f4 := hX7.frozen 4
      have f5 := hX7.frozen 5
      simp only [List.getElem?_toArray, List.getElem?_cons_succ, List.getElem?_cons_zero] at z0 z1 z2 z3 z4 z5
      have HX7 := Lib.hid hX7
      clear hB7 hX7 hb7 HB HX HR
      go_wp2_with fail
      obtain ⟨W8, hW8, hX8, ht8, hk8⟩ := six_set HX7.out (.int .u8 p.kind) (.int .u8 p.level) (.int .u32 p.id) (.int .u64 p.lsn) (.int .u32 p.next) (.slice A p.rows.length c)
      rw [hW8]
      have z0 := hX8.cell 0
      have z1 := hX8.cell 1
      have z2 := hX8.cell 2
      have z3 := hX8.cell 3
      have z4 := hX8.cell 4
      have z5 := hX8.cell 5
      simp only [List.getElem?_toArray, List.getElem?_cons_succ, List.getElem?_cons_zero] at z0 z1 z2 z3 z4 z5
      clear y0 y1 y2 y3 y4 y5 f0 f1 f2 f3 f4 f5
      refine bodyPost_ret (v := .tuple #[pgV p A c, .int .i64 0]) (by rw [results_cell_tmp rfl]; go_simp) rfl ⟨A, c, rfl, HA.out, ?_, ?_⟩
      · have hsz := hbw4.size
        exact (hR7.out.keep ht8.size (fun b hb => hk8 b (by have hb : w4.heap.size ≤ b := hb; omega))).mono (fun b hb => Nat.le_trans hsz hb)
      · exact hbw7.trans (ht8.below hbw7.size (fun b hb => by rw [hb]; exact Nat.le_refl _))
end Go.Proofs.YtclpmkinjjhncaaGreat

/- The walks of sum.Open and page.Decode of a text that is not sealed. -/
namespace Go.Proofs.YtclpmkinjjhncaaGreat
open Go.RowKit

set_option maxRecDepth 100000 in
set_option maxHeartbeats 2000000 in
/-- A text that bears not its sum is not opened. -/
theorem sum_open_bad (s : Sp.Bs) (w : World) (h4 : 4 ≤ s.length) (hl : s.length ≤ 1000000000) (hne : Sp.sealed (s.take (s.length - 4)) ≠ s) :
    Calls Tryz.prog 165 #[str s] w fun e w' => e = .returned (.tuple #[str [], .bool false]) ∧ Below w.heap.size w w' := by
  obtain ⟨n, hn⟩ : ∃ n, s.length = n + 4 := ⟨s.length - 4, by omega⟩
  have hn' : s.length - 4 = n := by omega
  rw [hn'] at hne
  have HS := Lib.hid fun w => sum_seal (s.take n) w (by simp; omega)
  have hneq : ((⟨(Sp.sealed (s.take n)).toArray⟩ : ByteArray).toList == (⟨s.toArray⟩ : ByteArray).toList) = false := by simpa using hne
  have hneq2 : (Sp.sealed (s.take n) == s) = false := by simpa using hne
  generalize hs : Sp.sealed (s.take n) = s' at *
  have HX := Lib.hid hs
  clear hs
  go_enter Tryz.func165, Tryz.ntmps165
  go_wp2_with fail
  have hex : (⟨s.toArray⟩ : ByteArray).extract 0 n = ⟨(s.take n).toArray⟩ := by rw [str_extract, Nat.sub_zero, List.drop_zero]
  rw [hex]
  refine (HS.out w).mono ?_
  rintro e w1 ⟨rfl, hb1⟩
  go_wp2_with fail
  go_ret2
  exact ⟨rfl, hb1⟩

set_option maxRecDepth 100000 in
set_option maxHeartbeats 2000000 in
/-- Such a text is no page. -/
theorem page_decode_bad (s : Sp.Bs) (w : World) (h4 : 4 ≤ s.length) (hl : s.length ≤ 1000000000) (hne : Sp.sealed (s.take (s.length - 4)) ≠ s) :
    Calls Tryz.prog 104 #[str s] w fun e w' => e = .returned (.tuple #[.agg #[.int .u8 0, .int .u8 0, .int .u32 0, .int .u64 0, .int .u32 0, .slice none 0 0], .int .i64 60]) ∧ Below w.heap.size w w' := by
  have HO := Lib.hid fun W => sum_open_bad s W h4 hl hne
  clear hne
  go_enter Tryz.func104, Tryz.ntmps104
  go_wp2_with fail
  refine (HO.out _).mono ?_
  rintro e w1 ⟨rfl, hb1⟩
  have hbx := (Blk.new w 50 #[.int .u8 0, .int .u8 0, .int .u32 0, .int .u64 0, .int .u32 0, .slice none 0 0]).below hb1 (by simp)
  have hbw := ((Below.refl _ w).alloc (Nat.le_refl _) (.cells #[.int .u8 0, .int .u8 0, .int .u32 0, .int .u64 0, .int .u32 0, .slice none 0 0] 50)).trans (hb1.mono (by simp))
  have z0 := hbx.cell 0
  have z1 := hbx.cell 1
  have z2 := hbx.cell 2
  have z3 := hbx.cell 3
  have z4 := hbx.cell 4
  have z5 := hbx.cell 5
  have f0 := hbx.frozen 0
  have f1 := hbx.frozen 1
  have f2 := hbx.frozen 2
  have f3 := hbx.frozen 3
  have f4 := hbx.frozen 4
  have f5 := hbx.frozen 5
  simp only [List.getElem?_toArray, List.getElem?_cons_succ, List.getElem?_cons_zero] at z0 z1 z2 z3 z4 z5
  have HX := Lib.hid hbx
  clear hbx hb1
  go_wp2_with fail
  obtain ⟨W8, hW8, hX8, ht8, hk8⟩ := six_set HX.out (.int .u8 0) (.int .u8 0) (.int .u32 0) (.int .u64 0) (.int .u32 0) (.slice none 0 0)
  rw [hW8]
  have z0 := hX8.cell 0
  have z1 := hX8.cell 1
  have z2 := hX8.cell 2
  have z3 := hX8.cell 3
  have z4 := hX8.cell 4
  have z5 := hX8.cell 5
  simp only [List.getElem?_toArray, List.getElem?_cons_succ, List.getElem?_cons_zero] at z0 z1 z2 z3 z4 z5
  refine bodyPost_ret (v := .tuple #[.agg #[.int .u8 0, .int .u8 0, .int .u32 0, .int .u64 0, .int .u32 0, .slice none 0 0], .int .i64 60]) (by rw [results_cell_tmp rfl]; go_simp) rfl ⟨rfl, hbw.trans (ht8.below hbw.size (fun b hb => by rw [hb]; exact Nat.le_refl _))⟩
end Go.Proofs.YtclpmkinjjhncaaGreat

/- Plain words on a disk of sectors: what a write, a sync, a read do. No program is named here. -/
namespace Go.Proofs.YtclpmkinjjhncaaGreat.Sp

structure Dk where
  sure : List Bs
  loose : List (Nat × Bs)
  fuse : Int

def lay (l : List (Nat × Bs)) (s : List Bs) : List Bs := l.foldl (fun s x => s.set x.1 x.2) s

@[simp] theorem lay_length : ∀ (l : List (Nat × Bs)) (s : List Bs), (lay l s).length = s.length
  | [], _ => rfl
  | x :: l, s => by rw [lay, List.foldl_cons, ← lay, lay_length l]; simp

theorem lay_append (a b : List (Nat × Bs)) (s : List Bs) : lay (a ++ b) s = lay b (lay a s) := by simp [lay]

structure Dk.wf (d : Dk) : Prop where
  some_ : 1 ≤ d.sure.length
  few : d.sure.length ≤ 16384
  sure : ∀ s ∈ d.sure, s.length = 128
  loose : ∀ x ∈ d.loose, x.1 < d.sure.length ∧ x.2.length = 128

/-- what a read sees. -/
def Dk.view (d : Dk) : List Bs := lay d.loose d.sure

theorem Dk.view_length (d : Dk) : d.view.length = d.sure.length := by simp [view]

theorem lay_all {l : List (Nat × Bs)} {s : List Bs} {n : Nat} (hs : ∀ x ∈ s, x.length = n) (hl : ∀ x ∈ l, x.2.length = n) : ∀ x ∈ lay l s, x.length = n := by
  induction l generalizing s with
  | nil => exact hs
  | cons y l ih =>
    rw [lay, List.foldl_cons, ← lay]
    refine ih (fun x hx => ?_) (fun x hx => hl x (by simp [hx]))
    rcases List.mem_or_eq_of_mem_set hx with h | h
    · exact hs x h
    · rw [h]; exact hl y (by simp)

theorem Dk.wf.view {d : Dk} (h : d.wf) : ∀ s ∈ d.view, s.length = 128 := lay_all h.sure (fun x hx => (h.loose x hx).2)

def burn (f : Int) : Int := if 0 < f then f - 1 else f

/-- a write that may be. -/
def Dk.put (d : Dk) (k : Nat) (s : Bs) : Dk := { d with loose := d.loose ++ [(k, s)], fuse := burn d.fuse }
def Dk.synced (d : Dk) : Dk := { sure := d.view, loose := [], fuse := burn d.fuse }

theorem Dk.put_wf {d : Dk} (h : d.wf) {k : Nat} {s : Bs} (hk : k < d.sure.length) (hs : s.length = 128) : (d.put k s).wf :=
  ⟨h.some_, h.few, h.sure, fun x hx => by
    rcases List.mem_append.1 hx with h' | h'
    · exact h.loose x h'
    · rw [List.mem_singleton.1 h']; exact ⟨hk, hs⟩⟩
theorem Dk.synced_wf {d : Dk} (h : d.wf) : d.synced.wf :=
  ⟨by simpa [synced, view] using h.some_, by simpa [synced, view] using h.few, h.view, fun x hx => by simp [synced] at hx⟩

@[simp] theorem Dk.put_view (d : Dk) (k : Nat) (s : Bs) : (d.put k s).view = d.view.set k s := by simp [put, view, lay]
@[simp] theorem Dk.synced_view (d : Dk) : d.synced.view = d.view := by simp [synced, view, lay]

/-- the last loose write of a sector, walked from behind. -/
theorem lay_getElem? (l : List (Nat × Bs)) (s : List Bs) (k : Nat) (h : ∀ x ∈ l, x.1 ≠ k) : (lay l s)[k]? = s[k]? := by
  induction l generalizing s with
  | nil => rfl
  | cons y l ih =>
    rw [lay, List.foldl_cons, ← lay, ih _ (fun x hx => h x (by simp [hx])), List.getElem?_set_ne (h y (by simp))]

theorem lay_last (a b : List (Nat × Bs)) (s : List Bs) (k : Nat) (x : Bs) (h : ∀ y ∈ b, y.1 ≠ k) (hk : k < s.length) : (lay (a ++ (k, x) :: b) s)[k]? = some x := by
  rw [lay_append, lay, List.foldl_cons, ← lay, lay_getElem? b _ k h, List.getElem?_set_self (by simpa using hk)]

end Go.Proofs.YtclpmkinjjhncaaGreat.Sp

/- The walks of package disk: none, may, burns. -/
namespace Go.Proofs.YtclpmkinjjhncaaGreat
open Go.RowKit

/-- The struct of a disk. -/
abbrev dkCells (A v : Value) (fuse : Int) : Array Value := #[A, v, .int .i64 fuse]

set_option maxRecDepth 100000 in
set_option maxHeartbeats 2000000 in
theorem disk_none {w : World} {g n c : Nat} {a : Addr} {v : Value} {fuse : Int} (hB : Blk w g 164 (dkCells (.slice (some a) n c) v fuse)) (hn : 1 ≤ n) :
    Calls Tryz.prog 90 #[.pointer (some ⟨g, 0, none⟩)] w fun e w' => e = .returned (.bool false) ∧ w' = w := by
  have c0 := hB.cell 0
  simp only [dkCells, List.getElem?_toArray, List.getElem?_cons_zero] at c0
  have d0 : ((n : Int) == 0) = false := by simp; omega
  have d1 : (n == 0) = false := by simp; omega
  clear hB
  go_enter Tryz.func90, Tryz.ntmps90
  go_wp2_with fail
  go_ret
  exact ⟨by simp_all, rfl⟩

theorem disk_none_nil (w : World) :
    Calls Tryz.prog 90 #[.pointer none] w fun e w' => e = .returned (.bool true) ∧ w' = w := by
  go_enter Tryz.func90, Tryz.ntmps90
  go_wp2_with fail
  go_ret
  exact ⟨rfl, rfl⟩

set_option maxRecDepth 100000 in
set_option maxHeartbeats 2000000 in
theorem disk_may {w : World} {g n c : Nat} {a : Addr} {v : Value} {fuse : Int} (hB : Blk w g 164 (dkCells (.slice (some a) n c) v fuse)) (hn : 1 ≤ n) (hf : fuse ≠ 0) :
    Calls Tryz.prog 134 #[.pointer (some ⟨g, 0, none⟩)] w fun e w' => e = .returned (.int .i64 0) ∧ w' = w := by
  have c2 := hB.cell 2
  simp only [dkCells, List.getElem?_toArray, List.getElem?_cons_succ, List.getElem?_cons_zero] at c2
  have d0 : (fuse == 0) = false := by simpa using hf
  have HN := Lib.hid (disk_none hB hn)
  clear hB
  go_enter Tryz.func134, Tryz.ntmps134
  go_wp2_with fail
  refine HN.out.mono ?_
  rintro e w1 ⟨rfl, rfl⟩
  go_wp2_with fail
  go_ret
  exact ⟨rfl, rfl⟩

set_option maxRecDepth 100000 in
set_option maxHeartbeats 2000000 in
theorem disk_may_down {w : World} {g n c : Nat} {a : Addr} {v : Value} (hB : Blk w g 164 (dkCells (.slice (some a) n c) v 0)) (hn : 1 ≤ n) :
    Calls Tryz.prog 134 #[.pointer (some ⟨g, 0, none⟩)] w fun e w' => e = .returned (.int .i64 40) ∧ w' = w := by
  have c2 := hB.cell 2
  simp only [dkCells, List.getElem?_toArray, List.getElem?_cons_succ, List.getElem?_cons_zero] at c2
  have HN := Lib.hid (disk_none hB hn)
  clear hB
  go_enter Tryz.func134, Tryz.ntmps134
  go_wp2_with fail
  refine HN.out.mono ?_
  rintro e w1 ⟨rfl, rfl⟩
  go_wp2_with fail
  go_ret
  exact ⟨rfl, rfl⟩

set_option maxRecDepth 100000 in
set_option maxHeartbeats 2000000 in
theorem disk_burns {w : World} {g : Nat} {A v : Value} {fuse : Int} (hB : Blk w g 164 (dkCells A v fuse)) (h1 : fuse ≤ 9223372036854775807) :
    Calls Tryz.prog 135 #[.pointer (some ⟨g, 0, none⟩)] w fun e w' => e = .returned (.tuple #[]) ∧
      Blk w' g 164 (dkCells A v (Sp.burn fuse)) ∧ Turns (only g) (only g) w w' := by
  have c2 := hB.cell 2
  have f2 := hB.frozen 2
  simp only [dkCells, List.getElem?_toArray, List.getElem?_cons_succ, List.getElem?_cons_zero] at c2
  have HB := Lib.hid hB
  clear hB
  by_cases hp : 0 < fuse
  · have d0 : decide (0 < fuse) = true := by simpa using hp
    have hw : IntKind.i64.wrap (fuse - 1) = fuse - 1 := IntWalk.i64_in _ (by omega)
    have hbn : Hid (Sp.burn fuse = fuse - 1) := Lib.hid (by simp [Sp.burn, hp])
    go_enter Tryz.func135, Tryz.ntmps135
    go_wp2_with fail
    go_end0
    refine ⟨rfl, ?_, (Turns.refl (only g) w).setCell (p := ⟨g, 2, none⟩) (.inl rfl) _⟩
    rw [hbn.out]
    exact HB.out.set_ 2 (.int .i64 (fuse - 1))
  · have d0 : decide (0 < fuse) = false := by simpa using hp
    have hbn : Hid (Sp.burn fuse = fuse) := Lib.hid (by simp [Sp.burn, hp])
    go_enter Tryz.func135, Tryz.ntmps135
    go_wp2_with fail
    go_end0
    refine ⟨rfl, ?_, Turns.refl (only g) w⟩
    rw [hbn.out]
    exact HB.out
end Go.Proofs.YtclpmkinjjhncaaGreat

/- The walks of package disk: a disk in memory; New, Len. -/
namespace Go.Proofs.YtclpmkinjjhncaaGreat
open Go.RowKit

/-- Sectors as cells. -/
def secs (l : List Sp.Bs) : List Value := (l.map bcs).flatten
/-- Loose writes as cells. -/
def loos (l : List (Nat × Sp.Bs)) : List Value := (l.map fun x => .int .i64 (x.1 : Int) :: bcs x.2).flatten

theorem flatten_length_all {α β : Type} (f : α → List β) (m : Nat) : ∀ (l : List α), (∀ x ∈ l, (f x).length = m) → ((l.map f).flatten).length = l.length * m
  | [], _ => by simp
  | x :: l, h => by
    rw [List.map_cons, List.flatten_cons, List.length_append, h x (by simp), flatten_length_all f m l (fun y hy => h y (by simp [hy])), List.length_cons, Nat.add_mul, Nat.one_mul, Nat.add_comm]

/-- A disk in memory: its struct in block g; F is all its blocks. -/
structure IsDk (F : Foot) (w : World) (g : Nat) (d : Sp.Dk) : Prop where
  wf : d.wf
  fuse : d.fuse ≤ 9223372036854775807
  mem : ∃ a v, Blk w g 164 (dkCells (.slice (some ⟨a, 0, none⟩) d.sure.length d.sure.length) v d.fuse) ∧ Blk w a 166 (secs d.sure).toArray ∧
    w.ownsRow 0 168 129 v d.loose.length (loos d.loose) ∧ ∀ b, F b ↔ b = g ∨ b = a ∨ v.ownBlock = some b

theorem madeCells_all {z : Array Value} {v : Value} {m : Nat} (hz : z = Array.replicate m v) (hm : 0 < m) (n : Nat) : madeCells z n = (List.replicate n v).toArray := by
  subst hz
  unfold madeCells
  apply Array.ext_getElem?
  intro j
  rcases Nat.lt_or_ge j n with hj | hj
  · have hlt := Nat.mod_lt j hm
    simp [hj, hlt]
  · rw [Array.getElem?_eq_none (by simpa using hj)]; simp; omega

theorem secs_zero (n : Nat) : secs (List.replicate n (Sp.zeros 128)) = List.replicate (n * 128) (.int .u8 0) := by
  have hb : bcs (Sp.zeros 128) = List.replicate 128 (.int .u8 0) := by simp [bcs, Sp.zeros]
  induction n with
  | zero => rfl
  | succ n ih =>
    rw [List.replicate_succ, secs, List.map_cons, List.flatten_cons, ← secs, ih, hb, List.replicate_append_replicate, Nat.add_mul, Nat.one_mul, Nat.add_comm]

theorem sec_info : (Tryz.prog.info? 166).map (fun i => (i.zero, i.size, i.bytes)) = some (some (.agg (Array.replicate 128 (.int .u8 0))), 128, 128) := by kernel_rfl

theorem sec_cells : (Value.agg (Array.replicate 128 (.int .u8 0))).cells = Array.replicate 128 (.int .u8 0) := by kernel_rfl

/-- A new disk. -/
def Sp.newDk (n : Nat) : Sp.Dk := ⟨List.replicate n (Sp.zeros 128), [], -1⟩

theorem Sp.newDk_wf {n : Nat} (h1 : 1 ≤ n) (h2 : n ≤ 16384) : (Sp.newDk n).wf :=
  ⟨by simpa [Sp.newDk] using h1, by simpa [Sp.newDk] using h2, fun s hs => by rw [(List.mem_replicate.1 hs).2]; simp [Sp.zeros], fun x hx => by simp [Sp.newDk] at hx⟩

set_option maxRecDepth 100000 in
set_option maxHeartbeats 2000000 in
theorem disk_new (n : Nat) (w : World) (h1 : 1 ≤ n) (h2 : n ≤ 16384) :
    Calls Tryz.prog 94 #[.int .i64 n] w fun e w' => ∃ g F, e = .returned (.tuple #[.pointer (some ⟨g, 0, none⟩), .int .i64 0]) ∧ IsDk F w' g (Sp.newDk n) ∧ Turns noFoot F w w' := by
  obtain ⟨i0, hi, hz0, hz1, hz2⟩ := info_parts sec_info
  have hmk : ∀ W, (Instr.makeSlice 161 (.int .i64 (n : Int)) (.int .i64 (n : Int))).run Tryz.prog W = .ok (.slice (some ⟨W.heap.size, 0, none⟩) n n) (W.alloc (.cells (secs (Sp.newDk n).sure).toArray 166)) := fun W => by
    have := run_make_rowN (P := Tryz.prog) 161 166 i0 (.agg (Array.replicate 128 (.int .u8 0))) Tryz.underlying161 hi hz0 .i64 .i64 n n (Nat.le_refl _) (by rw [hz2]; omega) (by omega) W
    rw [this, hz1, madeCells_all (m := 128) (v := .int .u8 0) sec_cells (by omega), ← secs_zero]
    rfl
  have d1 : decide ((n : Int) < 1) = false := by rw [decide_eq_false_iff_not]; omega
  have d2 : decide ((16384 : Int) < n) = false := by rw [decide_eq_false_iff_not]; omega
  clear hi hz0 hz1 hz2
  go_enter Tryz.func94, Tryz.ntmps94
  go_wp2_with fail
  go_ret2
  have hB := Blk.new (w.alloc (.cells (secs (Sp.newDk n).sure).toArray 166)) 164 (dkCells (.slice (some ⟨w.heap.size, 0, none⟩) n n) (.slice none 0 0) (-1))
  rw [World.size_alloc] at hB
  refine ⟨_, fun b => b = w.heap.size + 1 ∨ b = w.heap.size, rfl, ⟨Sp.newDk_wf h1 h2, by simp [Sp.newDk], w.heap.size, .slice none 0 0, ?_, (Blk.new w _ _).alloc _, World.ownsRow_nil _ _ _ _, ?_⟩, ?_⟩
  · rw [show (Sp.newDk n).sure.length = n by simp [Sp.newDk]]
    exact hB
  · intro b
    simp [Value.ownBlock]
  · have ht := ((Turns.refl noFoot w).alloc (.cells (secs (Sp.newDk n).sure).toArray 166)).alloc (.cells (dkCells (.slice (some ⟨w.heap.size, 0, none⟩) n n) (.slice none 0 0) (-1)) 164)
    exact ⟨ht.os, ht.tape, ht.output, ht.size, ht.block, fun b hb => .inr (by rcases hb with rfl | rfl <;> omega)⟩

theorem IsDk.below {F : Foot} {w w' : World} {g : Nat} {d : Sp.Dk} (h : IsDk F w g d) (hb : Below w.heap.size w w') : IsDk F w' g d := by
  obtain ⟨h1, h2, a, v, h3, h4, h5, h6⟩ := h
  refine ⟨h1, h2, a, v, h3.below hb h3.lt, h4.below hb h4.lt, ?_, h6⟩
  refine h5.kept (row := none) ⟨hb.os, hb.tape, hb.output, hb.size, fun k hk _ => hb.block k hk⟩ ?_
  cases v.ownBlock <;> simp

theorem IsDk.keep {F : Foot} {w w' : World} {g : Nat} {d : Sp.Dk} (h : IsDk F w g d) (hk : ∀ b, F b → w'.heap[b]? = w.heap[b]?) : IsDk F w' g d := by
  obtain ⟨h1, h2, a, v, h3, h4, h5, h6⟩ := h
  refine ⟨h1, h2, a, v, h3.keep (hk g ((h6 g).2 (.inl rfl))), h4.keep (hk a ((h6 a).2 (.inr (.inl rfl)))), ⟨h5.1, ?_⟩, h6⟩
  rcases h5.2 with h | ⟨b, cap, cur, rfl, hb, hh, rest⟩
  · exact .inl h
  · exact .inr ⟨b, cap, cur, rfl, hb, (hk b ((h6 b).2 (.inr (.inr rfl)))).trans hh, rest⟩

theorem IsDk.in_ {F : Foot} {w : World} {g : Nat} {d : Sp.Dk} (h : IsDk F w g d) : ∀ b, F b → b < w.heap.size := by
  obtain ⟨h1, h2, a, v, h3, h4, h5, h6⟩ := h
  intro b hb
  rcases (h6 b).1 hb with rfl | rfl | hb
  · exact h3.lt
  · exact h4.lt
  · exact (h5.lt b hb).2

set_option maxRecDepth 100000 in
set_option maxHeartbeats 2000000 in
theorem disk_len {F : Foot} {w : World} {g : Nat} {d : Sp.Dk} (h : IsDk F w g d) :
    Calls Tryz.prog 129 #[.pointer (some ⟨g, 0, none⟩)] w fun e w' => e = .returned (.int .i64 d.sure.length) ∧ w' = w := by
  obtain ⟨h1, h2, a, v, h3, h4, h5, h6⟩ := h
  have c0 := h3.cell 0
  simp only [dkCells, List.getElem?_toArray, List.getElem?_cons_zero] at c0
  have HN := Lib.hid (disk_none h3 h1.some_)
  clear h1 h2 h3 h4 h5 h6
  go_enter Tryz.func129, Tryz.ntmps129
  go_wp2_with fail
  refine HN.out.mono ?_
  rintro e w1 ⟨rfl, rfl⟩
  go_wp2_with fail
  go_ret
  exact ⟨rfl, rfl⟩
end Go.Proofs.YtclpmkinjjhncaaGreat

/- Loads and stores of arrays and structs that are part of a row. No program is named here. -/
namespace Go.Proofs.YtclpmkinjjhncaaGreat
open Go.RowKit

section
variable {P : Program}
theorem run_loadVar_part (w : World) (a : Addr) (ty : TypeId) (cs : List Value) (d : TypeDesc) (hc : ∀ j v, cs[j]? = some v → w.cell? (a.add j) = some v)
    (hu : P.underlying ty = some d) (hd : (match d with | .struct _ | .array _ _ => true | _ => false) = true) (hi : (P.info? ty).map (·.size) = some cs.length) :
    (loadVar ty a).run P w = .ok (.agg cs.toArray) w := by
  have hl := run_loadCells_list (P := P) w a cs hc
  cases hq : P.info? ty with
  | none => simp [hq] at hi
  | some i =>
    have hs : i.size = cs.length := by simpa [hq] using hi
    have hagg : (isAgg ty).run P w = .ok true w := by
      unfold isAgg
      rw [Sem.run_bind, run_underlying hu w]
      cases d <;> simp_all
    simp [loadVar, Sem.run_bind, hagg, sizeOf, typeInfo, hq, hs, hl]

theorem wpList_load_part {ops : Array Oper} {rest : List Oper} {o : Oper} {a : Act} {w : World} {Q : Exit → Act → World → Prop} (hgd : o.guard = none) (ty : TypeId) (x : Operand) (ho : o.op = .load ty x)
    (p : Addr) (hx : a.eval x = .pointer (some p)) (cs : List Value) (d : TypeDesc) (hc : ∀ j v, cs[j]? = some v → w.cell? (p.add j) = some v)
    (hu : P.underlying ty = some d) (hd : (match d with | .struct _ | .array _ _ => true | _ => false) = true) (hi : (P.info? ty).map (·.size) = some cs.length)
    (h : wpList P ops Q rest (a.put o.dst (.agg cs.toArray)) w) : wpList P ops Q (o :: rest) a w :=
  wpList_plain hgd fun K hK => by
    unfold Oper.wp execOp
    simp only [ho, hx, Instr.loadAt, Instr.sureAddr, Sem.run_bind, Sem.run_pure, Result.andThen_ok, run_loadVar_part w p ty cs d hc hu hd hi]
    exact hK _ _ h

/-- A row of which the cells from o on are turned. -/
def partRow (old : Array Value) (o : Nat) (cells : List Value) : Array Value := (old.toList.take o ++ cells ++ old.toList.drop (o + cells.length)).toArray

theorem run_storeVar_part (w : World) (g o : Nat) (t ty : TypeId) (old cells : Array Value) (hg : w.heap[g]? = some (.cells old t (0, 0))) (hi : (P.info? ty).map (·.size) = some cells.size)
    (ho : o + cells.size ≤ old.size) (h1 : cells.all (·.oneCell') = true) :
    (storeVar ty ⟨g, o, none⟩ (.agg cells)).run P w = .ok () (w.setRow g (partRow old o cells.toList)) := by
  have hst := run_storeCells_at P g o t cells.toList 0 old w hg (by simpa using ho) (fun v hv => (Array.all_eq_true_iff_forall_mem.1 h1) v (by simpa using hv))
  simp only [Nat.add_zero] at hst
  cases hq : P.info? ty with
  | none => simp [hq] at hi
  | some i =>
    have hs : cells.size = i.size := by simp [hq] at hi; omega
    simp [storeVar, sizeOf, typeInfo, hq, Value.cells, hs, hst, partRow]

theorem wpList_store_part {ops : Array Oper} {rest : List Oper} {o : Oper} {a : Act} {w : World} {Q : Exit → Act → World → Prop} (hgd : o.guard = none) (ty : TypeId) (x y : Operand) (ho : o.op = .store ty x y)
    (g k : Nat) (cells : Array Value) (hx : a.eval x = .pointer (some ⟨g, k, none⟩)) (hy : a.eval y = .agg cells)
    (t : TypeId) (old : Array Value) (hg : w.heap[g]? = some (.cells old t (0, 0))) (hi : (P.info? ty).map (·.size) = some cells.size)
    (hold : k + cells.size ≤ old.size) (h1 : cells.all (·.oneCell') = true)
    (h : wpList P ops Q rest (a.put o.dst undef) (w.setRow g (partRow old k cells.toList))) : wpList P ops Q (o :: rest) a w :=
  wpList_plain hgd fun K hK => by
    unfold Oper.wp execOp
    simp only [ho, hx, hy, Instr.storeAt, Instr.sureAddr, Sem.run_bind, Sem.run_pure, Result.andThen_ok, run_storeVar_part w g k t ty old cells hg hi hold h1]
    exact hK _ _ h
end
end Go.Proofs.YtclpmkinjjhncaaGreat

/- A region that draws its order, step by step: laws in a form that is met by hand. A condition S on the world holds meanwhile, but behind the operations of X (stores, that wait for all that leans on S). No program is named here. -/
namespace Go.Proofs.YtclpmkinjjhncaaGreat
open Go.RowKit

section
variable {P : Program} {ops : Array Oper} {Q : Exit → Act → World → Prop} {md : Region.Mode} {S : World → Prop} {X : Nat → Bool}

def wpAnyL (P : Program) (md : Region.Mode) (ops : Array Oper) (Q : Exit → Act → World → Prop) (S : World → Prop) (X : Nat → Bool) : Nat → Array Bool → Act → World → Prop
  | 0, listed, a, w => Region.ready md ops listed = [] ∧ Q .normal a w
  | fuel + 1, listed, a, w =>
    (Region.ready md ops listed = [] → Q .normal a w) ∧
    ∀ i ∈ Region.ready md ops listed, wpOp P ops Q i (fun a' w' => (X i = false → S w') ∧ wpAnyL P md ops Q S X fuel (listed.setIfInBounds i true) a' w') a w

theorem wpAny_of_L : ∀ (fuel : Nat) (listed : Array Bool) (a : Act) (w : World), wpAnyL P md ops Q S X fuel listed a w → wpAny P md ops Q fuel listed a w
  | 0, _, _, _, h => h
  | fuel + 1, _, _, _, h => ⟨h.1, fun i hi => wpOp_mono (fun a' w' h' => wpAny_of_L fuel _ a' w' h'.2) (h.2 i hi)⟩

theorem wpAnyL_first {i : Nat} {oi : Oper} {v : Value} (hi : ops[i]? = some oi) (hsel : ∀ (j : Nat) (o : Oper) cs b, ops[j]? = some o → o.op ≠ .select cs b)
    (hQ : ∀ c a w, Q (.panic c) (a.put oi.dst v) w → Q (.panic c) a w) (hXi : X i = false)
    (hX : ∀ j oj, ops[j]? = some oj → X j = true → ∃ e ∈ oj.after, Region.binds md e = true ∧ e.on = i) :
    ∀ (fuel : Nat) (listed : Array Bool) (a : Act) (w : World),
      (∀ j oj, ops[j]? = some oj → j ≠ i → listed.getD j true = false → (∀ e ∈ oj.after, Region.binds md e = true → e.on ≠ i) → oi.apart ops oj = true) →
      i ∈ Region.ready md ops listed → YieldsIf P ops S oi v a → S w →
      wpAnyL P md ops Q S X fuel (listed.setIfInBounds i true) (a.put oi.dst v) w → wpAnyL P md ops Q S X (fuel + 1) listed a w := by
  intro fuel
  induction fuel with
  | zero =>
    intro listed a w _ hr hy hS H
    refine ⟨fun h => (by rw [h] at hr; cases hr), fun j hj => ?_⟩
    by_cases hji : j = i
    · subst hji; exact hy.wpOp hi hS ⟨fun _ => hS, H⟩
    · have := ready_mono hj hji
      rw [H.1] at this
      cases this
  | succ fuel ih =>
    intro listed a w hfree hr hy hS H
    refine ⟨fun h => (by rw [h] at hr; cases hr), fun j hj => ?_⟩
    by_cases hji : j = i
    · subst hji; exact hy.wpOp hi hS ⟨fun _ => hS, H⟩
    · have h1 := H.2 j (ready_mono hj hji)
      obtain ⟨hjun, oj, hoj, hall⟩ := mem_ready.1 hj
      have hnot : ∀ e ∈ oj.after, Region.binds md e = true → e.on ≠ i := fun e he hb heq => by
        have h1 := hall e he hb
        have h0 := (mem_ready.1 hr).1
        rw [heq] at h1
        rcases Nat.lt_or_ge i listed.size with h' | h'
        · simp [h'] at h0 h1; rw [h0] at h1; cases h1
        · simp [Array.getElem?_eq_none h'] at h1
      have hXj : X j = false := by
        cases hx : X j with
        | false => rfl
        | true =>
          obtain ⟨e, he, hb, hon⟩ := hX j oj hoj hx
          exact absurd hon (hnot e he hb)
      have h2 := wpOp_putIf hoj (hfree j oj hoj hji hjun hnot) (fun cs b => hsel i oi cs b hi) (fun cs b => hsel j oj cs b hoj) hQ hy h1
      have hfree' : ∀ k ok, ops[k]? = some ok → k ≠ i → (listed.setIfInBounds j true).getD k true = false →
          (∀ e ∈ ok.after, Region.binds md e = true → e.on ≠ i) → oi.apart ops ok = true := fun k ok hk hki hun hno => by
        refine hfree k ok hk hki ?_ hno
        by_cases hjk : j = k
        · subst hjk; exact hjun
        · rw [getD_set_ne true hjk] at hun; exact hun
      refine wpOp_mono (fun a' w' h3 => ⟨h3.2.1, ih (listed.setIfInBounds j true) a' w' hfree' (ready_mono hr (Ne.symm hji)) h3.1 (h3.2.1 hXj) ?_⟩) h2
      rw [Array.setIfInBounds_comm _ _ hji]
      exact h3.2.2

/-- all of X wait for i. -/
def allWait (md : Region.Mode) (ops : Array Oper) (X : Nat → Bool) (i : Nat) : Bool :=
  !X i && (List.range ops.size).all fun j => !X j || (match ops[j]? with | some o => o.after.any fun e => Region.binds md e && e.on == i | none => true)

theorem allWait_spec {i : Nat} (h : allWait md ops X i = true) : X i = false ∧ ∀ j oj, ops[j]? = some oj → X j = true → ∃ e ∈ oj.after, Region.binds md e = true ∧ e.on = i := by
  unfold allWait at h
  rw [Bool.and_eq_true, List.all_eq_true] at h
  refine ⟨by simpa using h.1, fun j oj hj hx => ?_⟩
  have hlt : j < ops.size := (Array.getElem?_eq_some_iff.1 hj).1
  have h2 := h.2 j (List.mem_range.2 hlt)
  simp only [hx, hj, Bool.not_true, Bool.false_or] at h2
  obtain ⟨e, he, hb⟩ := Array.any_eq_true'.1 h2
  rw [Bool.and_eq_true] at hb
  exact ⟨e, he, hb.1, by simpa using hb.2⟩

/-- The beginning. -/
theorem R_begin (S : World → Prop) (X : Nat → Bool) {id : Nat} {a : Act} {w : World} (hm : P.follows .mixedOrders = true)
    (h : wpAnyL P .any ops Q S X ops.size (Array.replicate ops.size false) a w.drew) : (Code.region id ops true).wp P Q a w :=
  wp_region_any hm (wpAny_of_L _ _ _ _ h)

/-- An operation that yields its value in every world that meets S is taken first. -/
theorem R_take (i : Nat) (t : Tmp) {v : Value} {oi : Oper} {fuel : Nat} {listed : Array Bool} {a : Act} {w : World} (hi : ops[i]? = some oi) (hd : oi.dst = some t)
    (hw : Region.wanted oi (yielded ops a.tmps) = true)
    (hb : (Region.noSelect ops && Region.free md ops listed i && (Region.ready md ops listed).contains i && allWait md ops X i) = true)
    (hQ : ∀ c a w, Q (.panic c) (a.put (some t) v) w → Q (.panic c) a w) (hS : S w) (hy : ∀ w, S w → (execOp a.eval oi).run P w = .ok (.value v) w)
    (h : wpAnyL P md ops Q S X fuel (listed.setIfInBounds i true) { tmps := a.tmps.setIfInBounds t v, defers := a.defers } w) : wpAnyL P md ops Q S X (fuel + 1) listed a w := by
  simp only [Bool.and_eq_true] at hb
  obtain ⟨⟨⟨hs, hf⟩, hr⟩, hx⟩ := hb
  exact wpAnyL_first hi (Region.noSelect_spec hs) (by rw [hd]; exact hQ) (allWait_spec hx).1 (allWait_spec hx).2 fuel listed a w (Region.free_spec hi hf) (by simpa using hr) (.inl ⟨hw, hy⟩) hS (by rw [hd]; exact h)

/-- An operation that is not wanted (its guard is false). -/
theorem R_skip (i : Nat) (t : Tmp) {oi : Oper} {fuel : Nat} {listed : Array Bool} {a : Act} {w : World} (hi : ops[i]? = some oi) (hd : oi.dst = some t)
    (hw : Region.wanted oi (yielded ops a.tmps) = false)
    (hb : (Region.noSelect ops && Region.free md ops listed i && (Region.ready md ops listed).contains i && allWait md ops X i) = true)
    (hQ : ∀ c a w, Q (.panic c) (a.put (some t) undef) w → Q (.panic c) a w) (hS : S w)
    (h : wpAnyL P md ops Q S X fuel (listed.setIfInBounds i true) { tmps := a.tmps.setIfInBounds t undef, defers := a.defers } w) : wpAnyL P md ops Q S X (fuel + 1) listed a w := by
  simp only [Bool.and_eq_true] at hb
  obtain ⟨⟨⟨hs, hf⟩, hr⟩, hx⟩ := hb
  exact wpAnyL_first hi (Region.noSelect_spec hs) (by rw [hd]; exact hQ) (allWait_spec hx).1 (allWait_spec hx).2 fuel listed a w (Region.free_spec hi hf) (by simpa using hr) (.inr ⟨hw, rfl⟩) hS (by rw [hd]; exact h)

/-- The one operation that may come up now: by a law. -/
theorem R_step (i : Nat) {oi : Oper} {fuel : Nat} {listed : Array Bool} {a : Act} {w : World} (hi : ops[i]? = some oi)
    (hw : Region.wanted oi (yielded ops a.tmps) = true) (hr : Region.ready md ops listed = [i])
    (h : Oper.wp P oi a w (fun a' w' => (X i = false → S w') ∧ wpAnyL P md ops Q S X fuel (listed.setIfInBounds i true) a' w') Q) : wpAnyL P md ops Q S X (fuel + 1) listed a w :=
  ⟨fun h0 => absurd (hr ▸ h0) (by simp), by
    rw [hr]
    intro j hj
    rw [List.mem_singleton.1 hj]
    unfold wpOp
    simp only [hi]
    rw [if_pos hw]
    exact .inl h⟩

/-- Any of those that may come up now. -/
theorem R_all {rs : List Nat} {fuel : Nat} {listed : Array Bool} {a : Act} {w : World} (hr : Region.ready md ops listed = rs) (hne : rs ≠ [])
    (h : ∀ i ∈ rs, wpOp P ops Q i (fun a' w' => (X i = false → S w') ∧ wpAnyL P md ops Q S X fuel (listed.setIfInBounds i true) a' w') a w) : wpAnyL P md ops Q S X (fuel + 1) listed a w :=
  ⟨fun h0 => absurd (hr ▸ h0) hne, by rw [hr]; exact h⟩

/-- One of them that yields a value. -/
theorem op_run {i : Nat} (t : Tmp) {v : Value} {oi : Oper} {a : Act} {w w' : World} {K : Act → World → Prop} (hi : ops[i]? = some oi) (hd : oi.dst = some t)
    (hw : Region.wanted oi (yielded ops a.tmps) = true) (hy : (execOp a.eval oi).run P w = .ok (.value v) w') (h : K { tmps := a.tmps.setIfInBounds t v, defers := a.defers } w') : wpOp P ops Q i K a w := by
  unfold wpOp
  simp only [hi]
  rw [if_pos hw]
  refine .inl ?_
  unfold Oper.wp
  rw [hy]
  show K (a.put oi.dst v) w'
  rw [hd]
  exact h

theorem R_listed {fuel : Nat} {l1 l2 : Array Bool} {a : Act} {w : World} (e : l1 = l2) (h : wpAnyL P md ops Q S X fuel l2 a w) : wpAnyL P md ops Q S X fuel l1 a w := e ▸ h

/-- The same, where it yields a value. -/
theorem R_run (i : Nat) (t : Tmp) {v : Value} {oi : Oper} {fuel : Nat} {listed : Array Bool} {a : Act} {w w' : World} (hi : ops[i]? = some oi) (hd : oi.dst = some t)
    (hw : Region.wanted oi (yielded ops a.tmps) = true) (hr : Region.ready md ops listed = [i])
    (hy : (execOp a.eval oi).run P w = .ok (.value v) w') (hS : X i = false → S w')
    (h : wpAnyL P md ops Q S X fuel (listed.setIfInBounds i true) { tmps := a.tmps.setIfInBounds t v, defers := a.defers } w') : wpAnyL P md ops Q S X (fuel + 1) listed a w :=
  R_step i hi hw hr (by unfold Oper.wp; rw [hy]; exact ⟨hS, by rw [hd]; exact h⟩)

theorem R_put (t : Tmp) {d : Option Tmp} {v : Value} {fuel : Nat} {listed : Array Bool} {a : Act} {w : World} (hd : d = some t)
    (h : wpAnyL P md ops Q S X fuel listed { tmps := a.tmps.setIfInBounds t v, defers := a.defers } w) : wpAnyL P md ops Q S X fuel listed (a.put d v) w := by subst hd; exact h

/-- A store. -/
theorem R_store (i : Nat) {oi : Oper} {fuel : Nat} {listed : Array Bool} {a : Act} {w w' : World} {n : Next} (hi : ops[i]? = some oi) (hd : oi.dst = none)
    (hw : Region.wanted oi (yielded ops a.tmps) = true) (hr : Region.ready md ops listed = [i])
    (hy : (execOp a.eval oi).run P w = .ok n w') (hn : n = .skip ∨ ∃ v, n = .value v) (hS : X i = false → S w')
    (h : wpAnyL P md ops Q S X fuel (listed.setIfInBounds i true) a w') : wpAnyL P md ops Q S X (fuel + 1) listed a w :=
  R_step i hi hw hr (by
    unfold Oper.wp
    rw [hy]
    rcases hn with rfl | ⟨v, rfl⟩
    · exact ⟨hS, by rw [hd]; exact h⟩
    · exact ⟨hS, by rw [hd]; exact h⟩)

/-- A call of a Go function. -/
theorem R_call (i : Nat) (t : Tmp) {f : FuncId} {args : Array Value} {R : Ending → World → Prop} {oi : Oper} {fuel : Nat} {listed : Array Bool} {a : Act} {w w' : World} (hi : ops[i]? = some oi) (hd : oi.dst = some t)
    (hw : Region.wanted oi (yielded ops a.tmps) = true) (hr : Region.ready md ops listed = [i])
    (hy : (execOp a.eval oi).run P w = .ok (.enter f args) w') (hc : Calls P f args w' R)
    (h : ∀ e w'', R e w'' → ∃ v, e = .returned v ∧ (X i = false → S w'') ∧ wpAnyL P md ops Q S X fuel (listed.setIfInBounds i true) { tmps := a.tmps.setIfInBounds t v, defers := a.defers } w'') : wpAnyL P md ops Q S X (fuel + 1) listed a w :=
  R_step i hi hw hr (by
    unfold Oper.wp
    rw [hy]
    refine hc.mono fun e w'' hR => ?_
    obtain ⟨v, rfl, h1, h2⟩ := h e w'' hR
    exact ⟨h1, by rw [hd]; exact h2⟩)

theorem R_done {listed : Array Bool} {a : Act} {w : World} (hr : Region.ready md ops listed = []) (h : Q .normal a w) :
    ∀ fuel, wpAnyL P md ops Q S X fuel listed a w
  | 0 => ⟨hr, h⟩
  | _ + 1 => ⟨fun _ => h, by rw [hr]; simp⟩
end

/-- An operation that yields a value, met by its slot. -/
theorem wpList_run {P : Program} {ops : Array Oper} {Q : Exit → Act → World → Prop} (t : Tmp) {v : Value} {o : Oper} {rest : List Oper} {a : Act} {w w' : World} (hd : o.dst = some t) (hgd : o.guard = none)
    (h : (execOp a.eval o).run P w = .ok (.value v) w') (k : wpList P ops Q rest { tmps := a.tmps.setIfInBounds t v, defers := a.defers } w') : wpList P ops Q (o :: rest) a w :=
  wpList_plain hgd fun K hK => by
    unfold Oper.wp
    rw [h]
    refine hK _ _ ?_
    rw [hd]
    exact k
theorem wpList_skip {P : Program} {ops : Array Oper} {Q : Exit → Act → World → Prop} {o : Oper} {rest : List Oper} {a : Act} {w w' : World} (hd : o.dst = none) (hgd : o.guard = none)
    (h : (execOp a.eval o).run P w = .ok .skip w') (k : wpList P ops Q rest a w') : wpList P ops Q (o :: rest) a w :=
  wpList_plain hgd fun K hK => by
    unfold Oper.wp
    rw [h]
    refine hK _ _ ?_
    rw [hd]
    exact k
theorem run_op_slice {P : Program} {o : Oper} {a : Act} {w w' : World} {v x : Value} {lo hi : Option Value} (t : TypeId) (x' : Operand) (l' h' : Option Operand) (ho : o.op = .slice t x' l' h' none) (hx : a.eval x' = x) (hl : l'.map a.eval = lo) (hh : h'.map a.eval = hi)
    (h : (Instr.sliceAt t x lo hi none).run P w = .ok v w') : (execOp a.eval o).run P w = .ok (.value v) w' := by
  subst hx hl hh
  unfold execOp
  simp only [ho, Sem.run_bind, Option.map_none, h, Result.andThen_ok, Sem.run_pure]
theorem run_op_alloc {P : Program} {o : Oper} {a : Act} {w : World} (t : TypeId) (i : TypeInfo) (z : Value) (Z : Array Value) (ho : o.op = .alloc t) (hi : P.info? t = some i) (hz : i.zero = some z) (hZ : z.cells = Z) :
    (execOp a.eval o).run P w = .ok (.value (.pointer (some ⟨w.heap.size, 0, none⟩))) (w.alloc (.cells Z t)) := by
  subst hZ
  unfold execOp
  simp [ho, Instr.alloc, zeroValue, typeInfo, hi, hz, newVar, newRow]
theorem run_op_load {P : Program} {o : Oper} {a : Act} {w : World} {v : Value} (t : TypeId) (x : Operand) (p : Addr) (ho : o.op = .load t x) (he : a.eval x = .pointer (some p))
    (h : (loadVar t p).run P w = .ok v w) : (execOp a.eval o).run P w = .ok (.value v) w := by
  unfold execOp
  simp only [ho, he, Instr.loadAt, Instr.sureAddr, Sem.run_bind, Sem.run_pure, Result.andThen_ok, h]
theorem run_op_store {P : Program} {o : Oper} {a : Act} {w w' : World} (t : TypeId) (x y : Operand) (p : Addr) (v : Value) (ho : o.op = .store t x y) (he : a.eval x = .pointer (some p)) (hv : a.eval y = v)
    (h : (storeVar t p v).run P w = .ok () w') : (execOp a.eval o).run P w = .ok .skip w' := by
  unfold execOp
  simp only [ho, he, hv, Instr.storeAt, Instr.sureAddr, Sem.run_bind, Sem.run_pure, Result.andThen_ok, h]
theorem run_op_build {P : Program} {o : Oper} {a : Act} {w w' : World} {v : Value} (t : TypeId) (parts : Array (Nat × Operand)) (vs : Array (Nat × Value)) (ho : o.op = .build t parts) (he : (parts.toList.map fun x => (x.1, a.eval x.2)) = vs.toList)
    (h : (Instr.build t vs).run P w = .ok v w') : (execOp a.eval o).run P w = .ok (.value v) w' := by
  have he' : (parts.map fun (i, x) => (i, a.eval x)) = vs := Array.toList_inj.1 (by rw [Array.toList_map]; exact he)
  subst he'
  unfold execOp
  simp only [ho, Sem.run_bind, h, Result.andThen_ok, Sem.run_pure]
theorem run_op_buildSlice {P : Program} {o : Oper} {a : Act} {w w' : World} {v : Value} (t : TypeId) (n : Nat) (parts : Array (Nat × Operand)) (vs : Array (Nat × Value)) (ho : o.op = .buildSlice t n parts) (he : (parts.toList.map fun x => (x.1, a.eval x.2)) = vs.toList)
    (h : (Instr.buildSlice t n vs).run P w = .ok v w') : (execOp a.eval o).run P w = .ok (.value v) w' := by
  have he' : (parts.map fun (i, x) => (i, a.eval x)) = vs := Array.toList_inj.1 (by rw [Array.toList_map]; exact he)
  subst he'
  unfold execOp
  simp only [ho, Sem.run_bind, h, Result.andThen_ok, Sem.run_pure]
end Go.Proofs.YtclpmkinjjhncaaGreat
