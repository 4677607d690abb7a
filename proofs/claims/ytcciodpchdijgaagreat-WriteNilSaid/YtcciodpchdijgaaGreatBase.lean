/- Words for memory: which blocks a thing owns, what a call turns, slices that read as lists. No program is named here. -/
import Derived.Below
import Derived.Laws.OwnMore
import Derived.Laws.Rows
import Derived.Deep.Draws
import Derived.Deep.AppendLies
import Derived.Lib.Hide
namespace Go.Proofs.YtcciodpchdijgaaGreat
open Go.RowKit

/-- A set of blocks. -/
abbrev Foot := Nat → Prop

/-- The blocks of 'G' lie in w, apart from those of 'F'. -/
def Apart (w : World) (F G : Foot) : Prop := ∀ b, G b → b < w.heap.size ∧ ¬ F b

/-- w' is w, but for blocks of 'F', and new ones; 'F'' is 'F' and new ones at most. -/
structure Turns (F F' : Foot) (w w' : World) : Prop where
  os : w'.os = w.os
  tape : w'.tape = w.tape
  output : w'.output = w.output
  size : w.heap.size ≤ w'.heap.size
  block : ∀ b, b < w.heap.size → ¬ F b → w'.heap[b]? = w.heap[b]?
  foot : ∀ b, F' b → F b ∨ w.heap.size ≤ b

def noFoot : Foot := fun _ => False
/-- one block. -/
abbrev only (h : Nat) : Foot := fun b => b = h

section
variable {F F' F'' G : Foot} {w w' w'' : World}
theorem Turns.refl (F : Foot) (w : World) : Turns F F w w := ⟨rfl, rfl, rfl, Nat.le_refl _, fun _ _ _ => rfl, fun _ h => .inl h⟩
theorem Turns.trans (h : Turns F F' w w') (k : Turns F' F'' w' w'') : Turns F F'' w w'' :=
  ⟨k.os.trans h.os, k.tape.trans h.tape, k.output.trans h.output, Nat.le_trans h.size k.size, fun b hb hF => (k.block b (Nat.lt_of_lt_of_le hb h.size) (fun hF' => by
      rcases h.foot b hF' with h' | h'
      · exact hF h'
      · omega)).trans (h.block b hb hF),
    fun b hb => by
      rcases k.foot b hb with h1 | h1
      · exact h.foot b h1
      · exact .inr (Nat.le_trans h.size h1)⟩
theorem Turns.of_below (h : Below w.heap.size w w') (F : Foot) : Turns F F w w' :=
  ⟨h.os, h.tape, h.output, h.size, fun b hb _ => h.block b hb, fun _ hb => .inl hb⟩
theorem Turns.below (h : Turns F F' w w') {n : Nat} (hn : n ≤ w.heap.size) (hF : ∀ b, F b → n ≤ b) : Below n w w' :=
  ⟨h.os, h.tape, h.output, h.size, fun b hb => h.block b (by omega) (fun hf => by have := hF b hf; omega)⟩
theorem Turns.below_none (h : Turns noFoot F' w w') : Below w.heap.size w w' := h.below (Nat.le_refl _) (fun _ hb => hb.elim)
theorem Turns.keep (h : Turns F F' w w') (hG : Apart w F G) : ∀ b, G b → w'.heap[b]? = w.heap[b]? := fun b hb => h.block b (hG b hb).1 (hG b hb).2
theorem Turns.apart (h : Turns F F' w w') (hG : Apart w F G) : Apart w' F' G := fun b hb =>
  ⟨Nat.lt_of_lt_of_le (hG b hb).1 h.size, fun hF' => by
    rcases h.foot b hF' with h' | h'
    · exact (hG b hb).2 h'
    · have := (hG b hb).1; omega⟩
/-- A call that turned blocks of F1 alone, seen from a greater set. -/
theorem Turns.wider {F1 F1' : Foot} (h : Turns F1 F1' w w') (hF : ∀ b, F1 b → F b) (hF' : ∀ b, F' b → F b ∨ F1' b) : Turns F F' w w' :=
  ⟨h.os, h.tape, h.output, h.size, fun b hb hn => h.block b hb (fun h1 => hn (hF b h1)), fun b hb => by
    rcases hF' b hb with h1 | h1
    · exact .inl h1
    · rcases h.foot b h1 with h2 | h2
      · exact .inl (hF b h2)
      · exact .inr h2⟩
theorem Turns.drew (h : Turns F F' w w') : Turns F F' w w'.drew := ⟨h.os, h.tape, h.output, h.size, h.block, h.foot⟩
theorem Turns.drewN (h : Turns F F' w w') (n : Nat) : Turns F F' w (w'.drewN n) := ⟨h.os, h.tape, h.output, h.size, h.block, h.foot⟩
theorem Turns.alloc (h : Turns F F' w w') (o : Obj) : Turns F F' w (w'.alloc o) :=
  ⟨h.os, h.tape, h.output, Nat.le_trans h.size (by simp), fun b hb hn => (Below.heap_alloc w' o b (Nat.lt_of_lt_of_le hb h.size)).trans (h.block b hb hn), h.foot⟩
theorem Turns.setCell (h : Turns F F' w w') {p : Addr} (hp : F p.block ∨ w.heap.size ≤ p.block) (u : Value) : Turns F F' w (w'.setCell p u) :=
  ⟨h.os, h.tape, h.output, by simpa [World.setCell] using h.size, fun b hb hn => (Below.heap_setCell w' p u b (by
      rintro rfl
      rcases hp with hp | hp
      · exact hn hp
      · omega)).trans (h.block b hb hn), h.foot⟩
theorem Turns.grown (h : Turns F F' w w') {row : Option Nat} (hg : w'.grownBy w'' row) (hr : ∀ k, row = some k → F k ∨ w.heap.size ≤ k) : Turns F F' w w'' :=
  ⟨hg.os.trans h.os, hg.tape.trans h.tape, hg.output.trans h.output, Nat.le_trans h.size hg.size, fun b hb hn => (hg.block b (Nat.lt_of_lt_of_le hb h.size) (fun e => by
      rcases hr b e.symm with h1 | h1
      · exact hn h1
      · omega)).trans (h.block b hb hn), h.foot⟩
theorem Turns.next (h : Turns F F' w w') (hb : Below w'.heap.size w' w'') : Turns F F' w w'' := h.trans (Turns.of_below hb F')
theorem Apart.below (h : Apart w F G) (hb : w.heap.size ≤ w'.heap.size) : Apart w' F G := fun b hG => ⟨Nat.lt_of_lt_of_le (h b hG).1 hb, (h b hG).2⟩
end

/-- Block g is just the cells cs, of element type t, none frozen. -/
def Blk (w : World) (g : Nat) (t : TypeId) (cs : Array Value) : Prop := w.heap[g]? = some (.cells cs t (0, 0))

section
variable {w w' : World} {g : Nat} {t : TypeId} {cs : Array Value}
theorem Blk.lt (h : Blk w g t cs) : g < w.heap.size := by
  rcases Nat.lt_or_ge g w.heap.size with hlt | hge
  · exact hlt
  · unfold Blk at h; rw [Array.getElem?_eq_none hge] at h; cases h
theorem Blk.cell (h : Blk w g t cs) (i : Nat) : w.cell? ⟨g, i, none⟩ = cs[i]? := cell_of_row w g i cs t (0, 0) h
theorem Blk.frozen (h : Blk w g t cs) (i : Nat) : w.frozen? ⟨g, i, none⟩ = false := by
  unfold Blk at h
  simp [World.frozen?, h]
theorem Blk.new (w : World) (t : TypeId) (cs : Array Value) : Blk (w.alloc (.cells cs t)) w.heap.size t cs := heap_alloc_new w _
theorem Blk.drew (h : Blk w g t cs) : Blk w.drew g t cs := h
theorem Blk.drewN (h : Blk w g t cs) (n : Nat) : Blk (w.drewN n) g t cs := h
theorem Blk.alloc (h : Blk w g t cs) (o : Obj) : Blk (w.alloc o) g t cs := (Below.heap_alloc w o g h.lt).trans h
theorem Blk.set_ (h : Blk w g t cs) (i : Nat) (u : Value) : Blk (w.setCell ⟨g, i, none⟩ u) g t (cs.setIfInBounds i u) := by
  unfold Blk at h ⊢
  simp [World.setCell, Array.getElem?_modify, h]
theorem Blk.far (h : Blk w g t cs) {p : Addr} (hp : g ≠ p.block) (u : Value) : Blk (w.setCell p u) g t cs := (Below.heap_setCell w p u g hp).trans h
theorem Blk.below {B : Nat} (h : Blk w g t cs) (hb : Below B w w') (hg : g < B) : Blk w' g t cs := (hb.block g hg).trans h
theorem Blk.keep (h : Blk w g t cs) (hk : w'.heap[g]? = w.heap[g]?) : Blk w' g t cs := hk.trans h
theorem Blk.turns {F F' : Foot} (h : Blk w g t cs) (hb : Turns F F' w w') (hg : ¬ F g) : Blk w' g t cs := (hb.block g h.lt hg).trans h
theorem Blk.grown {row : Option Nat} (h : Blk w g t cs) (hb : w.grownBy w' row) (hg : some g ≠ row) : Blk w' g t cs := (hb.block g h.lt hg).trans h
theorem Blk.ne_ {g' : Nat} {t' : TypeId} {cs' : Array Value} (h : Blk w g t cs) (h' : Blk w g' t' cs') (hne : t ≠ t') : g ≠ g' := by
  rintro rfl
  unfold Blk at h h'
  rw [h] at h'
  injection h' with h'
  injection h' with _ ht
  exact hne ht
theorem Blk.cells_eq {t' : TypeId} {cs' : Array Value} (h : Blk w g t cs) (h' : Blk w g t' cs') : cs = cs' := by
  unfold Blk at h h'
  rw [h] at h'
  injection h' with h'
  injection h'
end

theorem Blk.setRow {w : World} {g : Nat} {t : TypeId} {cs : Array Value} (h : Blk w g t cs) (cs' : Array Value) : Blk (w.setRow g cs') g t cs' := setRow_heap w g cs cs' t _ h
theorem heap_setRow_other (w : World) (g k : Nat) (cs : Array Value) (h : k ≠ g) : (w.setRow g cs).heap[k]? = w.heap[k]? := setRow_other w g k cs h
theorem Turns.setRow {F F' : Foot} {w w' : World} (h : Turns F F' w w') {g : Nat} (hp : F g ∨ w.heap.size ≤ g) (cs : Array Value) : Turns F F' w (w'.setRow g cs) :=
  ⟨h.os, h.tape, h.output, by simpa using h.size, fun b hb hn => (heap_setRow_other w' g b cs (by
      rintro rfl
      rcases hp with hp | hp
      · exact hn hp
      · omega)).trans (h.block b hb hn), h.foot⟩
theorem below_setRow {B : Nat} {a w : World} (h : Below B a w) {g : Nat} (hp : B ≤ g) (cs : Array Value) : Below B a (w.setRow g cs) :=
  ⟨h.os, h.tape, h.output, by simpa using h.size, fun b hb => (heap_setRow_other w g b cs (by omega)).trans (h.block b hb)⟩

theorem below_cell {W w1 : World} (hb : Below W.heap.size W w1) : (∀ b o, b < W.heap.size → w1.cell? ⟨b, o, none⟩ = W.cell? ⟨b, o, none⟩) ∧ (∀ b o, b < W.heap.size → w1.frozen? ⟨b, o, none⟩ = W.frozen? ⟨b, o, none⟩) :=
  ⟨fun b o h => hb.cell (p := ⟨b, o, none⟩) h, fun b o h => hb.frozen (p := ⟨b, o, none⟩) h⟩

/-- The slice value '.slice A n c' reads as the cells xs (n elements of 'size' cells); where it has any, its block is of G. -/
def Reads (G : Foot) (w : World) (size : Nat) (A : Option Addr) (n : Nat) (xs : List Value) : Prop :=
  xs.length = n * size ∧ (0 < n → ∃ b o, A = some ⟨b, o, none⟩ ∧ G b ∧ b < w.heap.size ∧ ∀ j u, xs[j]? = some u → w.cell? ⟨b, o + j, none⟩ = some u)

section
variable {G : Foot} {w w' : World} {size n : Nat} {A : Option Addr} {xs : List Value}
theorem Reads.none_ : Reads G w size A 0 [] := ⟨by simp, fun h => absurd h (by omega)⟩
theorem Reads.zero : Reads G w size A 0 xs ↔ xs = [] := ⟨fun h => List.eq_nil_of_length_eq_zero (by simpa using h.1), fun h => h ▸ Reads.none_⟩
theorem Reads.keep (h : Reads G w size A n xs) (hs : w.heap.size ≤ w'.heap.size) (hk : ∀ b, G b → w'.heap[b]? = w.heap[b]?) : Reads G w' size A n xs :=
  ⟨h.1, fun hn => by
    obtain ⟨b, o, e, hG, hlt, hc⟩ := h.2 hn
    exact ⟨b, o, e, hG, Nat.lt_of_lt_of_le hlt hs, fun j u hu => (World.cell?_of_block (w := w) (a := ⟨b, o + j, none⟩) (hk b hG)).trans (hc j u hu)⟩⟩
theorem Reads.below (h : Reads G w size A n xs) (hb : Below w.heap.size w w') : Reads G w' size A n xs :=
  ⟨h.1, fun hn => by
    obtain ⟨b, o, e, hG, hlt, hc⟩ := h.2 hn
    exact ⟨b, o, e, hG, Nat.lt_of_lt_of_le hlt hb.size, fun j u hu => (hb.cell (p := ⟨b, o + j, none⟩) hlt).trans (hc j u hu)⟩⟩
theorem Reads.turns {F F' : Foot} (h : Reads G w size A n xs) (ht : Turns F F' w w') (hG : Apart w F G) : Reads G w' size A n xs := h.keep ht.size (ht.keep hG)
theorem Reads.mono {G' : Foot} (h : Reads G w size A n xs) (hG : ∀ b, G b → G' b) : Reads G' w size A n xs :=
  ⟨h.1, fun hn => by
    obtain ⟨b, o, e, hGb, hlt, hc⟩ := h.2 hn
    exact ⟨b, o, e, hG b hGb, hlt, hc⟩⟩
theorem Reads.at_ {k : Nat} (h : Reads G w 1 A n xs) (hk : k < n) : ∃ b o u, A = some ⟨b, o, none⟩ ∧ G b ∧ b < w.heap.size ∧ xs[k]? = some u ∧ w.cell? ⟨b, o + k, none⟩ = some u := by
  obtain ⟨b, o, e, hG, hb, hc⟩ := h.2 (by omega)
  have hl : k < xs.length := by have := h.1; omega
  exact ⟨b, o, xs[k], e, hG, hb, List.getElem?_eq_getElem hl, hc k _ (List.getElem?_eq_getElem hl)⟩
end

/-- A list of strings as cells. -/
def strCells (l : List ByteArray) : List Value := l.map Value.string
/-- The slice reads as these strings. -/
def Strs (G : Foot) (w : World) (A : Option Addr) (l : List ByteArray) : Prop := Reads G w 1 A l.length (strCells l)

end Go.Proofs.YtcciodpchdijgaaGreat
