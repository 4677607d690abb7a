/- Words for memory: which blocks a thing owns, what a call turns, slices that read as lists. No program is named here. -/
import Derived.Below
import Derived.Laws.OwnMore
import Derived.Laws.Rows
import Derived.Deep.Draws
import Derived.Deep.AppendLies
import Derived.Lib.Hide
import Derived.Test.YtafopojibpifoaaGreatProg
import Derived.WalkKit
import Derived.Outline
import Derived.LoopTactic
import Derived.IntWalk
import Derived.OwnWalk
import Derived.Lib.ConvBytes
import Derived.Deep.LoopGhost
import Derived.Deep.DeepFit
import Derived.Deep.DeepMust
import Derived.Deep.RegionHeld3
import Derived.Deep.RegionWith
import Derived.Deep.QuietTactic
import Derived.BigQuiet
import Derived.WalkLawsBesides
import Derived.WalkSpells
import Derived.Laws.BytesString
import Derived.Laws.IdiomStrings
import Derived.Laws.BytesArg
import Derived.Laws.BitsAllLaws
import Derived.Laws.MakeOwn
import Derived.Laws.Entries
import Derived.Lib.BufferWrite
import Derived.Lib.SlBuf
import Derived.Laws.CopyOwn

namespace Go.Proofs.YtafopojibpifoaaGreat
open Go.RowKit

/-- A set of blocks. -/
abbrev Foot := Nat → Prop

/-- The blocks of 'G' lie in w, apart from those of 'F'. -/
def Apart (w : World) (F G : Foot) : Prop := ∀ b, G b → b < w.heap.size ∧ ¬ F b

/-- w' is w, but for blocks of 'F', and new ones; 'F'' is 'F' and new ones at most. -/
structure Turns (F F' : Foot) (w w' : World) : Prop where
  os : w'.os = w.os
  tape : w'.tape = w.tape
  output : w'.output = w.output
  size : w.heap.size ≤ w'.heap.size
  block : ∀ b, b < w.heap.size → ¬ F b → w'.heap[b]? = w.heap[b]?
  foot : ∀ b, F' b → F b ∨ w.heap.size ≤ b

def noFoot : Foot := fun _ => False
/-- one block. -/
abbrev only (h : Nat) : Foot := fun b => b = h

section
variable {F F' F'' G : Foot} {w w' w'' : World}
theorem Turns.refl (F : Foot) (w : World) : Turns F F w w := ⟨rfl, rfl, rfl, Nat.le_refl _, fun _ _ _ => rfl, fun _ h => .inl h⟩
theorem Turns.trans (h : Turns F F' w w') (k : Turns F' F'' w' w'') : Turns F F'' w w'' :=
  ⟨k.os.trans h.os, k.tape.trans h.tape, k.output.trans h.output, Nat.le_trans h.size k.size, fun b hb hF => (k.block b (Nat.lt_of_lt_of_le hb h.size) (fun hF' => by
      rcases h.foot b hF' with h' | h'
      · exact hF h'
      · omega)).trans (h.block b hb hF),
    fun b hb => by
      rcases k.foot b hb with h1 | h1
      · exact h.foot b h1
      · exact .inr (Nat.le_trans h.size h1)⟩
theorem Turns.of_below (h : Below w.heap.size w w') (F : Foot) : Turns F F w w' :=
  ⟨h.os, h.tape, h.output, h.size, fun b hb _ => h.block b hb, fun _ hb => .inl hb⟩
theorem Turns.below (h : Turns F F' w w') {n : Nat} (hn : n ≤ w.heap.size) (hF : ∀ b, F b → n ≤ b) : Below n w w' :=
  ⟨h.os, h.tape, h.output, h.size, fun b hb => h.block b (by omega) (fun hf => by have := hF b hf; omega)⟩
theorem Turns.below_none (h : Turns noFoot F' w w') : Below w.heap.size w w' := h.below (Nat.le_refl _) (fun _ hb => hb.elim)
theorem Turns.keep (h : Turns F F' w w') (hG : Apart w F G) : ∀ b, G b → w'.heap[b]? = w.heap[b]? := fun b hb => h.block b (hG b hb).1 (hG b hb).2
theorem Turns.apart (h : Turns F F' w w') (hG : Apart w F G) : Apart w' F' G := fun b hb =>
  ⟨Nat.lt_of_lt_of_le (hG b hb).1 h.size, fun hF' => by
    rcases h.foot b hF' with h' | h'
    · exact (hG b hb).2 h'
    · have := (hG b hb).1; omega⟩
/-- A call that turned blocks of F1 alone, seen from a greater set. -/
theorem Turns.wider {F1 F1' : Foot} (h : Turns F1 F1' w w') (hF : ∀ b, F1 b → F b) (hF' : ∀ b, F' b → F b ∨ F1' b) : Turns F F' w w' :=
  ⟨h.os, h.tape, h.output, h.size, fun b hb hn => h.block b hb (fun h1 => hn (hF b h1)), fun b hb => by
    rcases hF' b hb with h1 | h1
    · exact .inl h1
    · rcases h.foot b h1 with h2 | h2
      · exact .inl (hF b h2)
      · exact .inr h2⟩
theorem Turns.drew (h : Turns F F' w w') : Turns F F' w w'.drew := ⟨h.os, h.tape, h.output, h.size, h.block, h.foot⟩
theorem Turns.drewN (h : Turns F F' w w') (n : Nat) : Turns F F' w (w'.drewN n) := ⟨h.os, h.tape, h.output, h.size, h.block, h.foot⟩
theorem Turns.alloc (h : Turns F F' w w') (o : Obj) : Turns F F' w (w'.alloc o) :=
  ⟨h.os, h.tape, h.output, Nat.le_trans h.size (by simp), fun b hb hn => (Below.heap_alloc w' o b (Nat.lt_of_lt_of_le hb h.size)).trans (h.block b hb hn), h.foot⟩
theorem Turns.setCell (h : Turns F F' w w') {p : Addr} (hp : F p.block ∨ w.heap.size ≤ p.block) (u : Value) : Turns F F' w (w'.setCell p u) :=
  ⟨h.os, h.tape, h.output, by simpa [World.setCell] using h.size, fun b hb hn => (Below.heap_setCell w' p u b (by
      rintro rfl
      rcases hp with hp | hp
      · exact hn hp
      · omega)).trans (h.block b hb hn), h.foot⟩
theorem Turns.grown (h : Turns F F' w w') {row : Option Nat} (hg : w'.grownBy w'' row) (hr : ∀ k, row = some k → F k ∨ w.heap.size ≤ k) : Turns F F' w w'' :=
  ⟨hg.os.trans h.os, hg.tape.trans h.tape, hg.output.trans h.output, Nat.le_trans h.size hg.size, fun b hb hn => (hg.block b (Nat.lt_of_lt_of_le hb h.size) (fun e => by
      rcases hr b e.symm with h1 | h1
      · exact hn h1
      · omega)).trans (h.block b hb hn), h.foot⟩
theorem Turns.next (h : Turns F F' w w') (hb : Below w'.heap.size w' w'') : Turns F F' w w'' := h.trans (Turns.of_below hb F')
theorem Apart.below (h : Apart w F G) (hb : w.heap.size ≤ w'.heap.size) : Apart w' F G := fun b hG => ⟨Nat.lt_of_lt_of_le (h b hG).1 hb, (h b hG).2⟩
end

/-- Block g is just the cells cs, of element type t, none frozen. -/
def Blk (w : World) (g : Nat) (t : TypeId) (cs : Array Value) : Prop := w.heap[g]? = some (.cells cs t (0, 0))

section
variable {w w' : World} {g : Nat} {t : TypeId} {cs : Array Value}
theorem Blk.lt (h : Blk w g t cs) : g < w.heap.size := by
  rcases Nat.lt_or_ge g w.heap.size with hlt | hge
  · exact hlt
  · unfold Blk at h; rw [Array.getElem?_eq_none hge] at h; cases h
theorem Blk.cell (h : Blk w g t cs) (i : Nat) : w.cell? ⟨g, i, none⟩ = cs[i]? := cell_of_row w g i cs t (0, 0) h
theorem Blk.frozen (h : Blk w g t cs) (i : Nat) : w.frozen? ⟨g, i, none⟩ = false := by
  unfold Blk at h
  simp [World.frozen?, h]
theorem Blk.new (w : World) (t : TypeId) (cs : Array Value) : Blk (w.alloc (.cells cs t)) w.heap.size t cs := heap_alloc_new w _
theorem Blk.drew (h : Blk w g t cs) : Blk w.drew g t cs := h
theorem Blk.drewN (h : Blk w g t cs) (n : Nat) : Blk (w.drewN n) g t cs := h
theorem Blk.alloc (h : Blk w g t cs) (o : Obj) : Blk (w.alloc o) g t cs := (Below.heap_alloc w o g h.lt).trans h
theorem Blk.set_ (h : Blk w g t cs) (i : Nat) (u : Value) : Blk (w.setCell ⟨g, i, none⟩ u) g t (cs.setIfInBounds i u) := by
  unfold Blk at h ⊢
  simp [World.setCell, Array.getElem?_modify, h]
theorem Blk.far (h : Blk w g t cs) {p : Addr} (hp : g ≠ p.block) (u : Value) : Blk (w.setCell p u) g t cs := (Below.heap_setCell w p u g hp).trans h
theorem Blk.below {B : Nat} (h : Blk w g t cs) (hb : Below B w w') (hg : g < B) : Blk w' g t cs := (hb.block g hg).trans h
theorem Blk.keep (h : Blk w g t cs) (hk : w'.heap[g]? = w.heap[g]?) : Blk w' g t cs := hk.trans h
theorem Blk.turns {F F' : Foot} (h : Blk w g t cs) (hb : Turns F F' w w') (hg : ¬ F g) : Blk w' g t cs := (hb.block g h.lt hg).trans h
theorem Blk.grown {row : Option Nat} (h : Blk w g t cs) (hb : w.grownBy w' row) (hg : some g ≠ row) : Blk w' g t cs := (hb.block g h.lt hg).trans h
theorem Blk.ne_ {g' : Nat} {t' : TypeId} {cs' : Array Value} (h : Blk w g t cs) (h' : Blk w g' t' cs') (hne : t ≠ t') : g ≠ g' := by
  rintro rfl
  unfold Blk at h h'
  rw [h] at h'
  injection h' with h'
  injection h' with _ ht
  exact hne ht
theorem Blk.cells_eq {t' : TypeId} {cs' : Array Value} (h : Blk w g t cs) (h' : Blk w g t' cs') : cs = cs' := by
  unfold Blk at h h'
  rw [h] at h'
  injection h' with h'
  injection h'
end

theorem Blk.setRow {w : World} {g : Nat} {t : TypeId} {cs : Array Value} (h : Blk w g t cs) (cs' : Array Value) : Blk (w.setRow g cs') g t cs' := setRow_heap w g cs cs' t _ h
theorem heap_setRow_other (w : World) (g k : Nat) (cs : Array Value) (h : k ≠ g) : (w.setRow g cs).heap[k]? = w.heap[k]? := setRow_other w g k cs h
theorem Turns.setRow {F F' : Foot} {w w' : World} (h : Turns F F' w w') {g : Nat} (hp : F g ∨ w.heap.size ≤ g) (cs : Array Value) : Turns F F' w (w'.setRow g cs) :=
  ⟨h.os, h.tape, h.output, by simpa using h.size, fun b hb hn => (heap_setRow_other w' g b cs (by
      rintro rfl
      rcases hp with hp | hp
      · exact hn hp
      · omega)).trans (h.block b hb hn), h.foot⟩
theorem below_setRow {B : Nat} {a w : World} (h : Below B a w) {g : Nat} (hp : B ≤ g) (cs : Array Value) : Below B a (w.setRow g cs) :=
  ⟨h.os, h.tape, h.output, by simpa using h.size, fun b hb => (heap_setRow_other w g b cs (by omega)).trans (h.block b hb)⟩

theorem below_cell {W w1 : World} (hb : Below W.heap.size W w1) : (∀ b o, b < W.heap.size → w1.cell? ⟨b, o, none⟩ = W.cell? ⟨b, o, none⟩) ∧ (∀ b o, b < W.heap.size → w1.frozen? ⟨b, o, none⟩ = W.frozen? ⟨b, o, none⟩) :=
  ⟨fun b o h => hb.cell (p := ⟨b, o, none⟩) h, fun b o h => hb.frozen (p := ⟨b, o, none⟩) h⟩

/-- The slice value '.slice A n c' reads as the cells xs (n elements of 'size' cells); where it has any, its block is of G. -/
def Reads (G : Foot) (w : World) (size : Nat) (A : Option Addr) (n : Nat) (xs : List Value) : Prop :=
  xs.length = n * size ∧ (0 < n → ∃ b o, A = some ⟨b, o, none⟩ ∧ G b ∧ b < w.heap.size ∧ ∀ j u, xs[j]? = some u → w.cell? ⟨b, o + j, none⟩ = some u)

section
variable {G : Foot} {w w' : World} {size n : Nat} {A : Option Addr} {xs : List Value}
theorem Reads.none_ : Reads G w size A 0 [] := ⟨by simp, fun h => absurd h (by omega)⟩
theorem Reads.zero : Reads G w size A 0 xs ↔ xs = [] := ⟨fun h => List.eq_nil_of_length_eq_zero (by simpa using h.1), fun h => h ▸ Reads.none_⟩
theorem Reads.keep (h : Reads G w size A n xs) (hs : w.heap.size ≤ w'.heap.size) (hk : ∀ b, G b → w'.heap[b]? = w.heap[b]?) : Reads G w' size A n xs :=
  ⟨h.1, fun hn => by
    obtain ⟨b, o, e, hG, hlt, hc⟩ := h.2 hn
    exact ⟨b, o, e, hG, Nat.lt_of_lt_of_le hlt hs, fun j u hu => (World.cell?_of_block (w := w) (a := ⟨b, o + j, none⟩) (hk b hG)).trans (hc j u hu)⟩⟩
theorem Reads.below (h : Reads G w size A n xs) (hb : Below w.heap.size w w') : Reads G w' size A n xs :=
  ⟨h.1, fun hn => by
    obtain ⟨b, o, e, hG, hlt, hc⟩ := h.2 hn
    exact ⟨b, o, e, hG, Nat.lt_of_lt_of_le hlt hb.size, fun j u hu => (hb.cell (p := ⟨b, o + j, none⟩) hlt).trans (hc j u hu)⟩⟩
theorem Reads.turns {F F' : Foot} (h : Reads G w size A n xs) (ht : Turns F F' w w') (hG : Apart w F G) : Reads G w' size A n xs := h.keep ht.size (ht.keep hG)
theorem Reads.mono {G' : Foot} (h : Reads G w size A n xs) (hG : ∀ b, G b → G' b) : Reads G' w size A n xs :=
  ⟨h.1, fun hn => by
    obtain ⟨b, o, e, hGb, hlt, hc⟩ := h.2 hn
    exact ⟨b, o, e, hG b hGb, hlt, hc⟩⟩
theorem Reads.at_ {k : Nat} (h : Reads G w 1 A n xs) (hk : k < n) : ∃ b o u, A = some ⟨b, o, none⟩ ∧ G b ∧ b < w.heap.size ∧ xs[k]? = some u ∧ w.cell? ⟨b, o + k, none⟩ = some u := by
  obtain ⟨b, o, e, hG, hb, hc⟩ := h.2 (by omega)
  have hl : k < xs.length := by have := h.1; omega
  exact ⟨b, o, xs[k], e, hG, hb, List.getElem?_eq_getElem hl, hc k _ (List.getElem?_eq_getElem hl)⟩
end

/-- A list of strings as cells. -/
def strCells (l : List ByteArray) : List Value := l.map Value.string
/-- The slice reads as these strings. -/
def Strs (G : Foot) (w : World) (A : Option Addr) (l : List ByteArray) : Prop := Reads G w 1 A l.length (strCells l)

end Go.Proofs.YtafopojibpifoaaGreat

/- Plain words on bytes: numbers in bytes, a piece laid over others, an area with a directory, a page. No program is named here. -/
namespace Go.Proofs.YtafopojibpifoaaGreat.Sp

abbrev Bs := List UInt8

/-- n in k bytes, the highest first. -/
def be : Nat → Nat → Bs
  | 0, _ => []
  | k + 1, n => be k (n / 256) ++ [UInt8.ofNat n]

/-- the number that stands there. -/
def num (l : Bs) : Nat := l.foldl (fun a b => a * 256 + b.toNat) 0

@[simp] theorem be_length : ∀ (k n : Nat), (be k n).length = k
  | 0, _ => rfl
  | k + 1, n => by simp [be, be_length k]

theorem be_get : ∀ (k n j : Nat), j < k → (be k n)[j]? = some (UInt8.ofNat (n / 256 ^ (k - 1 - j)))
  | 0, _, _, h => absurd h (by omega)
  | k + 1, n, j, h => by
    rw [be]
    rcases Nat.lt_or_ge j k with hj | hj
    · rw [List.getElem?_append_left (by simpa using hj), be_get k _ j hj, Nat.div_div_eq_div_mul]
      have : 256 * 256 ^ (k - 1 - j) = 256 ^ (k + 1 - 1 - j) := by
        rw [Nat.mul_comm, ← Nat.pow_succ]; congr 1; omega
      rw [this]
    · obtain rfl : j = k := by omega
      rw [List.getElem?_append_right (by simp)]
      simp

theorem num_snoc (l : Bs) (b : UInt8) : num (l ++ [b]) = num l * 256 + b.toNat := by simp [num]

theorem num_be : ∀ (k n : Nat), num (be k n) = n % 256 ^ k
  | 0, n => by simp [be, num, Nat.mod_one]
  | k + 1, n => by
    rw [be, num_snoc, num_be k, Nat.pow_succ, UInt8.toNat_ofNat']
    rw [Nat.mul_comm (256 ^ k) 256, Nat.mod_mul]
    omega

theorem num_be_lt {k n : Nat} (h : n < 256 ^ k) : num (be k n) = n := by rw [num_be, Nat.mod_eq_of_lt h]

theorem num_lt : ∀ (l : Bs), num l < 256 ^ l.length := by
  intro l
  suffices h : ∀ m (l : Bs), l.length = m → num l < 256 ^ m from h _ l rfl
  intro m
  induction m with
  | zero => intro l h; rw [List.eq_nil_of_length_eq_zero h]; simp [num]
  | succ m ih =>
    intro l h
    have hne : l ≠ [] := by rintro rfl; simp at h
    obtain ⟨l', b, rfl⟩ : ∃ l' b, l = l' ++ [b] := ⟨l.dropLast, l.getLast hne, (List.dropLast_concat_getLast hne).symm⟩
    rw [num_snoc, Nat.pow_succ]
    have h1 := ih l' (by simpa using h)
    have h2 := b.toNat_lt
    omega

theorem be_num : ∀ (m : Nat) (l : Bs), l.length = m → be m (num l) = l
  | 0, l, h => by rw [List.eq_nil_of_length_eq_zero h]; rfl
  | m + 1, l, h => by
    have hne : l ≠ [] := by rintro rfl; simp at h
    obtain ⟨l', b, rfl⟩ : ∃ l' b, l = l' ++ [b] := ⟨l.dropLast, l.getLast hne, (List.dropLast_concat_getLast hne).symm⟩
    have hb := b.toNat_lt
    rw [num_snoc, be]
    have e1 : (num l' * 256 + b.toNat) / 256 = num l' := by omega
    rw [e1, be_num m l' (by simpa using h)]
    congr 2
    apply UInt8.toNat_inj.1
    rw [UInt8.toNat_ofNat']
    omega

/-- a piece laid over others, from a place on. -/
def patch (l : Bs) (at_ : Nat) (p : Bs) : Bs := l.take at_ ++ p ++ l.drop (at_ + p.length)

theorem patch_length {l : Bs} {k : Nat} {p : Bs} (h : k + p.length ≤ l.length) : (patch l k p).length = l.length := by
  simp [patch]; omega

theorem patch_mid {x y z p : Bs} {k : Nat} (hk : k = x.length) (hp : p.length = y.length) : patch (x ++ y ++ z) k p = x ++ p ++ z := by
  subst hk
  unfold patch
  rw [List.append_assoc x y z, List.take_left, hp]
  congr 1
  rw [show x ++ (y ++ z) = (x ++ y) ++ z by simp, show x.length + y.length = (x ++ y).length by simp, List.drop_left]

def zeros (n : Nat) : Bs := List.replicate n 0

/-- bytes of all texts. -/
def total (rows : List Bs) : Nat := (rows.map List.length).sum

@[simp] theorem total_nil : total [] = 0 := rfl
@[simp] theorem total_cons (r : Bs) (rows : List Bs) : total (r :: rows) = r.length + total rows := by simp [total]
@[simp] theorem total_append (a b : List Bs) : total (a ++ b) = total a + total b := by simp [total]

/-- the directory of texts that stand from 'low' down. -/
def dir : Nat → List Bs → Bs
  | _, [] => []
  | low, r :: rs => be 2 (low - r.length) ++ be 2 r.length ++ dir (low - r.length) rs

theorem dir_length : ∀ (low : Nat) (rows : List Bs), (dir low rows).length = 4 * rows.length
  | _, [] => rfl
  | low, r :: rs => by simp [dir, dir_length _ rs]; omega

theorem dir_append : ∀ (low : Nat) (a b : List Bs), dir low (a ++ b) = dir low a ++ dir (low - total a) b
  | low, [], b => by simp [dir]
  | low, r :: rs, b => by
    simp only [List.cons_append, dir, dir_append _ rs b, total_cons, List.append_assoc]
    rw [Nat.sub_sub]

/-- an area of so many bytes with these texts, one put behind the other. -/
def area (size : Nat) (rows : List Bs) : Bs :=
  be 2 rows.length ++ be 2 (size - total rows) ++ dir size rows ++ zeros (size - total rows - 4 - 4 * rows.length) ++ rows.reverse.flatten

theorem flatten_length (rows : List Bs) : rows.flatten.length = total rows := by
  induction rows with
  | nil => rfl
  | cons r rs ih => simp [ih]

theorem total_reverse (rows : List Bs) : total rows.reverse = total rows := by
  induction rows with
  | nil => rfl
  | cons r rs ih => simp [ih]; omega

theorem area_length {size : Nat} {rows : List Bs} (h : 4 + 4 * rows.length + total rows ≤ size) : (area size rows).length = size := by
  simp only [area, List.length_append, be_length, dir_length, zeros, List.length_replicate, flatten_length, total_reverse]
  omega

theorem area_new (size : Nat) (h : 4 ≤ size) : area size [] = patch (zeros size) 2 (be 2 size) := by
  have e : zeros size = zeros 2 ++ zeros 2 ++ zeros (size - 4) := by
    unfold zeros; rw [List.replicate_append_replicate, List.replicate_append_replicate]; congr 1; omega
  rw [e, patch_mid (by simp [zeros]) (by simp [zeros])]
  simp [area, dir, be, zeros]

/-- what a put behind all does, write by write. -/
theorem area_put {size : Nat} {rows : List Bs} {r : Bs} (h : 8 + 4 * rows.length + total rows + r.length ≤ size) :
    patch (patch (patch (patch (patch (area size rows) (size - total rows - r.length) r) 2 (be 2 (size - total rows - r.length))) 0 (be 2 (rows.length + 1))) (4 + 4 * rows.length) (be 2 (size - total rows - r.length)))
      (4 + 4 * rows.length + 2) (be 2 r.length) = area size (rows ++ [r]) := by
  obtain ⟨z, hz⟩ : ∃ z, size - total rows - 4 - 4 * rows.length = 4 + z + r.length := ⟨size - total rows - 4 - 4 * rows.length - 4 - r.length, by omega⟩
  have e0 : area size rows = (be 2 rows.length ++ be 2 (size - total rows) ++ dir size rows ++ zeros 4 ++ zeros z) ++ zeros r.length ++ rows.reverse.flatten := by
    unfold area
    rw [hz]
    have : zeros (4 + z + r.length) = zeros 4 ++ zeros z ++ zeros r.length := by
      unfold zeros; rw [List.replicate_append_replicate, List.replicate_append_replicate]
    rw [this]
    simp only [List.append_assoc]
  rw [e0, patch_mid (by simp [dir_length, zeros]; omega) (by simp [zeros])]
  rw [show (be 2 rows.length ++ be 2 (size - total rows) ++ dir size rows ++ zeros 4 ++ zeros z) ++ r ++ rows.reverse.flatten = be 2 rows.length ++ be 2 (size - total rows) ++ (dir size rows ++ zeros 4 ++ zeros z ++ r ++ rows.reverse.flatten) by simp only [List.append_assoc]]
  rw [patch_mid (by simp) (by simp)]
  rw [show be 2 rows.length ++ be 2 (size - total rows - r.length) ++ (dir size rows ++ zeros 4 ++ zeros z ++ r ++ rows.reverse.flatten) = [] ++ be 2 rows.length ++ (be 2 (size - total rows - r.length) ++ (dir size rows ++ zeros 4 ++ zeros z ++ r ++ rows.reverse.flatten)) by simp only [List.append_assoc, List.nil_append]]
  rw [patch_mid (by simp) (by simp)]
  have e4 : zeros 4 = zeros 2 ++ zeros 2 := rfl
  rw [show [] ++ be 2 (rows.length + 1) ++ (be 2 (size - total rows - r.length) ++ (dir size rows ++ zeros 4 ++ zeros z ++ r ++ rows.reverse.flatten)) = (be 2 (rows.length + 1) ++ be 2 (size - total rows - r.length) ++ dir size rows) ++ zeros 2 ++ (zeros 2 ++ zeros z ++ r ++ rows.reverse.flatten) by rw [e4]; simp only [List.append_assoc, List.nil_append]]
  rw [patch_mid (by simp [dir_length]; omega) (by simp [zeros])]
  rw [show (be 2 (rows.length + 1) ++ be 2 (size - total rows - r.length) ++ dir size rows) ++ be 2 (size - total rows - r.length) ++ (zeros 2 ++ zeros z ++ r ++ rows.reverse.flatten) = (be 2 (rows.length + 1) ++ be 2 (size - total rows - r.length) ++ dir size rows ++ be 2 (size - total rows - r.length)) ++ zeros 2 ++ (zeros z ++ r ++ rows.reverse.flatten) by simp only [List.append_assoc]]
  rw [patch_mid (by simp [dir_length]; omega) (by simp [zeros])]
  unfold area
  have hz' : size - total (rows ++ [r]) - 4 - 4 * (rows ++ [r]).length = z := by simp; omega
  rw [hz', dir_append]
  simp [dir, Nat.sub_sub]

end Go.Proofs.YtafopojibpifoaaGreat.Sp

/- What all walks import. -/
namespace Go.Proofs.YtafopojibpifoaaGreat
open Go.RowKit

/-- A text as a value. -/
abbrev str (l : Sp.Bs) : Value := .string ⟨l.toArray⟩

/-- The bytes l as cells. -/
def bcs (l : Sp.Bs) : List Value := l.map fun b => Value.int .u8 (b.toNat : Int)
@[simp] theorem bcs_length (l : Sp.Bs) : (bcs l).length = l.length := by simp [bcs]
theorem bcs_get (l : Sp.Bs) (j : Nat) : (bcs l)[j]? = (l[j]?).map fun b => Value.int .u8 (b.toNat : Int) := by simp [bcs]
theorem bcs_at (l : Sp.Bs) (j : Nat) (h : j < l.length) : (bcs l)[j]? = some (Value.int .u8 (l[j].toNat : Int)) := by simp [bcs, h]
theorem bcs_append (a b : Sp.Bs) : bcs (a ++ b) = bcs a ++ bcs b := by simp [bcs]

/-- 'string(b)' of a slice whose cells are the bytes l, at an address in plain form. -/
theorem run_bytes_back {P : Program} (w : World) (src dst e : TypeId) (b o n cap : Nat) (l : Sp.Bs) (hs : P.underlying src = some (.slice e)) (he : P.underlying e = some (.int .u8)) (hd : P.underlying dst = some .string)
    (hn : n = l.length) (hc : ∀ j (hj : j < l.length), w.cell? ⟨b, o + j, none⟩ = some (.int .u8 (l[j].toNat : Int))) :
    (convert src dst (.slice (some ⟨b, o, none⟩) n cap)).run P w = .ok (str l) w := by
  subst hn
  refine run_convert_bytes_back w src dst e ⟨b, o, none⟩ cap l hs he hd (fun j hj => ?_)
  have e1 : (⟨b, o, none⟩ : Addr).add j = ⟨b, o + j, none⟩ := by unfold Addr.add; split <;> simp_all
  rw [e1]
  exact hc j hj

@[simp] theorem str_size (l : Sp.Bs) : (⟨l.toArray⟩ : ByteArray).size = l.length := by simp [ByteArray.size]

theorem str_extract (l : Sp.Bs) (a b : Nat) : (⟨l.toArray⟩ : ByteArray).extract a b = ⟨((l.drop a).take (b - a)).toArray⟩ := by
  apply ByteArray.ext
  apply Array.toList_inj.1
  simp [ByteArray.data_extract, List.extract_eq_take_drop]
theorem str_append (a b : Sp.Bs) : (⟨a.toArray⟩ : ByteArray) ++ ⟨b.toArray⟩ = ⟨(a ++ b).toArray⟩ := by
  apply ByteArray.ext
  simp
theorem str_inj {a b : Sp.Bs} (h : str a = str b) : a = b := by
  injection h with h
  injection h with h
  simpa using h

/-- '[]byte(s)': a new row whose first cells are the bytes. -/
theorem conv_bytes {P : Program} (w : World) (src dst e : TypeId) (l : Sp.Bs) {u : TypeDesc} (hs : P.underlying src = some u) (hd : P.underlying dst = some (.slice e)) (he : P.underlying e = some (.int .u8)) :
    ∃ gc w1, (convert src dst (str l)).run P w = .ok (.slice (some ⟨w.heap.size, 0, none⟩) l.length gc) w1 ∧ Below w.heap.size w w1 ∧ w1.heap.size = w.heap.size + 1 ∧
      (∀ j (hj : j < l.length), w1.cell? ⟨w.heap.size, j, none⟩ = some (.int .u8 (l[j].toNat : Int))) ∧ (∀ j, j < l.length → w1.frozen? ⟨w.heap.size, j, none⟩ = false) := by
  refine ⟨_, _, Lib.run_convert_string_bytes w src dst e ⟨l.toArray⟩ hs hd he |>.trans (by rw [str_size]), ⟨?_, ?_, ?_, ?_, ?_⟩, Lib.bytesWorld_size _ _ _, fun j hj => ?_, fun j hj => ?_⟩
  · simp [Lib.bytesWorld, World.freeze, World.alloc, World.drew, -World.alloc_eq, -World.drew_eq]
  · simp [Lib.bytesWorld, World.freeze, World.alloc, World.drew, -World.alloc_eq, -World.drew_eq]
  · simp [Lib.bytesWorld, World.freeze, World.alloc, World.drew, -World.alloc_eq, -World.drew_eq]
  · rw [Lib.bytesWorld_size]; omega
  · exact fun k hk => Lib.bytesWorld_at_old _ _ _ _ hk
  · rw [Lib.bytesWorld_cell _ _ _ _ (by simpa using hj)]
    simp [List.getD, hj]
  · have hsz : l.length ≤ (Lib.bytesCells w e ⟨l.toArray⟩).size := by simp [Lib.bytesCells]
    simp [World.frozen?, Lib.bytesWorld_at_new]
    omega

/-- The world behind '[]byte(s)', and the new slice's capacity, under names that the walk leaves closed. -/
def bytesW (w : World) (e : TypeId) (l : Sp.Bs) : World := Lib.bytesWorld w e ⟨l.toArray⟩
def bytesC (w : World) (e : TypeId) (l : Sp.Bs) : Nat := grownCap w l.length 0 e
theorem conv_any {P : Program} (src dst e : TypeId) (l : Sp.Bs) {u : TypeDesc} (hs : P.underlying src = some u) (hd : P.underlying dst = some (.slice e)) (he : P.underlying e = some (.int .u8)) :
    ∀ w, (convert src dst (str l)).run P w = .ok (.slice (some ⟨w.heap.size, 0, none⟩) l.length (bytesC w e l)) (bytesW w e l) := fun w =>
  (Lib.run_convert_string_bytes w src dst e ⟨l.toArray⟩ hs hd he).trans (by rw [str_size]; rfl)
theorem bytesC_le (w : World) (e : TypeId) (l : Sp.Bs) (h : l.length ≤ maxLen) : l.length ≤ bytesC w e l ∧ bytesC w e l ≤ maxLen := ⟨grownCap_ge _ _ _ _, grownCap_le_maxLen _ _ _ _ h⟩
theorem bytesW_facts (w : World) (e : TypeId) (l : Sp.Bs) : Below w.heap.size w (bytesW w e l) ∧ (bytesW w e l).heap.size = w.heap.size + 1 ∧
    (∀ j (hj : j < l.length), (bytesW w e l).cell? ⟨w.heap.size, j, none⟩ = some (.int .u8 (l[j].toNat : Int))) ∧ (∀ j, j < l.length → (bytesW w e l).frozen? ⟨w.heap.size, j, none⟩ = false) := by
  refine ⟨⟨?_, ?_, ?_, ?_, ?_⟩, Lib.bytesWorld_size _ _ _, fun j hj => ?_, fun j hj => ?_⟩
  · simp [bytesW, Lib.bytesWorld, World.freeze, World.alloc, World.drew, -World.alloc_eq, -World.drew_eq]
  · simp [bytesW, Lib.bytesWorld, World.freeze, World.alloc, World.drew, -World.alloc_eq, -World.drew_eq]
  · simp [bytesW, Lib.bytesWorld, World.freeze, World.alloc, World.drew, -World.alloc_eq, -World.drew_eq]
  · rw [bytesW, Lib.bytesWorld_size]; omega
  · exact fun k hk => Lib.bytesWorld_at_old _ _ _ _ hk
  · rw [bytesW, Lib.bytesWorld_cell _ _ _ _ (by simpa using hj)]
    simp [List.getD, hj]
  · have hsz : l.length ≤ (Lib.bytesCells w e ⟨l.toArray⟩).size := by simp [Lib.bytesCells]
    simp [bytesW, World.frozen?, Lib.bytesWorld_at_new]
    omega

theorem ofInt_i64 (a : Nat) (ha : a < 9223372036854775808) : (BitVec.ofInt 64 (a : Int)).toNat = a := by
  rw [BitVec.ofInt_natCast, BitVec.toNat_ofNat]; exact Nat.mod_eq_of_lt (by omega)
theorem i64_or_nat (a b : Nat) (ha : a < 9223372036854775808) (hb : b < 9223372036854775808) : bits .or .i64 (a : Int) (b : Int) = ((a ||| b : Nat) : Int) := by
  have hx : a ||| b < 2 ^ 63 := Nat.or_lt_two_pow (by omega) (by omega)
  show IntKind.i64.wrap ((BitVec.ofInt 64 (a : Int) ||| BitVec.ofInt 64 (b : Int)).toNat : Int) = _
  rw [BitVec.toNat_or, ofInt_i64 a ha, ofInt_i64 b hb, IntKind.wrap_i64]
  omega

/-- A quiet callee in a region that stands behind other draws. -/
theorem quiet_add {P : Program} {f : FuncId} {args : Array Value} {w : World} {a n : Nat} {v : Value}
    (h : Calls P f args (w.drewN (a + n)) fun e w' => e = .returned v ∧ ∃ m, w' = (w.drewN (a + n)).drewN m) :
    Calls P f args (w.drewN (a + n)) fun e w'' => e = .returned v ∧ ∃ m, w'' = w.drewN (a + m) :=
  h.mono fun _ _ ⟨he, m, hm⟩ => ⟨he, n + m, by rw [hm, World.drewN_drewN, Nat.add_assoc]⟩
theorem quiet_left {P : Program} {f : FuncId} {args : Array Value} {w : World} {n : Nat} {v : Value}
    (h : Calls P f args (w.drewN n) fun e w' => e = .returned v ∧ w.drewN n = w') : Calls P f args (w.drewN n) fun e w'' => e = .returned v ∧ ∃ m, w'' = w.drewN m :=
  h.mono fun _ _ ⟨he, hm⟩ => ⟨he, n, hm.symm⟩

theorem run_make_rowN {P : Program} (t e : TypeId) (i : TypeInfo) (z : Value) (ht : P.underlying t = some (.slice e)) (hi : P.info? e = some i) (hz : i.zero = some z)
    (kl kc : IntKind) (n c : Nat) (hnc : n ≤ c) (hbytes : i.bytes * c ≤ 281474976710656) (h63 : c ≤ 9223372036854775807) (w : World) :
    (Instr.makeSlice t (.int kl (n : Int)) (.int kc (c : Int))).run P w = .ok (.slice (some ⟨w.heap.size, 0, none⟩) n c) (w.alloc (.cells (madeCells z.cells (c * i.size)) e)) := by
  have hb : (i.bytes : Int) * (c : Int) ≤ 281474976710656 := by
    have h : ((i.bytes * c : Nat) : Int) ≤ 281474976710656 := by omega
    rwa [Int.natCast_mul] at h
  have hr := run_make (P := P) w t e i z ht hi hz kl kc n c (by omega) (by omega) hb (by omega)
  simp only [Int.toNat_natCast] at hr
  exact hr
theorem madeCells_one (v : Value) (n : Nat) : madeCells #[v] n = (List.replicate n v).toArray := by
  unfold madeCells
  apply Array.ext_getElem?
  intro j
  rcases Nat.lt_or_ge j n with hj | hj
  · simp [hj, Nat.mod_one]
  · rw [Array.getElem?_eq_none (by simpa using hj)]; simp; omega
end Go.Proofs.YtafopojibpifoaaGreat

/- Plain words on pages: what stands where in an area, a page's bytes. No program is named here. -/
namespace Go.Proofs.YtafopojibpifoaaGreat.Sp

/-- the two bytes' number at a place. -/
def two (l : Bs) (k : Nat) : Nat := num ((l.drop k).take 2)

theorem take2_mid {x y z : Bs} {k n : Nat} (hk : k = x.length) (hn : n = y.length) : ((x ++ y ++ z).drop k).take n = y := by
  subst hk hn
  rw [List.append_assoc, List.drop_left, List.take_left]

theorem two_mid {x z : Bs} {k n : Nat} (hk : k = x.length) (hn : n < 65536) : two (x ++ be 2 n ++ z) k = n := by
  unfold two
  rw [take2_mid hk (by simp), num_be_lt (by omega)]

theorem area_count {size : Nat} {rows : List Bs} (h : rows.length < 65536) : two (area size rows) 0 = rows.length := by
  unfold area
  rw [show be 2 rows.length ++ be 2 (size - total rows) ++ dir size rows ++ zeros (size - total rows - 4 - 4 * rows.length) ++ rows.reverse.flatten =
    [] ++ be 2 rows.length ++ (be 2 (size - total rows) ++ dir size rows ++ zeros (size - total rows - 4 - 4 * rows.length) ++ rows.reverse.flatten) by simp only [List.append_assoc, List.nil_append]]
  exact two_mid (by simp) h

theorem area_low {size : Nat} {rows : List Bs} (h : size < 65536) : two (area size rows) 2 = size - total rows := by
  unfold area
  rw [show be 2 rows.length ++ be 2 (size - total rows) ++ dir size rows ++ zeros (size - total rows - 4 - 4 * rows.length) ++ rows.reverse.flatten =
    be 2 rows.length ++ be 2 (size - total rows) ++ (dir size rows ++ zeros (size - total rows - 4 - 4 * rows.length) ++ rows.reverse.flatten) by simp only [List.append_assoc]]
  exact two_mid (by simp) (by omega)

theorem split_at (rows : List Bs) (i : Nat) (h : i < rows.length) : rows = rows.take i ++ rows[i] :: rows.drop (i + 1) := by
  rw [← List.drop_eq_getElem_cons h, List.take_append_drop]

theorem total_take_succ (rows : List Bs) (i : Nat) (h : i < rows.length) : total (rows.take (i + 1)) = total (rows.take i) + rows[i].length := by
  rw [List.take_succ_eq_append_getElem h, total_append, total_cons, total_nil, Nat.add_zero]

theorem total_take_le (rows : List Bs) (i : Nat) : total (rows.take i) ≤ total rows := by
  conv => rhs; rw [← List.take_append_drop i rows, total_append]
  omega

theorem total_take_mono (rows : List Bs) {i j : Nat} (h : i ≤ j) : total (rows.take i) ≤ total (rows.take j) := by
  have := total_take_le (rows.take j) i
  rwa [List.take_take, Nat.min_eq_left h] at this

theorem area_from {size : Nat} {rows : List Bs} {i : Nat} (hi : i < rows.length) (h : size < 65536) : two (area size rows) (4 + 4 * i) = size - total (rows.take (i + 1)) := by
  unfold area
  rw [total_take_succ rows i hi]
  generalize hz : zeros (size - total rows - 4 - 4 * rows.length) = z
  generalize hf : rows.reverse.flatten = f
  generalize hl : be 2 (size - total rows) = l
  have hll : l.length = 2 := by rw [← hl]; simp
  generalize hc : be 2 rows.length = c
  have hcl : c.length = 2 := by rw [← hc]; simp
  have hs := split_at rows i hi
  generalize hr : rows[i] = r at hs ⊢
  have hd : dir size rows = dir size (rows.take i) ++ (be 2 (size - total (rows.take i) - r.length) ++ be 2 r.length ++ dir (size - total (rows.take i) - r.length) (rows.drop (i + 1))) := by
    conv => lhs; rw [hs]
    rw [dir_append, dir]
  rw [hd, show c ++ l ++ (dir size (rows.take i) ++ (be 2 (size - total (rows.take i) - r.length) ++ be 2 r.length ++ dir (size - total (rows.take i) - r.length) (rows.drop (i + 1)))) ++ z ++ f =
    (c ++ l ++ dir size (rows.take i)) ++ be 2 (size - total (rows.take i) - r.length) ++ (be 2 r.length ++ dir (size - total (rows.take i) - r.length) (rows.drop (i + 1)) ++ z ++ f) by simp only [List.append_assoc]]
  rw [two_mid (by simp [hcl, hll, dir_length]; omega) (by omega), Nat.sub_sub]

theorem area_len {size : Nat} {rows : List Bs} {i : Nat} (hi : i < rows.length) (h : rows[i].length < 65536) : two (area size rows) (4 + 4 * i + 2) = rows[i].length := by
  unfold area
  generalize hz : zeros (size - total rows - 4 - 4 * rows.length) = z
  generalize hf : rows.reverse.flatten = f
  generalize hl : be 2 (size - total rows) = l
  have hll : l.length = 2 := by rw [← hl]; simp
  generalize hc : be 2 rows.length = c
  have hcl : c.length = 2 := by rw [← hc]; simp
  have hs := split_at rows i hi
  generalize hr : rows[i] = r at hs h ⊢
  have hd : dir size rows = dir size (rows.take i) ++ (be 2 (size - total (rows.take i) - r.length) ++ be 2 r.length ++ dir (size - total (rows.take i) - r.length) (rows.drop (i + 1))) := by
    conv => lhs; rw [hs]
    rw [dir_append, dir]
  rw [hd, show c ++ l ++ (dir size (rows.take i) ++ (be 2 (size - total (rows.take i) - r.length) ++ be 2 r.length ++ dir (size - total (rows.take i) - r.length) (rows.drop (i + 1)))) ++ z ++ f =
    (c ++ l ++ dir size (rows.take i) ++ be 2 (size - total (rows.take i) - r.length)) ++ be 2 r.length ++ (dir (size - total (rows.take i) - r.length) (rows.drop (i + 1)) ++ z ++ f) by simp only [List.append_assoc]]
  rw [two_mid (by simp [hcl, hll, dir_length]; omega) (by omega)]

theorem area_text {size : Nat} {rows : List Bs} {i : Nat} (hi : i < rows.length) (h : 4 + 4 * rows.length + total rows ≤ size) : ((area size rows).drop (size - total (rows.take (i + 1)))).take rows[i].length = rows[i] := by
  have hlen := area_length h
  have hs := split_at rows i hi
  have ht := total_take_succ rows i hi
  have hle := total_take_le rows (i + 1)
  generalize hr : rows[i] = r at hs ht ⊢
  have e : area size rows = (be 2 rows.length ++ be 2 (size - total rows) ++ dir size rows ++ zeros (size - total rows - 4 - 4 * rows.length) ++ (rows.drop (i + 1)).reverse.flatten) ++ r ++ (rows.take i).reverse.flatten := by
    unfold area
    conv => lhs; arg 2; rw [hs]
    simp
  have htot : total rows = total (rows.take (i + 1)) + total (rows.drop (i + 1)) := by
    conv => lhs; rw [← List.take_append_drop (i + 1) rows, total_append]
  rw [e]
  refine take2_mid ?_ rfl
  simp only [List.length_append, be_length, dir_length, zeros, List.length_replicate, flatten_length, total_reverse]
  omega

theorem patch_take {l p : Bs} {k n : Nat} (h : n ≤ k) (hk : k ≤ l.length) : (patch l k p).take n = l.take n := by
  unfold patch
  rw [List.append_assoc, List.take_append_of_le_length (by simp; omega), List.take_take, Nat.min_eq_left h]

theorem two_patch0 {l p : Bs} {k : Nat} (h : 2 ≤ k) (hk : k ≤ l.length) : two (patch l k p) 0 = two l 0 := by
  unfold two
  rw [List.drop_zero, List.drop_zero, patch_take h hk]

/-- a page. -/
structure Pg where
  kind : Nat
  level : Nat
  id : Nat
  lsn : Nat
  next : Nat
  rows : List Bs
  deriving Inhabited

/-- A page that may be. -/
def Pg.may (p : Pg) : Prop := p.kind ≤ 5 ∧ 1 ≤ p.id ∧ p.id ≤ 1024 ∧ p.next ≤ 1024 ∧ 4 * p.rows.length + total p.rows ≤ 484

/-- numbers in their bounds. -/
def Pg.wf (p : Pg) : Prop := p.kind < 256 ∧ p.level < 256 ∧ p.id < 4294967296 ∧ p.lsn < 18446744073709551616 ∧ p.next < 4294967296

def Pg.head (p : Pg) : Bs := be 1 p.kind ++ be 1 p.level ++ be 4 p.id ++ be 8 p.lsn ++ be 4 p.next ++ be 2 0

theorem Pg.head_length (p : Pg) : p.head.length = 20 := by simp [head]

def Pg.body (p : Pg) : Bs := p.head ++ area 488 p.rows

theorem Pg.body_length {p : Pg} (h : p.may) : p.body.length = 508 := by
  obtain ⟨_, _, _, _, h⟩ := h
  simp [body, head_length, area_length (size := 488) (rows := p.rows) (by omega)]

end Go.Proofs.YtafopojibpifoaaGreat.Sp

/- The walks of package slot: what a page needs of an area: a new one, texts put behind all, its bytes; one that is loaded, and read. -/
namespace Go.Proofs.YtafopojibpifoaaGreat
open Go.RowKit

/-- The bytes l stand in block h from place o on. -/
def BytesAt (w : World) (h o : Nat) (l : Sp.Bs) : Prop := ∀ j (hj : j < l.length), w.cell? ⟨h, o + j, none⟩ = some (.int .u8 (l[j].toNat : Int))

/-- An area that is read: its struct in block g, its bytes in block h. -/
structure AreaR (w : World) (g h : Nat) (l : Sp.Bs) : Prop where
  area : ∃ c, Blk w g 207 #[.slice (some ⟨h, 0, none⟩) l.length c] ∧ l.length ≤ c ∧ c ≤ maxLen
  bytes : BytesAt w h 0 l
  some_ : 16 ≤ l.length
  few : l.length ≤ 4096
  in_ : h < w.heap.size

theorem AreaR.below {w w' : World} {g h : Nat} {l : Sp.Bs} (hA : AreaR w g h l) (hb : Below w.heap.size w w') : AreaR w' g h l := by
  obtain ⟨⟨c, h1, hc⟩, h2, h3, h4, h5⟩ := hA
  exact ⟨⟨c, h1.below hb h1.lt, hc⟩, fun j hj => ((below_cell hb).1 _ _ h5).trans (h2 j hj), h3, h4, Nat.lt_of_lt_of_le h5 hb.size⟩
theorem AreaR.drewN {w : World} {g h : Nat} {l : Sp.Bs} (hA : AreaR w g h l) (n : Nat) : AreaR (w.drewN n) g h l := ⟨hA.area, hA.bytes, hA.some_, hA.few, hA.in_⟩

theorem below_drewN' {B : Nat} {a w : World} (h : Below B a w) (n : Nat) : Below B a (w.drewN n) := ⟨h.os, h.tape, h.output, h.size, h.block⟩

theorem two_lt (l : Sp.Bs) (k : Nat) : Sp.two l k < 65536 := by
  unfold Sp.two
  refine Nat.lt_of_lt_of_le (Sp.num_lt _) ?_
  have h : ((l.drop k).take 2).length ≤ 2 := by simp; omega
  exact Nat.le_trans (Nat.pow_le_pow_right (by omega) h) (by decide)

set_option maxRecDepth 100000 in
set_option maxHeartbeats 2000000 in
theorem slot_none {w : World} {g h : Nat} {l : Sp.Bs} (hA : AreaR w g h l) :
    Calls Tryz.prog 116 #[.pointer (some ⟨g, 0, none⟩)] w fun e w' => e = .returned (.bool false) ∧ w = w' := by
  obtain ⟨⟨c, h1, _, _⟩, _, h3, _, _⟩ := hA
  have hc := h1.cell 0
  generalize l.length = n at *
  have hl : ((n : Int) == 0) = false := by rw [beq_eq_false_iff_ne]; omega
  go_enter Tryz.func116, Tryz.ntmps116
  go_wp2_with fail
  go_ret
  exact ⟨rfl, rfl⟩

theorem two_get (l : Sp.Bs) (k : Nat) (h : k + 1 < l.length) : Sp.two l k = (l[k]'(by omega)).toNat * 256 + l[k + 1].toNat := by
  unfold Sp.two
  rw [List.drop_eq_getElem_cons (by omega), List.drop_eq_getElem_cons h]
  simp only [List.take_succ_cons, List.take_zero, Sp.num, List.foldl_cons, List.foldl_nil, Nat.zero_mul, Nat.zero_add]

set_option maxRecDepth 100000 in
set_option maxHeartbeats 2000000 in
theorem slot_get {w : World} {g h : Nat} {l : Sp.Bs} (hA : AreaR w g h l) (k : Nat) (hk : k + 1 < l.length) :
    Calls Tryz.prog 133 #[.pointer (some ⟨g, 0, none⟩), .int .i64 k] w fun e w' => e = .returned (.int .i64 (Sp.two l k)) ∧ ∃ n, w' = w.drewN n := by
  obtain ⟨⟨c, h1, hlc, hcm⟩, hb, h3, h4, _⟩ := hA
  unfold maxLen at hcm
  have hc := h1.cell 0
  have e0 := hb k (by omega)
  have e1 := hb (k + 1) hk
  rw [Nat.zero_add] at e0 e1
  have H2 := Lib.hid (two_get l k hk)
  have b0 := (l[k]'(by omega)).toNat_lt
  have b1 := l[k + 1].toNat_lt
  generalize (l[k]'(by omega)).toNat = x at *
  generalize l[k + 1].toNat = y at *
  have i0 : (0 : Int) ≤ (k : Int) := by omega
  have i1 : (k : Int) < (l.length : Int) := by omega
  have i2 : (k : Int) + 1 < (l.length : Int) := by omega
  have i3 : (0 : Int) ≤ (k : Int) + 1 := by omega
  have i4 : IntKind.i64.wrap ((k : Int) + 1) = (k : Int) + 1 := IntWalk.i64_in _ (by omega)
  have i5 : ((k : Int) + 1).toNat = k + 1 := by omega
  clear hb
  go_enter Tryz.func133, Tryz.ntmps133
  go_wp2_with fail
  go_quiet (fail)
  go_wp2_with fail
  go_ret
  refine ⟨?_, _, rfl⟩
  show Ending.returned (.int .i64 (bits .or .i64 ((x : Int) * 256) (y : Int))) = _
  rw [show (x : Int) * 256 = ((x * 256 : Nat) : Int) by omega, i64_or_nat _ _ (by omega) (by omega), nat_join 8 _ _ (by omega) (by omega), H2.out]

set_option maxRecDepth 100000 in
set_option maxHeartbeats 2000000 in
theorem slot_len {w : World} {g h : Nat} {l : Sp.Bs} (hA : AreaR w g h l) :
    Calls Tryz.prog 94 #[.pointer (some ⟨g, 0, none⟩)] w fun e w' => e = .returned (.int .i64 (Sp.two l 0)) ∧ ∃ n, w' = w.drewN n := by
  go_enter Tryz.func94, Tryz.ntmps94
  go_wp2_with fail
  refine (slot_none hA).mono ?_
  rintro e w' ⟨rfl, rfl⟩
  go_wp2_with fail
  refine (slot_get hA 0 (by have := hA.some_; omega)).mono ?_
  rintro e w' ⟨rfl, n, rfl⟩
  go_wp2_with fail
  go_ret
  exact ⟨rfl, n, rfl⟩

set_option maxRecDepth 100000 in
set_option maxHeartbeats 2000000 in
theorem slot_gap {w : World} {g h : Nat} {l : Sp.Bs} (hA : AreaR w g h l) :
    Calls Tryz.prog 118 #[.pointer (some ⟨g, 0, none⟩)] w fun e w' => e = .returned (.int .i64 ((Sp.two l 2 : Int) - 4 - 4 * Sp.two l 0)) ∧ ∃ n, w' = w.drewN n := by
  have b2 := two_lt l 2
  have b0 := two_lt l 0
  go_enter Tryz.func118, Tryz.ntmps118
  go_wp2_with fail
  refine (slot_none hA).mono ?_
  rintro e w' ⟨rfl, rfl⟩
  go_wp2_with fail
  refine (slot_get hA 2 (by have := hA.some_; omega)).mono ?_
  rintro e w' ⟨rfl, n, rfl⟩
  go_wp2_with fail
  refine (slot_len (hA.drewN n)).mono ?_
  rintro e w' ⟨rfl, m, rfl⟩
  go_wp2_with fail
  go_ret
  exact ⟨rfl, n + m, rfl⟩

set_option maxRecDepth 100000 in
set_option maxHeartbeats 2000000 in
theorem slot_entry {w : World} {g h : Nat} {l : Sp.Bs} (hA : AreaR w g h l) (i : Nat) (hi : 4 + 4 * i + 3 < l.length) :
    Calls Tryz.prog 147 #[.pointer (some ⟨g, 0, none⟩), .int .i64 i] w fun e w' => e = .returned (.tuple #[.int .i64 (Sp.two l (4 + 4 * i)), .int .i64 (Sp.two l (4 + 4 * i + 2))]) ∧ ∃ n, w' = w.drewN n := by
  have i1 : (i : Int) ≤ 4096 := by have := hA.few; omega
  go_enter Tryz.func147, Tryz.ntmps147
  go_wp2_with fail
  rw [show (4 + 4 * (i : Int)) = ((4 + 4 * i : Nat) : Int) by omega]
  refine (slot_get hA (4 + 4 * i) (by omega)).mono ?_
  rintro e w' ⟨rfl, n, rfl⟩
  go_wp2_with fail
  rw [show (4 + 4 * (i : Int) + 2) = ((4 + 4 * i + 2 : Nat) : Int) by omega]
  refine (slot_get (hA.drewN n) (4 + 4 * i + 2) (by omega)).mono ?_
  rintro e w' ⟨rfl, m, rfl⟩
  go_wp2_with fail
  go_ret2
  exact ⟨rfl, n + m, rfl⟩

set_option maxRecDepth 100000 in
set_option maxHeartbeats 2000000 in
/-- The text of a place whose entry says (f, n). -/
theorem slot_text {w : World} {g h : Nat} {l : Sp.Bs} (hA : AreaR w g h l) (i f n : Nat) (hi : 4 + 4 * i + 3 < l.length) (hf : Sp.two l (4 + 4 * i) = f) (hn : Sp.two l (4 + 4 * i + 2) = n) (hfn : f + n ≤ l.length) :
    Calls Tryz.prog 135 #[.pointer (some ⟨g, 0, none⟩), .int .i64 i] w fun e w' => e = .returned (str ((l.drop f).take n)) ∧ ∃ n, w' = w.drewN n := by
  go_enter Tryz.func135, Tryz.ntmps135
  go_wp2_with fail
  refine (slot_entry hA i hi).mono ?_
  rintro e w' ⟨rfl, q, rfl⟩
  rw [hf, hn]
  clear hf hn
  obtain ⟨⟨c, h1, hlc, hcm⟩, hb, h3, h4, _⟩ := hA
  unfold maxLen at hcm
  have hc := h1.cell 0
  have i1 : (f : Int) ≤ (f : Int) + (n : Int) := by omega
  have i2 : (f : Int) + (n : Int) ≤ (c : Int) := by omega
  rcases Nat.lt_or_ge f c with hfc | hfc
  · have hcb := run_bytes_back (P := Tryz.prog) (w.drewN q) 102 9 5 h f n (c - f) ((l.drop f).take n) Tryz.underlying102 Tryz.underlying5 Tryz.underlying9 (by simp; omega) (fun j hj => by
      have h5 := hb (f + j) (by simp at hj; omega)
      rw [Nat.zero_add] at h5
      simpa using h5)
    have hne : ¬ c = f := by omega
    clear hb
    go_wp2_with fail
    go_ret
    exact ⟨rfl, q, rfl⟩
  · obtain rfl : c = f := by omega
    obtain rfl : n = 0 := by omega
    have hcb := run_bytes_back (P := Tryz.prog) (w.drewN q) 102 9 5 h 0 0 0 [] Tryz.underlying102 Tryz.underlying5 Tryz.underlying9 rfl (fun j hj => absurd hj (by simp))
    clear hb
    go_wp2_with fail
    go_ret
    exact ⟨rfl, q, rfl⟩

/-- An area that may be: its entries stand behind the low place, within the area, and none meets another. -/
structure AreaOk (l : Sp.Bs) : Prop where
  gap : 4 + 4 * Sp.two l 0 ≤ Sp.two l 2
  low : Sp.two l 2 ≤ l.length
  each : ∀ i, i < Sp.two l 0 → Sp.two l 2 ≤ Sp.two l (4 + 4 * i) ∧ Sp.two l (4 + 4 * i) + Sp.two l (4 + 4 * i + 2) ≤ l.length
  apart : ∀ i j, i < Sp.two l 0 → j < i → Sp.two l (4 + 4 * i + 2) = 0 ∨ Sp.two l (4 + 4 * j + 2) = 0 ∨ Sp.two l (4 + 4 * i) + Sp.two l (4 + 4 * i + 2) ≤ Sp.two l (4 + 4 * j) ∨ Sp.two l (4 + 4 * j) + Sp.two l (4 + 4 * j + 2) ≤ Sp.two l (4 + 4 * i)

set_option maxRecDepth 100000 in
set_option maxHeartbeats 4000000 in
theorem slot_may {w : World} {g h : Nat} {l : Sp.Bs} (hA : AreaR w g h l) (hO : AreaOk l) :
    Calls Tryz.prog 132 #[.pointer (some ⟨g, 0, none⟩)] w fun e w' => e = .returned (.bool true) ∧ ∃ n, w' = w.drewN n := by
  obtain ⟨o1, o2, o3, o4⟩ := hO
  obtain ⟨⟨c, h1, _, _⟩, _, h3, h4, _⟩ := id hA
  have hc := h1.cell 0
  have hgap := Lib.hid fun n => slot_gap (hA.drewN n)
  have hlow := Lib.hid fun n => slot_get (hA.drewN n) 2 (by omega)
  have hlen := Lib.hid fun n => slot_len (hA.drewN n)
  have hent := Lib.hid fun n i hi => slot_entry (hA.drewN n) i hi
  have b0 := two_lt l 0
  have b2 := two_lt l 2
  have O3 := Lib.hid o3
  have O4 := Lib.hid o4
  clear o3 o4 hA h1
  have hk : ∀ i, i < Sp.two l 0 → 4 + 4 * i + 3 < l.length := fun i hi => by omega
  have HK := Lib.hid hk
  clear hk
  have d1 : decide ((l.length : Int) < 16) = false := by rw [decide_eq_false_iff_not]; omega
  have d2 : decide ((4096 : Int) < (l.length : Int)) = false := by rw [decide_eq_false_iff_not]; omega
  have d3 : decide ((Sp.two l 2 : Int) - 4 - 4 * (Sp.two l 0 : Int) < 0) = false := by rw [decide_eq_false_iff_not]; omega
  have d4 : decide ((l.length : Int) < (Sp.two l 2 : Int)) = false := by rw [decide_eq_false_iff_not]; omega
  generalize hm : Sp.two l 0 = m at *
  generalize hlo : Sp.two l 2 = low at *
  have HM := Lib.hid hm
  have HLO := Lib.hid hlo
  clear hm hlo
  go_enter Tryz.func132, Tryz.ntmps132
  go_wp2_with fail
  go_step3
  go_wp2_with fail
  go_quiet (first
    | (go_at_call 118; exact Calls.quiet_of (hgap.out _))
    | (go_at_call 133; exact Calls.quiet_of (hlow.out _)))
  go_wp2_with fail
  go_step3
  go_wp2_with fail
  refine (hlen.out _).mono ?_
  rintro e w' ⟨rfl, q0, rfl⟩
  go_wp2_with fail
  go_loopw [3, 41] (fun f i wr => ∃ k : Nat, k ≤ m ∧ i = .int .i64 k ∧ f = .bool true ∧ ∃ q, wr = w.drewN q) (fun _ i _ => m - (intOf i).toNat)
  case atStart => exact ⟨0, by omega, rfl, rfl, _, rfl⟩
  case round =>
    obtain ⟨k, hk, rfl, rfl, q, rfl⟩ := hrel
    by_cases hlt : k < m
    · obtain ⟨f1, f2⟩ := O3.out k hlt
      have f3 := O4.out k
      have hek := hent.out q k (HK.out k hlt)
      have F3 := Lib.hid f3
      clear f3
      generalize hF : Sp.two l (4 + 4 * k) = F at *
      generalize hN : Sp.two l (4 + 4 * k + 2) = N at *
      clear hF hN
      have HE := Lib.hid hek
      clear hek
      have e1 : decide ((low : Int) ≤ (F : Int)) = true := by rw [decide_eq_true_eq]; omega
      have e2 : decide ((F : Int) + (N : Int) ≤ (l.length : Int)) = true := by rw [decide_eq_true_eq]; omega
      go_wp2_with fail
      refine HE.out.mono ?_
      rintro e w' ⟨rfl, q1, rfl⟩
      go_wp2_with fail
      refine (hlow.out _).mono ?_
      rintro e w' ⟨rfl, q2, rfl⟩
      go_wp2_with fail
      clear e1 e2 HE
      go_loopw [3, 68] (fun f i wr => ∃ j : Nat, j ≤ k ∧ i = .int .i64 j ∧ f = .bool true ∧ ∃ q, wr = w.drewN q) (fun _ i _ => k - (intOf i).toNat)
      case atStart => exact ⟨0, by omega, rfl, rfl, _, rfl⟩
      case round =>
        obtain ⟨j, hj, rfl, rfl, q3, rfl⟩ := hrel
        by_cases hlt2 : j < k
        · have f4 := F3.out j hlt hlt2
          have hej := hent.out q3 j (HK.out j (by omega))
          generalize hF' : Sp.two l (4 + 4 * j) = F' at *
          generalize hN' : Sp.two l (4 + 4 * j + 2) = N' at *
          have bF : F' < 65536 := by rw [← hF']; exact two_lt _ _
          have bN : N' < 65536 := by rw [← hN']; exact two_lt _ _
          clear hF' hN'
          have HE := Lib.hid hej
          clear hej
          have key : (((N : Int) == 0) = true ∧ True) ∨ (((N : Int) == 0) = false ∧ ((N' : Int) == 0) = true) ∨ (((N : Int) == 0) = false ∧ ((N' : Int) == 0) = false ∧ decide ((F : Int) + (N : Int) ≤ (F' : Int)) = true) ∨
              (((N : Int) == 0) = false ∧ ((N' : Int) == 0) = false ∧ decide ((F : Int) + (N : Int) ≤ (F' : Int)) = false ∧ decide ((F' : Int) + (N' : Int) ≤ (F : Int)) = true) := by
            by_cases n1 : N = 0
            · exact .inl ⟨by rw [beq_iff_eq]; omega, trivial⟩
            · have m1 : ((N : Int) == 0) = false := by rw [beq_eq_false_iff_ne]; omega
              by_cases n2 : N' = 0
              · exact .inr (.inl ⟨m1, by rw [beq_iff_eq]; omega⟩)
              · have m2 : ((N' : Int) == 0) = false := by rw [beq_eq_false_iff_ne]; omega
                by_cases n3 : F + N ≤ F'
                · exact .inr (.inr (.inl ⟨m1, m2, by rw [decide_eq_true_eq]; omega⟩))
                · have n4 : F' + N' ≤ F := by rcases f4 with h | h | h | h <;> omega
                  exact .inr (.inr (.inr ⟨m1, m2, by rw [decide_eq_false_iff_not]; omega, by rw [decide_eq_true_eq]; omega⟩))
          have bF' := Lib.hid f4
          clear f4
          have lF : (F : Int) ≤ 4096 := by omega
          have lN : (N : Int) ≤ 4096 := by omega
          have lF' : (F' : Int) < 65536 := by omega
          have lN' : (N' : Int) < 65536 := by omega
          rcases key with ⟨k1, _⟩ | ⟨k1, k2⟩ | ⟨k1, k2, k3⟩ | ⟨k1, k2, k3, k4⟩
          all_goals
            go_wp2_with fail
            refine HE.out.mono ?_
            rintro e w' ⟨rfl, q4, rfl⟩
            go_wp2_with fail
            go_roundw
            case rel => exact ⟨j + 1, by omega, by go_num, rfl, _, rfl⟩
            case measure => simp [intOf]; omega
        · go_wp2_with fail
          go_roundw
          case rel => exact ⟨k + 1, by omega, by go_num, rfl, _, rfl⟩
          case measure => simp [intOf]; omega
    · go_wp2_with fail
      rw [Exit.noGoto_ret]
      go_ret
      exact ⟨rfl, _, rfl⟩

set_option maxRecDepth 100000 in
set_option maxHeartbeats 2000000 in
theorem slot_there {w : World} {g h : Nat} {l : Sp.Bs} (hA : AreaR w g h l) (i : Nat) (hi : i < Sp.two l 0) :
    Calls Tryz.prog 134 #[.pointer (some ⟨g, 0, none⟩), .int .i64 i] w fun e w' => e = .returned (.int .i64 0) ∧ ∃ n, w' = w.drewN n := by
  have d1 : decide ((Sp.two l 0 : Int) ≤ (i : Int)) = false := by rw [decide_eq_false_iff_not]; omega
  go_enter Tryz.func134, Tryz.ntmps134
  go_wp2_with fail
  refine (slot_none hA).mono ?_
  rintro e w' ⟨rfl, rfl⟩
  go_wp2_with fail
  refine (slot_len hA).mono ?_
  rintro e w' ⟨rfl, n, rfl⟩
  go_wp2_with fail
  go_ret
  exact ⟨rfl, n, rfl⟩

set_option maxRecDepth 100000 in
set_option maxHeartbeats 2000000 in
theorem slot_Get {w : World} {g h : Nat} {l : Sp.Bs} (hA : AreaR w g h l) (i f n : Nat) (hi : i < Sp.two l 0) (hi' : 4 + 4 * i + 3 < l.length) (hf : Sp.two l (4 + 4 * i) = f) (hn : Sp.two l (4 + 4 * i + 2) = n) (hfn : f + n ≤ l.length) :
    Calls Tryz.prog 95 #[.pointer (some ⟨g, 0, none⟩), .int .i64 i] w fun e w' => e = .returned (.tuple #[str ((l.drop f).take n), .int .i64 0]) ∧ ∃ n, w' = w.drewN n := by
  go_enter Tryz.func95, Tryz.ntmps95
  go_wp2_with fail
  refine (slot_there hA i hi).mono ?_
  rintro e w' ⟨rfl, q, rfl⟩
  go_wp2_with fail
  refine (slot_text (hA.drewN q) i f n hi' hf hn hfn).mono ?_
  rintro e w' ⟨rfl, q2, rfl⟩
  go_wp2_with fail
  go_ret2
  exact ⟨rfl, q + q2, rfl⟩

set_option maxRecDepth 100000 in
set_option maxHeartbeats 2000000 in
theorem slot_load (l : Sp.Bs) (w : World) (h1 : 16 ≤ l.length) (h2 : l.length ≤ 4096) (hO : AreaOk l) :
    Calls Tryz.prog 93 #[str l] w fun e w' => ∃ g h, e = .returned (.tuple #[.pointer (some ⟨g, 0, none⟩), .int .i64 0]) ∧ AreaR w' g h l ∧ w.heap.size ≤ g ∧ w.heap.size ≤ h ∧ Below w.heap.size w w' := by
  have hcv := conv_any (P := Tryz.prog) 9 102 5 l Tryz.underlying9 Tryz.underlying102 Tryz.underlying5
  have d1 : decide ((l.length : Int) < 16) = false := by rw [decide_eq_false_iff_not]; omega
  go_enter Tryz.func93, Tryz.ntmps93
  go_wp2_with fail
  obtain ⟨hb1, hs1, hnew, _⟩ := bytesW_facts w 5 l
  obtain ⟨c1, c2⟩ := bytesC_le w 5 l (by unfold maxLen; omega)
  clear hcv
  generalize bytesW w 5 l = w1 at *
  generalize bytesC w 5 l = c at *
  have hb2 : Below w1.heap.size w1 (w1.alloc (.cells #[.slice (some ⟨w.heap.size, 0, none⟩) l.length c] 207)) := (Below.refl _ _).alloc (Nat.le_refl _) _
  have hA : AreaR (w1.alloc (.cells #[.slice (some ⟨w.heap.size, 0, none⟩) l.length c] 207)) w1.heap.size w.heap.size l :=
    ⟨⟨c, Blk.new w1 _ _, c1, c2⟩, fun j hj => by
      rw [Nat.zero_add, (below_cell hb2).1 _ _ (by omega)]
      exact hnew j hj, h1, h2, by simp; omega⟩
  clear hs1
  refine (slot_may hA hO).mono ?_
  rintro e w' ⟨rfl, q, rfl⟩
  go_wp2_with fail
  go_ret2
  exact ⟨_, _, rfl, hA.drewN q, hb1.size, Nat.le_refl _, below_drewN' (hb1.trans (hb2.mono hb1.size)) q⟩

end Go.Proofs.YtafopojibpifoaaGreat

/- The walks of package word. -/
namespace Go.Proofs.YtafopojibpifoaaGreat
open Go.RowKit

/-- The array of word.Put behind k rounds. -/
def putCells (n k : Nat) : Array Value := ((List.range 8).map fun j => Value.int .u8 (if 8 ≤ j + k then ((n / 256 ^ (7 - j) % 256 : Nat) : Int) else 0)).toArray

theorem putCells_next (n k : Nat) (hk : k < 8) (v : Int) (hv : v = ((n / 256 ^ k % 256 : Nat) : Int)) : (putCells n k).setIfInBounds (7 - k) (.int .u8 v) = putCells n (k + 1) := by
  subst hv
  unfold putCells
  match k, hk with
  | 0, _ => simp [List.range_succ]
  | 1, _ => simp [List.range_succ]
  | 2, _ => simp [List.range_succ]
  | 3, _ => simp [List.range_succ]
  | 4, _ => simp [List.range_succ]
  | 5, _ => simp [List.range_succ]
  | 6, _ => simp [List.range_succ]
  | 7, _ => simp [List.range_succ]

theorem putCells_at (n size j : Nat) (hj : j < size) (h8 : size ≤ 8) (hj' : j < (Sp.be size n).length) : (putCells n 8)[8 - size + j]? = some (Value.int .u8 ((Sp.be size n)[j].toNat : Int)) := by
  have h1 := Sp.be_get size n j hj
  rw [List.getElem?_eq_getElem hj', Option.some.injEq] at h1
  rw [h1]
  have e : 7 - (8 - size + j) = size - 1 - j := by omega
  have hlt : 8 - size + j < 8 := by omega
  simp only [putCells, List.getElem?_toArray, List.getElem?_map, List.getElem?_range hlt, Option.map_some]
  rw [if_pos (by omega), e, UInt8.toNat_ofNat']

theorem byte_cast (n k : Nat) : ((n : Int) / 2 ^ (8 * k) % 256) = ((n / 256 ^ k % 256 : Nat) : Int) := by
  rw [show 256 ^ k = 2 ^ (8 * k) by rw [Nat.pow_mul]]; simp

set_option maxRecDepth 100000 in
set_option maxHeartbeats 2000000 in
theorem word_put (n size : Nat) (w : World) (h1 : 1 ≤ size) (h8 : size ≤ 8) (hn : n < 256 ^ size) (hn64 : n < 18446744073709551616) :
    Calls Tryz.prog 100 #[.int .u64 n, .int .i64 size] w fun e w' => e = .returned (.tuple #[str (Sp.be size n), .bool true]) ∧ Below w.heap.size w w' := by
  have d1 : decide ((size : Int) < 1) = false := by simp; omega
  have d2 : decide ((8 : Int) < (size : Int)) = false := by simp; omega
  have d3 : (((n : Int) / 2 ^ (8 * size)) != 0) = false := by
    have e : (2 : Int) ^ (8 * size) = ((256 ^ size : Nat) : Int) := by rw [show 256 ^ size = 2 ^ (8 * size) by rw [Nat.pow_mul]]; simp
    rw [e, ← Int.natCast_ediv, Nat.div_eq_of_lt hn]
    rfl
  have i3 : (size : Int) ≤ 8 := by omega
  have i0 : (0 : Int) ≤ 8 - (size : Int) := by omega
  have i1 : (8 : Int) - (size : Int) ≤ 8 := by omega
  have i2 : (8 - (size : Int)).toNat = 8 - size := by omega
  have hN := Lib.hid hn
  have hN64 := Lib.hid hn64
  clear hn hn64
  rcases Nat.lt_or_ge size 8 with hlt | hge
  all_goals
    go_enter Tryz.func100, Tryz.ntmps100
    go_wp2
    go_loopw [7, 25] (fun _ i wr => ∃ k : Nat, k ≤ 8 ∧ i = .int .i64 k ∧ Blk wr w.heap.size 225 (putCells n k) ∧ Below w.heap.size w wr) (fun _ i _ => 8 - (intOf i).toNat)
    case atStart => exact ⟨0, by omega, rfl, Blk.new w _ _, (Below.refl _ _).alloc (Nat.le_refl _) _⟩
    case round =>
      obtain ⟨k, hk, rfl, hblk, hb⟩ := hrel
      by_cases hlt : k < 8
      · obtain ⟨v0, hv0⟩ : ∃ v, (putCells n k)[7 - k]? = some v := ⟨_, Array.getElem?_eq_getElem (by simp [putCells]; omega)⟩
        have hcell := (hblk.cell (7 - k)).trans hv0
        have hfz := hblk.frozen (7 - k)
        clear hv0
        go_wp2
        go_roundw
        case rel =>
          refine ⟨k + 1, by omega, by go_num, ?_, hb.setCell (Nat.le_refl _) _⟩
          rw [← putCells_next n k hlt _ (byte_cast n k)]
          exact hblk.set_ _ _
        case measure => simp [intOf]; omega
      · obtain rfl : k = 8 := by omega
        have hc0 : ∀ j (hj : j < (Sp.be size n).length), wr.cell? ⟨w.heap.size, 8 - size + j, none⟩ = some (.int .u8 ((Sp.be size n)[j].toNat : Int)) := fun j hj => by
          have hj' : j < size := by simpa using hj
          rw [hblk.cell]
          exact putCells_at n size j hj' h8 hj
        have hcv : ∀ o n1 n2, o = 8 - size → n1 = size → (convert 102 9 (.slice (some ⟨w.heap.size, o, none⟩) n1 n2)).run Tryz.prog wr = .ok (str (Sp.be size n)) wr := fun o n1 n2 ho hn1 => by
          subst ho hn1
          exact run_bytes_back wr 102 9 5 w.heap.size (8 - n1) n1 n2 (Sp.be n1 n) Tryz.underlying102 Tryz.underlying5 Tryz.underlying9 (by simp) hc0
        clear hc0
        have hcv1 := hcv (8 - size) (8 - (8 - size)) (8 - (8 - size)) rfl (by omega)
        first
          | (have hcv2 := hcv 0 8 8 (by omega) (by omega); clear hcv; go_wp2; go_ret2; exact ⟨rfl, hb⟩)
          | (clear hcv; go_wp2; go_ret2; exact ⟨rfl, hb⟩)

set_option maxRecDepth 100000 in
set_option maxHeartbeats 2000000 in
theorem word_cut (l : Sp.Bs) (a n : Nat) (w : World) (h : a + n ≤ l.length) (hl : l.length ≤ 1000000000) :
    Calls Tryz.prog 72 #[str l, .int .i64 a, .int .i64 n] w fun e w' => e = .returned (.tuple #[str ((l.drop a).take n), .bool true]) ∧ w = w' := by
  have d1 : decide ((a : Int) < 0) = false := by simp
  have d2 : decide ((n : Int) < 0) = false := by simp
  have d3 : decide ((l.length : Int) < (a : Int)) = false := by simp; omega
  have d4 : decide ((l.length : Int) - (a : Int) < (n : Int)) = false := by simp; omega
  have i1 : (a : Int) ≤ (a : Int) + (n : Int) := by omega
  have i2 : (a : Int) + (n : Int) ≤ (l.length : Int) := by omega
  go_enter Tryz.func72, Tryz.ntmps72
  go_wp2
  go_ret2
  exact ⟨by show Ending.returned (.tuple #[.string (ByteArray.extract _ _ _), .bool true]) = _; rw [str_extract, Nat.add_sub_cancel_left], rfl⟩

theorem getStep (m : Nat) (b : UInt8) (h : m < 72057594037927936) : bits .or .u64 ((m : Int) * 256) (IntKind.u64.wrap (b.toNat : Int)) = ((m * 256 + b.toNat : Nat) : Int) := by
  have hb := b.toNat_lt
  have e : IntKind.u64.wrap (b.toNat : Int) = ((b.toNat : Nat) : Int) := by
    rw [IntKind.wrap_u64]; omega
  have e2 : (m : Int) * 256 = ((m * 256 : Nat) : Int) := by omega
  rw [e, e2, u64_or_nat _ _ (by omega) (by omega), nat_join 8 _ _ (by omega) (by omega)]

set_option maxRecDepth 100000 in
set_option maxHeartbeats 2000000 in
theorem word_get (l : Sp.Bs) (a n : Nat) (w : World) (h : a + n ≤ l.length) (h1 : 1 ≤ n) (h8 : n ≤ 8) (hl : l.length ≤ 1000000000) :
    Calls Tryz.prog 69 #[str l, .int .i64 a, .int .i64 n] w fun e w' => e = .returned (.tuple #[.int .u64 (Sp.num ((l.drop a).take n)), .bool true]) ∧ Below w.heap.size w w' := by
  have d1 : decide ((n : Int) < 1) = false := by simp; omega
  have d2 : decide ((8 : Int) < (n : Int)) = false := by simp; omega
  go_enter Tryz.func69, Tryz.ntmps69
  go_wp2_with fail
  refine (word_cut l a n _ h hl).mono ?_
  rintro e w' ⟨rfl, rfl⟩
  have hlen : ((l.drop a).take n).length = n := by simp; omega
  generalize hp : (l.drop a).take n = p at *
  have HP := Lib.hid hp
  clear hp
  obtain ⟨gc, w1, hcv, hb0, _, hnew, _⟩ := conv_bytes (P := Tryz.prog) w 9 102 5 p Tryz.underlying9 Tryz.underlying102 Tryz.underlying5
  subst hlen
  go_wp2_with fail
  go_loop [6, 10, 31] (fun x _ i => ∃ k : Nat, k ≤ p.length ∧ i = .int .i64 k ∧ x = .int .u64 (Sp.num (p.take k))) (fun _ _ i => p.length - (intOf i).toNat)
  case atStart => exact ⟨0, by omega, rfl, rfl⟩
  case round =>
    obtain ⟨k, hk, rfl, rfl⟩ := hrel
    by_cases hlt : k < p.length
    · have hcell := hnew k hlt
      clear hnew hcv
      have hm : Sp.num (p.take k) < 72057594037927936 := by
        have h3 := Sp.num_lt (p.take k)
        have h4 : (256 : Nat) ^ (p.take k).length ≤ 256 ^ 7 := Nat.pow_le_pow_right (by omega) (by simp; omega)
        have h5 : (256 : Nat) ^ 7 = 72057594037927936 := by decide
        omega
      have hst := getStep _ p[k] hm
      have hnx : Sp.num (p.take (k + 1)) = Sp.num (p.take k) * 256 + p[k].toNat := by
        rw [List.take_succ_eq_append_getElem hlt, Sp.num_snoc]
      have HX := Lib.hid hnx
      have HS := Lib.hid hst
      clear hnx hst
      generalize Sp.num (p.take k) = m at *
      go_wp2
      go_round
      case rel => exact ⟨k + 1, by omega, by go_num, by rw [HX.out, HS.out]⟩
      case measure => simp [intOf]; omega
    · obtain rfl : k = p.length := by omega
      clear hnew hcv
      go_wp2
      go_ret2
      refine ⟨?_, hb0⟩
      show Ending.returned (.tuple #[.int .u64 (Sp.num p), .bool true]) = _
      rw [HP.out]
end Go.Proofs.YtafopojibpifoaaGreat

/- The walks of package slot that write: a new area, texts put behind all, its bytes. -/
namespace Go.Proofs.YtafopojibpifoaaGreat
open Go.RowKit

/-- An area that is written: its struct in block g, its bytes, all of them, in block h. -/
structure AreaW (w : World) (g h : Nat) (l : Sp.Bs) : Prop where
  area : Blk w g 207 #[.slice (some ⟨h, 0, none⟩) l.length l.length]
  bytes : Blk w h 5 (bcs l).toArray
  some_ : 16 ≤ l.length
  few : l.length ≤ 4096

theorem AreaW.ne {w : World} {g h : Nat} {l : Sp.Bs} (hA : AreaW w g h l) : g ≠ h := hA.area.ne_ hA.bytes (by decide)
theorem AreaW.read {w : World} {g h : Nat} {l : Sp.Bs} (hA : AreaW w g h l) : AreaR w g h l :=
  ⟨⟨_, hA.area, Nat.le_refl _, by unfold maxLen; have := hA.few; omega⟩, fun j hj => by rw [hA.bytes.cell]; simpa using bcs_at l _ (by omega), hA.some_, hA.few, hA.bytes.lt⟩
theorem AreaW.below {w w' : World} {g h : Nat} {l : Sp.Bs} (hA : AreaW w g h l) (hb : Below w.heap.size w w') : AreaW w' g h l :=
  ⟨hA.area.below hb hA.area.lt, hA.bytes.below hb hA.bytes.lt, hA.some_, hA.few⟩
theorem AreaW.drewN {w : World} {g h : Nat} {l : Sp.Bs} (hA : AreaW w g h l) (n : Nat) : AreaW (w.drewN n) g h l := ⟨hA.area, hA.bytes, hA.some_, hA.few⟩

theorem AreaW.patched {w : World} {g h : Nat} {l : Sp.Bs} (hA : AreaW w g h l) {k : Nat} {p : Sp.Bs} (hk : k + p.length ≤ l.length) : AreaW (w.setRow h (bcs (Sp.patch l k p)).toArray) g h (Sp.patch l k p) := by
  have hl := Sp.patch_length hk
  refine ⟨?_, hA.bytes.setRow _, by rw [hl]; exact hA.some_, by rw [hl]; exact hA.few⟩
  rw [hl]
  exact hA.area.keep (heap_setRow_other _ _ _ _ hA.ne)

theorem byteCells_bcs (l : Sp.Bs) : Lib.byteCells l = bcs l := rfl
theorem u8_info : (Tryz.prog.info? 5).map (·.size) = some 1 := by kernel_rfl

/-- 'copy(b[k:], s)' onto a block of bytes: a piece laid over. -/
theorem run_copy_patch (w : World) (h k n c : Nat) (l p : Sp.Bs) (ty : TypeId) (hB : Blk w h 5 (bcs l).toArray) (hk : k + p.length ≤ l.length) (hn : p.length ≤ n) :
    (Builtin.copy_ #[102, 9] ty #[.slice (some ⟨h, k, none⟩) n c, str p]).run Tryz.prog w = .ok (goInt p.length) (w.setRow h (bcs (Sp.patch l k p)).toArray) := by
  have := Lib.run_copy_row_string (P := Tryz.prog) w 102 9 ty 5 h k n c ⟨p.toArray⟩ (bcs l).toArray 5 Tryz.underlying102 u8_info hB (by simpa using hn) (by simpa using hk)
  rw [this]
  simp [byteCells_bcs, Sp.patch, bcs, List.map_take, List.map_drop]

set_option maxRecDepth 100000 in
set_option maxHeartbeats 2000000 in
theorem slot_two {w : World} {g h : Nat} {l : Sp.Bs} (hA : AreaW w g h l) (k n : Nat) (hk : k + 2 ≤ l.length) (hn : n < 65536) :
    Calls Tryz.prog 115 #[.pointer (some ⟨g, 0, none⟩), .int .i64 k, .int .i64 n] w fun e w' => e = .returned (.tuple #[]) ∧ AreaW w' g h (Sp.patch l k (Sp.be 2 n)) ∧ Turns (only h) (only h) w w' := by
  go_enter Tryz.func115, Tryz.ntmps115
  go_wp2_with fail
  refine (word_put n 2 w (by omega) (by omega) (by omega) (by omega)).mono ?_
  rintro e w1 ⟨rfl, hb⟩
  have hA1 := hA.below hb
  have hc := hA1.area.cell 0
  have hcp := Lib.hid fun ty => run_copy_patch w1 h k (l.length - k) (l.length - k) l (Sp.be 2 n) ty hA1.bytes (by simpa using hk) (by simp; omega)
  have i1 : (k : Int) ≤ (l.length : Int) := by omega
  have hne : ¬ l.length = k := by omega
  have HA := Lib.hid hA1
  clear hA1
  go_wp2_with (with_reducible refine Lib.wpList_copy_run _ rfl (.tmp 19) (.tmp 20) 102 9 rfl _ _ rfl rfl (hcp.out _) ?_)
  go_end0
  refine ⟨rfl, HA.out.patched (by simpa using hk), (Turns.of_below hb (only h)).setRow (.inl rfl) _⟩

set_option maxRecDepth 100000 in
set_option maxHeartbeats 2000000 in
theorem slot_place {w : World} {g h : Nat} {l : Sp.Bs} (hA : AreaW w g h l) (i f n : Nat) (hi : 4 + 4 * i + 4 ≤ l.length) (hf : f < 65536) (hn : n < 65536) :
    Calls Tryz.prog 122 #[.pointer (some ⟨g, 0, none⟩), .int .i64 i, .int .i64 f, .int .i64 n] w fun e w' => e = .returned (.tuple #[]) ∧
      AreaW w' g h (Sp.patch (Sp.patch l (4 + 4 * i) (Sp.be 2 f)) (4 + 4 * i + 2) (Sp.be 2 n)) ∧ Turns (only h) (only h) w w' := by
  have i1 : (i : Int) ≤ 4096 := by have := hA.few; omega
  have hl : (Sp.patch l (4 + 4 * i) (Sp.be 2 f)).length = l.length := Sp.patch_length (by simp; omega)
  go_enter Tryz.func122, Tryz.ntmps122
  go_wp2_with fail
  rw [show (4 + 4 * (i : Int)) = ((4 + 4 * i : Nat) : Int) by omega]
  refine (slot_two hA (4 + 4 * i) f (by omega) hf).mono ?_
  rintro e w1 ⟨rfl, hA1, ht1⟩
  have HL := Lib.hid hl
  clear hl
  go_wp2_with fail
  rw [show (4 + 4 * (i : Int) + 2) = ((4 + 4 * i + 2 : Nat) : Int) by omega]
  refine (slot_two hA1 (4 + 4 * i + 2) n (by rw [HL.out]; omega) hn).mono ?_
  rintro e w2 ⟨rfl, hA2, ht2⟩
  go_wp2_with fail
  go_end0
  exact ⟨rfl, hA2, ht1.trans ht2⟩

set_option maxRecDepth 100000 in
set_option maxHeartbeats 2000000 in
theorem slot_below {w : World} {g h : Nat} {l : Sp.Bs} (hA : AreaW w g h l) (p : Sp.Bs) (low : Nat) (hlow : Sp.two l 2 = low + p.length) (hle : low + p.length ≤ l.length) :
    Calls Tryz.prog 120 #[.pointer (some ⟨g, 0, none⟩), str p] w fun e w' => e = .returned (.int .i64 low) ∧
      AreaW w' g h (Sp.patch (Sp.patch l low p) 2 (Sp.be 2 low)) ∧ Turns (only h) (only h) w w' := by
  have hsm := hA.some_
  have hfew := hA.few
  have hl : (Sp.patch l low p).length = l.length := Sp.patch_length hle
  have HG := Lib.hid (slot_get hA.read 2 (by omega))
  rw [hlow] at HG
  clear hlow
  go_enter Tryz.func120, Tryz.ntmps120
  go_wp2_with fail
  refine HG.out.mono ?_
  rintro e w1 ⟨rfl, q, rfl⟩
  have hA1 := hA.drewN q
  have hc := hA1.area.cell 0
  have HL := Lib.hid hl
  clear hl
  have i1 : (low : Int) ≤ (l.length : Int) := by omega
  have i2 : (0 : Int) ≤ (low : Int) := by omega
  have i3 : ((low + p.length : Nat) : Int) - (p.length : Int) = (low : Int) := by omega
  have hneg : ∃ o, (if l.length = low then 0 else low) = o := ⟨_, rfl⟩
  rcases Nat.lt_or_ge low l.length with hlt | hge
  · have hcp := Lib.hid fun ty => run_copy_patch (w.drewN q) h low (l.length - low) (l.length - low) l p ty hA1.bytes hle (by omega)
    have hne : ¬ l.length = low := by omega
    have HA := Lib.hid hA1
    clear hA1 hneg hA HG
    go_wp2_with (with_reducible refine Lib.wpList_copy_run _ rfl (.tmp 16) (.tmp 17) 102 9 rfl _ _ rfl rfl (hcp.out _) ?_)
    refine (slot_two (HA.out.patched hle) 2 low (by rw [HL.out]; omega) (by omega)).mono ?_
    rintro e w2 ⟨rfl, hA2, ht2⟩
    go_wp2_with fail
    go_ret
    exact ⟨rfl, hA2, (((Turns.refl (only h) w).drewN q).setRow (.inl rfl) _).trans ht2⟩
  · obtain rfl : low = l.length := by omega
    obtain rfl : p = [] := List.eq_nil_of_length_eq_zero (by omega)
    have hcp := Lib.hid fun ty => run_copy_patch (w.drewN q) h 0 0 0 l [] ty hA1.bytes (by simp) (by simp)
    have hP1 : Sp.patch l 0 [] = l := by simp [Sp.patch]
    have hP2 : Sp.patch l l.length [] = l := by simp [Sp.patch]
    have HA := Lib.hid (hA1.patched (k := 0) (p := []) (by simp))
    rw [hP1] at hcp HA
    have HP2 := Lib.hid hP2
    clear hA1 hneg hA HG hP1 hP2 HL
    go_wp2_with (with_reducible refine Lib.wpList_copy_run _ rfl (.tmp 16) (.tmp 17) 102 9 rfl _ _ rfl rfl (hcp.out _) ?_)
    refine (slot_two HA.out 2 l.length (by omega) (by omega)).mono ?_
    rintro e w2 ⟨rfl, hA2, ht2⟩
    go_wp2_with fail
    go_ret
    exact ⟨rfl, by rw [HP2.out]; exact hA2, (((Turns.refl (only h) w).drewN q).setRow (.inl rfl) _).trans ht2⟩

theorem area_info : (Tryz.prog.info? 5).map (fun i => (i.zero, i.size, i.bytes)) = some (some (.int .u8 0), 1, 1) := by kernel_rfl

set_option maxRecDepth 100000 in
set_option maxHeartbeats 2000000 in
theorem slot_new (n : Nat) (w : World) (h1 : 16 ≤ n) (h2 : n ≤ 4096) :
    Calls Tryz.prog 76 #[.int .i64 n] w fun e w' => ∃ g h, e = .returned (.tuple #[.pointer (some ⟨g, 0, none⟩), .int .i64 0]) ∧ AreaW w' g h (Sp.area n []) ∧ w.heap.size ≤ g ∧ w.heap.size ≤ h ∧ Below w.heap.size w w' := by
  obtain ⟨i0, hi, hz0, hz1, hz2⟩ := info_parts area_info
  have hmk : ∀ W, (Instr.makeSlice 102 (.int .i64 (n : Int)) (.int .i64 (n : Int))).run Tryz.prog W = .ok (.slice (some ⟨W.heap.size, 0, none⟩) n n) (W.alloc (.cells (bcs (Sp.zeros n)).toArray 5)) := fun W => by
    have := run_make_rowN (P := Tryz.prog) 102 5 i0 (.int .u8 0) Tryz.underlying102 hi hz0 .i64 .i64 n n (Nat.le_refl _) (by rw [hz2]; omega) (by omega) W
    rw [this, hz1, Nat.mul_one, show (Value.int .u8 0).cells = #[.int .u8 0] from rfl, madeCells_one]
    simp [bcs, Sp.zeros]
  clear hi hz0 hz1 hz2
  go_enter Tryz.func76, Tryz.ntmps76
  go_wp2_with fail
  have hW : AreaW ((w.alloc (.cells (bcs (Sp.zeros n)).toArray 5)).alloc (.cells #[.slice (some ⟨w.heap.size, 0, none⟩) n n] 207)) (w.heap.size + 1) w.heap.size (Sp.zeros n) := by
    have hz : (Sp.zeros n).length = n := by simp [Sp.zeros]
    refine ⟨?_, (Blk.new w _ _).alloc _, by omega, by omega⟩
    rw [hz]
    have := Blk.new (w.alloc (.cells (bcs (Sp.zeros n)).toArray 5)) 207 #[.slice (some ⟨w.heap.size, 0, none⟩) n n]
    rwa [World.size_alloc] at this
  refine (slot_two hW 2 n (by simp [Sp.zeros]; omega) (by omega)).mono ?_
  rintro e w2 ⟨rfl, hA2, ht2⟩
  have HAR := Lib.hid (Sp.area_new n (by omega))
  go_wp2_with fail
  go_ret2
  refine ⟨_, _, rfl, by rw [HAR.out]; exact hA2, by omega, Nat.le_refl _, ?_⟩
  exact (((Below.refl _ w).alloc (Nat.le_refl _) _).alloc (by simp) _).trans (ht2.below (by simp; omega) (fun b hb => by rw [hb]; exact Nat.le_refl _))
end Go.Proofs.YtafopojibpifoaaGreat

/- The walks of package slot: Bytes, Free, and Put behind all. -/
namespace Go.Proofs.YtafopojibpifoaaGreat
open Go.RowKit

set_option maxRecDepth 100000 in
set_option maxHeartbeats 2000000 in
theorem slot_bytes {w : World} {g h : Nat} {l : Sp.Bs} (hA : AreaR w g h l) :
    Calls Tryz.prog 79 #[.pointer (some ⟨g, 0, none⟩)] w fun e w' => e = .returned (str l) ∧ w = w' := by
  obtain ⟨⟨c, h1, hlc, hcm⟩, hb, h3, h4, _⟩ := id hA
  have hc := h1.cell 0
  have hcb := run_bytes_back (P := Tryz.prog) w 102 9 5 h 0 l.length c l Tryz.underlying102 Tryz.underlying5 Tryz.underlying9 rfl hb
  go_enter Tryz.func79, Tryz.ntmps79
  go_wp2_with fail
  refine (slot_none hA).mono ?_
  rintro e w' ⟨rfl, rfl⟩
  go_wp2_with fail
  go_ret
  exact ⟨rfl, rfl⟩

/-- how long the first k texts are together. -/
def szs (l : Sp.Bs) : Nat → Nat
  | 0 => 0
  | k + 1 => szs l k + Sp.two l (4 + 4 * k + 2)

theorem szs_le (l : Sp.Bs) : ∀ k, szs l k ≤ 65535 * k
  | 0 => Nat.le_refl _
  | k + 1 => by
    have h1 := szs_le l k
    have h2 := two_lt l (4 + 4 * k + 2)
    unfold szs
    omega

set_option maxRecDepth 100000 in
set_option maxHeartbeats 2000000 in
theorem slot_free {w : World} {g h : Nat} {l : Sp.Bs} (hA : AreaR w g h l) (hm : 4 + 4 * Sp.two l 0 ≤ l.length) :
    Calls Tryz.prog 117 #[.pointer (some ⟨g, 0, none⟩)] w fun e w' => e = .returned (.int .i64 ((l.length : Int) - 4 - 4 * Sp.two l 0 - szs l (Sp.two l 0))) ∧ ∃ n, w' = w.drewN n := by
  obtain ⟨⟨c, h1, hlc, hcm⟩, hb, h3, h4, _⟩ := id hA
  have hc := h1.cell 0
  have HN := Lib.hid (slot_none hA)
  have HL := Lib.hid fun n => slot_len (hA.drewN n)
  have HE := Lib.hid fun n i hi => slot_entry (hA.drewN n) i hi
  have HS := Lib.hid (szs_le l)
  have HSS : Hid (∀ k, szs l (k + 1) = szs l k + Sp.two l (4 + 4 * k + 2)) := fun _ => rfl
  clear hA h1 hb
  generalize hmm : Sp.two l 0 = m at *
  have HM := Lib.hid hmm
  clear hmm
  go_enter Tryz.func117, Tryz.ntmps117
  go_wp2_with fail
  refine HN.out.mono ?_
  rintro e w' ⟨rfl, rfl⟩
  go_wp2_with fail
  go_quiet ((go_at_call 94; exact Calls.quiet_of (HL.out _)))
  go_wp2_with fail
  refine (HL.out _).mono ?_
  rintro e w' ⟨rfl, q0, rfl⟩
  go_wp2_with fail
  go_loopw [3, 21] (fun v i wr => ∃ k : Nat, k ≤ m ∧ i = .int .i64 k ∧ v = .int .i64 ((l.length : Int) - 4 - 4 * m - szs l k) ∧ ∃ q, wr = w.drewN q) (fun _ i _ => m - (intOf i).toNat)
  case atStart => exact ⟨0, by omega, rfl, by simp [szs], _, rfl⟩
  case round =>
    obtain ⟨k, hk, rfl, rfl, q, rfl⟩ := hrel
    by_cases hlt : k < m
    · have hek := Lib.hid (HE.out q k (by omega))
      have b1 := HS.out k
      have b2 := two_lt l (4 + 4 * k + 2)
      have HX := Lib.hid (HSS.out k)
      generalize hF : Sp.two l (4 + 4 * k) = F at *
      generalize hN : Sp.two l (4 + 4 * k + 2) = N at *
      generalize hSz : szs l k = S at *
      have b3 : N < 65536 := by rw [← hN]; exact two_lt _ _
      have b4 : S ≤ 65535 * k := by rw [← hSz]; exact HS.out k
      clear hF hN b1 b2 hSz
      go_wp2_with fail
      refine hek.out.mono ?_
      rintro e w' ⟨rfl, q1, rfl⟩
      go_wp2_with fail
      go_roundw
      case rel => exact ⟨k + 1, by omega, by go_num, by rw [HX.out]; go_num, _, rfl⟩
      case measure => simp [intOf]; omega
    · obtain rfl : k = m := by omega
      go_wp2_with fail
      go_ret
      exact ⟨rfl, _, rfl⟩

set_option maxRecDepth 100000 in
set_option maxHeartbeats 2000000 in
/-- A copy of no bytes. -/
theorem clone_none (a : Addr) (c : Nat) (w : World) :
    Calls Tryz.prog 121 #[.slice (some a) 0 c] w fun e w' => (∃ A c', e = .returned (.slice A 0 c')) ∧ Below w.heap.size w w' := by
  obtain ⟨i0, hi, hz0, hz1, hz2⟩ := info_parts area_info
  have hq := fun w => Lib.run_eql_slice_nil (P := Tryz.prog) w 102 5 (some a) 0 c 0 0 Tryz.underlying102
  go_enter Tryz.func121, Tryz.ntmps121
  go_wp2_with (at_builtin; refine wpList_append_own _ rfl _ _ 102 rfl w.heap.size 5 i0 (.int .u8 0) 1 1 Tryz.underlying102 hi hz0 hz1 hz2 rfl (by omega) _ _ _ rfl (World.ownsRow_made w #[] 0 (Nat.le_refl _) (Nat.zero_le _) (by simp)) a 0 c [] rfl rfl (fun j u hj => by simp at hj) (by simp) (by simp [maxLen]) (by omega) (by simp) ?_)
  intro v' w1 hown hgrow hnil
  go_wp2_with fail
  go_ret
  have hb : Below w.heap.size w w1 := ((Below.refl _ w).alloc (Nat.le_refl _) _).grown hgrow (by simp) (by simp [Value.ownBlock])
  refine ⟨?_, hb⟩
  rcases hown.2 with ⟨rfl, _⟩ | ⟨g, cap, cur, rfl, _⟩
  · exact ⟨none, 0, rfl⟩
  · exact ⟨some ⟨g, 0, none⟩, cap, rfl⟩

theorem szs_area {size : Nat} {rows : List Sp.Bs} (h : 4 + 4 * rows.length + Sp.total rows ≤ size) (hs : size ≤ 4096) : ∀ k, k ≤ rows.length → szs (Sp.area size rows) k = Sp.total (rows.take k)
  | 0, _ => by simp [szs]
  | k + 1, hk => by
    have hlt : k < rows.length := by omega
    have hle := Sp.total_take_le rows (k + 1)
    have htk := Sp.total_take_succ rows k hlt
    unfold szs
    rw [szs_area h hs k (by omega), Sp.area_len hlt (by omega), htk]

set_option maxRecDepth 100000 in
set_option maxHeartbeats 4000000 in
theorem slot_put {w : World} {g h size : Nat} {rows : List Sp.Bs} (r : Sp.Bs) (hA : AreaW w g h (Sp.area size rows)) (hfit : 8 + 4 * rows.length + Sp.total rows + r.length ≤ size) (hs : size ≤ 4096) :
    Calls Tryz.prog 77 #[.pointer (some ⟨g, 0, none⟩), .int .i64 rows.length, str r] w fun e w' => e = .returned (.int .i64 0) ∧ AreaW w' g h (Sp.area size (rows ++ [r])) ∧ Turns (only h) (only h) w w' := by
  have hl : (Sp.area size rows).length = size := Sp.area_length (by omega)
  have hc0 : Sp.two (Sp.area size rows) 0 = rows.length := Sp.area_count (by omega)
  have hc2 : Sp.two (Sp.area size rows) 2 = size - Sp.total rows := Sp.area_low (by omega)
  have hsz : szs (Sp.area size rows) rows.length = Sp.total rows := by rw [szs_area (by omega) hs _ (Nat.le_refl _), List.take_length]
  have HP := Lib.hid (Sp.area_put (size := size) (rows := rows) (r := r) hfit)
  have HN := Lib.hid (slot_none hA.read)
  have hfree := fun n => slot_free (hA.read.drewN n) (by rw [hc0, hl]; omega)
  have hgap := fun n => slot_gap (hA.read.drewN n)
  have hbel := fun n => slot_below (hA.drewN n) r (size - Sp.total rows - r.length) (by rw [hc2]; omega) (by rw [hl]; omega)
  have hlen := fun n => slot_len (hA.read.drewN n)
  have hp0 : Sp.two (Sp.patch (Sp.patch (Sp.area size rows) (size - Sp.total rows - r.length) r) 2 (Sp.be 2 (size - Sp.total rows - r.length))) 0 = rows.length := by
    rw [Sp.two_patch0 (by omega) (by rw [Sp.patch_length (by rw [hl]; omega), hl]; omega), Sp.two_patch0 (by omega) (by rw [hl]; omega), hc0]
  have hpl : (Sp.patch (Sp.patch (Sp.area size rows) (size - Sp.total rows - r.length) r) 2 (Sp.be 2 (size - Sp.total rows - r.length))).length = size := by
    rw [Sp.patch_length (by rw [Sp.patch_length (by rw [hl]; omega), hl]; simp; omega), Sp.patch_length (by rw [hl]; omega), hl]
  rw [hc0] at hlen hgap hfree
  rw [hc2] at hgap
  rw [hsz, hl] at hfree
  have HF := Lib.hid hfree
  have HG := Lib.hid hgap
  have HB := Lib.hid hbel
  have HL := Lib.hid hlen
  have HP0 := Lib.hid hp0
  have HPL := Lib.hid hpl
  clear hfree hgap hbel hlen hc0 hc2 hsz hl hp0 hpl hA
  have hcp := fun (W : World) (ty : TypeId) (d A : Option Addr) (dl dc sc : Nat) => run_copy_none (P := Tryz.prog) W 102 102 ty 5 d A dl dc 0 sc Tryz.underlying102 u8_info (Nat.zero_min _)
  generalize hm : rows.length = m at *
  generalize htt : Sp.total rows = tt at *
  obtain ⟨low, hlow⟩ : ∃ low, low + r.length + tt = size := ⟨size - tt - r.length, by omega⟩
  have e1 : size - tt - r.length = low := by omega
  have e2 : size - tt = low + r.length := by omega
  rw [e1] at HB HP HP0 HPL
  rw [e2] at HG
  have d1 : decide ((m : Int) < (m : Int)) = false := by simp
  have d2 : decide ((size : Int) - 4 - 4 * (m : Int) - (tt : Int) < (r.length : Int) + 4) = false := by rw [decide_eq_false_iff_not]; omega
  have d3 : decide (((low + r.length : Nat) : Int) - 4 - 4 * (m : Int) < (r.length : Int) + 4) = false := by rw [decide_eq_false_iff_not]; omega
  have HM := Lib.hid hm
  have HT := Lib.hid htt
  clear e1 e2 hm htt
  go_enter Tryz.func77, Tryz.ntmps77
  go_wp2_with fail
  refine HN.out.mono ?_
  rintro e w' ⟨rfl, rfl⟩
  go_wp2_with fail
  refine (HL.out 0).mono ?_
  rintro e w' ⟨rfl, q, rfl⟩
  go_wp2_with fail
  refine (HF.out _).mono ?_
  rintro e w' ⟨rfl, q2, rfl⟩
  go_wp2_with fail
  refine (HG.out _).mono ?_
  rintro e w' ⟨rfl, q3, rfl⟩
  go_wp2_with fail
  refine (HB.out _).mono ?_
  rintro e w2 ⟨rfl, hA2, ht2⟩
  go_wp2_with fail
  have hl2 := slot_len hA2.read
  rw [HP0.out] at hl2
  have HL2 := Lib.hid hl2
  clear hl2
  refine HL2.out.mono ?_
  rintro e w' ⟨rfl, q4, rfl⟩
  have hA3 := hA2.drewN q4
  generalize hL2 : Sp.patch (Sp.patch (Sp.area size rows) low r) 2 (Sp.be 2 low) = L2 at *
  have HLL := Lib.hid hL2
  clear hL2 HL2 hA2
  have hc := hA3.area.cell 0
  rw [HPL.out] at hc
  have hgl := hA3.area.lt
  have HA := Lib.hid hA3
  clear hA3
  have i1 : (m : Int) ≤ 4096 := by omega
  have i2 : (4 : Int) + 4 * (m : Int) + 4 ≤ (size : Int) := by omega
  have i3 : (4 : Int) + 4 * (m : Int) ≤ (size : Int) := by omega
  have i4 : ((4 : Int) + 4 * (m : Int)).toNat = 4 + 4 * m := by omega
  have i5 : ((4 : Int) + 4 * (m : Int) + 4).toNat = 4 + 4 * m + 4 := by omega
  have i6 : IntKind.i64.wrap (4 * (m : Int)) = 4 * (m : Int) := IntWalk.i64_in _ (by omega)
  have i7 : IntKind.i64.wrap (4 + 4 * (m : Int)) = 4 + 4 * (m : Int) := IntWalk.i64_in _ (by omega)
  have i8 : IntKind.i64.wrap (4 + 4 * (m : Int) + 4) = 4 + 4 * (m : Int) + 4 := IntWalk.i64_in _ (by omega)
  have i9 : (0 : Int) ≤ 4 + 4 * (m : Int) := by omega
  have i10 : (0 : Int) ≤ 4 + 4 * (m : Int) + 4 := by omega
  have hne : ¬ size = 4 + 4 * m := by omega
  have htw : Turns (only h) (only h) w (w2.drewN q4) := (((Turns.refl (only h) w).drewN _).trans ht2).drewN _
  generalize w2.drewN q4 = w3 at *
  clear ht2
  rcases Nat.lt_or_ge (4 + 4 * m + 4) size with hx | hx
  · have hne2 : ¬ size = 4 + 4 * m + 4 := by omega
    go_wp2_with fail
    go_region_held3 (fun w' => w'.cell? ⟨g, 0, none⟩ = some (.slice (some ⟨h, 0, none⟩) size size) ∧ Below w3.heap.size w3 w')
      (first
        | exact ⟨hc, (Below.refl _ _).drew⟩
        | (go_split_ands; exact ⟨((below_cell hb).1 _ _ (Nat.lt_of_lt_of_le hgl (by assumption : Below _ _ _).size)).trans (by assumption), (by assumption : Below w3.heap.size w3 _).trans (hb.mono (by assumption : Below w3.heap.size w3 _).size)⟩)
        | go_keep)
      (first
        | (go_at_call 121; refine (clone_none _ _ _).mono ?_; rintro e w4 ⟨⟨A, c', rfl⟩, hb⟩))
    have hb4 : Below w3.heap.size w3 w4 := by
      rename_i hh
      exact hh.2
    have hA4 := HA.out.below hb4
    have HA4 := Lib.hid hA4
    have j1 : (m : Int) + 1 ≤ 4097 := by omega
    clear hA4 hb hcp hc
    go_wp2_with fail
    rw [show (m : Int) + 1 = ((m + 1 : Nat) : Int) by omega]
    refine (slot_two HA4.out 0 (m + 1) (by rw [HPL.out]; omega) (by omega)).mono ?_
    rintro e w5 ⟨rfl, hA5, ht5⟩
    have hl5 : (Sp.patch L2 0 (Sp.be 2 (m + 1))).length = L2.length := Sp.patch_length (by rw [HPL.out, Sp.be_length]; omega)
    have HL5 := Lib.hid hl5
    clear hl5
    go_wp2_with fail
    refine (slot_place hA5 m low r.length (by rw [HL5.out, HPL.out]; omega) (by omega) (by omega)).mono ?_
    rintro e w6 ⟨rfl, hA6, ht6⟩
    go_wp2_with fail
    go_ret
    refine ⟨rfl, ?_, ((htw.next hb4).trans ht5).trans ht6⟩
    rw [← HP.out]
    exact hA6
  · obtain rfl : size = 4 + 4 * m + 4 := by omega
    have k1 : (4 : Int) + 4 * (m : Int) ≤ 4 + 4 * (m : Int) + 4 := by omega
    have k2 : 4 + 4 * m ≤ 4 + 4 * m + 4 := by omega
    go_wp2_with fail
    go_region_held3 (fun w' => w'.cell? ⟨g, 0, none⟩ = some (.slice (some ⟨h, 0, none⟩) (4 + 4 * m + 4) (4 + 4 * m + 4)) ∧ Below w3.heap.size w3 w')
      (first
        | exact ⟨hc, (Below.refl _ _).drew⟩
        | (go_split_ands; exact ⟨((below_cell hb).1 _ _ (Nat.lt_of_lt_of_le hgl (by assumption : Below _ _ _).size)).trans (by assumption), (by assumption : Below w3.heap.size w3 _).trans (hb.mono (by assumption : Below w3.heap.size w3 _).size)⟩)
        | go_keep)
      (first
        | (go_at_call 121; refine (clone_none _ _ _).mono ?_; rintro e w4 ⟨⟨A, c', rfl⟩, hb⟩))
    have hb4 : Below w3.heap.size w3 w4 := by
      rename_i hh
      exact hh.2
    have hA4 := HA.out.below hb4
    have HA4 := Lib.hid hA4
    have j1 : (m : Int) + 1 ≤ 4097 := by omega
    clear hA4 hb hcp hc
    go_wp2_with fail
    rw [show (m : Int) + 1 = ((m + 1 : Nat) : Int) by omega]
    refine (slot_two HA4.out 0 (m + 1) (by rw [HPL.out]; omega) (by omega)).mono ?_
    rintro e w5 ⟨rfl, hA5, ht5⟩
    have hl5 : (Sp.patch L2 0 (Sp.be 2 (m + 1))).length = L2.length := Sp.patch_length (by rw [HPL.out, Sp.be_length]; omega)
    have HL5 := Lib.hid hl5
    clear hl5
    go_wp2_with fail
    refine (slot_place hA5 m low r.length (by rw [HL5.out, HPL.out]; omega) (by omega) (by omega)).mono ?_
    rintro e w6 ⟨rfl, hA6, ht6⟩
    go_wp2_with fail
    go_ret
    refine ⟨rfl, ?_, ((htw.next hb4).trans ht5).trans ht6⟩
    rw [← HP.out]
    exact hA6
end Go.Proofs.YtafopojibpifoaaGreat
