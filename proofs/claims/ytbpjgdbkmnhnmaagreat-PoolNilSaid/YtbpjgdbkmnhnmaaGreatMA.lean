/- Words for memory: which blocks a thing owns, what a call turns, slices that read as lists. No program is named here. -/
import Derived.Below
import Derived.Laws.OwnMore
import Derived.Laws.Rows
import Derived.Deep.Draws
import Derived.Deep.AppendLies
import Derived.Lib.Hide

namespace Go.Proofs.YtbpjgdbkmnhnmaaGreat
open Go.RowKit

/-- A set of blocks. -/
abbrev Foot := Nat → Prop

/-- The blocks of 'G' lie in w, apart from those of 'F'. -/
def Apart (w : World) (F G : Foot) : Prop := ∀ b, G b → b < w.heap.size ∧ ¬ F b

/-- w' is w, but for blocks of 'F', and new ones; 'F'' is 'F' and new ones at most. -/
structure Turns (F F' : Foot) (w w' : World) : Prop where
  os : w'.os = w.os
  tape : w'.tape = w.tape
  output : w'.output = w.output
  size : w.heap.size ≤ w'.heap.size
  block : ∀ b, b < w.heap.size → ¬ F b → w'.heap[b]? = w.heap[b]?
  foot : ∀ b, F' b → F b ∨ w.heap.size ≤ b

def noFoot : Foot := fun _ => False
/-- one block. -/
abbrev only (h : Nat) : Foot := fun b => b = h

section
variable {F F' F'' G : Foot} {w w' w'' : World}
theorem Turns.refl (F : Foot) (w : World) : Turns F F w w := ⟨rfl, rfl, rfl, Nat.le_refl _, fun _ _ _ => rfl, fun _ h => .inl h⟩
theorem Turns.trans (h : Turns F F' w w') (k : Turns F' F'' w' w'') : Turns F F'' w w'' :=
  ⟨k.os.trans h.os, k.tape.trans h.tape, k.output.trans h.output, Nat.le_trans h.size k.size, fun b hb hF => (k.block b (Nat.lt_of_lt_of_le hb h.size) (fun hF' => by
      rcases h.foot b hF' with h' | h'
      · exact hF h'
      · omega)).trans (h.block b hb hF),
    fun b hb => by
      rcases k.foot b hb with h1 | h1
      · exact h.foot b h1
      · exact .inr (Nat.le_trans h.size h1)⟩
theorem Turns.of_below (h : Below w.heap.size w w') (F : Foot) : Turns F F w w' :=
  ⟨h.os, h.tape, h.output, h.size, fun b hb _ => h.block b hb, fun _ hb => .inl hb⟩
theorem Turns.below (h : Turns F F' w w') {n : Nat} (hn : n ≤ w.heap.size) (hF : ∀ b, F b → n ≤ b) : Below n w w' :=
  ⟨h.os, h.tape, h.output, h.size, fun b hb => h.block b (by omega) (fun hf => by have := hF b hf; omega)⟩
theorem Turns.below_none (h : Turns noFoot F' w w') : Below w.heap.size w w' := h.below (Nat.le_refl _) (fun _ hb => hb.elim)
theorem Turns.keep (h : Turns F F' w w') (hG : Apart w F G) : ∀ b, G b → w'.heap[b]? = w.heap[b]? := fun b hb => h.block b (hG b hb).1 (hG b hb).2
theorem Turns.apart (h : Turns F F' w w') (hG : Apart w F G) : Apart w' F' G := fun b hb =>
  ⟨Nat.lt_of_lt_of_le (hG b hb).1 h.size, fun hF' => by
    rcases h.foot b hF' with h' | h'
    · exact (hG b hb).2 h'
    · have := (hG b hb).1; omega⟩
/-- A call that turned blocks of F1 alone, seen from a greater set. -/
theorem Turns.wider {F1 F1' : Foot} (h : Turns F1 F1' w w') (hF : ∀ b, F1 b → F b) (hF' : ∀ b, F' b → F b ∨ F1' b) : Turns F F' w w' :=
  ⟨h.os, h.tape, h.output, h.size, fun b hb hn => h.block b hb (fun h1 => hn (hF b h1)), fun b hb => by
    rcases hF' b hb with h1 | h1
    · exact .inl h1
    · rcases h.foot b h1 with h2 | h2
      · exact .inl (hF b h2)
      · exact .inr h2⟩
theorem Turns.drew (h : Turns F F' w w') : Turns F F' w w'.drew := ⟨h.os, h.tape, h.output, h.size, h.block, h.foot⟩
theorem Turns.drewN (h : Turns F F' w w') (n : Nat) : Turns F F' w (w'.drewN n) := ⟨h.os, h.tape, h.output, h.size, h.block, h.foot⟩
theorem Turns.alloc (h : Turns F F' w w') (o : Obj) : Turns F F' w (w'.alloc o) :=
  ⟨h.os, h.tape, h.output, Nat.le_trans h.size (by simp), fun b hb hn => (Below.heap_alloc w' o b (Nat.lt_of_lt_of_le hb h.size)).trans (h.block b hb hn), h.foot⟩
theorem Turns.setCell (h : Turns F F' w w') {p : Addr} (hp : F p.block ∨ w.heap.size ≤ p.block) (u : Value) : Turns F F' w (w'.setCell p u) :=
  ⟨h.os, h.tape, h.output, by simpa [World.setCell] using h.size, fun b hb hn => (Below.heap_setCell w' p u b (by
      rintro rfl
      rcases hp with hp | hp
      · exact hn hp
      · omega)).trans (h.block b hb hn), h.foot⟩
theorem Turns.grown (h : Turns F F' w w') {row : Option Nat} (hg : w'.grownBy w'' row) (hr : ∀ k, row = some k → F k ∨ w.heap.size ≤ k) : Turns F F' w w'' :=
  ⟨hg.os.trans h.os, hg.tape.trans h.tape, hg.output.trans h.output, Nat.le_trans h.size hg.size, fun b hb hn => (hg.block b (Nat.lt_of_lt_of_le hb h.size) (fun e => by
      rcases hr b e.symm with h1 | h1
      · exact hn h1
      · omega)).trans (h.block b hb hn), h.foot⟩
theorem Turns.next (h : Turns F F' w w') (hb : Below w'.heap.size w' w'') : Turns F F' w w'' := h.trans (Turns.of_below hb F')
theorem Apart.below (h : Apart w F G) (hb : w.heap.size ≤ w'.heap.size) : Apart w' F G := fun b hG => ⟨Nat.lt_of_lt_of_le (h b hG).1 hb, (h b hG).2⟩
end

/-- Block g is just the cells cs, of element type t, none frozen. -/
def Blk (w : World) (g : Nat) (t : TypeId) (cs : Array Value) : Prop := w.heap[g]? = some (.cells cs t (0, 0))

section
variable {w w' : World} {g : Nat} {t : TypeId} {cs : Array Value}
theorem Blk.lt (h : Blk w g t cs) : g < w.heap.size := by
  rcases Nat.lt_or_ge g w.heap.size with hlt | hge
  · exact hlt
  · unfold Blk at h; rw [Array.getElem?_eq_none hge] at h; cases h
theorem Blk.cell (h : Blk w g t cs) (i : Nat) : w.cell? ⟨g, i, none⟩ = cs[i]? := cell_of_row w g i cs t (0, 0) h
theorem Blk.frozen (h : Blk w g t cs) (i : Nat) : w.frozen? ⟨g, i, none⟩ = false := by
  unfold Blk at h
  simp [World.frozen?, h]
theorem Blk.new (w : World) (t : TypeId) (cs : Array Value) : Blk (w.alloc (.cells cs t)) w.heap.size t cs := heap_alloc_new w _
theorem Blk.drew (h : Blk w g t cs) : Blk w.drew g t cs := h
theorem Blk.drewN (h : Blk w g t cs) (n : Nat) : Blk (w.drewN n) g t cs := h
theorem Blk.alloc (h : Blk w g t cs) (o : Obj) : Blk (w.alloc o) g t cs := (Below.heap_alloc w o g h.lt).trans h
theorem Blk.set_ (h : Blk w g t cs) (i : Nat) (u : Value) : Blk (w.setCell ⟨g, i, none⟩ u) g t (cs.setIfInBounds i u) := by
  unfold Blk at h ⊢
  simp [World.setCell, Array.getElem?_modify, h]
theorem Blk.far (h : Blk w g t cs) {p : Addr} (hp : g ≠ p.block) (u : Value) : Blk (w.setCell p u) g t cs := (Below.heap_setCell w p u g hp).trans h
theorem Blk.below {B : Nat} (h : Blk w g t cs) (hb : Below B w w') (hg : g < B) : Blk w' g t cs := (hb.block g hg).trans h
theorem Blk.keep (h : Blk w g t cs) (hk : w'.heap[g]? = w.heap[g]?) : Blk w' g t cs := hk.trans h
theorem Blk.turns {F F' : Foot} (h : Blk w g t cs) (hb : Turns F F' w w') (hg : ¬ F g) : Blk w' g t cs := (hb.block g h.lt hg).trans h
theorem Blk.grown {row : Option Nat} (h : Blk w g t cs) (hb : w.grownBy w' row) (hg : some g ≠ row) : Blk w' g t cs := (hb.block g h.lt hg).trans h
theorem Blk.ne_ {g' : Nat} {t' : TypeId} {cs' : Array Value} (h : Blk w g t cs) (h' : Blk w g' t' cs') (hne : t ≠ t') : g ≠ g' := by
  rintro rfl
  unfold Blk at h h'
  rw [h] at h'
  injection h' with h'
  injection h' with _ ht
  exact hne ht
theorem Blk.cells_eq {t' : TypeId} {cs' : Array Value} (h : Blk w g t cs) (h' : Blk w g t' cs') : cs = cs' := by
  unfold Blk at h h'
  rw [h] at h'
  injection h' with h'
  injection h'
end

theorem Blk.setRow {w : World} {g : Nat} {t : TypeId} {cs : Array Value} (h : Blk w g t cs) (cs' : Array Value) : Blk (w.setRow g cs') g t cs' := setRow_heap w g cs cs' t _ h
theorem heap_setRow_other (w : World) (g k : Nat) (cs : Array Value) (h : k ≠ g) : (w.setRow g cs).heap[k]? = w.heap[k]? := setRow_other w g k cs h
theorem Turns.setRow {F F' : Foot} {w w' : World} (h : Turns F F' w w') {g : Nat} (hp : F g ∨ w.heap.size ≤ g) (cs : Array Value) : Turns F F' w (w'.setRow g cs) :=
  ⟨h.os, h.tape, h.output, by simpa using h.size, fun b hb hn => (heap_setRow_other w' g b cs (by
      rintro rfl
      rcases hp with hp | hp
      · exact hn hp
      · omega)).trans (h.block b hb hn), h.foot⟩
theorem below_setRow {B : Nat} {a w : World} (h : Below B a w) {g : Nat} (hp : B ≤ g) (cs : Array Value) : Below B a (w.setRow g cs) :=
  ⟨h.os, h.tape, h.output, by simpa using h.size, fun b hb => (heap_setRow_other w g b cs (by omega)).trans (h.block b hb)⟩

theorem below_cell {W w1 : World} (hb : Below W.heap.size W w1) : (∀ b o, b < W.heap.size → w1.cell? ⟨b, o, none⟩ = W.cell? ⟨b, o, none⟩) ∧ (∀ b o, b < W.heap.size → w1.frozen? ⟨b, o, none⟩ = W.frozen? ⟨b, o, none⟩) :=
  ⟨fun b o h => hb.cell (p := ⟨b, o, none⟩) h, fun b o h => hb.frozen (p := ⟨b, o, none⟩) h⟩

/-- The slice value '.slice A n c' reads as the cells xs (n elements of 'size' cells); where it has any, its block is of G. -/
def Reads (G : Foot) (w : World) (size : Nat) (A : Option Addr) (n : Nat) (xs : List Value) : Prop :=
  xs.length = n * size ∧ (0 < n → ∃ b o, A = some ⟨b, o, none⟩ ∧ G b ∧ b < w.heap.size ∧ ∀ j u, xs[j]? = some u → w.cell? ⟨b, o + j, none⟩ = some u)

section
variable {G : Foot} {w w' : World} {size n : Nat} {A : Option Addr} {xs : List Value}
theorem Reads.none_ : Reads G w size A 0 [] := ⟨by simp, fun h => absurd h (by omega)⟩
theorem Reads.zero : Reads G w size A 0 xs ↔ xs = [] := ⟨fun h => List.eq_nil_of_length_eq_zero (by simpa using h.1), fun h => h ▸ Reads.none_⟩
theorem Reads.keep (h : Reads G w size A n xs) (hs : w.heap.size ≤ w'.heap.size) (hk : ∀ b, G b → w'.heap[b]? = w.heap[b]?) : Reads G w' size A n xs :=
  ⟨h.1, fun hn => by
    obtain ⟨b, o, e, hG, hlt, hc⟩ := h.2 hn
    exact ⟨b, o, e, hG, Nat.lt_of_lt_of_le hlt hs, fun j u hu => (World.cell?_of_block (w := w) (a := ⟨b, o + j, none⟩) (hk b hG)).trans (hc j u hu)⟩⟩
theorem Reads.below (h : Reads G w size A n xs) (hb : Below w.heap.size w w') : Reads G w' size A n xs :=
  ⟨h.1, fun hn => by
    obtain ⟨b, o, e, hG, hlt, hc⟩ := h.2 hn
    exact ⟨b, o, e, hG, Nat.lt_of_lt_of_le hlt hb.size, fun j u hu => (hb.cell (p := ⟨b, o + j, none⟩) hlt).trans (hc j u hu)⟩⟩
theorem Reads.turns {F F' : Foot} (h : Reads G w size A n xs) (ht : Turns F F' w w') (hG : Apart w F G) : Reads G w' size A n xs := h.keep ht.size (ht.keep hG)
theorem Reads.mono {G' : Foot} (h : Reads G w size A n xs) (hG : ∀ b, G b → G' b) : Reads G' w size A n xs :=
  ⟨h.1, fun hn => by
    obtain ⟨b, o, e, hGb, hlt, hc⟩ := h.2 hn
    exact ⟨b, o, e, hG b hGb, hlt, hc⟩⟩
theorem Reads.at_ {k : Nat} (h : Reads G w 1 A n xs) (hk : k < n) : ∃ b o u, A = some ⟨b, o, none⟩ ∧ G b ∧ b < w.heap.size ∧ xs[k]? = some u ∧ w.cell? ⟨b, o + k, none⟩ = some u := by
  obtain ⟨b, o, e, hG, hb, hc⟩ := h.2 (by omega)
  have hl : k < xs.length := by have := h.1; omega
  exact ⟨b, o, xs[k], e, hG, hb, List.getElem?_eq_getElem hl, hc k _ (List.getElem?_eq_getElem hl)⟩
end

/-- A list of strings as cells. -/
def strCells (l : List ByteArray) : List Value := l.map Value.string
/-- The slice reads as these strings. -/
def Strs (G : Foot) (w : World) (A : Option Addr) (l : List ByteArray) : Prop := Reads G w 1 A l.length (strCells l)

end Go.Proofs.YtbpjgdbkmnhnmaaGreat

/- Plain words on bytes: numbers in bytes, a piece laid over others, an area with a directory, a page. No program is named here. -/
namespace Go.Proofs.YtbpjgdbkmnhnmaaGreat.Sp

abbrev Bs := List UInt8

/-- n in k bytes, the highest first. -/
def be : Nat → Nat → Bs
  | 0, _ => []
  | k + 1, n => be k (n / 256) ++ [UInt8.ofNat n]

/-- the number that stands there. -/
def num (l : Bs) : Nat := l.foldl (fun a b => a * 256 + b.toNat) 0

@[simp] theorem be_length : ∀ (k n : Nat), (be k n).length = k
  | 0, _ => rfl
  | k + 1, n => by simp [be, be_length k]

theorem be_get : ∀ (k n j : Nat), j < k → (be k n)[j]? = some (UInt8.ofNat (n / 256 ^ (k - 1 - j)))
  | 0, _, _, h => absurd h (by omega)
  | k + 1, n, j, h => by
    rw [be]
    rcases Nat.lt_or_ge j k with hj | hj
    · rw [List.getElem?_append_left (by simpa using hj), be_get k _ j hj, Nat.div_div_eq_div_mul]
      have : 256 * 256 ^ (k - 1 - j) = 256 ^ (k + 1 - 1 - j) := by
        rw [Nat.mul_comm, ← Nat.pow_succ]; congr 1; omega
      rw [this]
    · obtain rfl : j = k := by omega
      rw [List.getElem?_append_right (by simp)]
      simp

theorem num_snoc (l : Bs) (b : UInt8) : num (l ++ [b]) = num l * 256 + b.toNat := by simp [num]

theorem num_be : ∀ (k n : Nat), num (be k n) = n % 256 ^ k
  | 0, n => by simp [be, num, Nat.mod_one]
  | k + 1, n => by
    rw [be, num_snoc, num_be k, Nat.pow_succ, UInt8.toNat_ofNat']
    rw [Nat.mul_comm (256 ^ k) 256, Nat.mod_mul]
    omega

theorem num_be_lt {k n : Nat} (h : n < 256 ^ k) : num (be k n) = n := by rw [num_be, Nat.mod_eq_of_lt h]

theorem num_lt : ∀ (l : Bs), num l < 256 ^ l.length := by
  intro l
  suffices h : ∀ m (l : Bs), l.length = m → num l < 256 ^ m from h _ l rfl
  intro m
  induction m with
  | zero => intro l h; rw [List.eq_nil_of_length_eq_zero h]; simp [num]
  | succ m ih =>
    intro l h
    have hne : l ≠ [] := by rintro rfl; simp at h
    obtain ⟨l', b, rfl⟩ : ∃ l' b, l = l' ++ [b] := ⟨l.dropLast, l.getLast hne, (List.dropLast_concat_getLast hne).symm⟩
    rw [num_snoc, Nat.pow_succ]
    have h1 := ih l' (by simpa using h)
    have h2 := b.toNat_lt
    omega

theorem be_num : ∀ (m : Nat) (l : Bs), l.length = m → be m (num l) = l
  | 0, l, h => by rw [List.eq_nil_of_length_eq_zero h]; rfl
  | m + 1, l, h => by
    have hne : l ≠ [] := by rintro rfl; simp at h
    obtain ⟨l', b, rfl⟩ : ∃ l' b, l = l' ++ [b] := ⟨l.dropLast, l.getLast hne, (List.dropLast_concat_getLast hne).symm⟩
    have hb := b.toNat_lt
    rw [num_snoc, be]
    have e1 : (num l' * 256 + b.toNat) / 256 = num l' := by omega
    rw [e1, be_num m l' (by simpa using h)]
    congr 2
    apply UInt8.toNat_inj.1
    rw [UInt8.toNat_ofNat']
    omega

/-- a piece laid over others, from a place on. -/
def patch (l : Bs) (at_ : Nat) (p : Bs) : Bs := l.take at_ ++ p ++ l.drop (at_ + p.length)

theorem patch_length {l : Bs} {k : Nat} {p : Bs} (h : k + p.length ≤ l.length) : (patch l k p).length = l.length := by
  simp [patch]; omega

theorem patch_mid {x y z p : Bs} {k : Nat} (hk : k = x.length) (hp : p.length = y.length) : patch (x ++ y ++ z) k p = x ++ p ++ z := by
  subst hk
  unfold patch
  rw [List.append_assoc x y z, List.take_left, hp]
  congr 1
  rw [show x ++ (y ++ z) = (x ++ y) ++ z by simp, show x.length + y.length = (x ++ y).length by simp, List.drop_left]

def zeros (n : Nat) : Bs := List.replicate n 0

/-- bytes of all texts. -/
def total (rows : List Bs) : Nat := (rows.map List.length).sum

@[simp] theorem total_nil : total [] = 0 := rfl
@[simp] theorem total_cons (r : Bs) (rows : List Bs) : total (r :: rows) = r.length + total rows := by simp [total]
@[simp] theorem total_append (a b : List Bs) : total (a ++ b) = total a + total b := by simp [total]

/-- the directory of texts that stand from 'low' down. -/
def dir : Nat → List Bs → Bs
  | _, [] => []
  | low, r :: rs => be 2 (low - r.length) ++ be 2 r.length ++ dir (low - r.length) rs

theorem dir_length : ∀ (low : Nat) (rows : List Bs), (dir low rows).length = 4 * rows.length
  | _, [] => rfl
  | low, r :: rs => by simp [dir, dir_length _ rs]; omega

theorem dir_append : ∀ (low : Nat) (a b : List Bs), dir low (a ++ b) = dir low a ++ dir (low - total a) b
  | low, [], b => by simp [dir]
  | low, r :: rs, b => by
    simp only [List.cons_append, dir, dir_append _ rs b, total_cons, List.append_assoc]
    rw [Nat.sub_sub]

/-- an area of so many bytes with these texts, one put behind the other. -/
def area (size : Nat) (rows : List Bs) : Bs :=
  be 2 rows.length ++ be 2 (size - total rows) ++ dir size rows ++ zeros (size - total rows - 4 - 4 * rows.length) ++ rows.reverse.flatten

theorem flatten_length (rows : List Bs) : rows.flatten.length = total rows := by
  induction rows with
  | nil => rfl
  | cons r rs ih => simp [ih]

theorem total_reverse (rows : List Bs) : total rows.reverse = total rows := by
  induction rows with
  | nil => rfl
  | cons r rs ih => simp [ih]; omega

theorem area_length {size : Nat} {rows : List Bs} (h : 4 + 4 * rows.length + total rows ≤ size) : (area size rows).length = size := by
  simp only [area, List.length_append, be_length, dir_length, zeros, List.length_replicate, flatten_length, total_reverse]
  omega

theorem area_new (size : Nat) (h : 4 ≤ size) : area size [] = patch (zeros size) 2 (be 2 size) := by
  have e : zeros size = zeros 2 ++ zeros 2 ++ zeros (size - 4) := by
    unfold zeros; rw [List.replicate_append_replicate, List.replicate_append_replicate]; congr 1; omega
  rw [e, patch_mid (by simp [zeros]) (by simp [zeros])]
  simp [area, dir, be, zeros]

/-- what a put behind all does, write by write. -/
theorem area_put {size : Nat} {rows : List Bs} {r : Bs} (h : 8 + 4 * rows.length + total rows + r.length ≤ size) :
    patch (patch (patch (patch (patch (area size rows) (size - total rows - r.length) r) 2 (be 2 (size - total rows - r.length))) 0 (be 2 (rows.length + 1))) (4 + 4 * rows.length) (be 2 (size - total rows - r.length)))
      (4 + 4 * rows.length + 2) (be 2 r.length) = area size (rows ++ [r]) := by
  obtain ⟨z, hz⟩ : ∃ z, size - total rows - 4 - 4 * rows.length = 4 + z + r.length := ⟨size - total rows - 4 - 4 * rows.length - 4 - r.length, by omega⟩
  have e0 : area size rows = (be 2 rows.length ++ be 2 (size - total rows) ++ dir size rows ++ zeros 4 ++ zeros z) ++ zeros r.length ++ rows.reverse.flatten := by
    unfold area
    rw [hz]
    have : zeros (4 + z + r.length) = zeros 4 ++ zeros z ++ zeros r.length := by
      unfold zeros; rw [List.replicate_append_replicate, List.replicate_append_replicate]
    rw [this]
    simp only [List.append_assoc]
  rw [e0, patch_mid (by simp [dir_length, zeros]; omega) (by simp [zeros])]
  rw [show (be 2 rows.length ++ be 2 (size - total rows) ++ dir size rows ++ zeros 4 ++ zeros z) ++ r ++ rows.reverse.flatten = be 2 rows.length ++ be 2 (size - total rows) ++ (dir size rows ++ zeros 4 ++ zeros z ++ r ++ rows.reverse.flatten) by simp only [List.append_assoc]]
  rw [patch_mid (by simp) (by simp)]
  rw [show be 2 rows.length ++ be 2 (size - total rows - r.length) ++ (dir size rows ++ zeros 4 ++ zeros z ++ r ++ rows.reverse.flatten) = [] ++ be 2 rows.length ++ (be 2 (size - total rows - r.length) ++ (dir size rows ++ zeros 4 ++ zeros z ++ r ++ rows.reverse.flatten)) by simp only [List.append_assoc, List.nil_append]]
  rw [patch_mid (by simp) (by simp)]
  have e4 : zeros 4 = zeros 2 ++ zeros 2 := rfl
  rw [show [] ++ be 2 (rows.length + 1) ++ (be 2 (size - total rows - r.length) ++ (dir size rows ++ zeros 4 ++ zeros z ++ r ++ rows.reverse.flatten)) = (be 2 (rows.length + 1) ++ be 2 (size - total rows - r.length) ++ dir size rows) ++ zeros 2 ++ (zeros 2 ++ zeros z ++ r ++ rows.reverse.flatten) by rw [e4]; simp only [List.append_assoc, List.nil_append]]
  rw [patch_mid (by simp [dir_length]; omega) (by simp [zeros])]
  rw [show (be 2 (rows.length + 1) ++ be 2 (size - total rows - r.length) ++ dir size rows) ++ be 2 (size - total rows - r.length) ++ (zeros 2 ++ zeros z ++ r ++ rows.reverse.flatten) = (be 2 (rows.length + 1) ++ be 2 (size - total rows - r.length) ++ dir size rows ++ be 2 (size - total rows - r.length)) ++ zeros 2 ++ (zeros z ++ r ++ rows.reverse.flatten) by simp only [List.append_assoc]]
  rw [patch_mid (by simp [dir_length]; omega) (by simp [zeros])]
  unfold area
  have hz' : size - total (rows ++ [r]) - 4 - 4 * (rows ++ [r]).length = z := by simp; omega
  rw [hz', dir_append]
  simp [dir, Nat.sub_sub]

end Go.Proofs.YtbpjgdbkmnhnmaaGreat.Sp

/- Plain words on pages: what stands where in an area, a page's bytes. No program is named here. -/
namespace Go.Proofs.YtbpjgdbkmnhnmaaGreat.Sp

/-- the two bytes' number at a place. -/
def two (l : Bs) (k : Nat) : Nat := num ((l.drop k).take 2)

theorem take2_mid {x y z : Bs} {k n : Nat} (hk : k = x.length) (hn : n = y.length) : ((x ++ y ++ z).drop k).take n = y := by
  subst hk hn
  rw [List.append_assoc, List.drop_left, List.take_left]

theorem two_mid {x z : Bs} {k n : Nat} (hk : k = x.length) (hn : n < 65536) : two (x ++ be 2 n ++ z) k = n := by
  unfold two
  rw [take2_mid hk (by simp), num_be_lt (by omega)]

theorem area_count {size : Nat} {rows : List Bs} (h : rows.length < 65536) : two (area size rows) 0 = rows.length := by
  unfold area
  rw [show be 2 rows.length ++ be 2 (size - total rows) ++ dir size rows ++ zeros (size - total rows - 4 - 4 * rows.length) ++ rows.reverse.flatten =
    [] ++ be 2 rows.length ++ (be 2 (size - total rows) ++ dir size rows ++ zeros (size - total rows - 4 - 4 * rows.length) ++ rows.reverse.flatten) by simp only [List.append_assoc, List.nil_append]]
  exact two_mid (by simp) h

theorem area_low {size : Nat} {rows : List Bs} (h : size < 65536) : two (area size rows) 2 = size - total rows := by
  unfold area
  rw [show be 2 rows.length ++ be 2 (size - total rows) ++ dir size rows ++ zeros (size - total rows - 4 - 4 * rows.length) ++ rows.reverse.flatten =
    be 2 rows.length ++ be 2 (size - total rows) ++ (dir size rows ++ zeros (size - total rows - 4 - 4 * rows.length) ++ rows.reverse.flatten) by simp only [List.append_assoc]]
  exact two_mid (by simp) (by omega)

theorem split_at (rows : List Bs) (i : Nat) (h : i < rows.length) : rows = rows.take i ++ rows[i] :: rows.drop (i + 1) := by
  rw [← List.drop_eq_getElem_cons h, List.take_append_drop]

theorem total_take_succ (rows : List Bs) (i : Nat) (h : i < rows.length) : total (rows.take (i + 1)) = total (rows.take i) + rows[i].length := by
  rw [List.take_succ_eq_append_getElem h, total_append, total_cons, total_nil, Nat.add_zero]

theorem total_take_le (rows : List Bs) (i : Nat) : total (rows.take i) ≤ total rows := by
  conv => rhs; rw [← List.take_append_drop i rows, total_append]
  omega

theorem total_take_mono (rows : List Bs) {i j : Nat} (h : i ≤ j) : total (rows.take i) ≤ total (rows.take j) := by
  have := total_take_le (rows.take j) i
  rwa [List.take_take, Nat.min_eq_left h] at this

theorem area_from {size : Nat} {rows : List Bs} {i : Nat} (hi : i < rows.length) (h : size < 65536) : two (area size rows) (4 + 4 * i) = size - total (rows.take (i + 1)) := by
  unfold area
  rw [total_take_succ rows i hi]
  generalize hz : zeros (size - total rows - 4 - 4 * rows.length) = z
  generalize hf : rows.reverse.flatten = f
  generalize hl : be 2 (size - total rows) = l
  have hll : l.length = 2 := by rw [← hl]; simp
  generalize hc : be 2 rows.length = c
  have hcl : c.length = 2 := by rw [← hc]; simp
  have hs := split_at rows i hi
  generalize hr : rows[i] = r at hs ⊢
  have hd : dir size rows = dir size (rows.take i) ++ (be 2 (size - total (rows.take i) - r.length) ++ be 2 r.length ++ dir (size - total (rows.take i) - r.length) (rows.drop (i + 1))) := by
    conv => lhs; rw [hs]
    rw [dir_append, dir]
  rw [hd, show c ++ l ++ (dir size (rows.take i) ++ (be 2 (size - total (rows.take i) - r.length) ++ be 2 r.length ++ dir (size - total (rows.take i) - r.length) (rows.drop (i + 1)))) ++ z ++ f =
    (c ++ l ++ dir size (rows.take i)) ++ be 2 (size - total (rows.take i) - r.length) ++ (be 2 r.length ++ dir (size - total (rows.take i) - r.length) (rows.drop (i + 1)) ++ z ++ f) by simp only [List.append_assoc]]
  rw [two_mid (by simp [hcl, hll, dir_length]; omega) (by omega), Nat.sub_sub]

theorem area_len {size : Nat} {rows : List Bs} {i : Nat} (hi : i < rows.length) (h : rows[i].length < 65536) : two (area size rows) (4 + 4 * i + 2) = rows[i].length := by
  unfold area
  generalize hz : zeros (size - total rows - 4 - 4 * rows.length) = z
  generalize hf : rows.reverse.flatten = f
  generalize hl : be 2 (size - total rows) = l
  have hll : l.length = 2 := by rw [← hl]; simp
  generalize hc : be 2 rows.length = c
  have hcl : c.length = 2 := by rw [← hc]; simp
  have hs := split_at rows i hi
  generalize hr : rows[i] = r at hs h ⊢
  have hd : dir size rows = dir size (rows.take i) ++ (be 2 (size - total (rows.take i) - r.length) ++ be 2 r.length ++ dir (size - total (rows.take i) - r.length) (rows.drop (i + 1))) := by
    conv => lhs; rw [hs]
    rw [dir_append, dir]
  rw [hd, show c ++ l ++ (dir size (rows.take i) ++ (be 2 (size - total (rows.take i) - r.length) ++ be 2 r.length ++ dir (size - total (rows.take i) - r.length) (rows.drop (i + 1)))) ++ z ++ f =
    (c ++ l ++ dir size (rows.take i) ++ be 2 (size - total (rows.take i) - r.length)) ++ be 2 r.length ++ (dir (size - total (rows.take i) - r.length) (rows.drop (i + 1)) ++ z ++ f) by simp only [List.append_assoc]]
  rw [two_mid (by simp [hcl, hll, dir_length]; omega) (by omega)]

theorem area_text {size : Nat} {rows : List Bs} {i : Nat} (hi : i < rows.length) (h : 4 + 4 * rows.length + total rows ≤ size) : ((area size rows).drop (size - total (rows.take (i + 1)))).take rows[i].length = rows[i] := by
  have hlen := area_length h
  have hs := split_at rows i hi
  have ht := total_take_succ rows i hi
  have hle := total_take_le rows (i + 1)
  generalize hr : rows[i] = r at hs ht ⊢
  have e : area size rows = (be 2 rows.length ++ be 2 (size - total rows) ++ dir size rows ++ zeros (size - total rows - 4 - 4 * rows.length) ++ (rows.drop (i + 1)).reverse.flatten) ++ r ++ (rows.take i).reverse.flatten := by
    unfold area
    conv => lhs; arg 2; rw [hs]
    simp
  have htot : total rows = total (rows.take (i + 1)) + total (rows.drop (i + 1)) := by
    conv => lhs; rw [← List.take_append_drop (i + 1) rows, total_append]
  rw [e]
  refine take2_mid ?_ rfl
  simp only [List.length_append, be_length, dir_length, zeros, List.length_replicate, flatten_length, total_reverse]
  omega

theorem patch_take {l p : Bs} {k n : Nat} (h : n ≤ k) (hk : k ≤ l.length) : (patch l k p).take n = l.take n := by
  unfold patch
  rw [List.append_assoc, List.take_append_of_le_length (by simp; omega), List.take_take, Nat.min_eq_left h]

theorem two_patch0 {l p : Bs} {k : Nat} (h : 2 ≤ k) (hk : k ≤ l.length) : two (patch l k p) 0 = two l 0 := by
  unfold two
  rw [List.drop_zero, List.drop_zero, patch_take h hk]

/-- a page. -/
structure Pg where
  kind : Nat
  level : Nat
  id : Nat
  lsn : Nat
  next : Nat
  rows : List Bs
  deriving Inhabited

/-- A page that may be. -/
def Pg.may (p : Pg) : Prop := p.kind ≤ 5 ∧ 1 ≤ p.id ∧ p.id ≤ 1024 ∧ p.next ≤ 1024 ∧ 4 * p.rows.length + total p.rows ≤ 484

/-- numbers in their bounds. -/
def Pg.wf (p : Pg) : Prop := p.kind < 256 ∧ p.level < 256 ∧ p.id < 4294967296 ∧ p.lsn < 18446744073709551616 ∧ p.next < 4294967296

def Pg.head (p : Pg) : Bs := be 1 p.kind ++ be 1 p.level ++ be 4 p.id ++ be 8 p.lsn ++ be 4 p.next ++ be 2 0

theorem Pg.head_length (p : Pg) : p.head.length = 20 := by simp [head]

def Pg.body (p : Pg) : Bs := p.head ++ area 488 p.rows

theorem Pg.body_length {p : Pg} (h : p.may) : p.body.length = 508 := by
  obtain ⟨_, _, _, _, h⟩ := h
  simp [body, head_length, area_length (size := 488) (rows := p.rows) (by omega)]

end Go.Proofs.YtbpjgdbkmnhnmaaGreat.Sp

/- Plain words on the sum of a text, and a text sealed by it. No program is named here. -/
namespace Go.Proofs.YtbpjgdbkmnhnmaaGreat.Sp

def poly : Nat := 0x82F63B78
def crcStep (c : Nat) : Nat := (c / 2) ^^^ (poly * (c % 2))
def crcSteps : Nat → Nat → Nat
  | 0, c => c
  | k + 1, c => crcStep (crcSteps k c)
def crcTab (i : Nat) : Nat := crcSteps 8 i
def crcByte (c x : Nat) : Nat := crcTab ((c % 256) ^^^ x) ^^^ (c / 256)
def crcRun (c : Nat) (s : Bs) : Nat := s.foldl (fun c x => crcByte c x.toNat) c
def crc (s : Bs) : Nat := 4294967295 - crcRun 4294967295 s

theorem crcStep_lt {c : Nat} (h : c < 4294967296) : crcStep c < 4294967296 := by
  have h1 : c / 2 < 2 ^ 32 := by omega
  have h2 : poly * (c % 2) < 2 ^ 32 := by
    unfold poly
    have : c % 2 < 2 := Nat.mod_lt _ (by omega)
    omega
  exact Nat.xor_lt_two_pow h1 h2

theorem crcSteps_lt {c : Nat} (h : c < 4294967296) : ∀ k, crcSteps k c < 4294967296
  | 0 => h
  | k + 1 => crcStep_lt (crcSteps_lt h k)

theorem crcTab_lt {i : Nat} (h : i < 256) : crcTab i < 4294967296 := crcSteps_lt (by omega) 8

theorem xor_byte {c x : Nat} (hx : x < 256) : (c % 256) ^^^ x < 256 := Nat.xor_lt_two_pow (n := 8) (by omega) hx

theorem crcByte_lt {c x : Nat} (hc : c < 4294967296) (hx : x < 256) : crcByte c x < 4294967296 :=
  Nat.xor_lt_two_pow (n := 32) (crcTab_lt (xor_byte hx)) (by omega)

theorem crcRun_snoc (c : Nat) (s : Bs) (x : UInt8) : crcRun c (s ++ [x]) = crcByte (crcRun c s) x.toNat := by simp [crcRun]

theorem crcRun_lt {c : Nat} (hc : c < 4294967296) (s : Bs) : crcRun c s < 4294967296 := by
  induction s generalizing c with
  | nil => exact hc
  | cons x s ih => exact ih (crcByte_lt hc x.toNat_lt)

theorem crc_lt (s : Bs) : crc s < 4294967296 := by unfold crc; omega

/-- the sum's bytes, the lowest first. -/
def sumBytes (s : Bs) : Bs := [UInt8.ofNat (crc s), UInt8.ofNat (crc s / 256), UInt8.ofNat (crc s / 65536), UInt8.ofNat (crc s / 16777216)]
@[simp] theorem sumBytes_length (s : Bs) : (sumBytes s).length = 4 := rfl
def sealed (s : Bs) : Bs := s ++ sumBytes s
@[simp] theorem sealed_length (s : Bs) : (sealed s).length = s.length + 4 := by simp [sealed]
theorem sealed_take (s : Bs) : (sealed s).take ((sealed s).length - 4) = s := by simp [sealed]

/-- 508 bytes that are 0, behind them four more: no text is sealed so. -/
theorem zeros_unsealed : sealed (zeros 508) ≠ zeros 512 := by
  intro h
  have h1 : (sealed (zeros 508)).drop 508 = (zeros 512).drop 508 := by rw [h]
  have h2 : (sealed (zeros 508)).drop 508 = sumBytes (zeros 508) := List.drop_left' (List.length_replicate ..)
  rw [h2] at h1
  revert h1
  decide +kernel

end Go.Proofs.YtbpjgdbkmnhnmaaGreat.Sp

/- Plain words on a disk of sectors: what a write, a sync, a read do. No program is named here. -/
namespace Go.Proofs.YtbpjgdbkmnhnmaaGreat.Sp

structure Dk where
  sure : List Bs
  loose : List (Nat × Bs)
  fuse : Int

def lay (l : List (Nat × Bs)) (s : List Bs) : List Bs := l.foldl (fun s x => s.set x.1 x.2) s

@[simp] theorem lay_length : ∀ (l : List (Nat × Bs)) (s : List Bs), (lay l s).length = s.length
  | [], _ => rfl
  | x :: l, s => by rw [lay, List.foldl_cons, ← lay, lay_length l]; simp

theorem lay_append (a b : List (Nat × Bs)) (s : List Bs) : lay (a ++ b) s = lay b (lay a s) := by simp [lay]

structure Dk.wf (d : Dk) : Prop where
  some_ : 1 ≤ d.sure.length
  few : d.sure.length ≤ 16384
  sure : ∀ s ∈ d.sure, s.length = 128
  loose : ∀ x ∈ d.loose, x.1 < d.sure.length ∧ x.2.length = 128

/-- what a read sees. -/
def Dk.view (d : Dk) : List Bs := lay d.loose d.sure

theorem Dk.view_length (d : Dk) : d.view.length = d.sure.length := by simp [view]

theorem lay_all {l : List (Nat × Bs)} {s : List Bs} {n : Nat} (hs : ∀ x ∈ s, x.length = n) (hl : ∀ x ∈ l, x.2.length = n) : ∀ x ∈ lay l s, x.length = n := by
  induction l generalizing s with
  | nil => exact hs
  | cons y l ih =>
    rw [lay, List.foldl_cons, ← lay]
    refine ih (fun x hx => ?_) (fun x hx => hl x (by simp [hx]))
    rcases List.mem_or_eq_of_mem_set hx with h | h
    · exact hs x h
    · rw [h]; exact hl y (by simp)

theorem Dk.wf.view {d : Dk} (h : d.wf) : ∀ s ∈ d.view, s.length = 128 := lay_all h.sure (fun x hx => (h.loose x hx).2)

def burn (f : Int) : Int := if 0 < f then f - 1 else f

/-- a write that may be. -/
def Dk.put (d : Dk) (k : Nat) (s : Bs) : Dk := { d with loose := d.loose ++ [(k, s)], fuse := burn d.fuse }
def Dk.synced (d : Dk) : Dk := { sure := d.view, loose := [], fuse := burn d.fuse }

theorem Dk.put_wf {d : Dk} (h : d.wf) {k : Nat} {s : Bs} (hk : k < d.sure.length) (hs : s.length = 128) : (d.put k s).wf :=
  ⟨h.some_, h.few, h.sure, fun x hx => by
    rcases List.mem_append.1 hx with h' | h'
    · exact h.loose x h'
    · rw [List.mem_singleton.1 h']; exact ⟨hk, hs⟩⟩
theorem Dk.synced_wf {d : Dk} (h : d.wf) : d.synced.wf :=
  ⟨by simpa [synced, view] using h.some_, by simpa [synced, view] using h.few, h.view, fun x hx => by simp [synced] at hx⟩

@[simp] theorem Dk.put_view (d : Dk) (k : Nat) (s : Bs) : (d.put k s).view = d.view.set k s := by simp [put, view, lay]
@[simp] theorem Dk.synced_view (d : Dk) : d.synced.view = d.view := by simp [synced, view, lay]

/-- the last loose write of a sector, walked from behind. -/
theorem lay_getElem? (l : List (Nat × Bs)) (s : List Bs) (k : Nat) (h : ∀ x ∈ l, x.1 ≠ k) : (lay l s)[k]? = s[k]? := by
  induction l generalizing s with
  | nil => rfl
  | cons y l ih =>
    rw [lay, List.foldl_cons, ← lay, ih _ (fun x hx => h x (by simp [hx])), List.getElem?_set_ne (h y (by simp))]

theorem lay_last (a b : List (Nat × Bs)) (s : List Bs) (k : Nat) (x : Bs) (h : ∀ y ∈ b, y.1 ≠ k) (hk : k < s.length) : (lay (a ++ (k, x) :: b) s)[k]? = some x := by
  rw [lay_append, lay, List.foldl_cons, ← lay, lay_getElem? b _ k h, List.getElem?_set_self (by simpa using hk)]

end Go.Proofs.YtbpjgdbkmnhnmaaGreat.Sp
