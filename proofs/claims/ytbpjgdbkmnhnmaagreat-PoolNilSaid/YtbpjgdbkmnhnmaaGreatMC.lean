/- What all walks import. -/
import Derived.Test.YtbpjgdbkmnhnmaaGreatProg
import Derived.Test.YtbpjgdbkmnhnmaaGreatMA
import Derived.WalkKit
import Derived.Outline
import Derived.LoopTactic
import Derived.IntWalk
import Derived.Below
import Derived.OwnWalk
import Derived.Lib.Hide
import Derived.Lib.ConvBytes
import Derived.Deep.LoopGhost
import Derived.Deep.DeepFit
import Derived.Deep.DeepMust
import Derived.Deep.RegionHeld3
import Derived.Deep.RegionWith
import Derived.Deep.QuietTactic
import Derived.BigQuiet
import Derived.WalkLawsBesides
import Derived.WalkSpells
import Derived.Laws.BytesString
import Derived.Laws.IdiomStrings
import Derived.Laws.BytesArg
import Derived.Laws.BitsAllLaws
import Derived.Laws.MakeOwn
import Derived.Laws.Entries
import Derived.Laws.Rows
import Derived.Laws.Tables
import Derived.Deep.WholeRow
import Derived.Deep.MidRow
import Derived.Laws.ResultCell
import Derived.Lib.BufferWrite
import Derived.Lib.SlBuf
import Derived.Laws.CopyOwn

namespace Go.Proofs.YtbpjgdbkmnhnmaaGreat
open Go.RowKit

/-- A text as a value. -/
abbrev str (l : Sp.Bs) : Value := .string ⟨l.toArray⟩

/-- The bytes l as cells. -/
def bcs (l : Sp.Bs) : List Value := l.map fun b => Value.int .u8 (b.toNat : Int)
@[simp] theorem bcs_length (l : Sp.Bs) : (bcs l).length = l.length := by simp [bcs]
theorem bcs_get (l : Sp.Bs) (j : Nat) : (bcs l)[j]? = (l[j]?).map fun b => Value.int .u8 (b.toNat : Int) := by simp [bcs]
theorem bcs_at (l : Sp.Bs) (j : Nat) (h : j < l.length) : (bcs l)[j]? = some (Value.int .u8 (l[j].toNat : Int)) := by simp [bcs, h]
theorem bcs_append (a b : Sp.Bs) : bcs (a ++ b) = bcs a ++ bcs b := by simp [bcs]

/-- 'string(b)' of a slice whose cells are the bytes l, at an address in plain form. -/
theorem run_bytes_back {P : Program} (w : World) (src dst e : TypeId) (b o n cap : Nat) (l : Sp.Bs) (hs : P.underlying src = some (.slice e)) (he : P.underlying e = some (.int .u8)) (hd : P.underlying dst = some .string)
    (hn : n = l.length) (hc : ∀ j (hj : j < l.length), w.cell? ⟨b, o + j, none⟩ = some (.int .u8 (l[j].toNat : Int))) :
    (convert src dst (.slice (some ⟨b, o, none⟩) n cap)).run P w = .ok (str l) w := by
  subst hn
  refine run_convert_bytes_back w src dst e ⟨b, o, none⟩ cap l hs he hd (fun j hj => ?_)
  have e1 : (⟨b, o, none⟩ : Addr).add j = ⟨b, o + j, none⟩ := by unfold Addr.add; split <;> simp_all
  rw [e1]
  exact hc j hj

@[simp] theorem str_size (l : Sp.Bs) : (⟨l.toArray⟩ : ByteArray).size = l.length := by simp [ByteArray.size]

theorem str_extract (l : Sp.Bs) (a b : Nat) : (⟨l.toArray⟩ : ByteArray).extract a b = ⟨((l.drop a).take (b - a)).toArray⟩ := by
  apply ByteArray.ext
  apply Array.toList_inj.1
  simp [ByteArray.data_extract, List.extract_eq_take_drop]
theorem str_append (a b : Sp.Bs) : (⟨a.toArray⟩ : ByteArray) ++ ⟨b.toArray⟩ = ⟨(a ++ b).toArray⟩ := by
  apply ByteArray.ext
  simp
theorem str_inj {a b : Sp.Bs} (h : str a = str b) : a = b := by
  injection h with h
  injection h with h
  simpa using h

/-- '[]byte(s)': a new row whose first cells are the bytes. -/
theorem conv_bytes {P : Program} (w : World) (src dst e : TypeId) (l : Sp.Bs) {u : TypeDesc} (hs : P.underlying src = some u) (hd : P.underlying dst = some (.slice e)) (he : P.underlying e = some (.int .u8)) :
    ∃ gc w1, (convert src dst (str l)).run P w = .ok (.slice (some ⟨w.heap.size, 0, none⟩) l.length gc) w1 ∧ Below w.heap.size w w1 ∧ w1.heap.size = w.heap.size + 1 ∧
      (∀ j (hj : j < l.length), w1.cell? ⟨w.heap.size, j, none⟩ = some (.int .u8 (l[j].toNat : Int))) ∧ (∀ j, j < l.length → w1.frozen? ⟨w.heap.size, j, none⟩ = false) := by
  refine ⟨_, _, Lib.run_convert_string_bytes w src dst e ⟨l.toArray⟩ hs hd he |>.trans (by rw [str_size]), ⟨?_, ?_, ?_, ?_, ?_⟩, Lib.bytesWorld_size _ _ _, fun j hj => ?_, fun j hj => ?_⟩
  · simp [Lib.bytesWorld, World.freeze, World.alloc, World.drew, -World.alloc_eq, -World.drew_eq]
  · simp [Lib.bytesWorld, World.freeze, World.alloc, World.drew, -World.alloc_eq, -World.drew_eq]
  · simp [Lib.bytesWorld, World.freeze, World.alloc, World.drew, -World.alloc_eq, -World.drew_eq]
  · rw [Lib.bytesWorld_size]; omega
  · exact fun k hk => Lib.bytesWorld_at_old _ _ _ _ hk
  · rw [Lib.bytesWorld_cell _ _ _ _ (by simpa using hj)]
    simp [List.getD, hj]
  · have hsz : l.length ≤ (Lib.bytesCells w e ⟨l.toArray⟩).size := by simp [Lib.bytesCells]
    simp [World.frozen?, Lib.bytesWorld_at_new]
    omega

/-- The world behind '[]byte(s)', and the new slice's capacity, under names that the walk leaves closed. -/
def bytesW (w : World) (e : TypeId) (l : Sp.Bs) : World := Lib.bytesWorld w e ⟨l.toArray⟩
def bytesC (w : World) (e : TypeId) (l : Sp.Bs) : Nat := grownCap w l.length 0 e
theorem conv_any {P : Program} (src dst e : TypeId) (l : Sp.Bs) {u : TypeDesc} (hs : P.underlying src = some u) (hd : P.underlying dst = some (.slice e)) (he : P.underlying e = some (.int .u8)) :
    ∀ w, (convert src dst (str l)).run P w = .ok (.slice (some ⟨w.heap.size, 0, none⟩) l.length (bytesC w e l)) (bytesW w e l) := fun w =>
  (Lib.run_convert_string_bytes w src dst e ⟨l.toArray⟩ hs hd he).trans (by rw [str_size]; rfl)
theorem bytesC_le (w : World) (e : TypeId) (l : Sp.Bs) (h : l.length ≤ maxLen) : l.length ≤ bytesC w e l ∧ bytesC w e l ≤ maxLen := ⟨grownCap_ge _ _ _ _, grownCap_le_maxLen _ _ _ _ h⟩
theorem bytesW_facts (w : World) (e : TypeId) (l : Sp.Bs) : Below w.heap.size w (bytesW w e l) ∧ (bytesW w e l).heap.size = w.heap.size + 1 ∧
    (∀ j (hj : j < l.length), (bytesW w e l).cell? ⟨w.heap.size, j, none⟩ = some (.int .u8 (l[j].toNat : Int))) ∧ (∀ j, j < l.length → (bytesW w e l).frozen? ⟨w.heap.size, j, none⟩ = false) := by
  refine ⟨⟨?_, ?_, ?_, ?_, ?_⟩, Lib.bytesWorld_size _ _ _, fun j hj => ?_, fun j hj => ?_⟩
  · simp [bytesW, Lib.bytesWorld, World.freeze, World.alloc, World.drew, -World.alloc_eq, -World.drew_eq]
  · simp [bytesW, Lib.bytesWorld, World.freeze, World.alloc, World.drew, -World.alloc_eq, -World.drew_eq]
  · simp [bytesW, Lib.bytesWorld, World.freeze, World.alloc, World.drew, -World.alloc_eq, -World.drew_eq]
  · rw [bytesW, Lib.bytesWorld_size]; omega
  · exact fun k hk => Lib.bytesWorld_at_old _ _ _ _ hk
  · rw [bytesW, Lib.bytesWorld_cell _ _ _ _ (by simpa using hj)]
    simp [List.getD, hj]
  · have hsz : l.length ≤ (Lib.bytesCells w e ⟨l.toArray⟩).size := by simp [Lib.bytesCells]
    simp [bytesW, World.frozen?, Lib.bytesWorld_at_new]
    omega

theorem ofInt_i64 (a : Nat) (ha : a < 9223372036854775808) : (BitVec.ofInt 64 (a : Int)).toNat = a := by
  rw [BitVec.ofInt_natCast, BitVec.toNat_ofNat]; exact Nat.mod_eq_of_lt (by omega)
theorem i64_or_nat (a b : Nat) (ha : a < 9223372036854775808) (hb : b < 9223372036854775808) : bits .or .i64 (a : Int) (b : Int) = ((a ||| b : Nat) : Int) := by
  have hx : a ||| b < 2 ^ 63 := Nat.or_lt_two_pow (by omega) (by omega)
  show IntKind.i64.wrap ((BitVec.ofInt 64 (a : Int) ||| BitVec.ofInt 64 (b : Int)).toNat : Int) = _
  rw [BitVec.toNat_or, ofInt_i64 a ha, ofInt_i64 b hb, IntKind.wrap_i64]
  omega

/-- A quiet callee in a region that stands behind other draws. -/
theorem quiet_add {P : Program} {f : FuncId} {args : Array Value} {w : World} {a n : Nat} {v : Value}
    (h : Calls P f args (w.drewN (a + n)) fun e w' => e = .returned v ∧ ∃ m, w' = (w.drewN (a + n)).drewN m) :
    Calls P f args (w.drewN (a + n)) fun e w'' => e = .returned v ∧ ∃ m, w'' = w.drewN (a + m) :=
  h.mono fun _ _ ⟨he, m, hm⟩ => ⟨he, n + m, by rw [hm, World.drewN_drewN, Nat.add_assoc]⟩
theorem quiet_left {P : Program} {f : FuncId} {args : Array Value} {w : World} {n : Nat} {v : Value}
    (h : Calls P f args (w.drewN n) fun e w' => e = .returned v ∧ w.drewN n = w') : Calls P f args (w.drewN n) fun e w'' => e = .returned v ∧ ∃ m, w'' = w.drewN m :=
  h.mono fun _ _ ⟨he, hm⟩ => ⟨he, n, hm.symm⟩

theorem run_make_rowN {P : Program} (t e : TypeId) (i : TypeInfo) (z : Value) (ht : P.underlying t = some (.slice e)) (hi : P.info? e = some i) (hz : i.zero = some z)
    (kl kc : IntKind) (n c : Nat) (hnc : n ≤ c) (hbytes : i.bytes * c ≤ 281474976710656) (h63 : c ≤ 9223372036854775807) (w : World) :
    (Instr.makeSlice t (.int kl (n : Int)) (.int kc (c : Int))).run P w = .ok (.slice (some ⟨w.heap.size, 0, none⟩) n c) (w.alloc (.cells (madeCells z.cells (c * i.size)) e)) := by
  have hb : (i.bytes : Int) * (c : Int) ≤ 281474976710656 := by
    have h : ((i.bytes * c : Nat) : Int) ≤ 281474976710656 := by omega
    rwa [Int.natCast_mul] at h
  have hr := run_make (P := P) w t e i z ht hi hz kl kc n c (by omega) (by omega) hb (by omega)
  simp only [Int.toNat_natCast] at hr
  exact hr
theorem madeCells_one (v : Value) (n : Nat) : madeCells #[v] n = (List.replicate n v).toArray := by
  unfold madeCells
  apply Array.ext_getElem?
  intro j
  rcases Nat.lt_or_ge j n with hj | hj
  · simp [hj, Nat.mod_one]
  · rw [Array.getElem?_eq_none (by simpa using hj)]; simp; omega
end Go.Proofs.YtbpjgdbkmnhnmaaGreat

/- The walks of package word. -/
namespace Go.Proofs.YtbpjgdbkmnhnmaaGreat
open Go.RowKit

/-- The array of word.Put behind k rounds. -/
def putCells (n k : Nat) : Array Value := ((List.range 8).map fun j => Value.int .u8 (if 8 ≤ j + k then ((n / 256 ^ (7 - j) % 256 : Nat) : Int) else 0)).toArray

theorem putCells_next (n k : Nat) (hk : k < 8) (v : Int) (hv : v = ((n / 256 ^ k % 256 : Nat) : Int)) : (putCells n k).setIfInBounds (7 - k) (.int .u8 v) = putCells n (k + 1) := by
  subst hv
  unfold putCells
  match k, hk with
  | 0, _ => simp [List.range_succ]
  | 1, _ => simp [List.range_succ]
  | 2, _ => simp [List.range_succ]
  | 3, _ => simp [List.range_succ]
  | 4, _ => simp [List.range_succ]
  | 5, _ => simp [List.range_succ]
  | 6, _ => simp [List.range_succ]
  | 7, _ => simp [List.range_succ]

theorem putCells_at (n size j : Nat) (hj : j < size) (h8 : size ≤ 8) (hj' : j < (Sp.be size n).length) : (putCells n 8)[8 - size + j]? = some (Value.int .u8 ((Sp.be size n)[j].toNat : Int)) := by
  have h1 := Sp.be_get size n j hj
  rw [List.getElem?_eq_getElem hj', Option.some.injEq] at h1
  rw [h1]
  have e : 7 - (8 - size + j) = size - 1 - j := by omega
  have hlt : 8 - size + j < 8 := by omega
  simp only [putCells, List.getElem?_toArray, List.getElem?_map, List.getElem?_range hlt, Option.map_some]
  rw [if_pos (by omega), e, UInt8.toNat_ofNat']

theorem byte_cast (n k : Nat) : ((n : Int) / 2 ^ (8 * k) % 256) = ((n / 256 ^ k % 256 : Nat) : Int) := by
  rw [show 256 ^ k = 2 ^ (8 * k) by rw [Nat.pow_mul]]; simp

set_option maxRecDepth 100000 in
set_option maxHeartbeats 2000000 in
theorem word_put (n size : Nat) (w : World) (h1 : 1 ≤ size) (h8 : size ≤ 8) (hn : n < 256 ^ size) (hn64 : n < 18446744073709551616) :
    Calls Tryz.prog 102 #[.int .u64 n, .int .i64 size] w fun e w' => e = .returned (.tuple #[str (Sp.be size n), .bool true]) ∧ Below w.heap.size w w' := by
  have d1 : decide ((size : Int) < 1) = false := by simp; omega
  have d2 : decide ((8 : Int) < (size : Int)) = false := by simp; omega
  have d3 : (((n : Int) / 2 ^ (8 * size)) != 0) = false := by
    have e : (2 : Int) ^ (8 * size) = ((256 ^ size : Nat) : Int) := by rw [show 256 ^ size = 2 ^ (8 * size) by rw [Nat.pow_mul]]; simp
    rw [e, ← Int.natCast_ediv, Nat.div_eq_of_lt hn]
    rfl
  have i3 : (size : Int) ≤ 8 := by omega
  have i0 : (0 : Int) ≤ 8 - (size : Int) := by omega
  have i1 : (8 : Int) - (size : Int) ≤ 8 := by omega
  have i2 : (8 - (size : Int)).toNat = 8 - size := by omega
  have hN := Lib.hid hn
  have hN64 := Lib.hid hn64
  clear hn hn64
  rcases Nat.lt_or_ge size 8 with hlt | hge
  all_goals
    go_enter Tryz.func102, Tryz.ntmps102
    go_wp2
    go_loopw [7, 25] (fun _ i wr => ∃ k : Nat, k ≤ 8 ∧ i = .int .i64 k ∧ Blk wr w.heap.size 179 (putCells n k) ∧ Below w.heap.size w wr) (fun _ i _ => 8 - (intOf i).toNat)
    case atStart => exact ⟨0, by omega, rfl, Blk.new w _ _, (Below.refl _ _).alloc (Nat.le_refl _) _⟩
    case round =>
      obtain ⟨k, hk, rfl, hblk, hb⟩ := hrel
      by_cases hlt : k < 8
      · obtain ⟨v0, hv0⟩ : ∃ v, (putCells n k)[7 - k]? = some v := ⟨_, Array.getElem?_eq_getElem (by simp [putCells]; omega)⟩
        have hcell := (hblk.cell (7 - k)).trans hv0
        have hfz := hblk.frozen (7 - k)
        clear hv0
        go_wp2
        go_roundw
        case rel =>
          refine ⟨k + 1, by omega, by go_num, ?_, hb.setCell (Nat.le_refl _) _⟩
          rw [← putCells_next n k hlt _ (byte_cast n k)]
          exact hblk.set_ _ _
        case measure => simp [intOf]; omega
      · obtain rfl : k = 8 := by omega
        have hc0 : ∀ j (hj : j < (Sp.be size n).length), wr.cell? ⟨w.heap.size, 8 - size + j, none⟩ = some (.int .u8 ((Sp.be size n)[j].toNat : Int)) := fun j hj => by
          have hj' : j < size := by simpa using hj
          rw [hblk.cell]
          exact putCells_at n size j hj' h8 hj
        have hcv : ∀ o n1 n2, o = 8 - size → n1 = size → (convert 22 9 (.slice (some ⟨w.heap.size, o, none⟩) n1 n2)).run Tryz.prog wr = .ok (str (Sp.be size n)) wr := fun o n1 n2 ho hn1 => by
          subst ho hn1
          exact run_bytes_back wr 22 9 5 w.heap.size (8 - n1) n1 n2 (Sp.be n1 n) Tryz.underlying22 Tryz.underlying5 Tryz.underlying9 (by simp) hc0
        clear hc0
        have hcv1 := hcv (8 - size) (8 - (8 - size)) (8 - (8 - size)) rfl (by omega)
        first
          | (have hcv2 := hcv 0 8 8 (by omega) (by omega); clear hcv; go_wp2; go_ret2; exact ⟨rfl, hb⟩)
          | (clear hcv; go_wp2; go_ret2; exact ⟨rfl, hb⟩)

set_option maxRecDepth 100000 in
set_option maxHeartbeats 2000000 in
theorem word_cut (l : Sp.Bs) (a n : Nat) (w : World) (h : a + n ≤ l.length) (hl : l.length ≤ 1000000000) :
    Calls Tryz.prog 83 #[str l, .int .i64 a, .int .i64 n] w fun e w' => e = .returned (.tuple #[str ((l.drop a).take n), .bool true]) ∧ w = w' := by
  have d1 : decide ((a : Int) < 0) = false := by simp
  have d2 : decide ((n : Int) < 0) = false := by simp
  have d3 : decide ((l.length : Int) < (a : Int)) = false := by simp; omega
  have d4 : decide ((l.length : Int) - (a : Int) < (n : Int)) = false := by simp; omega
  have i1 : (a : Int) ≤ (a : Int) + (n : Int) := by omega
  have i2 : (a : Int) + (n : Int) ≤ (l.length : Int) := by omega
  go_enter Tryz.func83, Tryz.ntmps83
  go_wp2
  go_ret2
  exact ⟨by show Ending.returned (.tuple #[.string (ByteArray.extract _ _ _), .bool true]) = _; rw [str_extract, Nat.add_sub_cancel_left], rfl⟩

theorem getStep (m : Nat) (b : UInt8) (h : m < 72057594037927936) : bits .or .u64 ((m : Int) * 256) (IntKind.u64.wrap (b.toNat : Int)) = ((m * 256 + b.toNat : Nat) : Int) := by
  have hb := b.toNat_lt
  have e : IntKind.u64.wrap (b.toNat : Int) = ((b.toNat : Nat) : Int) := by
    rw [IntKind.wrap_u64]; omega
  have e2 : (m : Int) * 256 = ((m * 256 : Nat) : Int) := by omega
  rw [e, e2, u64_or_nat _ _ (by omega) (by omega), nat_join 8 _ _ (by omega) (by omega)]

set_option maxRecDepth 100000 in
set_option maxHeartbeats 2000000 in
theorem word_get (l : Sp.Bs) (a n : Nat) (w : World) (h : a + n ≤ l.length) (h1 : 1 ≤ n) (h8 : n ≤ 8) (hl : l.length ≤ 1000000000) :
    Calls Tryz.prog 161 #[str l, .int .i64 a, .int .i64 n] w fun e w' => e = .returned (.tuple #[.int .u64 (Sp.num ((l.drop a).take n)), .bool true]) ∧ Below w.heap.size w w' := by
  have d1 : decide ((n : Int) < 1) = false := by simp; omega
  have d2 : decide ((8 : Int) < (n : Int)) = false := by simp; omega
  go_enter Tryz.func161, Tryz.ntmps161
  go_wp2_with fail
  refine (word_cut l a n _ h hl).mono ?_
  rintro e w' ⟨rfl, rfl⟩
  have hlen : ((l.drop a).take n).length = n := by simp; omega
  generalize hp : (l.drop a).take n = p at *
  have HP := Lib.hid hp
  clear hp
  obtain ⟨gc, w1, hcv, hb0, _, hnew, _⟩ := conv_bytes (P := Tryz.prog) w 9 22 5 p Tryz.underlying9 Tryz.underlying22 Tryz.underlying5
  subst hlen
  go_wp2_with fail
  go_loop [6, 10, 31] (fun x _ i => ∃ k : Nat, k ≤ p.length ∧ i = .int .i64 k ∧ x = .int .u64 (Sp.num (p.take k))) (fun _ _ i => p.length - (intOf i).toNat)
  case atStart => exact ⟨0, by omega, rfl, rfl⟩
  case round =>
    obtain ⟨k, hk, rfl, rfl⟩ := hrel
    by_cases hlt : k < p.length
    · have hcell := hnew k hlt
      clear hnew hcv
      have hm : Sp.num (p.take k) < 72057594037927936 := by
        have h3 := Sp.num_lt (p.take k)
        have h4 : (256 : Nat) ^ (p.take k).length ≤ 256 ^ 7 := Nat.pow_le_pow_right (by omega) (by simp; omega)
        have h5 : (256 : Nat) ^ 7 = 72057594037927936 := by decide
        omega
      have hst := getStep _ p[k] hm
      have hnx : Sp.num (p.take (k + 1)) = Sp.num (p.take k) * 256 + p[k].toNat := by
        rw [List.take_succ_eq_append_getElem hlt, Sp.num_snoc]
      have HX := Lib.hid hnx
      have HS := Lib.hid hst
      clear hnx hst
      generalize Sp.num (p.take k) = m at *
      go_wp2
      go_round
      case rel => exact ⟨k + 1, by omega, by go_num, by rw [HX.out, HS.out]⟩
      case measure => simp [intOf]; omega
    · obtain rfl : k = p.length := by omega
      clear hnew hcv
      go_wp2
      go_ret2
      refine ⟨?_, hb0⟩
      show Ending.returned (.tuple #[.int .u64 (Sp.num p), .bool true]) = _
      rw [HP.out]
end Go.Proofs.YtbpjgdbkmnhnmaaGreat

/- The walks of package sum. -/
namespace Go.Proofs.YtbpjgdbkmnhnmaaGreat
open Go.RowKit

/-- The table behind k rounds. -/
def tabCells (k : Nat) : Array Value := ((List.range 256).map fun j => Value.int .u32 (if j < k then ((Sp.crcTab j : Nat) : Int) else 0)).toArray
theorem tabCells_size (k : Nat) : (tabCells k).size = 256 := by simp [tabCells]
theorem tabCells_get (k j : Nat) (h : j < 256) : (tabCells k)[j]? = some (Value.int .u32 (if j < k then ((Sp.crcTab j : Nat) : Int) else 0)) := by
  simp only [tabCells, List.getElem?_toArray, List.getElem?_map, List.getElem?_range h, Option.map_some]
theorem tabCells_next (k : Nat) (_hk : k < 256) : (tabCells k).setIfInBounds k (.int .u32 ((Sp.crcTab k : Nat) : Int)) = tabCells (k + 1) := by
  apply Array.ext_getElem?
  intro j
  rw [Array.getElem?_setIfInBounds]
  rcases Nat.lt_or_ge j 256 with hj | hj
  · rw [tabCells_get _ _ hj, tabCells_get _ _ hj, tabCells_size]
    by_cases e : k = j
    · subst e; simp [hj]
    · rw [if_neg e]
      congr 2
      by_cases h : j < k
      · rw [if_pos h, if_pos (by omega)]
      · rw [if_neg h, if_neg (by omega)]
  · rw [Array.getElem?_eq_none (by rw [tabCells_size]; exact hj), Array.getElem?_eq_none (by rw [tabCells_size]; exact hj), tabCells_size]
    split <;> simp; omega
theorem tabCells_zero : tabCells 0 = Array.replicate 256 (.int .u32 0) := by
  apply Array.ext_getElem?
  intro j
  rcases Nat.lt_or_ge j 256 with hj | hj
  · rw [tabCells_get _ _ hj]; simp [hj]
  · rw [Array.getElem?_eq_none (by rw [tabCells_size]; exact hj)]; simp; omega

theorem tab_info : (Tryz.prog.info? 213).map (fun i => (i.zero, i.size)) = some (some (.agg (tabCells 0)), 256) := by
  rw [tabCells_zero]; kernel_rfl

theorem crcStep_cast (c : Nat) (h : c < 4294967296) : bits .xor .u32 ((c : Int) / 2) (2197175160 * bits .and .u32 (c : Int) 1 % 4294967296) = ((Sp.crcStep c : Nat) : Int) := by
  have e1 : bits .and .u32 (c : Int) 1 = ((c % 2 : Nat) : Int) := by
    rw [show (1 : Int) = ((1 : Nat) : Int) from rfl, u32_and_nat _ _ h (by omega), nat_mask1]
  have hm : c % 2 < 2 := Nat.mod_lt _ (by omega)
  have e2 : (2197175160 * ((c % 2 : Nat) : Int)) % 4294967296 = ((Sp.poly * (c % 2) : Nat) : Int) := by
    unfold Sp.poly; omega
  rw [e1, e2, show (c : Int) / 2 = ((c / 2 : Nat) : Int) by omega, u32_xor_nat _ _ (by omega) (by unfold Sp.poly; omega)]
  rfl

theorem xor_ones (c : Nat) (h : c < 4294967296) : bits .xor .u32 IntKind.u32.max (c : Int) = ((4294967295 - c : Nat) : Int) := by
  rw [show IntKind.u32.max = ((4294967295 : Nat) : Int) from rfl, u32_xor_nat _ _ (by omega) h]
  congr 1
  apply Nat.eq_of_testBit_eq
  intro i
  rw [Nat.testBit_xor, show 4294967295 - c = 2 ^ 32 - (c + 1) by omega, Nat.testBit_two_pow_sub_succ (by omega), show (4294967295 : Nat) = 2 ^ 32 - 1 from rfl, Nat.testBit_two_pow_sub_one]
  by_cases hi : i < 32
  · simp [hi]
  · have : c.testBit i = false := Nat.testBit_lt_two_pow (Nat.lt_of_lt_of_le h (show 2 ^ 32 ≤ 2 ^ i from Nat.pow_le_pow_right (by omega) (by omega)))
    simp [hi, this]

set_option maxRecDepth 100000 in
set_option maxHeartbeats 2000000 in
theorem sum_table (w : World) :
    Calls Tryz.prog 168 #[] w fun e w' => e = .returned (.agg (tabCells 256)) ∧ Below w.heap.size w w' := by
  obtain ⟨hz, hsz⟩ := zero_of_info tab_info
  go_enter Tryz.func168, Tryz.ntmps168
  go_wp2_with fail
  go_loopw [1, 2, 3] (fun _ _ i wr => ∃ k : Nat, k ≤ 256 ∧ i = .int .i64 k ∧ Blk wr w.heap.size 213 (tabCells k) ∧ Below w.heap.size w wr) (fun _ _ i _ => 256 - (intOf i).toNat)
  case atStart => exact ⟨0, by omega, rfl, Blk.new w _ _, (Below.refl _ _).alloc (Nat.le_refl _) _⟩
  case round =>
    obtain ⟨k, hk, rfl, hblk, hb⟩ := hrel
    by_cases hlt : k < 256
    · have hcell := (hblk.cell k).trans (tabCells_get k k hlt)
      have hfz := hblk.frozen k
      go_wp2_with fail
      go_loop [2, 8] (fun c i => ∃ j : Nat, j ≤ 8 ∧ i = .int .i64 j ∧ c = .int .u32 (Sp.crcSteps j k)) (fun _ i => 8 - (intOf i).toNat)
      case atStart => exact ⟨0, by omega, rfl, rfl⟩
      case round =>
        obtain ⟨j, hj, rfl, rfl⟩ := hrel
        have hc := Sp.crcSteps_lt (c := k) (by omega) j
        by_cases hlt2 : j < 8
        · have hst := Lib.hid (crcStep_cast _ hc)
          have hnx : Hid (Sp.crcSteps (j + 1) k = Sp.crcStep (Sp.crcSteps j k)) := rfl
          generalize Sp.crcSteps j k = c at *
          clear hcell hfz
          go_wp2_with fail
          go_round
          case rel => exact ⟨j + 1, by omega, by go_num, by rw [hnx.out, hst.out]⟩
          case measure => simp [intOf]; omega
        · obtain rfl : j = 8 := by omega
          have ht : Hid (Sp.crcSteps 8 k = Sp.crcTab k) := rfl
          generalize Sp.crcSteps 8 k = c at *
          go_wp2_with fail
          go_roundw
          case rel =>
            refine ⟨k + 1, by omega, by go_num, ?_, hb.setCell (Nat.le_refl _) _⟩
            rw [ht.out]
            rw [← tabCells_next k hlt]
            exact hblk.set_ _ _
          case measure => simp [intOf]; omega
    · obtain rfl : k = 256 := by omega
      have hsz2 : (Tryz.prog.info? 213).map (·.size) = some (tabCells 256).size := by rw [hsz, tabCells_size]
      have h1 : (tabCells 256).all (·.oneCell') = true := by
        rw [Array.all_eq_true_iff_forall_mem]
        intro v hv
        simp only [tabCells, List.mem_toArray, List.mem_map] at hv
        obtain ⟨_, _, rfl⟩ := hv
        rfl
      have HH := Lib.hid (And.intro hsz2 h1)
      clear hsz2 h1 hsz hz
      go_wp2_with (first
        | (refine wpList_load_row rfl 213 _ rfl w.heap.size rfl 213 (tabCells 256) (0, 0) _ hblk Tryz.underlying213 rfl HH.out.1 ?_)
        | (refine wpList_store_row rfl 213 _ _ rfl w.heap.size (tabCells 256) rfl rfl 213 (tabCells 256) hblk HH.out.1 rfl HH.out.2 ?_))
      refine bodyPost_ret (v := .agg (tabCells 256)) (results_cell_row rfl _ _ w.heap.size 213 _ (0, 0) _ rfl (hblk.setRow _) Tryz.underlying213 rfl HH.out.1) rfl ⟨rfl, below_setRow hb (Nat.le_refl _) _⟩

set_option maxRecDepth 100000 in
set_option maxHeartbeats 2000000 in
theorem sum_more (l : Sp.Bs) (w : World) (hl : l.length ≤ 1000000000) :
    Calls Tryz.prog 147 #[.int .u32 0, str l] w fun e w' => e = .returned (.int .u32 (Sp.crc l)) ∧ Below w.heap.size w w' := by
  obtain ⟨hz, hsz⟩ := zero_of_info tab_info
  have hsz2 : (Tryz.prog.info? 213).map (·.size) = some (tabCells 256).size := by rw [hsz, tabCells_size]
  have h1 : (tabCells 256).all (·.oneCell') = true := by
    rw [Array.all_eq_true_iff_forall_mem]
    intro v hv
    simp only [tabCells, List.mem_toArray, List.mem_map] at hv
    obtain ⟨_, _, rfl⟩ := hv
    rfl
  have HH := Lib.hid (And.intro hsz2 h1)
  clear hsz2 h1 hsz
  have hsize : ∀ k, (tabCells k).size = 256 := tabCells_size
  have HS := Lib.hid hsize
  clear hsize
  have hcv := conv_any (P := Tryz.prog) 9 22 5 l Tryz.underlying9 Tryz.underlying22 Tryz.underlying5
  go_enter Tryz.func147, Tryz.ntmps147
  go_wp2_with fail
  refine (sum_table w).mono ?_
  rintro e w1 ⟨rfl, hb1⟩
  go_wp2_with (refine wpList_store_row rfl 213 _ _ rfl w1.heap.size (tabCells 256) rfl rfl 213 (tabCells 0) (Blk.new w1 _ _) HH.out.1 (by rw [HS.out, HS.out]) HH.out.2 ?_)
  have hT : Blk ((w1.alloc (Obj.cells (tabCells 0) 213)).setRow w1.heap.size (tabCells 256)) w1.heap.size 213 (tabCells 256) := (Blk.new w1 _ _).setRow _
  have hb2 : Below w.heap.size w ((w1.alloc (Obj.cells (tabCells 0) 213)).setRow w1.heap.size (tabCells 256)) := below_setRow (hb1.alloc hb1.size _) hb1.size _
  have e1 : ((w1.alloc (Obj.cells (tabCells 0) 213)).setRow w1.heap.size (tabCells 256)).heap.size = w1.heap.size + 1 := by simp
  obtain ⟨hb3, hsz3, hnew, _⟩ := bytesW_facts ((w1.alloc (Obj.cells (tabCells 0) 213)).setRow w1.heap.size (tabCells 256)) 5 l
  rw [e1] at hsz3 hnew
  have hT3 := hT.below hb3 (by rw [e1]; omega)
  have hb4 : Below w.heap.size w (bytesW ((w1.alloc (Obj.cells (tabCells 0) 213)).setRow w1.heap.size (tabCells 256)) 5 l) := hb2.trans (hb3.mono hb2.size)
  clear hb3 hb2 hT hz hcv e1
  generalize bytesW ((w1.alloc (Obj.cells (tabCells 0) 213)).setRow w1.heap.size (tabCells 256)) 5 l = w3 at *
  generalize w1.heap.size = B at *
  clear hb1 hsz3
  go_loop [0, 7, 14] (fun c _ i => ∃ k : Nat, k ≤ l.length ∧ i = .int .i64 k ∧ c = .int .u32 (Sp.crcRun 4294967295 (l.take k))) (fun _ _ i => l.length - (intOf i).toNat)
  case atStart => exact ⟨0, by omega, rfl, rfl⟩
  case round =>
    obtain ⟨k, hk, rfl, rfl⟩ := hrel
    have hlt32 := Sp.crcRun_lt (c := 4294967295) (by omega) (l.take k)
    by_cases hlt : k < l.length
    · have hcell := hnew k hlt
      have hnx : Sp.crcRun 4294967295 (l.take (k + 1)) = Sp.crcByte (Sp.crcRun 4294967295 (l.take k)) l[k].toNat := by
        rw [List.take_succ_eq_append_getElem hlt, Sp.crcRun_snoc]
      have HX := Lib.hid hnx
      clear hnx hnew
      generalize Sp.crcRun 4294967295 (l.take k) = c at *
      have hx := l[k].toNat_lt
      obtain ⟨i, hi, he⟩ : ∃ i, i < 256 ∧ (c % 256) ^^^ l[k].toNat = i := ⟨_, Sp.xor_byte hx, rfl⟩
      have hxor : bits .xor .u8 ((c : Int) % 256) (l[k].toNat : Int) = (i : Int) := by
        rw [show (c : Int) % 256 = ((c % 256 : Nat) : Int) by omega, u8_xor_nat _ _ (by omega) hx, he]
      have hst : bits .xor .u32 ((Sp.crcTab i : Nat) : Int) ((c : Int) / 256) = ((Sp.crcByte c l[k].toNat : Nat) : Int) := by
        rw [show (c : Int) / 256 = ((c / 256 : Nat) : Int) by omega, u32_xor_nat _ _ (Sp.crcTab_lt hi) (by omega), Sp.crcByte, he]
      have HE := Lib.hid he
      have HT := Lib.hid hst
      clear he hst
      have hct := (hT3.cell i).trans (tabCells_get 256 i hi)
      rw [if_pos hi] at hct
      generalize Sp.crcTab i = tv at *
      go_wp2_with fail
      go_round
      case rel => exact ⟨k + 1, by omega, by go_num, by rw [HX.out, HT.out]⟩
      case measure => simp [intOf]; omega
    · obtain rfl : k = l.length := by omega
      have hN := Lib.hid (xor_ones _ hlt32)
      have he : Hid (Sp.crcRun 4294967295 (l.take l.length) = 4294967295 - Sp.crc l) := by
        have := Sp.crcRun_lt (c := 4294967295) (by omega) l
        show _ = _
        rw [List.take_length, Sp.crc]; omega
      have hlt3 := Sp.crc_lt l
      generalize Sp.crcRun 4294967295 (l.take l.length) = c at *
      clear hnew
      go_wp2_with fail
      go_ret
      refine ⟨?_, hb4⟩
      show Ending.returned (.int .u32 (bits .xor .u32 IntKind.u32.max (c : Int))) = _
      rw [hN.out, he.out]
      congr 3
      omega

set_option maxRecDepth 100000 in
set_option maxHeartbeats 2000000 in
theorem sum_of (l : Sp.Bs) (w : World) (hl : l.length ≤ 1000000000) :
    Calls Tryz.prog 124 #[str l] w fun e w' => e = .returned (.int .u32 (Sp.crc l)) ∧ Below w.heap.size w w' := by
  go_enter Tryz.func124, Tryz.ntmps124
  go_wp2_with fail
  refine (sum_more l w hl).mono ?_
  rintro e w1 ⟨rfl, hb1⟩
  go_wp2_with fail
  go_ret
  exact ⟨rfl, hb1⟩

set_option maxRecDepth 100000 in
set_option maxHeartbeats 2000000 in
theorem sum_seal (l : Sp.Bs) (w : World) (hl : l.length ≤ 1000000000) :
    Calls Tryz.prog 70 #[str l] w fun e w' => e = .returned (str (Sp.sealed l)) ∧ Below w.heap.size w w' := by
  go_enter Tryz.func70, Tryz.ntmps70
  go_wp2_with fail
  refine (sum_of l w hl).mono ?_
  rintro e w1 ⟨rfl, hb1⟩
  have hc := Sp.crc_lt l
  have hs : Hid (Sp.sealed l = l ++ [UInt8.ofNat (Sp.crc l), UInt8.ofNat (Sp.crc l / 256), UInt8.ofNat (Sp.crc l / 65536), UInt8.ofNat (Sp.crc l / 16777216)]) := rfl
  generalize Sp.crc l = c at *
  have hcb : (convert 22 9 (.slice (some ⟨w1.heap.size, 0, none⟩) 4 4)).run Tryz.prog (w1.alloc (.cells #[.int .u8 ((c : Int) % 256), .int .u8 ((c : Int) / 256 % 256), .int .u8 ((c : Int) / 65536 % 256), .int .u8 ((c : Int) / 16777216)] 5)) =
      .ok (str [UInt8.ofNat c, UInt8.ofNat (c / 256), UInt8.ofNat (c / 65536), UInt8.ofNat (c / 16777216)]) (w1.alloc (.cells #[.int .u8 ((c : Int) % 256), .int .u8 ((c : Int) / 256 % 256), .int .u8 ((c : Int) / 65536 % 256), .int .u8 ((c : Int) / 16777216)] 5)) := by
    refine run_bytes_back _ 22 9 5 w1.heap.size 0 4 4 _ Tryz.underlying22 Tryz.underlying5 Tryz.underlying9 rfl (fun j hj => ?_)
    rw [(Blk.new w1 _ _).cell]
    match j, hj with
    | 0, _ => simp
    | 1, _ => simp
    | 2, _ => simp
    | 3, _ => simp; omega
  go_wp2_with fail
  go_ret
  refine ⟨?_, hb1.alloc hb1.size _⟩
  show Ending.returned (.string (_ ++ _)) = _
  rw [str_append, hs.out]

set_option maxRecDepth 100000 in
set_option maxHeartbeats 2000000 in
/-- A sealed text is opened. -/
theorem sum_open_ok (l : Sp.Bs) (w : World) (hl : l.length ≤ 1000000000) :
    Calls Tryz.prog 82 #[str (Sp.sealed l)] w fun e w' => e = .returned (.tuple #[str l, .bool true]) ∧ Below w.heap.size w w' := by
  have hlen : (Sp.sealed l).length = l.length + 4 := Sp.sealed_length l
  have htk : Hid ((Sp.sealed l).take l.length = l) := by show _ = _; rw [Sp.sealed, List.take_left]
  have HS : Hid (∀ w, Calls Tryz.prog 70 #[str l] w fun e w' => e = .returned (str (Sp.sealed l)) ∧ Below w.heap.size w w') := fun w => sum_seal l w hl
  generalize hs : Sp.sealed l = s at *
  have HX := Lib.hid hs
  clear hs
  have hneq : ((⟨s.toArray⟩ : ByteArray).toList == (⟨s.toArray⟩ : ByteArray).toList) = true := by simp
  go_enter Tryz.func82, Tryz.ntmps82
  go_wp2_with fail
  have hex : (⟨s.toArray⟩ : ByteArray).extract 0 l.length = ⟨l.toArray⟩ := by rw [str_extract, Nat.sub_zero, List.drop_zero, htk.out]
  rw [hex]
  refine (HS.out w).mono ?_
  rintro e w1 ⟨rfl, hb1⟩
  go_wp2_with fail
  go_ret2
  exact ⟨rfl, hb1⟩
end Go.Proofs.YtbpjgdbkmnhnmaaGreat

/- The walks of package slot: what a page needs of an area: a new one, texts put behind all, its bytes; one that is loaded, and read. -/
namespace Go.Proofs.YtbpjgdbkmnhnmaaGreat
open Go.RowKit

/-- The bytes l stand in block h from place o on. -/
def BytesAt (w : World) (h o : Nat) (l : Sp.Bs) : Prop := ∀ j (hj : j < l.length), w.cell? ⟨h, o + j, none⟩ = some (.int .u8 (l[j].toNat : Int))

/-- An area that is read: its struct in block g, its bytes in block h. -/
structure AreaR (w : World) (g h : Nat) (l : Sp.Bs) : Prop where
  area : ∃ c, Blk w g 162 #[.slice (some ⟨h, 0, none⟩) l.length c] ∧ l.length ≤ c ∧ c ≤ maxLen
  bytes : BytesAt w h 0 l
  some_ : 16 ≤ l.length
  few : l.length ≤ 4096
  in_ : h < w.heap.size

theorem AreaR.below {w w' : World} {g h : Nat} {l : Sp.Bs} (hA : AreaR w g h l) (hb : Below w.heap.size w w') : AreaR w' g h l := by
  obtain ⟨⟨c, h1, hc⟩, h2, h3, h4, h5⟩ := hA
  exact ⟨⟨c, h1.below hb h1.lt, hc⟩, fun j hj => ((below_cell hb).1 _ _ h5).trans (h2 j hj), h3, h4, Nat.lt_of_lt_of_le h5 hb.size⟩
theorem AreaR.drewN {w : World} {g h : Nat} {l : Sp.Bs} (hA : AreaR w g h l) (n : Nat) : AreaR (w.drewN n) g h l := ⟨hA.area, hA.bytes, hA.some_, hA.few, hA.in_⟩

theorem below_drewN' {B : Nat} {a w : World} (h : Below B a w) (n : Nat) : Below B a (w.drewN n) := ⟨h.os, h.tape, h.output, h.size, h.block⟩

theorem two_lt (l : Sp.Bs) (k : Nat) : Sp.two l k < 65536 := by
  unfold Sp.two
  refine Nat.lt_of_lt_of_le (Sp.num_lt _) ?_
  have h : ((l.drop k).take 2).length ≤ 2 := by simp; omega
  exact Nat.le_trans (Nat.pow_le_pow_right (by omega) h) (by decide)

set_option maxRecDepth 100000 in
set_option maxHeartbeats 2000000 in
theorem slot_none {w : World} {g h : Nat} {l : Sp.Bs} (hA : AreaR w g h l) :
    Calls Tryz.prog 117 #[.pointer (some ⟨g, 0, none⟩)] w fun e w' => e = .returned (.bool false) ∧ w = w' := by
  obtain ⟨⟨c, h1, _, _⟩, _, h3, _, _⟩ := hA
  have hc := h1.cell 0
  generalize l.length = n at *
  have hl : ((n : Int) == 0) = false := by rw [beq_eq_false_iff_ne]; omega
  go_enter Tryz.func117, Tryz.ntmps117
  go_wp2_with fail
  go_ret
  exact ⟨rfl, rfl⟩

theorem two_get (l : Sp.Bs) (k : Nat) (h : k + 1 < l.length) : Sp.two l k = (l[k]'(by omega)).toNat * 256 + l[k + 1].toNat := by
  unfold Sp.two
  rw [List.drop_eq_getElem_cons (by omega), List.drop_eq_getElem_cons h]
  simp only [List.take_succ_cons, List.take_zero, Sp.num, List.foldl_cons, List.foldl_nil, Nat.zero_mul, Nat.zero_add]

set_option maxRecDepth 100000 in
set_option maxHeartbeats 2000000 in
theorem slot_get {w : World} {g h : Nat} {l : Sp.Bs} (hA : AreaR w g h l) (k : Nat) (hk : k + 1 < l.length) :
    Calls Tryz.prog 131 #[.pointer (some ⟨g, 0, none⟩), .int .i64 k] w fun e w' => e = .returned (.int .i64 (Sp.two l k)) ∧ ∃ n, w' = w.drewN n := by
  obtain ⟨⟨c, h1, hlc, hcm⟩, hb, h3, h4, _⟩ := hA
  unfold maxLen at hcm
  have hc := h1.cell 0
  have e0 := hb k (by omega)
  have e1 := hb (k + 1) hk
  rw [Nat.zero_add] at e0 e1
  have H2 := Lib.hid (two_get l k hk)
  have b0 := (l[k]'(by omega)).toNat_lt
  have b1 := l[k + 1].toNat_lt
  generalize (l[k]'(by omega)).toNat = x at *
  generalize l[k + 1].toNat = y at *
  have i0 : (0 : Int) ≤ (k : Int) := by omega
  have i1 : (k : Int) < (l.length : Int) := by omega
  have i2 : (k : Int) + 1 < (l.length : Int) := by omega
  have i3 : (0 : Int) ≤ (k : Int) + 1 := by omega
  have i4 : IntKind.i64.wrap ((k : Int) + 1) = (k : Int) + 1 := IntWalk.i64_in _ (by omega)
  have i5 : ((k : Int) + 1).toNat = k + 1 := by omega
  clear hb
  go_enter Tryz.func131, Tryz.ntmps131
  go_wp2_with fail
  go_quiet (fail)
  go_wp2_with fail
  go_ret
  refine ⟨?_, _, rfl⟩
  show Ending.returned (.int .i64 (bits .or .i64 ((x : Int) * 256) (y : Int))) = _
  rw [show (x : Int) * 256 = ((x * 256 : Nat) : Int) by omega, i64_or_nat _ _ (by omega) (by omega), nat_join 8 _ _ (by omega) (by omega), H2.out]

set_option maxRecDepth 100000 in
set_option maxHeartbeats 2000000 in
theorem slot_len {w : World} {g h : Nat} {l : Sp.Bs} (hA : AreaR w g h l) :
    Calls Tryz.prog 85 #[.pointer (some ⟨g, 0, none⟩)] w fun e w' => e = .returned (.int .i64 (Sp.two l 0)) ∧ ∃ n, w' = w.drewN n := by
  go_enter Tryz.func85, Tryz.ntmps85
  go_wp2_with fail
  refine (slot_none hA).mono ?_
  rintro e w' ⟨rfl, rfl⟩
  go_wp2_with fail
  refine (slot_get hA 0 (by have := hA.some_; omega)).mono ?_
  rintro e w' ⟨rfl, n, rfl⟩
  go_wp2_with fail
  go_ret
  exact ⟨rfl, n, rfl⟩

set_option maxRecDepth 100000 in
set_option maxHeartbeats 2000000 in
theorem slot_gap {w : World} {g h : Nat} {l : Sp.Bs} (hA : AreaR w g h l) :
    Calls Tryz.prog 119 #[.pointer (some ⟨g, 0, none⟩)] w fun e w' => e = .returned (.int .i64 ((Sp.two l 2 : Int) - 4 - 4 * Sp.two l 0)) ∧ ∃ n, w' = w.drewN n := by
  have b2 := two_lt l 2
  have b0 := two_lt l 0
  go_enter Tryz.func119, Tryz.ntmps119
  go_wp2_with fail
  refine (slot_none hA).mono ?_
  rintro e w' ⟨rfl, rfl⟩
  go_wp2_with fail
  refine (slot_get hA 2 (by have := hA.some_; omega)).mono ?_
  rintro e w' ⟨rfl, n, rfl⟩
  go_wp2_with fail
  refine (slot_len (hA.drewN n)).mono ?_
  rintro e w' ⟨rfl, m, rfl⟩
  go_wp2_with fail
  go_ret
  exact ⟨rfl, n + m, rfl⟩

set_option maxRecDepth 100000 in
set_option maxHeartbeats 2000000 in
theorem slot_entry {w : World} {g h : Nat} {l : Sp.Bs} (hA : AreaR w g h l) (i : Nat) (hi : 4 + 4 * i + 3 < l.length) :
    Calls Tryz.prog 144 #[.pointer (some ⟨g, 0, none⟩), .int .i64 i] w fun e w' => e = .returned (.tuple #[.int .i64 (Sp.two l (4 + 4 * i)), .int .i64 (Sp.two l (4 + 4 * i + 2))]) ∧ ∃ n, w' = w.drewN n := by
  have i1 : (i : Int) ≤ 4096 := by have := hA.few; omega
  go_enter Tryz.func144, Tryz.ntmps144
  go_wp2_with fail
  rw [show (4 + 4 * (i : Int)) = ((4 + 4 * i : Nat) : Int) by omega]
  refine (slot_get hA (4 + 4 * i) (by omega)).mono ?_
  rintro e w' ⟨rfl, n, rfl⟩
  go_wp2_with fail
  rw [show (4 + 4 * (i : Int) + 2) = ((4 + 4 * i + 2 : Nat) : Int) by omega]
  refine (slot_get (hA.drewN n) (4 + 4 * i + 2) (by omega)).mono ?_
  rintro e w' ⟨rfl, m, rfl⟩
  go_wp2_with fail
  go_ret2
  exact ⟨rfl, n + m, rfl⟩

set_option maxRecDepth 100000 in
set_option maxHeartbeats 2000000 in
/-- The text of a place whose entry says (f, n). -/
theorem slot_text {w : World} {g h : Nat} {l : Sp.Bs} (hA : AreaR w g h l) (i f n : Nat) (hi : 4 + 4 * i + 3 < l.length) (hf : Sp.two l (4 + 4 * i) = f) (hn : Sp.two l (4 + 4 * i + 2) = n) (hfn : f + n ≤ l.length) :
    Calls Tryz.prog 133 #[.pointer (some ⟨g, 0, none⟩), .int .i64 i] w fun e w' => e = .returned (str ((l.drop f).take n)) ∧ ∃ n, w' = w.drewN n := by
  go_enter Tryz.func133, Tryz.ntmps133
  go_wp2_with fail
  refine (slot_entry hA i hi).mono ?_
  rintro e w' ⟨rfl, q, rfl⟩
  rw [hf, hn]
  clear hf hn
  obtain ⟨⟨c, h1, hlc, hcm⟩, hb, h3, h4, _⟩ := hA
  unfold maxLen at hcm
  have hc := h1.cell 0
  have i1 : (f : Int) ≤ (f : Int) + (n : Int) := by omega
  have i2 : (f : Int) + (n : Int) ≤ (c : Int) := by omega
  rcases Nat.lt_or_ge f c with hfc | hfc
  · have hcb := run_bytes_back (P := Tryz.prog) (w.drewN q) 22 9 5 h f n (c - f) ((l.drop f).take n) Tryz.underlying22 Tryz.underlying5 Tryz.underlying9 (by simp; omega) (fun j hj => by
      have h5 := hb (f + j) (by simp at hj; omega)
      rw [Nat.zero_add] at h5
      simpa using h5)
    have hne : ¬ c = f := by omega
    clear hb
    go_wp2_with fail
    go_ret
    exact ⟨rfl, q, rfl⟩
  · obtain rfl : c = f := by omega
    obtain rfl : n = 0 := by omega
    have hcb := run_bytes_back (P := Tryz.prog) (w.drewN q) 22 9 5 h 0 0 0 [] Tryz.underlying22 Tryz.underlying5 Tryz.underlying9 rfl (fun j hj => absurd hj (by simp))
    clear hb
    go_wp2_with fail
    go_ret
    exact ⟨rfl, q, rfl⟩

/-- An area that may be: its entries stand behind the low place, within the area, and none meets another. -/
structure AreaOk (l : Sp.Bs) : Prop where
  gap : 4 + 4 * Sp.two l 0 ≤ Sp.two l 2
  low : Sp.two l 2 ≤ l.length
  each : ∀ i, i < Sp.two l 0 → Sp.two l 2 ≤ Sp.two l (4 + 4 * i) ∧ Sp.two l (4 + 4 * i) + Sp.two l (4 + 4 * i + 2) ≤ l.length
  apart : ∀ i j, i < Sp.two l 0 → j < i → Sp.two l (4 + 4 * i + 2) = 0 ∨ Sp.two l (4 + 4 * j + 2) = 0 ∨ Sp.two l (4 + 4 * i) + Sp.two l (4 + 4 * i + 2) ≤ Sp.two l (4 + 4 * j) ∨ Sp.two l (4 + 4 * j) + Sp.two l (4 + 4 * j + 2) ≤ Sp.two l (4 + 4 * i)

set_option maxRecDepth 100000 in
set_option maxHeartbeats 4000000 in
theorem slot_may {w : World} {g h : Nat} {l : Sp.Bs} (hA : AreaR w g h l) (hO : AreaOk l) :
    Calls Tryz.prog 130 #[.pointer (some ⟨g, 0, none⟩)] w fun e w' => e = .returned (.bool true) ∧ ∃ n, w' = w.drewN n := by
  obtain ⟨o1, o2, o3, o4⟩ := hO
  obtain ⟨⟨c, h1, _, _⟩, _, h3, h4, _⟩ := id hA
  have hc := h1.cell 0
  have hgap := Lib.hid fun n => slot_gap (hA.drewN n)
  have hlow := Lib.hid fun n => slot_get (hA.drewN n) 2 (by omega)
  have hlen := Lib.hid fun n => slot_len (hA.drewN n)
  have hent := Lib.hid fun n i hi => slot_entry (hA.drewN n) i hi
  have b0 := two_lt l 0
  have b2 := two_lt l 2
  have O3 := Lib.hid o3
  have O4 := Lib.hid o4
  clear o3 o4 hA h1
  have hk : ∀ i, i < Sp.two l 0 → 4 + 4 * i + 3 < l.length := fun i hi => by omega
  have HK := Lib.hid hk
  clear hk
  have d1 : decide ((l.length : Int) < 16) = false := by rw [decide_eq_false_iff_not]; omega
  have d2 : decide ((4096 : Int) < (l.length : Int)) = false := by rw [decide_eq_false_iff_not]; omega
  have d3 : decide ((Sp.two l 2 : Int) - 4 - 4 * (Sp.two l 0 : Int) < 0) = false := by rw [decide_eq_false_iff_not]; omega
  have d4 : decide ((l.length : Int) < (Sp.two l 2 : Int)) = false := by rw [decide_eq_false_iff_not]; omega
  generalize hm : Sp.two l 0 = m at *
  generalize hlo : Sp.two l 2 = low at *
  have HM := Lib.hid hm
  have HLO := Lib.hid hlo
  clear hm hlo
  go_enter Tryz.func130, Tryz.ntmps130
  go_wp2_with fail
  go_step3
  go_wp2_with fail
  go_quiet (first
    | (go_at_call 119; exact Calls.quiet_of (hgap.out _))
    | (go_at_call 131; exact Calls.quiet_of (hlow.out _)))
  go_wp2_with fail
  go_step3
  go_wp2_with fail
  refine (hlen.out _).mono ?_
  rintro e w' ⟨rfl, q0, rfl⟩
  go_wp2_with fail
  go_loopw [3, 41] (fun f i wr => ∃ k : Nat, k ≤ m ∧ i = .int .i64 k ∧ f = .bool true ∧ ∃ q, wr = w.drewN q) (fun _ i _ => m - (intOf i).toNat)
  case atStart => exact ⟨0, by omega, rfl, rfl, _, rfl⟩
  case round =>
    obtain ⟨k, hk, rfl, rfl, q, rfl⟩ := hrel
    by_cases hlt : k < m
    · obtain ⟨f1, f2⟩ := O3.out k hlt
      have f3 := O4.out k
      have hek := hent.out q k (HK.out k hlt)
      have F3 := Lib.hid f3
      clear f3
      generalize hF : Sp.two l (4 + 4 * k) = F at *
      generalize hN : Sp.two l (4 + 4 * k + 2) = N at *
      clear hF hN
      have HE := Lib.hid hek
      clear hek
      have e1 : decide ((low : Int) ≤ (F : Int)) = true := by rw [decide_eq_true_eq]; omega
      have e2 : decide ((F : Int) + (N : Int) ≤ (l.length : Int)) = true := by rw [decide_eq_true_eq]; omega
      go_wp2_with fail
      refine HE.out.mono ?_
      rintro e w' ⟨rfl, q1, rfl⟩
      go_wp2_with fail
      refine (hlow.out _).mono ?_
      rintro e w' ⟨rfl, q2, rfl⟩
      go_wp2_with fail
      clear e1 e2 HE
      go_loopw [3, 68] (fun f i wr => ∃ j : Nat, j ≤ k ∧ i = .int .i64 j ∧ f = .bool true ∧ ∃ q, wr = w.drewN q) (fun _ i _ => k - (intOf i).toNat)
      case atStart => exact ⟨0, by omega, rfl, rfl, _, rfl⟩
      case round =>
        obtain ⟨j, hj, rfl, rfl, q3, rfl⟩ := hrel
        by_cases hlt2 : j < k
        · have f4 := F3.out j hlt hlt2
          have hej := hent.out q3 j (HK.out j (by omega))
          generalize hF' : Sp.two l (4 + 4 * j) = F' at *
          generalize hN' : Sp.two l (4 + 4 * j + 2) = N' at *
          have bF : F' < 65536 := by rw [← hF']; exact two_lt _ _
          have bN : N' < 65536 := by rw [← hN']; exact two_lt _ _
          clear hF' hN'
          have HE := Lib.hid hej
          clear hej
          have key : (((N : Int) == 0) = true ∧ True) ∨ (((N : Int) == 0) = false ∧ ((N' : Int) == 0) = true) ∨ (((N : Int) == 0) = false ∧ ((N' : Int) == 0) = false ∧ decide ((F : Int) + (N : Int) ≤ (F' : Int)) = true) ∨
              (((N : Int) == 0) = false ∧ ((N' : Int) == 0) = false ∧ decide ((F : Int) + (N : Int) ≤ (F' : Int)) = false ∧ decide ((F' : Int) + (N' : Int) ≤ (F : Int)) = true) := by
            by_cases n1 : N = 0
            · exact .inl ⟨by rw [beq_iff_eq]; omega, trivial⟩
            · have m1 : ((N : Int) == 0) = false := by rw [beq_eq_false_iff_ne]; omega
              by_cases n2 : N' = 0
              · exact .inr (.inl ⟨m1, by rw [beq_iff_eq]; omega⟩)
              · have m2 : ((N' : Int) == 0) = false := by rw [beq_eq_false_iff_ne]; omega
                by_cases n3 : F + N ≤ F'
                · exact .inr (.inr (.inl ⟨m1, m2, by rw [decide_eq_true_eq]; omega⟩))
                · have n4 : F' + N' ≤ F := by rcases f4 with h | h | h | h <;> omega
                  exact .inr (.inr (.inr ⟨m1, m2, by rw [decide_eq_false_iff_not]; omega, by rw [decide_eq_true_eq]; omega⟩))
          have bF' := Lib.hid f4
          clear f4
          have lF : (F : Int) ≤ 4096 := by omega
          have lN : (N : Int) ≤ 4096 := by omega
          have lF' : (F' : Int) < 65536 := by omega
          have lN' : (N' : Int) < 65536 := by omega
          rcases key with ⟨k1, _⟩ | ⟨k1, k2⟩ | ⟨k1, k2, k3⟩ | ⟨k1, k2, k3, k4⟩
          all_goals
            go_wp2_with fail
            refine HE.out.mono ?_
            rintro e w' ⟨rfl, q4, rfl⟩
            go_wp2_with fail
            go_roundw
            case rel => exact ⟨j + 1, by omega, by go_num, rfl, _, rfl⟩
            case measure => simp [intOf]; omega
        · go_wp2_with fail
          go_roundw
          case rel => exact ⟨k + 1, by omega, by go_num, rfl, _, rfl⟩
          case measure => simp [intOf]; omega
    · go_wp2_with fail
      rw [Exit.noGoto_ret]
      go_ret
      exact ⟨rfl, _, rfl⟩

set_option maxRecDepth 100000 in
set_option maxHeartbeats 2000000 in
theorem slot_there {w : World} {g h : Nat} {l : Sp.Bs} (hA : AreaR w g h l) (i : Nat) (hi : i < Sp.two l 0) :
    Calls Tryz.prog 132 #[.pointer (some ⟨g, 0, none⟩), .int .i64 i] w fun e w' => e = .returned (.int .i64 0) ∧ ∃ n, w' = w.drewN n := by
  have d1 : decide ((Sp.two l 0 : Int) ≤ (i : Int)) = false := by rw [decide_eq_false_iff_not]; omega
  go_enter Tryz.func132, Tryz.ntmps132
  go_wp2_with fail
  refine (slot_none hA).mono ?_
  rintro e w' ⟨rfl, rfl⟩
  go_wp2_with fail
  refine (slot_len hA).mono ?_
  rintro e w' ⟨rfl, n, rfl⟩
  go_wp2_with fail
  go_ret
  exact ⟨rfl, n, rfl⟩

set_option maxRecDepth 100000 in
set_option maxHeartbeats 2000000 in
theorem slot_Get {w : World} {g h : Nat} {l : Sp.Bs} (hA : AreaR w g h l) (i f n : Nat) (hi : i < Sp.two l 0) (hi' : 4 + 4 * i + 3 < l.length) (hf : Sp.two l (4 + 4 * i) = f) (hn : Sp.two l (4 + 4 * i + 2) = n) (hfn : f + n ≤ l.length) :
    Calls Tryz.prog 86 #[.pointer (some ⟨g, 0, none⟩), .int .i64 i] w fun e w' => e = .returned (.tuple #[str ((l.drop f).take n), .int .i64 0]) ∧ ∃ n, w' = w.drewN n := by
  go_enter Tryz.func86, Tryz.ntmps86
  go_wp2_with fail
  refine (slot_there hA i hi).mono ?_
  rintro e w' ⟨rfl, q, rfl⟩
  go_wp2_with fail
  refine (slot_text (hA.drewN q) i f n hi' hf hn hfn).mono ?_
  rintro e w' ⟨rfl, q2, rfl⟩
  go_wp2_with fail
  go_ret2
  exact ⟨rfl, q + q2, rfl⟩

set_option maxRecDepth 100000 in
set_option maxHeartbeats 2000000 in
theorem slot_load (l : Sp.Bs) (w : World) (h1 : 16 ≤ l.length) (h2 : l.length ≤ 4096) (hO : AreaOk l) :
    Calls Tryz.prog 84 #[str l] w fun e w' => ∃ g h, e = .returned (.tuple #[.pointer (some ⟨g, 0, none⟩), .int .i64 0]) ∧ AreaR w' g h l ∧ w.heap.size ≤ g ∧ w.heap.size ≤ h ∧ Below w.heap.size w w' := by
  have hcv := conv_any (P := Tryz.prog) 9 22 5 l Tryz.underlying9 Tryz.underlying22 Tryz.underlying5
  have d1 : decide ((l.length : Int) < 16) = false := by rw [decide_eq_false_iff_not]; omega
  go_enter Tryz.func84, Tryz.ntmps84
  go_wp2_with fail
  obtain ⟨hb1, hs1, hnew, _⟩ := bytesW_facts w 5 l
  obtain ⟨c1, c2⟩ := bytesC_le w 5 l (by unfold maxLen; omega)
  clear hcv
  generalize bytesW w 5 l = w1 at *
  generalize bytesC w 5 l = c at *
  have hb2 : Below w1.heap.size w1 (w1.alloc (.cells #[.slice (some ⟨w.heap.size, 0, none⟩) l.length c] 162)) := (Below.refl _ _).alloc (Nat.le_refl _) _
  have hA : AreaR (w1.alloc (.cells #[.slice (some ⟨w.heap.size, 0, none⟩) l.length c] 162)) w1.heap.size w.heap.size l :=
    ⟨⟨c, Blk.new w1 _ _, c1, c2⟩, fun j hj => by
      rw [Nat.zero_add, (below_cell hb2).1 _ _ (by omega)]
      exact hnew j hj, h1, h2, by simp; omega⟩
  clear hs1
  refine (slot_may hA hO).mono ?_
  rintro e w' ⟨rfl, q, rfl⟩
  go_wp2_with fail
  go_ret2
  exact ⟨_, _, rfl, hA.drewN q, hb1.size, Nat.le_refl _, below_drewN' (hb1.trans (hb2.mono hb1.size)) q⟩

end Go.Proofs.YtbpjgdbkmnhnmaaGreat

/- The walks of package slot that write: a new area, texts put behind all, its bytes. -/
namespace Go.Proofs.YtbpjgdbkmnhnmaaGreat
open Go.RowKit

/-- An area that is written: its struct in block g, its bytes, all of them, in block h. -/
structure AreaW (w : World) (g h : Nat) (l : Sp.Bs) : Prop where
  area : Blk w g 162 #[.slice (some ⟨h, 0, none⟩) l.length l.length]
  bytes : Blk w h 5 (bcs l).toArray
  some_ : 16 ≤ l.length
  few : l.length ≤ 4096

theorem AreaW.ne {w : World} {g h : Nat} {l : Sp.Bs} (hA : AreaW w g h l) : g ≠ h := hA.area.ne_ hA.bytes (by decide)
theorem AreaW.read {w : World} {g h : Nat} {l : Sp.Bs} (hA : AreaW w g h l) : AreaR w g h l :=
  ⟨⟨_, hA.area, Nat.le_refl _, by unfold maxLen; have := hA.few; omega⟩, fun j hj => by rw [hA.bytes.cell]; simpa using bcs_at l _ (by omega), hA.some_, hA.few, hA.bytes.lt⟩
theorem AreaW.below {w w' : World} {g h : Nat} {l : Sp.Bs} (hA : AreaW w g h l) (hb : Below w.heap.size w w') : AreaW w' g h l :=
  ⟨hA.area.below hb hA.area.lt, hA.bytes.below hb hA.bytes.lt, hA.some_, hA.few⟩
theorem AreaW.drewN {w : World} {g h : Nat} {l : Sp.Bs} (hA : AreaW w g h l) (n : Nat) : AreaW (w.drewN n) g h l := ⟨hA.area, hA.bytes, hA.some_, hA.few⟩

theorem AreaW.patched {w : World} {g h : Nat} {l : Sp.Bs} (hA : AreaW w g h l) {k : Nat} {p : Sp.Bs} (hk : k + p.length ≤ l.length) : AreaW (w.setRow h (bcs (Sp.patch l k p)).toArray) g h (Sp.patch l k p) := by
  have hl := Sp.patch_length hk
  refine ⟨?_, hA.bytes.setRow _, by rw [hl]; exact hA.some_, by rw [hl]; exact hA.few⟩
  rw [hl]
  exact hA.area.keep (heap_setRow_other _ _ _ _ hA.ne)

theorem byteCells_bcs (l : Sp.Bs) : Lib.byteCells l = bcs l := rfl
theorem u8_info : (Tryz.prog.info? 5).map (·.size) = some 1 := by kernel_rfl

/-- 'copy(b[k:], s)' onto a block of bytes: a piece laid over. -/
theorem run_copy_patch (w : World) (h k n c : Nat) (l p : Sp.Bs) (ty : TypeId) (hB : Blk w h 5 (bcs l).toArray) (hk : k + p.length ≤ l.length) (hn : p.length ≤ n) :
    (Builtin.copy_ #[22, 9] ty #[.slice (some ⟨h, k, none⟩) n c, str p]).run Tryz.prog w = .ok (goInt p.length) (w.setRow h (bcs (Sp.patch l k p)).toArray) := by
  have := Lib.run_copy_row_string (P := Tryz.prog) w 22 9 ty 5 h k n c ⟨p.toArray⟩ (bcs l).toArray 5 Tryz.underlying22 u8_info hB (by simpa using hn) (by simpa using hk)
  rw [this]
  simp [byteCells_bcs, Sp.patch, bcs, List.map_take, List.map_drop]

set_option maxRecDepth 100000 in
set_option maxHeartbeats 2000000 in
theorem slot_two {w : World} {g h : Nat} {l : Sp.Bs} (hA : AreaW w g h l) (k n : Nat) (hk : k + 2 ≤ l.length) (hn : n < 65536) :
    Calls Tryz.prog 116 #[.pointer (some ⟨g, 0, none⟩), .int .i64 k, .int .i64 n] w fun e w' => e = .returned (.tuple #[]) ∧ AreaW w' g h (Sp.patch l k (Sp.be 2 n)) ∧ Turns (only h) (only h) w w' := by
  go_enter Tryz.func116, Tryz.ntmps116
  go_wp2_with fail
  refine (word_put n 2 w (by omega) (by omega) (by omega) (by omega)).mono ?_
  rintro e w1 ⟨rfl, hb⟩
  have hA1 := hA.below hb
  have hc := hA1.area.cell 0
  have hcp := Lib.hid fun ty => run_copy_patch w1 h k (l.length - k) (l.length - k) l (Sp.be 2 n) ty hA1.bytes (by simpa using hk) (by simp; omega)
  have i1 : (k : Int) ≤ (l.length : Int) := by omega
  have hne : ¬ l.length = k := by omega
  have HA := Lib.hid hA1
  clear hA1
  go_wp2_with (with_reducible refine Lib.wpList_copy_run _ rfl (.tmp 19) (.tmp 20) 22 9 rfl _ _ rfl rfl (hcp.out _) ?_)
  go_end0
  refine ⟨rfl, HA.out.patched (by simpa using hk), (Turns.of_below hb (only h)).setRow (.inl rfl) _⟩

set_option maxRecDepth 100000 in
set_option maxHeartbeats 2000000 in
theorem slot_place {w : World} {g h : Nat} {l : Sp.Bs} (hA : AreaW w g h l) (i f n : Nat) (hi : 4 + 4 * i + 4 ≤ l.length) (hf : f < 65536) (hn : n < 65536) :
    Calls Tryz.prog 123 #[.pointer (some ⟨g, 0, none⟩), .int .i64 i, .int .i64 f, .int .i64 n] w fun e w' => e = .returned (.tuple #[]) ∧
      AreaW w' g h (Sp.patch (Sp.patch l (4 + 4 * i) (Sp.be 2 f)) (4 + 4 * i + 2) (Sp.be 2 n)) ∧ Turns (only h) (only h) w w' := by
  have i1 : (i : Int) ≤ 4096 := by have := hA.few; omega
  have hl : (Sp.patch l (4 + 4 * i) (Sp.be 2 f)).length = l.length := Sp.patch_length (by simp; omega)
  go_enter Tryz.func123, Tryz.ntmps123
  go_wp2_with fail
  rw [show (4 + 4 * (i : Int)) = ((4 + 4 * i : Nat) : Int) by omega]
  refine (slot_two hA (4 + 4 * i) f (by omega) hf).mono ?_
  rintro e w1 ⟨rfl, hA1, ht1⟩
  have HL := Lib.hid hl
  clear hl
  go_wp2_with fail
  rw [show (4 + 4 * (i : Int) + 2) = ((4 + 4 * i + 2 : Nat) : Int) by omega]
  refine (slot_two hA1 (4 + 4 * i + 2) n (by rw [HL.out]; omega) hn).mono ?_
  rintro e w2 ⟨rfl, hA2, ht2⟩
  go_wp2_with fail
  go_end0
  exact ⟨rfl, hA2, ht1.trans ht2⟩

set_option maxRecDepth 100000 in
set_option maxHeartbeats 2000000 in
theorem slot_below {w : World} {g h : Nat} {l : Sp.Bs} (hA : AreaW w g h l) (p : Sp.Bs) (low : Nat) (hlow : Sp.two l 2 = low + p.length) (hle : low + p.length ≤ l.length) :
    Calls Tryz.prog 121 #[.pointer (some ⟨g, 0, none⟩), str p] w fun e w' => e = .returned (.int .i64 low) ∧
      AreaW w' g h (Sp.patch (Sp.patch l low p) 2 (Sp.be 2 low)) ∧ Turns (only h) (only h) w w' := by
  have hsm := hA.some_
  have hfew := hA.few
  have hl : (Sp.patch l low p).length = l.length := Sp.patch_length hle
  have HG := Lib.hid (slot_get hA.read 2 (by omega))
  rw [hlow] at HG
  clear hlow
  go_enter Tryz.func121, Tryz.ntmps121
  go_wp2_with fail
  refine HG.out.mono ?_
  rintro e w1 ⟨rfl, q, rfl⟩
  have hA1 := hA.drewN q
  have hc := hA1.area.cell 0
  have HL := Lib.hid hl
  clear hl
  have i1 : (low : Int) ≤ (l.length : Int) := by omega
  have i2 : (0 : Int) ≤ (low : Int) := by omega
  have i3 : ((low + p.length : Nat) : Int) - (p.length : Int) = (low : Int) := by omega
  have hneg : ∃ o, (if l.length = low then 0 else low) = o := ⟨_, rfl⟩
  rcases Nat.lt_or_ge low l.length with hlt | hge
  · have hcp := Lib.hid fun ty => run_copy_patch (w.drewN q) h low (l.length - low) (l.length - low) l p ty hA1.bytes hle (by omega)
    have hne : ¬ l.length = low := by omega
    have HA := Lib.hid hA1
    clear hA1 hneg hA HG
    go_wp2_with (with_reducible refine Lib.wpList_copy_run _ rfl (.tmp 16) (.tmp 17) 22 9 rfl _ _ rfl rfl (hcp.out _) ?_)
    refine (slot_two (HA.out.patched hle) 2 low (by rw [HL.out]; omega) (by omega)).mono ?_
    rintro e w2 ⟨rfl, hA2, ht2⟩
    go_wp2_with fail
    go_ret
    exact ⟨rfl, hA2, (((Turns.refl (only h) w).drewN q).setRow (.inl rfl) _).trans ht2⟩
  · obtain rfl : low = l.length := by omega
    obtain rfl : p = [] := List.eq_nil_of_length_eq_zero (by omega)
    have hcp := Lib.hid fun ty => run_copy_patch (w.drewN q) h 0 0 0 l [] ty hA1.bytes (by simp) (by simp)
    have hP1 : Sp.patch l 0 [] = l := by simp [Sp.patch]
    have hP2 : Sp.patch l l.length [] = l := by simp [Sp.patch]
    have HA := Lib.hid (hA1.patched (k := 0) (p := []) (by simp))
    rw [hP1] at hcp HA
    have HP2 := Lib.hid hP2
    clear hA1 hneg hA HG hP1 hP2 HL
    go_wp2_with (with_reducible refine Lib.wpList_copy_run _ rfl (.tmp 16) (.tmp 17) 22 9 rfl _ _ rfl rfl (hcp.out _) ?_)
    refine (slot_two HA.out 2 l.length (by omega) (by omega)).mono ?_
    rintro e w2 ⟨rfl, hA2, ht2⟩
    go_wp2_with fail
    go_ret
    exact ⟨rfl, by rw [HP2.out]; exact hA2, (((Turns.refl (only h) w).drewN q).setRow (.inl rfl) _).trans ht2⟩

theorem area_info : (Tryz.prog.info? 5).map (fun i => (i.zero, i.size, i.bytes)) = some (some (.int .u8 0), 1, 1) := by kernel_rfl

set_option maxRecDepth 100000 in
set_option maxHeartbeats 2000000 in
theorem slot_new (n : Nat) (w : World) (h1 : 16 ≤ n) (h2 : n ≤ 4096) :
    Calls Tryz.prog 68 #[.int .i64 n] w fun e w' => ∃ g h, e = .returned (.tuple #[.pointer (some ⟨g, 0, none⟩), .int .i64 0]) ∧ AreaW w' g h (Sp.area n []) ∧ w.heap.size ≤ g ∧ w.heap.size ≤ h ∧ Below w.heap.size w w' := by
  obtain ⟨i0, hi, hz0, hz1, hz2⟩ := info_parts area_info
  have hmk : ∀ W, (Instr.makeSlice 22 (.int .i64 (n : Int)) (.int .i64 (n : Int))).run Tryz.prog W = .ok (.slice (some ⟨W.heap.size, 0, none⟩) n n) (W.alloc (.cells (bcs (Sp.zeros n)).toArray 5)) := fun W => by
    have := run_make_rowN (P := Tryz.prog) 22 5 i0 (.int .u8 0) Tryz.underlying22 hi hz0 .i64 .i64 n n (Nat.le_refl _) (by rw [hz2]; omega) (by omega) W
    rw [this, hz1, Nat.mul_one, show (Value.int .u8 0).cells = #[.int .u8 0] from rfl, madeCells_one]
    simp [bcs, Sp.zeros]
  clear hi hz0 hz1 hz2
  go_enter Tryz.func68, Tryz.ntmps68
  go_wp2_with fail
  have hW : AreaW ((w.alloc (.cells (bcs (Sp.zeros n)).toArray 5)).alloc (.cells #[.slice (some ⟨w.heap.size, 0, none⟩) n n] 162)) (w.heap.size + 1) w.heap.size (Sp.zeros n) := by
    have hz : (Sp.zeros n).length = n := by simp [Sp.zeros]
    refine ⟨?_, (Blk.new w _ _).alloc _, by omega, by omega⟩
    rw [hz]
    have := Blk.new (w.alloc (.cells (bcs (Sp.zeros n)).toArray 5)) 162 #[.slice (some ⟨w.heap.size, 0, none⟩) n n]
    rwa [World.size_alloc] at this
  refine (slot_two hW 2 n (by simp [Sp.zeros]; omega) (by omega)).mono ?_
  rintro e w2 ⟨rfl, hA2, ht2⟩
  have HAR := Lib.hid (Sp.area_new n (by omega))
  go_wp2_with fail
  go_ret2
  refine ⟨_, _, rfl, by rw [HAR.out]; exact hA2, by omega, Nat.le_refl _, ?_⟩
  exact (((Below.refl _ w).alloc (Nat.le_refl _) _).alloc (by simp) _).trans (ht2.below (by simp; omega) (fun b hb => by rw [hb]; exact Nat.le_refl _))
end Go.Proofs.YtbpjgdbkmnhnmaaGreat
