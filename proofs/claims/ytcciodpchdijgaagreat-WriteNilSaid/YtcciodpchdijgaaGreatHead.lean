/- What all walks import. -/
import Derived.Test.YtcciodpchdijgaaGreatProg
import Derived.Test.YtcciodpchdijgaaGreatBase
import Derived.Test.YtcciodpchdijgaaGreatBytes
import Derived.WalkKit
import Derived.Outline
import Derived.LoopTactic
import Derived.IntWalk
import Derived.Below
import Derived.OwnWalk
import Derived.Lib.Hide
import Derived.Lib.ConvBytes
import Derived.Deep.LoopGhost
import Derived.Deep.DeepFit
import Derived.Deep.DeepMust
import Derived.Deep.RegionHeld3
import Derived.Deep.RegionWith
import Derived.Deep.QuietTactic
import Derived.BigQuiet
import Derived.WalkLawsBesides
import Derived.WalkSpells
import Derived.Laws.BytesString
import Derived.Laws.IdiomStrings
import Derived.Laws.BytesArg
import Derived.Laws.BitsAllLaws
import Derived.Laws.MakeOwn
import Derived.Laws.Entries
namespace Go.Proofs.YtcciodpchdijgaaGreat
open Go.RowKit

/-- A text as a value. -/
abbrev str (l : Sp.Bs) : Value := .string ⟨l.toArray⟩

/-- The bytes l as cells. -/
def bcs (l : Sp.Bs) : List Value := l.map fun b => Value.int .u8 (b.toNat : Int)
@[simp] theorem bcs_length (l : Sp.Bs) : (bcs l).length = l.length := by simp [bcs]
theorem bcs_get (l : Sp.Bs) (j : Nat) : (bcs l)[j]? = (l[j]?).map fun b => Value.int .u8 (b.toNat : Int) := by simp [bcs]
theorem bcs_at (l : Sp.Bs) (j : Nat) (h : j < l.length) : (bcs l)[j]? = some (Value.int .u8 (l[j].toNat : Int)) := by simp [bcs, h]
theorem bcs_append (a b : Sp.Bs) : bcs (a ++ b) = bcs a ++ bcs b := by simp [bcs]

/-- 'string(b)' of a slice whose cells are the bytes l, at an address in plain form. -/
theorem run_bytes_back {P : Program} (w : World) (src dst e : TypeId) (b o n cap : Nat) (l : Sp.Bs) (hs : P.underlying src = some (.slice e)) (he : P.underlying e = some (.int .u8)) (hd : P.underlying dst = some .string)
    (hn : n = l.length) (hc : ∀ j (hj : j < l.length), w.cell? ⟨b, o + j, none⟩ = some (.int .u8 (l[j].toNat : Int))) :
    (convert src dst (.slice (some ⟨b, o, none⟩) n cap)).run P w = .ok (str l) w := by
  subst hn
  refine run_convert_bytes_back w src dst e ⟨b, o, none⟩ cap l hs he hd (fun j hj => ?_)
  have e1 : (⟨b, o, none⟩ : Addr).add j = ⟨b, o + j, none⟩ := by unfold Addr.add; split <;> simp_all
  rw [e1]
  exact hc j hj

@[simp] theorem str_size (l : Sp.Bs) : (⟨l.toArray⟩ : ByteArray).size = l.length := by simp [ByteArray.size]

theorem str_extract (l : Sp.Bs) (a b : Nat) : (⟨l.toArray⟩ : ByteArray).extract a b = ⟨((l.drop a).take (b - a)).toArray⟩ := by
  apply ByteArray.ext
  apply Array.toList_inj.1
  simp [ByteArray.data_extract, List.extract_eq_take_drop]
theorem str_append (a b : Sp.Bs) : (⟨a.toArray⟩ : ByteArray) ++ ⟨b.toArray⟩ = ⟨(a ++ b).toArray⟩ := by
  apply ByteArray.ext
  simp
theorem str_inj {a b : Sp.Bs} (h : str a = str b) : a = b := by
  injection h with h
  injection h with h
  simpa using h

/-- '[]byte(s)': a new row whose first cells are the bytes. -/
theorem conv_bytes {P : Program} (w : World) (src dst e : TypeId) (l : Sp.Bs) {u : TypeDesc} (hs : P.underlying src = some u) (hd : P.underlying dst = some (.slice e)) (he : P.underlying e = some (.int .u8)) :
    ∃ gc w1, (convert src dst (str l)).run P w = .ok (.slice (some ⟨w.heap.size, 0, none⟩) l.length gc) w1 ∧ Below w.heap.size w w1 ∧ w1.heap.size = w.heap.size + 1 ∧
      (∀ j (hj : j < l.length), w1.cell? ⟨w.heap.size, j, none⟩ = some (.int .u8 (l[j].toNat : Int))) ∧ (∀ j, j < l.length → w1.frozen? ⟨w.heap.size, j, none⟩ = false) := by
  refine ⟨_, _, Lib.run_convert_string_bytes w src dst e ⟨l.toArray⟩ hs hd he |>.trans (by rw [str_size]), ⟨?_, ?_, ?_, ?_, ?_⟩, Lib.bytesWorld_size _ _ _, fun j hj => ?_, fun j hj => ?_⟩
  · simp [Lib.bytesWorld, World.freeze, World.alloc, World.drew, -World.alloc_eq, -World.drew_eq]
  · simp [Lib.bytesWorld, World.freeze, World.alloc, World.drew, -World.alloc_eq, -World.drew_eq]
  · simp [Lib.bytesWorld, World.freeze, World.alloc, World.drew, -World.alloc_eq, -World.drew_eq]
  · rw [Lib.bytesWorld_size]; omega
  · exact fun k hk => Lib.bytesWorld_at_old _ _ _ _ hk
  · rw [Lib.bytesWorld_cell _ _ _ _ (by simpa using hj)]
    simp [List.getD, hj]
  · have hsz : l.length ≤ (Lib.bytesCells w e ⟨l.toArray⟩).size := by simp [Lib.bytesCells]
    simp [World.frozen?, Lib.bytesWorld_at_new]
    omega

/-- The world behind '[]byte(s)', and the new slice's capacity, under names that the walk leaves closed. -/
def bytesW (w : World) (e : TypeId) (l : Sp.Bs) : World := Lib.bytesWorld w e ⟨l.toArray⟩
def bytesC (w : World) (e : TypeId) (l : Sp.Bs) : Nat := grownCap w l.length 0 e
theorem conv_any {P : Program} (src dst e : TypeId) (l : Sp.Bs) {u : TypeDesc} (hs : P.underlying src = some u) (hd : P.underlying dst = some (.slice e)) (he : P.underlying e = some (.int .u8)) :
    ∀ w, (convert src dst (str l)).run P w = .ok (.slice (some ⟨w.heap.size, 0, none⟩) l.length (bytesC w e l)) (bytesW w e l) := fun w =>
  (Lib.run_convert_string_bytes w src dst e ⟨l.toArray⟩ hs hd he).trans (by rw [str_size]; rfl)
theorem bytesC_le (w : World) (e : TypeId) (l : Sp.Bs) (h : l.length ≤ maxLen) : l.length ≤ bytesC w e l ∧ bytesC w e l ≤ maxLen := ⟨grownCap_ge _ _ _ _, grownCap_le_maxLen _ _ _ _ h⟩
theorem bytesW_facts (w : World) (e : TypeId) (l : Sp.Bs) : Below w.heap.size w (bytesW w e l) ∧ (bytesW w e l).heap.size = w.heap.size + 1 ∧
    (∀ j (hj : j < l.length), (bytesW w e l).cell? ⟨w.heap.size, j, none⟩ = some (.int .u8 (l[j].toNat : Int))) ∧ (∀ j, j < l.length → (bytesW w e l).frozen? ⟨w.heap.size, j, none⟩ = false) := by
  refine ⟨⟨?_, ?_, ?_, ?_, ?_⟩, Lib.bytesWorld_size _ _ _, fun j hj => ?_, fun j hj => ?_⟩
  · simp [bytesW, Lib.bytesWorld, World.freeze, World.alloc, World.drew, -World.alloc_eq, -World.drew_eq]
  · simp [bytesW, Lib.bytesWorld, World.freeze, World.alloc, World.drew, -World.alloc_eq, -World.drew_eq]
  · simp [bytesW, Lib.bytesWorld, World.freeze, World.alloc, World.drew, -World.alloc_eq, -World.drew_eq]
  · rw [bytesW, Lib.bytesWorld_size]; omega
  · exact fun k hk => Lib.bytesWorld_at_old _ _ _ _ hk
  · rw [bytesW, Lib.bytesWorld_cell _ _ _ _ (by simpa using hj)]
    simp [List.getD, hj]
  · have hsz : l.length ≤ (Lib.bytesCells w e ⟨l.toArray⟩).size := by simp [Lib.bytesCells]
    simp [bytesW, World.frozen?, Lib.bytesWorld_at_new]
    omega

theorem ofInt_i64 (a : Nat) (ha : a < 9223372036854775808) : (BitVec.ofInt 64 (a : Int)).toNat = a := by
  rw [BitVec.ofInt_natCast, BitVec.toNat_ofNat]; exact Nat.mod_eq_of_lt (by omega)
theorem i64_or_nat (a b : Nat) (ha : a < 9223372036854775808) (hb : b < 9223372036854775808) : bits .or .i64 (a : Int) (b : Int) = ((a ||| b : Nat) : Int) := by
  have hx : a ||| b < 2 ^ 63 := Nat.or_lt_two_pow (by omega) (by omega)
  show IntKind.i64.wrap ((BitVec.ofInt 64 (a : Int) ||| BitVec.ofInt 64 (b : Int)).toNat : Int) = _
  rw [BitVec.toNat_or, ofInt_i64 a ha, ofInt_i64 b hb, IntKind.wrap_i64]
  omega

/-- A quiet callee in a region that stands behind other draws. -/
theorem quiet_add {P : Program} {f : FuncId} {args : Array Value} {w : World} {a n : Nat} {v : Value}
    (h : Calls P f args (w.drewN (a + n)) fun e w' => e = .returned v ∧ ∃ m, w' = (w.drewN (a + n)).drewN m) :
    Calls P f args (w.drewN (a + n)) fun e w'' => e = .returned v ∧ ∃ m, w'' = w.drewN (a + m) :=
  h.mono fun _ _ ⟨he, m, hm⟩ => ⟨he, n + m, by rw [hm, World.drewN_drewN, Nat.add_assoc]⟩
theorem quiet_left {P : Program} {f : FuncId} {args : Array Value} {w : World} {n : Nat} {v : Value}
    (h : Calls P f args (w.drewN n) fun e w' => e = .returned v ∧ w.drewN n = w') : Calls P f args (w.drewN n) fun e w'' => e = .returned v ∧ ∃ m, w'' = w.drewN m :=
  h.mono fun _ _ ⟨he, hm⟩ => ⟨he, n, hm.symm⟩

theorem run_make_rowN {P : Program} (t e : TypeId) (i : TypeInfo) (z : Value) (ht : P.underlying t = some (.slice e)) (hi : P.info? e = some i) (hz : i.zero = some z)
    (kl kc : IntKind) (n c : Nat) (hnc : n ≤ c) (hbytes : i.bytes * c ≤ 281474976710656) (h63 : c ≤ 9223372036854775807) (w : World) :
    (Instr.makeSlice t (.int kl (n : Int)) (.int kc (c : Int))).run P w = .ok (.slice (some ⟨w.heap.size, 0, none⟩) n c) (w.alloc (.cells (madeCells z.cells (c * i.size)) e)) := by
  have hb : (i.bytes : Int) * (c : Int) ≤ 281474976710656 := by
    have h : ((i.bytes * c : Nat) : Int) ≤ 281474976710656 := by omega
    rwa [Int.natCast_mul] at h
  have hr := run_make (P := P) w t e i z ht hi hz kl kc n c (by omega) (by omega) hb (by omega)
  simp only [Int.toNat_natCast] at hr
  exact hr
theorem madeCells_one (v : Value) (n : Nat) : madeCells #[v] n = (List.replicate n v).toArray := by
  unfold madeCells
  apply Array.ext_getElem?
  intro j
  rcases Nat.lt_or_ge j n with hj | hj
  · simp [hj, Nat.mod_one]
  · rw [Array.getElem?_eq_none (by simpa using hj)]; simp; omega
end Go.Proofs.YtcciodpchdijgaaGreat
