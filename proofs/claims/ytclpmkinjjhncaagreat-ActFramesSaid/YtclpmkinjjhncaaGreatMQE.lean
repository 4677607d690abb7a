/- Package word: the numbers that have no room. -/
import Derived.Test.YtclpmkinjjhncaaGreatMQA
import Derived.Test.YtclpmkinjjhncaaGreatMQB
import Derived.BigQuiet
import Derived.MapKept
import Derived.WideMake
import Derived.Carry
import Derived.Deep.CutBlock
import Derived.LoopN
import Derived.Test.YtclpmkinjjhncaaGreatMQD
import Derived.Test.YtclpmkinjjhncaaGreatMQC

namespace Go.Proofs.YtclpmkinjjhncaaGreat
open Go.RowKit

set_option maxRecDepth 100000 in
set_option maxHeartbeats 4000000 in
theorem word_put_bad (n size : Nat) (w : World) (h1 : 1 ≤ size) (h8 : size < 8) (hn : 256 ^ size ≤ n) :
    Calls Tryz.prog 133 #[.int .u64 n, .int .i64 size] w fun e w' => e = .returned (.tuple #[str [], .bool false]) ∧ w' = w := by
  have d1 : decide ((size : Int) < 1) = false := by simp; omega
  have d2 : decide ((8 : Int) < (size : Int)) = false := by simp; omega
  have d3 : (((n : Int) / 2 ^ (8 * size)) != 0) = true := by
    have e : (2 : Int) ^ (8 * size) = ((256 ^ size : Nat) : Int) := by rw [show 256 ^ size = 2 ^ (8 * size) by rw [Nat.pow_mul]]; simp
    have hp : 0 < 256 ^ size := Nat.pow_pos (by omega)
    have h := Nat.div_pos hn hp
    rw [e, ← Int.natCast_ediv, bne_iff_ne]
    omega
  have i3 : (size : Int) ≤ 8 := by omega
  have d4 : decide ((size : Int) < 8) = true := by simp; omega
  have hN := Lib.hid hn
  clear hn
  go_enter Tryz.func133, Tryz.ntmps133
  go_wp2
  go_ret2
  exact ⟨rfl, rfl⟩
end Go.Proofs.YtclpmkinjjhncaaGreat

/- Package op: the coder writes a number. -/
namespace Go.Proofs.YtclpmkinjjhncaaGreat
open Go.RowKit

def coCs (gx : Nat) (s : Sp.Bs) (a : Nat) (rd bad : Bool) : Array Value := #[ptr gx, str s, .int .i64 a, .bool rd, .bool bad]
/-- What a step of the coder leaves that writes. -/
def CoPost (gk gx : Nat) (s : Sp.Bs) (a : Nat) (bad : Bool) (w : World) (e : Ending) (w' : World) : Prop :=
  e = .returned (.tuple #[]) ∧ Blk w' gk 289 (coCs gx s a false bad) ∧ Turns (only gk) (only gk) w w'

set_option maxRecDepth 100000 in
set_option maxHeartbeats 4000000 in
theorem num_put8 {w : World} {gk gx b o n a most : Nat} {s : Sp.Bs} {bad : Bool} (hK : Blk w gk 289 (coCs gx s a false bad)) (hx : w.cell? ⟨b, o, none⟩ = some (.int .u8 n)) (hne : b ≠ gk) (hn : n < 256) (hs : s.length ≤ 100000000) :
    Calls Tryz.prog 250 #[ptr gk, .pointer (some ⟨b, o, none⟩), .int .i64 1, .int .u64 most] w (CoPost gk gx (s ++ Sp.be 1 n) a (bad || decide (most < n)) w) := by
  have HP := Lib.hid fun (W : World) => word_put n 1 W (by omega) (by omega) (by omega) (by omega)
  have k1 := hK.cell 1
  have k3 := hK.cell 3
  have k4 := hK.cell 4
  simp only [coCs, List.getElem?_toArray, List.getElem?_cons_succ, List.getElem?_cons_zero] at k1 k3 k4
  have f1 := hK.frozen 1
  have f4 := hK.frozen 4
  have HK := Lib.hid hK
  clear hK
  have d0 : decide ((n : Int) < 0) = false := by simp
  cases bad
  all_goals
    go_enter Tryz.func250, Tryz.ntmps250
    go_wp2_with fail
    refine (HP.out _).mono ?_
    rintro e w1 ⟨rfl, hb⟩
    have hblt := World.block_lt_of_cell? w _ hx
    have hxx := (hb.cell (p := ⟨b, o, none⟩) hblt).trans hx
    have hK1 := HK.out.below hb HK.out.lt
    clear k1 k3 k4 f1 f4 hx
    have k1 := hK1.cell 1
    have k4 := hK1.cell 4
    simp only [coCs, List.getElem?_toArray, List.getElem?_cons_succ, List.getElem?_cons_zero] at k1 k4
    have f1 := hK1.frozen 1
    have f4 := hK1.frozen 4
    have hK2 := hK1.set_ 1 (str (s ++ Sp.be 1 n))
    have x2 := (World.cell?_of_block (w := w1) (a := ⟨b, o, none⟩) (Below.heap_setCell w1 ⟨gk, 1, none⟩ (str (s ++ Sp.be 1 n)) b hne)).trans hxx
    have y4 := hK2.cell 4
    simp only [coCs, List.setIfInBounds_toArray, List.set_cons_succ, List.set_cons_zero, List.getElem?_toArray, List.getElem?_cons_succ, List.getElem?_cons_zero] at y4
    go_wp2_with fail
    go_end0
    refine ⟨rfl, ?_, ?_⟩
    · exact hK2.set_ 4 _
    · exact (((Turns.of_below hb (only gk)).setCell (p := ⟨gk, 1, none⟩) (.inl rfl) _).setCell (p := ⟨gk, 4, none⟩) (.inl rfl) _)
set_option maxRecDepth 100000 in
set_option maxHeartbeats 4000000 in
theorem num_put32 {w : World} {gk gx b o n a most : Nat} {s : Sp.Bs} {bad : Bool} (hK : Blk w gk 289 (coCs gx s a false bad)) (hx : w.cell? ⟨b, o, none⟩ = some (.int .u32 n)) (hne : b ≠ gk) (hn : n < 4294967296) (hs : s.length ≤ 100000000) :
    Calls Tryz.prog 251 #[ptr gk, .pointer (some ⟨b, o, none⟩), .int .i64 4, .int .u64 most] w (CoPost gk gx (s ++ Sp.be 4 n) a (bad || decide (most < n)) w) := by
  have HP := Lib.hid fun (W : World) => word_put n 4 W (by omega) (by omega) (by omega) (by omega)
  have k1 := hK.cell 1
  have k3 := hK.cell 3
  have k4 := hK.cell 4
  simp only [coCs, List.getElem?_toArray, List.getElem?_cons_succ, List.getElem?_cons_zero] at k1 k3 k4
  have f1 := hK.frozen 1
  have f4 := hK.frozen 4
  have HK := Lib.hid hK
  clear hK
  have d0 : decide ((n : Int) < 0) = false := by simp
  cases bad
  all_goals
    go_enter Tryz.func251, Tryz.ntmps251
    go_wp2_with fail
    refine (HP.out _).mono ?_
    rintro e w1 ⟨rfl, hb⟩
    have hblt := World.block_lt_of_cell? w _ hx
    have hxx := (hb.cell (p := ⟨b, o, none⟩) hblt).trans hx
    have hK1 := HK.out.below hb HK.out.lt
    clear k1 k3 k4 f1 f4 hx
    have k1 := hK1.cell 1
    have k4 := hK1.cell 4
    simp only [coCs, List.getElem?_toArray, List.getElem?_cons_succ, List.getElem?_cons_zero] at k1 k4
    have f1 := hK1.frozen 1
    have f4 := hK1.frozen 4
    have hK2 := hK1.set_ 1 (str (s ++ Sp.be 4 n))
    have x2 := (World.cell?_of_block (w := w1) (a := ⟨b, o, none⟩) (Below.heap_setCell w1 ⟨gk, 1, none⟩ (str (s ++ Sp.be 4 n)) b hne)).trans hxx
    have y4 := hK2.cell 4
    simp only [coCs, List.setIfInBounds_toArray, List.set_cons_succ, List.set_cons_zero, List.getElem?_toArray, List.getElem?_cons_succ, List.getElem?_cons_zero] at y4
    go_wp2_with fail
    go_end0
    refine ⟨rfl, ?_, ?_⟩
    · exact hK2.set_ 4 _
    · exact (((Turns.of_below hb (only gk)).setCell (p := ⟨gk, 1, none⟩) (.inl rfl) _).setCell (p := ⟨gk, 4, none⟩) (.inl rfl) _)
set_option maxRecDepth 100000 in
set_option maxHeartbeats 4000000 in
theorem num_putI {w : World} {gk gx b o n a most : Nat} {s : Sp.Bs} {bad : Bool} (hK : Blk w gk 289 (coCs gx s a false bad)) (hx : w.cell? ⟨b, o, none⟩ = some (.int .i64 n)) (hne : b ≠ gk) (hn : n < 65536) (hs : s.length ≤ 100000000) :
    Calls Tryz.prog 284 #[ptr gk, .pointer (some ⟨b, o, none⟩), .int .i64 2, .int .u64 most] w (CoPost gk gx (s ++ Sp.be 2 n) a (bad || decide (most < n)) w) := by
  have HP := Lib.hid fun (W : World) => word_put n 2 W (by omega) (by omega) (by omega) (by omega)
  have k1 := hK.cell 1
  have k3 := hK.cell 3
  have k4 := hK.cell 4
  simp only [coCs, List.getElem?_toArray, List.getElem?_cons_succ, List.getElem?_cons_zero] at k1 k3 k4
  have f1 := hK.frozen 1
  have f4 := hK.frozen 4
  have HK := Lib.hid hK
  clear hK
  have d0 : decide ((n : Int) < 0) = false := by simp
  cases bad
  all_goals
    go_enter Tryz.func284, Tryz.ntmps284
    go_wp2_with fail
    refine (HP.out _).mono ?_
    rintro e w1 ⟨rfl, hb⟩
    have hblt := World.block_lt_of_cell? w _ hx
    have hxx := (hb.cell (p := ⟨b, o, none⟩) hblt).trans hx
    have hK1 := HK.out.below hb HK.out.lt
    clear k1 k3 k4 f1 f4 hx
    have k1 := hK1.cell 1
    have k4 := hK1.cell 4
    simp only [coCs, List.getElem?_toArray, List.getElem?_cons_succ, List.getElem?_cons_zero] at k1 k4
    have f1 := hK1.frozen 1
    have f4 := hK1.frozen 4
    have hK2 := hK1.set_ 1 (str (s ++ Sp.be 2 n))
    have x2 := (World.cell?_of_block (w := w1) (a := ⟨b, o, none⟩) (Below.heap_setCell w1 ⟨gk, 1, none⟩ (str (s ++ Sp.be 2 n)) b hne)).trans hxx
    have y4 := hK2.cell 4
    simp only [coCs, List.setIfInBounds_toArray, List.set_cons_succ, List.set_cons_zero, List.getElem?_toArray, List.getElem?_cons_succ, List.getElem?_cons_zero] at y4
    go_wp2_with fail
    go_end0
    refine ⟨rfl, ?_, ?_⟩
    · exact hK2.set_ 4 _
    · exact (((Turns.of_below hb (only gk)).setCell (p := ⟨gk, 1, none⟩) (.inl rfl) _).setCell (p := ⟨gk, 4, none⟩) (.inl rfl) _)
theorem wrap_far {z : Int} (h1 : -9223372036854775808 ≤ z) (h2 : z < 9223372036854775808) (hz : z < 0 ∨ 65536 ≤ z) : ∃ m : Nat, IntKind.u64.wrap z = (m : Int) ∧ 65536 ≤ m ∧ m < 18446744073709551616 := by
  rcases Int.lt_or_le z 0 with h | h
  · exact ⟨(z + 18446744073709551616).toNat, by simp [IntKind.wrap, IntKind.signed, IntKind.bits]; omega, by omega, by omega⟩
  · exact ⟨z.toNat, by simp [IntKind.wrap, IntKind.signed, IntKind.bits]; omega, by omega, by omega⟩
set_option maxRecDepth 100000 in
set_option maxHeartbeats 4000000 in
theorem num_putI_bad {w : World} {gk gx b o a : Nat} {z : Int} {s : Sp.Bs} {bad : Bool} (hK : Blk w gk 289 (coCs gx s a false bad)) (hx : w.cell? ⟨b, o, none⟩ = some (.int .i64 z)) (hne : b ≠ gk) (h1 : -9223372036854775808 ≤ z) (h2 : z < 9223372036854775808) (hz : z < 0 ∨ 65536 ≤ z) (most : Nat) (hs : s.length ≤ 100000000) :
    Calls Tryz.prog 284 #[ptr gk, .pointer (some ⟨b, o, none⟩), .int .i64 2, .int .u64 most] w (CoPost gk gx s a true w) := by
  obtain ⟨m, hm, h65, h64⟩ := wrap_far h1 h2 hz
  have HP := Lib.hid fun (W : World) => word_put_bad m 2 W (by omega) (by omega) (by omega)
  have k1 := hK.cell 1
  have k3 := hK.cell 3
  have k4 := hK.cell 4
  simp only [coCs, List.getElem?_toArray, List.getElem?_cons_succ, List.getElem?_cons_zero] at k1 k3 k4
  have f1 := hK.frozen 1
  have f4 := hK.frozen 4
  have HK := Lib.hid hK
  clear hK
  cases bad
  all_goals
    go_enter Tryz.func284, Tryz.ntmps284
    go_wp2_with fail
    refine (HP.out _).mono ?_
    rintro e w1 ⟨rfl, hb⟩
    subst hb
    have x2 := (World.cell?_of_block (w := w1) (a := ⟨b, o, none⟩) (Below.heap_setCell w1 ⟨gk, 1, none⟩ (str (s ++ [])) b hne)).trans hx
    have hK2 := HK.out.set_ 1 (str (s ++ []))
    have y4 := hK2.cell 4
    simp only [coCs, List.setIfInBounds_toArray, List.set_cons_succ, List.set_cons_zero, List.getElem?_toArray, List.getElem?_cons_succ, List.getElem?_cons_zero] at y4
    go_wp2_with fail
    go_end0
    refine ⟨rfl, ?_, ?_⟩
    · rw [show coCs gx s a false true = coCs gx (s ++ []) a false true by rw [List.append_nil]]
      exact hK2.set_ 4 _
    · exact (((Turns.refl (only gk) w1).setCell (p := ⟨gk, 1, none⟩) (.inl rfl) _).setCell (p := ⟨gk, 4, none⟩) (.inl rfl) _)
end Go.Proofs.YtclpmkinjjhncaaGreat

/- Package op: the coder writes the parts of an op that are numbers. -/
namespace Go.Proofs.YtclpmkinjjhncaaGreat
open Go.RowKit

/-- An op, plain. -/
structure Sp.Op where
  kind : Nat
  page : Nat
  at_ : Int
  off : Int
  text : Sp.Bs
  rows : List Sp.Bs
  pk : Nat
  lv : Nat
  nx : Nat
  deriving DecidableEq
/-- Its cells; A and c: where its rows lie. -/
def opCs (o : Sp.Op) (A : Option Addr) (c : Nat) : Array Value := #[.int .u8 o.kind, .int .u32 o.page, .int .i64 o.at_, .int .i64 o.off, str o.text, .slice A o.rows.length c, .int .u8 o.pk, .int .u8 o.lv, .int .u32 o.nx]
structure Sp.Op.Ok (o : Sp.Op) : Prop where
  kind : o.kind < 256
  page : o.page < 4294967296
  at0 : -9223372036854775808 ≤ o.at_
  at1 : o.at_ < 9223372036854775808
  off0 : -9223372036854775808 ≤ o.off
  off1 : o.off < 9223372036854775808
  pk : o.pk < 256
  lv : o.lv < 256
  nx : o.nx < 4294967296
/-- What is written, and whether it may not be. -/
structure Sp.Co where
  s : Sp.Bs
  bad : Bool
def Sp.Co.n1 (k : Sp.Co) (n most : Nat) : Sp.Co := ⟨k.s ++ Sp.be 1 n, k.bad || decide (most < n)⟩
def Sp.Co.n4 (k : Sp.Co) (n most : Nat) : Sp.Co := ⟨k.s ++ Sp.be 4 n, k.bad || decide (most < n)⟩
def Sp.Co.n2 (k : Sp.Co) (z : Int) : Sp.Co := if 0 ≤ z ∧ z < 65536 then ⟨k.s ++ Sp.be 2 z.toNat, k.bad || decide (488 < z.toNat)⟩ else ⟨k.s, true⟩
def CoPut (gk gx : Nat) (k : Sp.Co) (a : Nat) (w : World) (e : Ending) (w' : World) : Prop := CoPost gk gx k.s a k.bad w e w'

section
variable {w : World} {gk gx a : Nat} {k : Sp.Co}
theorem num_putI_any {b o : Nat} {z : Int} (hK : Blk w gk 289 (coCs gx k.s a false k.bad)) (hx : w.cell? ⟨b, o, none⟩ = some (.int .i64 z)) (hne : b ≠ gk) (h1 : -9223372036854775808 ≤ z) (h2 : z < 9223372036854775808) (hs : k.s.length ≤ 100000000) :
    Calls Tryz.prog 284 #[ptr gk, .pointer (some ⟨b, o, none⟩), .int .i64 2, .int .u64 488] w (CoPut gk gx (k.n2 z) a w) := by
  unfold Sp.Co.n2
  split
  · rename_i h
    obtain ⟨n, rfl⟩ : ∃ n : Nat, z = (n : Int) := ⟨z.toNat, by omega⟩
    exact num_putI hK hx hne (by omega) hs (most := 488)
  · exact num_putI_bad hK hx hne h1 h2 (by omega) 488 hs

set_option maxRecDepth 100000 in
set_option maxHeartbeats 1000000 in
theorem co_place {o : Sp.Op} {A : Option Addr} {c : Nat} (hK : Blk w gk 289 (coCs gx k.s a false k.bad)) (hX : Blk w gx 28 (opCs o A c)) (ho : o.Ok) (hs : k.s.length ≤ 100000000) :
    Calls Tryz.prog 255 #[ptr gk] w (CoPut gk gx (k.n2 o.at_) a w) := by
  have hne := hX.ne_ hK (by decide)
  have x := hX.cell 2
  have k0 := hK.cell 0
  simp only [coCs, opCs, List.getElem?_toArray, List.getElem?_cons_succ, List.getElem?_cons_zero] at x k0
  have HN := Lib.hid (num_putI_any hK x hne ho.at0 ho.at1 hs)
  clear x hX hK ho
  go_enter Tryz.func255, Tryz.ntmps255
  go_wp2_with fail
  refine HN.out.mono ?_
  rintro e w1 ⟨rfl, h2, h3⟩
  go_wp2_with fail
  go_end0
  exact ⟨rfl, h2, h3⟩
set_option maxRecDepth 100000 in
set_option maxHeartbeats 1000000 in
theorem co_off {o : Sp.Op} {A : Option Addr} {c : Nat} (hK : Blk w gk 289 (coCs gx k.s a false k.bad)) (hX : Blk w gx 28 (opCs o A c)) (ho : o.Ok) (hs : k.s.length ≤ 100000000) :
    Calls Tryz.prog 258 #[ptr gk] w (CoPut gk gx (k.n2 o.off) a w) := by
  have hne := hX.ne_ hK (by decide)
  have x := hX.cell 3
  have k0 := hK.cell 0
  simp only [coCs, opCs, List.getElem?_toArray, List.getElem?_cons_succ, List.getElem?_cons_zero] at x k0
  have HN := Lib.hid (num_putI_any hK x hne ho.off0 ho.off1 hs)
  clear x hX hK ho
  go_enter Tryz.func258, Tryz.ntmps258
  go_wp2_with fail
  refine HN.out.mono ?_
  rintro e w1 ⟨rfl, h2, h3⟩
  go_wp2_with fail
  go_end0
  exact ⟨rfl, h2, h3⟩
set_option maxRecDepth 100000 in
set_option maxHeartbeats 1000000 in
theorem co_kind {o : Sp.Op} {A : Option Addr} {c : Nat} (hK : Blk w gk 289 (coCs gx k.s a false k.bad)) (hX : Blk w gx 28 (opCs o A c)) (ho : o.Ok) (hs : k.s.length ≤ 100000000) :
    Calls Tryz.prog 252 #[ptr gk] w (CoPut gk gx (k.n1 o.pk 5) a w) := by
  have hne := hX.ne_ hK (by decide)
  have x := hX.cell 6
  have k0 := hK.cell 0
  simp only [coCs, opCs, List.getElem?_toArray, List.getElem?_cons_succ, List.getElem?_cons_zero] at x k0
  have HN := Lib.hid (num_put8 hK x hne ho.pk hs (most := 5))
  clear x hX hK ho
  go_enter Tryz.func252, Tryz.ntmps252
  go_wp2_with fail
  refine HN.out.mono ?_
  rintro e w1 ⟨rfl, h2, h3⟩
  go_wp2_with fail
  go_end0
  exact ⟨rfl, h2, h3⟩
set_option maxRecDepth 100000 in
set_option maxHeartbeats 1000000 in
theorem co_level {o : Sp.Op} {A : Option Addr} {c : Nat} (hK : Blk w gk 289 (coCs gx k.s a false k.bad)) (hX : Blk w gx 28 (opCs o A c)) (ho : o.Ok) (hs : k.s.length ≤ 100000000) :
    Calls Tryz.prog 253 #[ptr gk] w (CoPut gk gx (k.n1 o.lv 255) a w) := by
  have hne := hX.ne_ hK (by decide)
  have x := hX.cell 7
  have k0 := hK.cell 0
  simp only [coCs, opCs, List.getElem?_toArray, List.getElem?_cons_succ, List.getElem?_cons_zero] at x k0
  have HN := Lib.hid (num_put8 hK x hne ho.lv hs (most := 255))
  clear x hX hK ho
  go_enter Tryz.func253, Tryz.ntmps253
  go_wp2_with fail
  refine HN.out.mono ?_
  rintro e w1 ⟨rfl, h2, h3⟩
  go_wp2_with fail
  go_end0
  exact ⟨rfl, h2, h3⟩
set_option maxRecDepth 100000 in
set_option maxHeartbeats 1000000 in
theorem co_next {o : Sp.Op} {A : Option Addr} {c : Nat} (hK : Blk w gk 289 (coCs gx k.s a false k.bad)) (hX : Blk w gx 28 (opCs o A c)) (ho : o.Ok) (hs : k.s.length ≤ 100000000) :
    Calls Tryz.prog 254 #[ptr gk] w (CoPut gk gx (k.n4 o.nx 1024) a w) := by
  have hne := hX.ne_ hK (by decide)
  have x := hX.cell 8
  have k0 := hK.cell 0
  simp only [coCs, opCs, List.getElem?_toArray, List.getElem?_cons_succ, List.getElem?_cons_zero] at x k0
  have HN := Lib.hid (num_put32 hK x hne ho.nx hs (most := 1024))
  clear x hX hK ho
  go_enter Tryz.func254, Tryz.ntmps254
  go_wp2_with fail
  refine HN.out.mono ?_
  rintro e w1 ⟨rfl, h2, h3⟩
  go_wp2_with fail
  go_end0
  exact ⟨rfl, h2, h3⟩
end
end Go.Proofs.YtclpmkinjjhncaaGreat

/- Package op: the coder writes a text. -/
namespace Go.Proofs.YtclpmkinjjhncaaGreat
open Go.RowKit

def Sp.Co.piece (k : Sp.Co) (t : Sp.Bs) : Sp.Co := ⟨(k.n2 (t.length : Int)).s ++ t, (k.n2 (t.length : Int)).bad⟩
theorem Sp.Co.n2_len (k : Sp.Co) (z : Int) : (k.n2 z).s.length ≤ k.s.length + 2 := by
  unfold Sp.Co.n2
  split <;> simp
section
variable {w : World} {gk gx a : Nat} {k : Sp.Co}
set_option maxRecDepth 100000 in
set_option maxHeartbeats 2000000 in
theorem co_piece {b o : Nat} {t : Sp.Bs} (hK : Blk w gk 289 (coCs gx k.s a false k.bad)) (hx : w.cell? ⟨b, o, none⟩ = some (str t)) (hne : b ≠ gk) (ht : t.length ≤ 100000000) (hs : k.s.length ≤ 90000000) :
    Calls Tryz.prog 285 #[ptr gk, .pointer (some ⟨b, o, none⟩)] w (CoPut gk gx (k.piece t) a w) := by
  have hblt := World.block_lt_of_cell? w _ hx
  have hb0 := (Below.refl w.heap.size w).alloc (Nat.le_refl _) (.cells #[.int .i64 (t.length : Int)] 3)
  have hK0 := hK.alloc (.cells #[.int .i64 (t.length : Int)] 3)
  have hB0 := (Blk.new w 3 #[.int .i64 (t.length : Int)]).cell 0
  have hx0 := (hb0.cell (p := ⟨b, o, none⟩) hblt).trans hx
  have hlt := hK.lt
  have HN := Lib.hid (num_putI_any hK0 (z := (t.length : Int)) (b := w.heap.size) (o := 0) hB0 (by omega) (by omega) (by omega) (by omega))
  clear hB0 hK
  go_enter Tryz.func285, Tryz.ntmps285
  go_wp2_with fail
  refine HN.out.mono ?_
  rintro e w1 ⟨rfl, h2, h3⟩
  have hx1 := (World.cell?_of_block (w := w.alloc (.cells #[.int .i64 (t.length : Int)] 3)) (a := ⟨b, o, none⟩) (h3.block b (World.block_lt_of_cell? _ _ hx0) (fun e => hne e))).trans hx0
  have k1 := h2.cell 1
  have k3 := h2.cell 3
  simp only [coCs, List.getElem?_toArray, List.getElem?_cons_succ, List.getElem?_cons_zero] at k1 k3
  have f1 := h2.frozen 1
  have hl := k.n2_len (t.length : Int)
  generalize hq : k.n2 (t.length : Int) = q at *
  go_wp2_with fail
  go_region
  go_wp2_with fail
  go_end0
  unfold CoPut Sp.Co.piece
  rw [hq]
  exact ⟨rfl, (h2.set_ 1 _).drew, ((((Turns.refl (only gk) w).alloc _).trans h3).setCell (p := ⟨gk, 1, none⟩) (.inl rfl) _).drew⟩
set_option maxRecDepth 100000 in
set_option maxHeartbeats 1000000 in
theorem co_text {o : Sp.Op} {A : Option Addr} {c : Nat} (hK : Blk w gk 289 (coCs gx k.s a false k.bad)) (hX : Blk w gx 28 (opCs o A c)) (ht : o.text.length ≤ 100000000) (hs : k.s.length ≤ 90000000) :
    Calls Tryz.prog 256 #[ptr gk] w (CoPut gk gx (k.piece o.text) a w) := by
  have hne := hX.ne_ hK (by decide)
  have x := hX.cell 4
  have k0 := hK.cell 0
  simp only [coCs, opCs, List.getElem?_toArray, List.getElem?_cons_succ, List.getElem?_cons_zero] at x k0
  have HN := Lib.hid (co_piece hK x hne ht hs)
  clear x hX hK
  go_enter Tryz.func256, Tryz.ntmps256
  go_wp2_with fail
  refine HN.out.mono ?_
  rintro e w1 ⟨rfl, h2, h3⟩
  go_wp2_with fail
  go_end0
  exact ⟨rfl, h2, h3⟩
end
end Go.Proofs.YtclpmkinjjhncaaGreat

/- Package op: the coder writes rows. -/
namespace Go.Proofs.YtclpmkinjjhncaaGreat
open Go.RowKit

def Sp.Co.rowsGo (k : Sp.Co) (all : Nat) : List Sp.Bs → Sp.Co
  | [] => k
  | r :: l => if (k.piece r).bad || decide (488 < all + r.length) then ⟨(k.piece r).s, true⟩ else (k.piece r).rowsGo (all + r.length) l
def Sp.Co.rows (k : Sp.Co) (rs : List Sp.Bs) : Sp.Co := if (k.n2 (rs.length : Int)).bad then k.n2 (rs.length : Int) else (k.n2 (rs.length : Int)).rowsGo 0 rs

section
variable {w : World} {gk gx a : Nat} {k : Sp.Co}
set_option maxRecDepth 100000 in
set_option maxHeartbeats 4000000 in
theorem co_rows {G : Foot} {o : Sp.Op} {A : Option Addr} {c : Nat} (hK : Blk w gk 289 (coCs gx k.s a false k.bad)) (hX : Blk w gx 28 (opCs o A c)) (hR : RowsAt G w A o.rows) (hG : ¬ G gk) (hn : o.rows.length ≤ 1000000) (hr : ∀ r ∈ o.rows, r.length ≤ 80000000) (hs : k.s.length ≤ 8000000) :
    Calls Tryz.prog 257 #[ptr gk] w (CoPut gk gx (k.rows o.rows) a w) := by
  have hne := hX.ne_ hK (by decide)
  have x := hX.cell 5
  have k0 := hK.cell 0
  simp only [coCs, opCs, List.getElem?_toArray, List.getElem?_cons_succ, List.getElem?_cons_zero] at x k0
  have hK0 := hK.alloc (.cells #[.int .i64 (o.rows.length : Int)] 3)
  have hB0 := (Blk.new w 3 #[.int .i64 (o.rows.length : Int)]).cell 0
  have hlt := hK.lt
  have HN := Lib.hid (num_putI_any hK0 (z := (o.rows.length : Int)) (b := w.heap.size) (o := 0) hB0 (by omega) (by omega) (by omega) (by omega))
  have HX := Lib.hid hX
  have HR := Lib.hid hR
  clear hX hK hR
  go_enter Tryz.func257, Tryz.ntmps257
  go_wp2_with fail
  refine HN.out.mono ?_
  rintro e w1 ⟨rfl, h2, h3⟩
  have hT : Turns (only gk) (only gk) w w1 := ((Turns.refl (only gk) w).alloc _).trans h3
  have hB1 := (World.cell?_of_block (w := w.alloc (.cells #[.int .i64 (o.rows.length : Int)] 3)) (a := ⟨w.heap.size, 0, none⟩) (h3.block w.heap.size (World.block_lt_of_cell? _ _ hB0) (fun e => by have : w.heap.size = gk := e; omega))).trans hB0
  clear hB0
  have k4 := h2.cell 4
  have hl := k.n2_len (o.rows.length : Int)
  generalize hq : k.n2 (o.rows.length : Int) = q at *
  simp only [coCs, List.getElem?_toArray, List.getElem?_cons_succ, List.getElem?_cons_zero] at k4
  cases hb : q.bad
  · rw [hb] at k4
    go_wp2_with fail
    go_loopw [3, 20] (fun v3 v20 wr => ∃ (i all : Nat) (q' : Sp.Co), i ≤ o.rows.length ∧ v3 = .int .i64 all ∧ v20 = .int .i64 i ∧ Blk wr gk 289 (coCs gx q'.s a false false) ∧ q'.bad = false ∧ q'.rowsGo all (o.rows.drop i) = q.rowsGo 0 o.rows ∧ Turns (only gk) (only gk) w wr ∧ all ≤ 488 ∧ q'.s.length ≤ 8000002 + 2 * i + all) (fun _ v20 _ => o.rows.length - (intOf v20).toNat)
    case atStart => exact ⟨0, 0, q, by omega, rfl, rfl, by rw [hb] at h2; exact h2, hb, by rw [List.drop_zero], hT, by omega, by omega⟩
    case round =>
      obtain ⟨i, all, q', hi, rfl, rfl, hKr, hbq, hgo, hTr, hall, hql⟩ := hrel
      clear HN h2 h3 hB1 k4
      by_cases hlt : i < o.rows.length
      · obtain ⟨b, ro, rfl, hGb, hbw, hc⟩ := HR.out.row hlt
        have hgb : b ≠ gk := fun e => hG (e ▸ hGb)
        have hgr := Lib.hid (List.drop_eq_getElem_cons hlt)
        have hr1 := hr o.rows[i] (List.getElem_mem hlt)
        generalize o.rows[i] = r at *
        have hcr := (World.cell?_of_block (w := w) (a := ⟨b, ro + i, none⟩) (hTr.block b hbw (fun e => hgb e))).trans hc
        have HP := Lib.hid (co_piece (gx := gx) (a := a) (k := q') (by rw [hbq]; exact hKr) hcr hgb (by omega) (by omega))
        have k3 := hKr.cell 3
        have k0 := hKr.cell 0
        simp only [coCs, List.getElem?_toArray, List.getElem?_cons_succ, List.getElem?_cons_zero] at k3 k0
        have x5 := (HX.out.turns hTr (fun e => hne e)).cell 5
        simp only [opCs, List.getElem?_toArray, List.getElem?_cons_succ, List.getElem?_cons_zero] at x5
        go_wp2_with fail
        refine HP.out.mono ?_
        rintro e w2 ⟨rfl, h2, h3⟩
        have hT2 := hTr.trans h3
        have hc2 := (World.cell?_of_block (w := w) (a := ⟨b, ro + i, none⟩) (hT2.block b hbw (fun e => hgb e))).trans hc
        have x2 := (HX.out.turns hT2 (fun e => hne e)).cell 5
        have y0 := h2.cell 0
        have y4 := h2.cell 4
        have f4 := h2.frozen 4
        simp only [opCs, coCs, List.getElem?_toArray, List.getElem?_cons_succ, List.getElem?_cons_zero] at x2 y0 y4
        clear x5 k0 k3 hcr
        have HH2 := Lib.hid h2
        clear h2 h3 HP
        cases hpb : (q'.piece r).bad
        · rw [hpb] at y4
          by_cases hov : 488 < all + r.length
          · have hd : decide ((488 : Int) < (all : Int) + (r.length : Int)) = true := by simp; omega
            have hend : CoPut gk gx (k.rows o.rows) a w (.returned (.tuple #[])) ((w2.setCell ⟨gk, 4, none⟩ (.bool true))) := by
              unfold CoPut Sp.Co.rows
              rw [hq, if_neg (by rw [hb]; decide), ← hgo, hgr.out]
              unfold Sp.Co.rowsGo
              rw [if_pos (by simp; omega)]
              exact ⟨rfl, HH2.out.set_ 4 _, hT2.setCell (p := ⟨gk, 4, none⟩) (.inl rfl) _⟩
            go_wp2_with fail
            go_end0
            exact hend
          · have hd : decide ((488 : Int) < (all : Int) + (r.length : Int)) = false := by simp; omega
            go_wp2_with fail
            go_roundw
            case rel =>
              have hl2 : (q'.piece r).s.length ≤ q'.s.length + 2 + r.length := by
                have := q'.n2_len (r.length : Int)
                unfold Sp.Co.piece
                rw [List.length_append]
                omega
              refine ⟨i + 1, all + r.length, q'.piece r, hlt, by go_num, by go_num, by have := HH2.out; rw [hpb] at this; exact this, hpb, ?_, hT2, by omega, by omega⟩
              rw [← hgo, hgr.out]
              unfold Sp.Co.rowsGo
              rw [hpb, if_neg (by simp; omega)]
              cases o.rows.drop (i + 1) <;> rfl
            case measure => simp [intOf]; omega
        · rw [hpb] at y4
          have hend : CoPut gk gx (k.rows o.rows) a w (.returned (.tuple #[])) ((w2.setCell ⟨gk, 4, none⟩ (.bool true))) := by
            unfold CoPut Sp.Co.rows
            rw [hq, if_neg (by rw [hb]; decide), ← hgo, hgr.out]
            unfold Sp.Co.rowsGo
            rw [hpb]
            exact ⟨rfl, HH2.out.set_ 4 _, hT2.setCell (p := ⟨gk, 4, none⟩) (.inl rfl) _⟩
          go_wp2_with fail
          go_end0
          exact hend
      · obtain rfl : i = o.rows.length := by omega
        rw [List.drop_length] at hgo
        have hend : CoPut gk gx (k.rows o.rows) a w (.returned (.tuple #[])) wr := by
          unfold CoPut Sp.Co.rows
          rw [hq, if_neg (by rw [hb]; decide), ← hgo]
          exact ⟨rfl, by show Blk wr gk _ (coCs gx q'.s a false q'.bad); rw [hbq]; exact hKr, hTr⟩
        go_wp2_with fail
        go_end0
        exact hend
  · rw [hb] at k4
    go_wp2_with fail
    go_end0
    unfold CoPut Sp.Co.rows
    rw [hq, if_pos hb]
    exact ⟨rfl, h2, hT⟩
end
end Go.Proofs.YtclpmkinjjhncaaGreat

/- Package op: the coder reads a number that is there. -/
namespace Go.Proofs.YtclpmkinjjhncaaGreat
open Go.RowKit

/-- What a step of the coder leaves that reads into block b, whose cells are now cs. -/
def CoGot (gk gx b : Nat) (tb : TypeId) (cs : Array Value) (s : Sp.Bs) (a : Nat) (w : World) (e : Ending) (w' : World) : Prop :=
  e = .returned (.tuple #[]) ∧ Blk w' gk 289 (coCs gx s a true false) ∧ Blk w' b tb cs ∧ Turns (fun c => c = gk ∨ c = b) (fun c => c = gk ∨ c = b) w w'
theorem get_here {s t : Sp.Bs} {a k n : Nat} (hc : s.drop a = Sp.be k n ++ t) (hk : 0 < k) (hn : n < 256 ^ k) : a + k ≤ s.length ∧ Sp.num ((s.drop a).take k) = n ∧ s.drop (a + k) = t := by
  have hl := congrArg List.length hc
  rw [List.length_drop, List.length_append, Sp.be_length] at hl
  refine ⟨by omega, ?_, ?_⟩
  · rw [hc, List.take_left' (Sp.be_length k n), Sp.num_be_lt hn]
  · rw [← List.drop_drop, hc, List.drop_left' (Sp.be_length k n)]

set_option maxRecDepth 100000 in
set_option maxHeartbeats 4000000 in
theorem num_get8 {w : World} {gk gx b o n a most : Nat} {tb : TypeId} {cs : Array Value} {s t : Sp.Bs} {v0 : Value} (hK : Blk w gk 289 (coCs gx s a true false)) (hX : Blk w b tb cs) (hx : cs[o]? = some v0) (hne : b ≠ gk) (hc : s.drop a = Sp.be 1 n ++ t) (hn : n < 256) (hm : n ≤ most) (hs : s.length ≤ 100000000) :
    Calls Tryz.prog 250 #[ptr gk, .pointer (some ⟨b, o, none⟩), .int .i64 1, .int .u64 most] w (CoGot gk gx b tb (cs.setIfInBounds o (.int .u8 n)) s (a + 1) w) := by
  obtain ⟨ha, hnum, -⟩ := get_here hc (by omega) (by omega)
  have HP := Lib.hid fun (W : World) => word_get s a 1 W (by omega) (by omega) (by omega) (by omega)
  rw [hnum] at HP
  clear hnum hc
  have d1 : decide ((most : Int) < (n : Int)) = false := by simp; omega
  have hw : IntKind.u8.wrap (n : Int) = (n : Int) := by simp [IntKind.wrap, IntKind.signed, IntKind.bits]; omega
  have k1 := hK.cell 1
  have k2 := hK.cell 2
  have k3 := hK.cell 3
  simp only [coCs, List.getElem?_toArray, List.getElem?_cons_succ, List.getElem?_cons_zero] at k1 k2 k3
  have HK := Lib.hid hK
  have HX := Lib.hid hX
  have hbl := hX.lt
  have hkl := hK.lt
  clear hK hX
  go_enter Tryz.func250, Tryz.ntmps250
  go_wp2_with fail
  go_region_with (go_at_call 131; refine (HP.out _).mono ?_; rintro e w1 ⟨rfl, hb⟩)
  all_goals
    have hb2 : Below w.heap.size w w1 := (below_drewN' (Below.refl w.heap.size w) 1).trans hb
    have hK1 := HK.out.below hb2 hkl
    have hX1 := HX.out.below hb2 hbl
    have hK2 := hK1.set_ 2 (.int .i64 ((a : Int) + 1))
    clear k1 k2 k3
    have k2 := hK1.cell 2
    have f2 := hK1.frozen 2
    have k4 := hK2.cell 4
    have f4 := hK2.frozen 4
    simp only [coCs, List.setIfInBounds_toArray, List.set_cons_succ, List.set_cons_zero, List.getElem?_toArray, List.getElem?_cons_succ, List.getElem?_cons_zero] at k2 k4
    have x0 := (hX1.cell o).trans hx
    have fx := hX1.frozen o
    go_wp2_with fail
    go_end0
    have d2 : decide (most < n) = false := by simp; omega
    rw [d2]
    refine ⟨rfl, (hK2.set_ 4 (.bool false)).far (p := ⟨b, o, none⟩) (fun e => hne e.symm) _, ((hX1.far (p := ⟨gk, 2, none⟩) hne _).far (p := ⟨gk, 4, none⟩) hne _).set_ o _, ?_⟩
    exact (((Turns.of_below hb2 _).setCell (p := ⟨gk, 2, none⟩) (.inl (.inl rfl)) _).setCell (p := ⟨gk, 4, none⟩) (.inl (.inl rfl)) _).setCell (p := ⟨b, o, none⟩) (.inl (.inr rfl)) _

set_option maxRecDepth 100000 in
set_option maxHeartbeats 4000000 in
theorem num_get32 {w : World} {gk gx b o n a most : Nat} {tb : TypeId} {cs : Array Value} {s t : Sp.Bs} {v0 : Value} (hK : Blk w gk 289 (coCs gx s a true false)) (hX : Blk w b tb cs) (hx : cs[o]? = some v0) (hne : b ≠ gk) (hc : s.drop a = Sp.be 4 n ++ t) (hn : n < 4294967296) (hm : n ≤ most) (hs : s.length ≤ 100000000) :
    Calls Tryz.prog 251 #[ptr gk, .pointer (some ⟨b, o, none⟩), .int .i64 4, .int .u64 most] w (CoGot gk gx b tb (cs.setIfInBounds o (.int .u32 n)) s (a + 4) w) := by
  obtain ⟨ha, hnum, -⟩ := get_here hc (by omega) (by omega)
  have HP := Lib.hid fun (W : World) => word_get s a 4 W (by omega) (by omega) (by omega) (by omega)
  rw [hnum] at HP
  clear hnum hc
  have d1 : decide ((most : Int) < (n : Int)) = false := by simp; omega
  have hw : IntKind.u32.wrap (n : Int) = (n : Int) := by simp [IntKind.wrap, IntKind.signed, IntKind.bits]; omega
  have k1 := hK.cell 1
  have k2 := hK.cell 2
  have k3 := hK.cell 3
  simp only [coCs, List.getElem?_toArray, List.getElem?_cons_succ, List.getElem?_cons_zero] at k1 k2 k3
  have HK := Lib.hid hK
  have HX := Lib.hid hX
  have hbl := hX.lt
  have hkl := hK.lt
  clear hK hX
  go_enter Tryz.func251, Tryz.ntmps251
  go_wp2_with fail
  go_region_with (go_at_call 131; refine (HP.out _).mono ?_; rintro e w1 ⟨rfl, hb⟩)
  all_goals
    have hb2 : Below w.heap.size w w1 := (below_drewN' (Below.refl w.heap.size w) 1).trans hb
    have hK1 := HK.out.below hb2 hkl
    have hX1 := HX.out.below hb2 hbl
    have hK2 := hK1.set_ 2 (.int .i64 ((a : Int) + 4))
    clear k1 k2 k3
    have k2 := hK1.cell 2
    have f2 := hK1.frozen 2
    have k4 := hK2.cell 4
    have f4 := hK2.frozen 4
    simp only [coCs, List.setIfInBounds_toArray, List.set_cons_succ, List.set_cons_zero, List.getElem?_toArray, List.getElem?_cons_succ, List.getElem?_cons_zero] at k2 k4
    have x0 := (hX1.cell o).trans hx
    have fx := hX1.frozen o
    go_wp2_with fail
    go_end0
    have d2 : decide (most < n) = false := by simp; omega
    rw [d2]
    refine ⟨rfl, (hK2.set_ 4 (.bool false)).far (p := ⟨b, o, none⟩) (fun e => hne e.symm) _, ((hX1.far (p := ⟨gk, 2, none⟩) hne _).far (p := ⟨gk, 4, none⟩) hne _).set_ o _, ?_⟩
    exact (((Turns.of_below hb2 _).setCell (p := ⟨gk, 2, none⟩) (.inl (.inl rfl)) _).setCell (p := ⟨gk, 4, none⟩) (.inl (.inl rfl)) _).setCell (p := ⟨b, o, none⟩) (.inl (.inr rfl)) _

set_option maxRecDepth 100000 in
set_option maxHeartbeats 4000000 in
theorem num_getI {w : World} {gk gx b o n a most : Nat} {tb : TypeId} {cs : Array Value} {s t : Sp.Bs} {v0 : Value} (hK : Blk w gk 289 (coCs gx s a true false)) (hX : Blk w b tb cs) (hx : cs[o]? = some v0) (hne : b ≠ gk) (hc : s.drop a = Sp.be 2 n ++ t) (hn : n < 65536) (hm : n ≤ most) (hs : s.length ≤ 100000000) :
    Calls Tryz.prog 284 #[ptr gk, .pointer (some ⟨b, o, none⟩), .int .i64 2, .int .u64 most] w (CoGot gk gx b tb (cs.setIfInBounds o (.int .i64 n)) s (a + 2) w) := by
  obtain ⟨ha, hnum, -⟩ := get_here hc (by omega) (by omega)
  have HP := Lib.hid fun (W : World) => word_get s a 2 W (by omega) (by omega) (by omega) (by omega)
  rw [hnum] at HP
  clear hnum hc
  have d1 : decide ((most : Int) < (n : Int)) = false := by simp; omega
  have hw : IntKind.i64.wrap (n : Int) = (n : Int) := by simp [IntKind.wrap, IntKind.signed, IntKind.bits]; omega
  have k1 := hK.cell 1
  have k2 := hK.cell 2
  have k3 := hK.cell 3
  simp only [coCs, List.getElem?_toArray, List.getElem?_cons_succ, List.getElem?_cons_zero] at k1 k2 k3
  have HK := Lib.hid hK
  have HX := Lib.hid hX
  have hbl := hX.lt
  have hkl := hK.lt
  clear hK hX
  go_enter Tryz.func284, Tryz.ntmps284
  go_wp2_with fail
  go_region_with (go_at_call 131; refine (HP.out _).mono ?_; rintro e w1 ⟨rfl, hb⟩)
  all_goals
    have hb2 : Below w.heap.size w w1 := (below_drewN' (Below.refl w.heap.size w) 1).trans hb
    have hK1 := HK.out.below hb2 hkl
    have hX1 := HX.out.below hb2 hbl
    have hK2 := hK1.set_ 2 (.int .i64 ((a : Int) + 2))
    clear k1 k2 k3
    have k2 := hK1.cell 2
    have f2 := hK1.frozen 2
    have k4 := hK2.cell 4
    have f4 := hK2.frozen 4
    simp only [coCs, List.setIfInBounds_toArray, List.set_cons_succ, List.set_cons_zero, List.getElem?_toArray, List.getElem?_cons_succ, List.getElem?_cons_zero] at k2 k4
    have x0 := (hX1.cell o).trans hx
    have fx := hX1.frozen o
    go_wp2_with fail
    go_end0
    have d2 : decide (most < n) = false := by simp; omega
    rw [d2]
    refine ⟨rfl, (hK2.set_ 4 (.bool false)).far (p := ⟨b, o, none⟩) (fun e => hne e.symm) _, ((hX1.far (p := ⟨gk, 2, none⟩) hne _).far (p := ⟨gk, 4, none⟩) hne _).set_ o _, ?_⟩
    exact (((Turns.of_below hb2 _).setCell (p := ⟨gk, 2, none⟩) (.inl (.inl rfl)) _).setCell (p := ⟨gk, 4, none⟩) (.inl (.inl rfl)) _).setCell (p := ⟨b, o, none⟩) (.inl (.inr rfl)) _
end Go.Proofs.YtclpmkinjjhncaaGreat

/- Package op, plain: the parts of an op by its kind, their bytes, and what is written. -/
namespace Go.Proofs.YtclpmkinjjhncaaGreat
open Go.RowKit

inductive Sp.Pt where
  | kind | level | next | place | off | text | rows
/-- Which parts an op has, by its kind. -/
def Sp.parts : Nat → Option (List Sp.Pt)
  | 1 => some [.kind, .level, .next]
  | 2 => some [.place, .text]
  | 3 => some [.place, .text]
  | 4 => some [.place]
  | 5 => some [.place]
  | 6 => some [.rows]
  | 7 => some [.next]
  | 8 => some [.place, .off, .text]
  | _ => none
def Sp.Co.part (o : Sp.Op) (k : Sp.Co) : Sp.Pt → Sp.Co
  | .kind => k.n1 o.pk 5
  | .level => k.n1 o.lv 255
  | .next => k.n4 o.nx 1024
  | .place => k.n2 o.at_
  | .off => k.n2 o.off
  | .text => k.piece o.text
  | .rows => k.rows o.rows
/-- What is written of a whole op. -/
def Sp.Co.op (k : Sp.Co) (o : Sp.Op) : Sp.Co :=
  match Sp.parts o.kind with
  | none => ⟨((k.n1 o.kind 255).n4 o.page 1024).s, true⟩
  | some l => l.foldl (fun k p => k.part o p) ⟨((k.n1 o.kind 255).n4 o.page 1024).s, ((k.n1 o.kind 255).n4 o.page 1024).bad || decide (o.page < 1)⟩
def Sp.pieceB (t : Sp.Bs) : Sp.Bs := Sp.be 2 t.length ++ t
def Sp.partB (o : Sp.Op) : Sp.Pt → Sp.Bs
  | .kind => Sp.be 1 o.pk
  | .level => Sp.be 1 o.lv
  | .next => Sp.be 4 o.nx
  | .place => Sp.be 2 o.at_.toNat
  | .off => Sp.be 2 o.off.toNat
  | .text => Sp.pieceB o.text
  | .rows => Sp.be 2 o.rows.length ++ (o.rows.flatMap Sp.pieceB)
def Sp.partMay (o : Sp.Op) : Sp.Pt → Bool
  | .kind => decide (o.pk ≤ 5)
  | .level => true
  | .next => decide (o.nx ≤ 1024)
  | .place => decide (0 ≤ o.at_ ∧ o.at_ ≤ 488)
  | .off => decide (0 ≤ o.off ∧ o.off ≤ 488)
  | .text => decide (o.text.length ≤ 488)
  | .rows => decide (o.rows.length ≤ 488 ∧ Sp.total o.rows ≤ 488)
def Sp.opFits (o : Sp.Op) : Bool :=
  match Sp.parts o.kind with
  | none => false
  | some l => decide (1 ≤ o.page ∧ o.page ≤ 1024) && l.all (Sp.partMay o)
def Sp.opBytes (o : Sp.Op) : Sp.Bs := Sp.be 1 o.kind ++ (Sp.be 4 o.page ++ (((Sp.parts o.kind).getD []).flatMap (Sp.partB o)))

theorem Sp.Co.n2_ok {k : Sp.Co} {z : Int} (hk : k.bad = false) (h : 0 ≤ z ∧ z ≤ 488) : k.n2 z = ⟨k.s ++ Sp.be 2 z.toNat, false⟩ := by
  unfold Sp.Co.n2
  rw [if_pos (by omega), hk]
  have : decide (488 < z.toNat) = false := by simp; omega
  rw [this]
  rfl
theorem Sp.Co.n2_bad {k : Sp.Co} {z : Int} (h : k.bad = true ∨ ¬ (0 ≤ z ∧ z ≤ 488)) : (k.n2 z).bad = true := by
  unfold Sp.Co.n2
  split
  · rcases h with h | h
    · simp [h]
    · simp; right; omega
  · rfl
theorem Sp.Co.piece_ok {k : Sp.Co} {t : Sp.Bs} (hk : k.bad = false) (h : t.length ≤ 488) : k.piece t = ⟨k.s ++ Sp.pieceB t, false⟩ := by
  unfold Sp.Co.piece Sp.pieceB
  rw [Sp.Co.n2_ok hk (by omega)]
  simp
theorem Sp.Co.piece_bad {k : Sp.Co} {t : Sp.Bs} (h : k.bad = true ∨ 488 < t.length) : (k.piece t).bad = true := by
  have h2 : k.bad = true ∨ ¬ (0 ≤ (t.length : Int) ∧ (t.length : Int) ≤ 488) := h.imp_right (fun h => by omega)
  obtain ⟨q, hq⟩ : ∃ q, k.n2 (t.length : Int) = q := ⟨_, rfl⟩
  have h3 := Sp.Co.n2_bad h2
  rw [hq] at h3
  have e : k.piece t = ⟨q.s ++ t, q.bad⟩ := by
    unfold Sp.Co.piece
    rw [hq]
  rw [e]
  exact h3
theorem Sp.Co.rowsGo_ok : ∀ (l : List Sp.Bs) {k : Sp.Co} {all : Nat}, k.bad = false → all + Sp.total l ≤ 488 → k.rowsGo all l = ⟨k.s ++ l.flatMap Sp.pieceB, false⟩
  | [], k, all, hk, _ => by unfold Sp.Co.rowsGo; cases k; simp at hk; simp [hk]
  | r :: l, k, all, hk, h => by
    rw [Sp.total_cons] at h
    unfold Sp.Co.rowsGo
    rw [Sp.Co.piece_ok hk (by omega), if_neg (by simp; omega), Sp.Co.rowsGo_ok l rfl (by omega)]
    simp
theorem Sp.Co.rowsGo_bad : ∀ (l : List Sp.Bs) {k : Sp.Co} {all : Nat}, 488 < all + Sp.total l → all ≤ 488 → (k.rowsGo all l).bad = true
  | [], k, all, h, h2 => by simp at h; omega
  | r :: l, k, all, h, h2 => by
    rw [Sp.total_cons] at h
    unfold Sp.Co.rowsGo
    split
    · rfl
    · rename_i hc
      simp at hc
      exact Sp.Co.rowsGo_bad l (by omega) (by omega)
theorem Sp.Co.rows_ok {k : Sp.Co} {l : List Sp.Bs} (hk : k.bad = false) (h : l.length ≤ 488 ∧ Sp.total l ≤ 488) : k.rows l = ⟨k.s ++ (Sp.be 2 l.length ++ l.flatMap Sp.pieceB), false⟩ := by
  unfold Sp.Co.rows
  rw [Sp.Co.n2_ok hk (by omega), if_neg (by simp), Sp.Co.rowsGo_ok l rfl (by omega)]
  simp
theorem Sp.Co.rows_bad {k : Sp.Co} {l : List Sp.Bs} (h : k.bad = true ∨ ¬ (l.length ≤ 488 ∧ Sp.total l ≤ 488)) : (k.rows l).bad = true := by
  unfold Sp.Co.rows
  split
  · assumption
  · rename_i hb
    rcases h with h | h
    · exact absurd (Sp.Co.n2_bad (.inl h)) hb
    · by_cases hl : l.length ≤ 488
      · exact Sp.Co.rowsGo_bad l (by omega) (by omega)
      · exact absurd (Sp.Co.n2_bad (.inr (by omega))) hb
theorem Sp.Co.part_ok {o : Sp.Op} (ho : o.Ok) {k : Sp.Co} {p : Sp.Pt} (hk : k.bad = false) (h : Sp.partMay o p = true) : k.part o p = ⟨k.s ++ Sp.partB o p, false⟩ := by
  cases p <;> simp only [Sp.partMay, decide_eq_true_eq] at h <;> simp only [Sp.Co.part, Sp.partB]
  · unfold Sp.Co.n1
    rw [hk, show decide (5 < o.pk) = false by simp; omega]; rfl
  · unfold Sp.Co.n1
    have := ho.lv
    rw [hk, show decide (255 < o.lv) = false by simp; omega]; rfl
  · unfold Sp.Co.n4
    rw [hk, show decide (1024 < o.nx) = false by simp; omega]; rfl
  · exact Sp.Co.n2_ok hk h
  · exact Sp.Co.n2_ok hk h
  · exact Sp.Co.piece_ok hk h
  · exact Sp.Co.rows_ok hk h
theorem Sp.Co.part_bad {o : Sp.Op} {k : Sp.Co} {p : Sp.Pt} (h : k.bad = true ∨ Sp.partMay o p = false) : (k.part o p).bad = true := by
  cases p <;> simp only [Sp.partMay, decide_eq_false_iff_not] at h <;> simp only [Sp.Co.part]
  · unfold Sp.Co.n1
    rcases h with h | h
    · simp [h]
    · simp; right; omega
  · unfold Sp.Co.n1
    rcases h with h | h
    · simp [h]
    · exact absurd h (by decide)
  · unfold Sp.Co.n4
    rcases h with h | h
    · simp [h]
    · simp; right; omega
  · exact Sp.Co.n2_bad h
  · exact Sp.Co.n2_bad h
  · exact Sp.Co.piece_bad (by rcases h with h | h; exact .inl h; exact .inr (by omega))
  · exact Sp.Co.rows_bad h
theorem Sp.Co.parts_ok {o : Sp.Op} (ho : o.Ok) : ∀ (l : List Sp.Pt) {k : Sp.Co}, k.bad = false → l.all (Sp.partMay o) = true → l.foldl (fun k p => k.part o p) k = ⟨k.s ++ l.flatMap (Sp.partB o), false⟩
  | [], k, hk, _ => by cases k; simp at hk; simp [hk]
  | p :: l, k, hk, h => by
    rw [List.all_cons, Bool.and_eq_true] at h
    rw [List.foldl_cons, Sp.Co.part_ok ho hk h.1, Sp.Co.parts_ok ho l rfl h.2]
    simp
theorem Sp.Co.parts_bad {o : Sp.Op} : ∀ (l : List Sp.Pt) {k : Sp.Co}, (k.bad = true ∨ l.all (Sp.partMay o) = false) → (l.foldl (fun k p => k.part o p) k).bad = true
  | [], k, h => by
    rcases h with h | h
    · exact h
    · exact absurd h (by simp)
  | p :: l, k, h => by
    rw [List.foldl_cons]
    apply Sp.Co.parts_bad l
    by_cases hp : Sp.partMay o p = true
    · rcases h with h | h
      · exact .inl (Sp.Co.part_bad (.inl h))
      · rw [List.all_cons, hp, Bool.true_and] at h
        exact .inr h
    · exact .inl (Sp.Co.part_bad (.inr (by simpa using hp)))
theorem Sp.Co.op_ok {o : Sp.Op} (ho : o.Ok) {k : Sp.Co} (hk : k.bad = false) (h : Sp.opFits o = true) : k.op o = ⟨k.s ++ Sp.opBytes o, false⟩ := by
  unfold Sp.opFits at h
  unfold Sp.Co.op Sp.opBytes
  cases hp : Sp.parts o.kind with
  | none => rw [hp] at h; exact absurd h (by simp)
  | some l =>
    rw [hp] at h
    simp only [Bool.and_eq_true, decide_eq_true_eq] at h
    obtain ⟨h1, h2⟩ := h
    have hkd := ho.kind
    dsimp only
    rw [Sp.Co.parts_ok ho l (by unfold Sp.Co.n1 Sp.Co.n4; simp [hk]; omega) h2]
    unfold Sp.Co.n1 Sp.Co.n4
    simp
theorem Sp.Co.op_bad {o : Sp.Op} {k : Sp.Co} (h : Sp.opFits o = false) : (k.op o).bad = true := by
  unfold Sp.opFits at h
  unfold Sp.Co.op
  cases hp : Sp.parts o.kind with
  | none => rfl
  | some l =>
    rw [hp] at h
    dsimp only at h ⊢
    apply Sp.Co.parts_bad
    rw [Bool.and_eq_false_iff] at h
    rcases h with h | h
    · left
      simp only [decide_eq_false_iff_not] at h
      unfold Sp.Co.n1 Sp.Co.n4
      simp
      omega
    · exact .inr h

/-- An op of what its kind has alone. -/
def Sp.Op.only (o : Sp.Op) : Sp.Op :=
  match o.kind with
  | 1 => ⟨o.kind, o.page, 0, 0, [], [], o.pk, o.lv, o.nx⟩
  | 2 => ⟨o.kind, o.page, o.at_, 0, o.text, [], 0, 0, 0⟩
  | 3 => ⟨o.kind, o.page, o.at_, 0, o.text, [], 0, 0, 0⟩
  | 4 => ⟨o.kind, o.page, o.at_, 0, [], [], 0, 0, 0⟩
  | 5 => ⟨o.kind, o.page, o.at_, 0, [], [], 0, 0, 0⟩
  | 6 => ⟨o.kind, o.page, 0, 0, [], o.rows, 0, 0, 0⟩
  | 7 => ⟨o.kind, o.page, 0, 0, [], [], 0, 0, o.nx⟩
  | 8 => ⟨o.kind, o.page, o.at_, o.off, o.text, [], 0, 0, 0⟩
  | _ => ⟨o.kind, o.page, 0, 0, [], [], 0, 0, 0⟩
/-- May an op be? -/
def Sp.opMay (o : Sp.Op) : Bool := Sp.opFits o && decide (o.only = o)
end Go.Proofs.YtclpmkinjjhncaaGreat

/- Package op: the coder reads the parts of an op that are numbers, and a text. -/
namespace Go.Proofs.YtclpmkinjjhncaaGreat
open Go.RowKit

/-- A call that turned old blocks of F and new ones alone, behind new ones. -/
theorem Turns.over {F F1 F1' : Foot} {w w0 w1 : World} (hb : Below w.heap.size w w0) (h : Turns F1 F1' w0 w1) (hF : ∀ c, F1 c → F c ∨ w.heap.size ≤ c) : Turns F F w w1 :=
  ⟨h.os.trans hb.os, h.tape.trans hb.tape, h.output.trans hb.output, Nat.le_trans hb.size h.size, fun c hc hn => (h.block c (Nat.lt_of_lt_of_le hc hb.size) (fun h1 => by
      rcases hF c h1 with h2 | h2
      · exact hn h2
      · omega)).trans (hb.block c hc), fun _ h => .inl h⟩
section
variable {w : World} {gk gx a : Nat} {s t : Sp.Bs}
set_option maxRecDepth 100000 in
set_option maxHeartbeats 1000000 in
theorem co_placeR {cs : Array Value} {v0 : Value} {n : Nat} (hK : Blk w gk 289 (coCs gx s a true false)) (hX : Blk w gx 28 cs) (hx : cs[2]? = some v0) (hc : s.drop a = Sp.be 2 n ++ t) (hn : n < 65536) (hm : n ≤ 488) (hs : s.length ≤ 100000000) :
    Calls Tryz.prog 255 #[ptr gk] w (CoGot gk gx gx 28 (cs.setIfInBounds 2 (.int .i64 n)) s (a + 2) w) := by
  have hne := hX.ne_ hK (by decide)
  have k0 := hK.cell 0
  simp only [coCs, List.getElem?_toArray, List.getElem?_cons_zero] at k0
  have HN := Lib.hid (num_getI hK hX hx hne hc hn hm hs)
  clear hX hK hx
  go_enter Tryz.func255, Tryz.ntmps255
  go_wp2_with fail
  refine HN.out.mono ?_
  rintro e w1 ⟨rfl, h2, h3, h4⟩
  go_wp2_with fail
  go_end0
  exact ⟨rfl, h2, h3, h4⟩
set_option maxRecDepth 100000 in
set_option maxHeartbeats 1000000 in
theorem co_offR {cs : Array Value} {v0 : Value} {n : Nat} (hK : Blk w gk 289 (coCs gx s a true false)) (hX : Blk w gx 28 cs) (hx : cs[3]? = some v0) (hc : s.drop a = Sp.be 2 n ++ t) (hn : n < 65536) (hm : n ≤ 488) (hs : s.length ≤ 100000000) :
    Calls Tryz.prog 258 #[ptr gk] w (CoGot gk gx gx 28 (cs.setIfInBounds 3 (.int .i64 n)) s (a + 2) w) := by
  have hne := hX.ne_ hK (by decide)
  have k0 := hK.cell 0
  simp only [coCs, List.getElem?_toArray, List.getElem?_cons_zero] at k0
  have HN := Lib.hid (num_getI hK hX hx hne hc hn hm hs)
  clear hX hK hx
  go_enter Tryz.func258, Tryz.ntmps258
  go_wp2_with fail
  refine HN.out.mono ?_
  rintro e w1 ⟨rfl, h2, h3, h4⟩
  go_wp2_with fail
  go_end0
  exact ⟨rfl, h2, h3, h4⟩
set_option maxRecDepth 100000 in
set_option maxHeartbeats 1000000 in
theorem co_kindR {cs : Array Value} {v0 : Value} {n : Nat} (hK : Blk w gk 289 (coCs gx s a true false)) (hX : Blk w gx 28 cs) (hx : cs[6]? = some v0) (hc : s.drop a = Sp.be 1 n ++ t) (hn : n < 256) (hm : n ≤ 5) (hs : s.length ≤ 100000000) :
    Calls Tryz.prog 252 #[ptr gk] w (CoGot gk gx gx 28 (cs.setIfInBounds 6 (.int .u8 n)) s (a + 1) w) := by
  have hne := hX.ne_ hK (by decide)
  have k0 := hK.cell 0
  simp only [coCs, List.getElem?_toArray, List.getElem?_cons_zero] at k0
  have HN := Lib.hid (num_get8 hK hX hx hne hc hn hm hs)
  clear hX hK hx
  go_enter Tryz.func252, Tryz.ntmps252
  go_wp2_with fail
  refine HN.out.mono ?_
  rintro e w1 ⟨rfl, h2, h3, h4⟩
  go_wp2_with fail
  go_end0
  exact ⟨rfl, h2, h3, h4⟩
set_option maxRecDepth 100000 in
set_option maxHeartbeats 1000000 in
theorem co_levelR {cs : Array Value} {v0 : Value} {n : Nat} (hK : Blk w gk 289 (coCs gx s a true false)) (hX : Blk w gx 28 cs) (hx : cs[7]? = some v0) (hc : s.drop a = Sp.be 1 n ++ t) (hn : n < 256) (hm : n ≤ 255) (hs : s.length ≤ 100000000) :
    Calls Tryz.prog 253 #[ptr gk] w (CoGot gk gx gx 28 (cs.setIfInBounds 7 (.int .u8 n)) s (a + 1) w) := by
  have hne := hX.ne_ hK (by decide)
  have k0 := hK.cell 0
  simp only [coCs, List.getElem?_toArray, List.getElem?_cons_zero] at k0
  have HN := Lib.hid (num_get8 hK hX hx hne hc hn hm hs)
  clear hX hK hx
  go_enter Tryz.func253, Tryz.ntmps253
  go_wp2_with fail
  refine HN.out.mono ?_
  rintro e w1 ⟨rfl, h2, h3, h4⟩
  go_wp2_with fail
  go_end0
  exact ⟨rfl, h2, h3, h4⟩
set_option maxRecDepth 100000 in
set_option maxHeartbeats 1000000 in
theorem co_nextR {cs : Array Value} {v0 : Value} {n : Nat} (hK : Blk w gk 289 (coCs gx s a true false)) (hX : Blk w gx 28 cs) (hx : cs[8]? = some v0) (hc : s.drop a = Sp.be 4 n ++ t) (hn : n < 4294967296) (hm : n ≤ 1024) (hs : s.length ≤ 100000000) :
    Calls Tryz.prog 254 #[ptr gk] w (CoGot gk gx gx 28 (cs.setIfInBounds 8 (.int .u32 n)) s (a + 4) w) := by
  have hne := hX.ne_ hK (by decide)
  have k0 := hK.cell 0
  simp only [coCs, List.getElem?_toArray, List.getElem?_cons_zero] at k0
  have HN := Lib.hid (num_get32 hK hX hx hne hc hn hm hs)
  clear hX hK hx
  go_enter Tryz.func254, Tryz.ntmps254
  go_wp2_with fail
  refine HN.out.mono ?_
  rintro e w1 ⟨rfl, h2, h3, h4⟩
  go_wp2_with fail
  go_end0
  exact ⟨rfl, h2, h3, h4⟩
set_option maxRecDepth 100000 in
set_option maxHeartbeats 4000000 in
theorem co_pieceR {b o : Nat} {tb : TypeId} {cs : Array Value} {u : Sp.Bs} (hK : Blk w gk 289 (coCs gx s a true false)) (hX : Blk w b tb cs) (hx : cs[o]? = some (str [])) (hne : b ≠ gk) (hc : s.drop a = Sp.pieceB u ++ t) (hu : u.length ≤ 488) (hs : s.length ≤ 100000000) :
    Calls Tryz.prog 285 #[ptr gk, .pointer (some ⟨b, o, none⟩)] w (CoGot gk gx b tb (cs.setIfInBounds o (str u)) s (a + (2 + u.length)) w) := by
  have hc1 : s.drop a = Sp.be 2 u.length ++ (u ++ t) := by rw [hc, Sp.pieceB, List.append_assoc]
  obtain ⟨ha, -, hc2⟩ := get_here hc1 (by omega) (by omega)
  have hcut : (s.drop (a + 2)).take u.length = u := by rw [hc2, List.take_left]
  have hl : a + 2 + u.length ≤ s.length := by
    have := congrArg List.length hc2
    rw [List.length_drop, List.length_append] at this
    omega
  have HP := Lib.hid fun (W : World) => word_cut s (a + 2) u.length W (by omega) (by omega)
  rw [hcut] at HP
  have hK0 := hK.alloc (.cells #[.int .i64 ((0 : Nat) : Int)] 3)
  have hX0 := hX.alloc (.cells #[.int .i64 ((0 : Nat) : Int)] 3)
  have hB0 := Blk.new w 3 #[.int .i64 ((0 : Nat) : Int)]
  have hx0 := (hX.cell o).trans hx
  have hkl := hK.lt
  have hbl := hX.lt
  have HN := Lib.hid (num_getI (gx := gx) (b := w.heap.size) (o := 0) (most := 488) hK0 hB0 (v0 := .int .i64 ((0 : Nat) : Int)) (by simp) (by omega) hc1 (by omega) hu hs)
  have HX := Lib.hid hX0
  clear hB0 hK hX hX0 hc hc1 hcut hc2
  go_enter Tryz.func285, Tryz.ntmps285
  go_wp2_with fail
  refine HN.out.mono ?_
  rintro e w1 ⟨rfl, h2, h3, h4⟩
  have k3 := h2.cell 3
  have k1 := h2.cell 1
  have k2 := h2.cell 2
  simp only [coCs, List.getElem?_toArray, List.getElem?_cons_succ, List.getElem?_cons_zero] at k1 k2 k3
  have m0 := h3.cell 0
  simp at m0
  have hX1 := HX.out.turns h4 (by omega)
  have HK1 := Lib.hid h2
  have HB1 := Lib.hid h3
  have hT : Turns (fun c => c = gk ∨ c = b) (fun c => c = gk ∨ c = b) w w1 := Turns.over ((Below.refl w.heap.size w).alloc (Nat.le_refl _) _) h4 (fun c hc => by rcases hc with rfl | rfl; exact .inl (.inl rfl); exact .inr (Nat.le_refl _))
  go_wp2_with fail
  go_quiet (first | (go_at_call 166; refine Calls.quiet_of_same ((HP.out _).mono (fun _ _ h => ⟨h.1, h.2.symm⟩))))
  have HK2 := (HK1.out.drewN (nq + 1)).set_ 2 (.int .i64 ((a : Int) + 2 + (u.length : Int)))
  have f2 := HK1.out.frozen 2
  have y4 := HK2.cell 4
  have f4 := HK2.frozen 4
  simp only [coCs, List.setIfInBounds_toArray, List.set_cons_succ, List.set_cons_zero, List.getElem?_toArray, List.getElem?_cons_succ, List.getElem?_cons_zero] at y4
  have hX2 := (hX1.drewN (nq + 1)).far (p := ⟨gk, 2, none⟩) hne (.int .i64 ((a : Int) + 2 + (u.length : Int)))
  have fx := hX2.frozen o
  have x0 := (hX2.cell o).trans hx
  have HX2 := Lib.hid hX2
  have HK3 := Lib.hid HK2
  clear HK2 h2 h3 hX2 hX1
  go_wp2_with fail
  go_region
  go_wp2_with fail
  go_end0
  have e2 : ((a + (2 + u.length) : Nat) : Int) = (a : Int) + 2 + (u.length : Int) := by omega
  refine ⟨rfl, ?_, (HX2.out.set_ o (str u)).far (p := ⟨gk, 4, none⟩) hne _, (((hT.drewN (nq + 1)).setCell (p := ⟨gk, 2, none⟩) (.inl (.inl rfl)) _).setCell (p := ⟨b, o, none⟩) (.inl (.inr rfl)) _).setCell (p := ⟨gk, 4, none⟩) (.inl (.inl rfl)) _⟩
  have h5 := (HK3.out.far (p := ⟨b, o, none⟩) (fun e => hne e.symm) (str u)).set_ 4 (.bool false)
  unfold coCs
  rw [e2]
  exact h5
end
end Go.Proofs.YtclpmkinjjhncaaGreat

/- Maps whose entries are told one by one: a new key, a key that is there; any values. No program is named here. -/
namespace Go.Proofs.YtclpmkinjjhncaaGreat
open Go.RowKit

/-- The world in which block r is this map. -/
def mapW (w : World) (r : Nat) (es : Array MapEntry) (clock : Nat) : World := { w with heap := w.heap.setIfInBounds r (.map es clock) }
theorem mapW_at {w : World} {r : Nat} {o : Obj} (h : w.heap[r]? = some o) (es : Array MapEntry) (clock : Nat) : (mapW w r es clock).heap[r]? = some (.map es clock) := (MapKept.heap_set h).1
theorem mapW_far {w : World} {r : Nat} {o : Obj} (h : w.heap[r]? = some o) (es : Array MapEntry) (clock : Nat) {b : Nat} (hb : b ≠ r) : (mapW w r es clock).heap[b]? = w.heap[b]? := (MapKept.heap_set h).2 b hb
theorem mapW_size (w : World) (r : Nat) (es : Array MapEntry) (clock : Nat) : (mapW w r es clock).heap.size = w.heap.size := by simp [mapW]
theorem below_mapW {B : Nat} {w0 w : World} (h : Below B w0 w) {r : Nat} {o : Obj} (hr : w.heap[r]? = some o) (hB : B ≤ r) (es : Array MapEntry) (clock : Nat) : Below B w0 (mapW w r es clock) :=
  ⟨h.os, h.tape, h.output, by rw [mapW_size]; exact h.size, fun b hb => (mapW_far hr es clock (by omega)).trans (h.block b hb)⟩
theorem Blk.mapW {w : World} {g : Nat} {t : TypeId} {cs : Array Value} (h : Blk w g t cs) {r : Nat} {o : Obj} (hr : w.heap[r]? = some o) (hne : g ≠ r) (es : Array MapEntry) (clock : Nat) : Blk (mapW w r es clock) g t cs := (mapW_far hr es clock hne).trans h

variable {P : Program} {w : World}
theorem run_update_new {mty kt et : TypeId} {d : TypeDesc} {r clock : Nat} {es : Array MapEntry} {k val : Value} (hm : P.underlying mty = some (.map kt et)) (hk : P.underlying kt = some d) (hkey : MapKept.IsKey d k) (hb : w.heap[r]? = some (.map es clock)) (hf : Instr.findNow d k es.toList 0 = some none) :
    (Instr.mapUpdate mty (.map (some r)) k val).run P w = .ok () (mapW w r (es.push { key := k, val := val, born := clock }) (clock + 1)) := by
  have hc : (Instr.checkKey false 10000 kt k).run P w = .ok () w := MapKept.run_checkKey hk hkey false 9999
  simp [Instr.mapUpdate, run_underlying hm, MapKept.run_getObj_map hb, hc, MapKept.run_findKey hk hf, MapKept.run_setObj_map _ hb, Result.andThen, mapW]
theorem run_lookup_there {mty kt et : TypeId} {d : TypeDesc} {r clock i : Nat} {es : Array MapEntry} {k v : Value} (hm : P.underlying mty = some (.map kt et)) (hk : P.underlying kt = some d) (hkey : MapKept.IsKey d k) (hb : w.heap[r]? = some (.map es clock)) (hf : Instr.findNow d k es.toList 0 = some (some (i, v))) :
    (Instr.lookup mty (.map (some r)) k true).run P w = .ok (.tuple #[v, .bool true]) w := by
  have hc : ∀ em, (Instr.checkKey em 10000 kt k).run P w = .ok () w := fun em => MapKept.run_checkKey hk hkey em 9999
  simp [Instr.lookup, run_underlying hm, MapKept.run_getObj_map hb, hc, MapKept.run_findKey hk hf, Result.andThen]
end Go.Proofs.YtclpmkinjjhncaaGreat

/- Package op: the coder goes through an op: which parts by its kind, whatever these do. -/
namespace Go.Proofs.YtclpmkinjjhncaaGreat
open Go.RowKit

def mapEs (vs : List Value) : Array MapEntry := (vs.mapIdx fun i v => { key := .int .u8 ((i + 1 : Nat) : Int), val := v, born := i }).toArray
theorem mapEs_push (vs : List Value) (v : Value) : (mapEs vs).push { key := .int .u8 ((vs.length + 1 : Nat) : Int), val := v, born := vs.length } = mapEs (vs ++ [v]) := by
  simp [mapEs, List.mapIdx_append]
/-- The functions of the parts. -/
def ptFn : Sp.Pt → Nat
  | .kind => 252
  | .level => 253
  | .next => 254
  | .place => 255
  | .off => 258
  | .text => 256
  | .rows => 257
/-- Parts that run one behind the other, and leave Q. -/
def PtRuns (gk : Nat) (F : Foot) (Q : World → Prop) : List Sp.Pt → World → Prop
  | [], w => Q w
  | p :: l, w => Calls Tryz.prog (ptFn p) #[ptr gk] w fun e w' => e = .returned (.tuple #[]) ∧ Turns F F w w' ∧ PtRuns gk F Q l w'
theorem op_ins {W w0 : World} {B mb : Nat} {vs : List Value} (hm : W.heap[mb]? = some (.map (mapEs vs) vs.length)) (hb : Below B w0 W) (hB : B ≤ mb) (fs : Array Value) (hf : Instr.findNow (.int .u8) (.int .u8 ((vs.length + 1 : Nat) : Int)) (mapEs vs).toList 0 = some none) :
    ∃ W', (Instr.mapUpdate 323 (.map (some mb)) (.int .u8 ((vs.length + 1 : Nat) : Int)) (.slice (some ⟨W.heap.size, 0, none⟩) fs.size fs.size)).run Tryz.prog (W.alloc (.cells fs 1)) = .ok () W' ∧
      W'.heap[mb]? = some (.map (mapEs (vs ++ [.slice (some ⟨W.heap.size, 0, none⟩) fs.size fs.size])) (vs ++ [Value.slice (some ⟨W.heap.size, 0, none⟩) fs.size fs.size]).length) ∧ Below B w0 W' ∧ Blk W' W.heap.size 1 fs ∧ W.heap.size < W'.heap.size ∧
      ∀ (g : Nat) (gs : Array Value), g ≠ mb → Blk W g 1 gs → Blk W' g 1 gs := by
  have hlt : mb < W.heap.size := by
    rcases Nat.lt_or_ge mb W.heap.size with h | h
    · exact h
    · rw [Array.getElem?_eq_none h] at hm; cases hm
  have hm1 : (W.alloc (.cells fs 1)).heap[mb]? = some (.map (mapEs vs) vs.length) := (Below.heap_alloc W _ mb hlt).trans hm
  have hb1 := hb.alloc (show B ≤ W.heap.size by omega) (.cells fs 1)
  refine ⟨_, run_update_new Tryz.underlying323 Tryz.underlying5 (by simp [MapKept.IsKey]) hm1 hf, ?_, below_mapW hb1 hm1 hB _ _, (Blk.new W 1 fs).mapW hm1 (by omega) _ _, by rw [mapW_size]; simp, fun g gs hg h => (h.alloc _).mapW hm1 hg _ _⟩
  rw [mapW_at hm1, mapEs_push]
  simp
theorem run_lookup_miss {P : Program} {w : World} {mty kt et : TypeId} {d : TypeDesc} {r clock : Nat} {es : Array MapEntry} {k z : Value} (hm : P.underlying mty = some (.map kt et)) (hk : P.underlying kt = some d) (hkey : MapKept.IsKey d k) (hb : w.heap[r]? = some (.map es clock)) (hf : Instr.findNow d k es.toList 0 = some none) (hz : (zeroValue et).run P w = .ok z w) :
    (Instr.lookup mty (.map (some r)) k true).run P w = .ok (.tuple #[z, .bool false]) w := by
  have hc : ∀ em, (Instr.checkKey em 10000 kt k).run P w = .ok () w := fun em => MapKept.run_checkKey hk hkey em 9999
  simp [Instr.lookup, run_underlying hm, MapKept.run_getObj_map hb, hc, MapKept.run_findKey hk hf, hz, Result.andThen]
/-- The functions that a slice of an op's parts holds. -/
def fnCs (gk : Nat) (l : List Sp.Pt) : Array Value := (l.map fun p => Value.func (.func (ptFn p)) #[ptr gk] #[]).toArray
/-- The parts by the kind, as the map tells them. -/
def PartsAt (gk B : Nat) (kind : Nat) (w : World) (v : Value) (b : Bool) : Prop :=
  (Sp.parts kind = none ∧ v = .slice none 0 0 ∧ b = false) ∨ ∃ l g, Sp.parts kind = some l ∧ v = .slice (some ⟨g, 0, none⟩) l.length l.length ∧ b = true ∧ B ≤ g ∧ Blk w g 1 (fnCs gk l)
set_option maxRecDepth 100000 in
theorem op_map (gk kind : Nat) (w : World) : ∃ w1 w2 w3 w4 w5 w6 w7 w8 v b,
    (Instr.mapUpdate 323 (.map (some w.heap.size)) (.int .u8 1) (.slice (some ⟨w.heap.size + 1, 0, none⟩) 3 3)).run Tryz.prog ((w.alloc (.map #[] 0)).alloc (.cells (fnCs gk [.kind, .level, .next]) 1)) = .ok () w1 ∧
    (Instr.mapUpdate 323 (.map (some w.heap.size)) (.int .u8 2) (.slice (some ⟨w1.heap.size, 0, none⟩) 2 2)).run Tryz.prog (w1.alloc (.cells (fnCs gk [.place, .text]) 1)) = .ok () w2 ∧
    (Instr.mapUpdate 323 (.map (some w.heap.size)) (.int .u8 3) (.slice (some ⟨w2.heap.size, 0, none⟩) 2 2)).run Tryz.prog (w2.alloc (.cells (fnCs gk [.place, .text]) 1)) = .ok () w3 ∧
    (Instr.mapUpdate 323 (.map (some w.heap.size)) (.int .u8 4) (.slice (some ⟨w3.heap.size, 0, none⟩) 1 1)).run Tryz.prog (w3.alloc (.cells (fnCs gk [.place]) 1)) = .ok () w4 ∧
    (Instr.mapUpdate 323 (.map (some w.heap.size)) (.int .u8 5) (.slice (some ⟨w4.heap.size, 0, none⟩) 1 1)).run Tryz.prog (w4.alloc (.cells (fnCs gk [.place]) 1)) = .ok () w5 ∧
    (Instr.mapUpdate 323 (.map (some w.heap.size)) (.int .u8 6) (.slice (some ⟨w5.heap.size, 0, none⟩) 1 1)).run Tryz.prog (w5.alloc (.cells (fnCs gk [.rows]) 1)) = .ok () w6 ∧
    (Instr.mapUpdate 323 (.map (some w.heap.size)) (.int .u8 7) (.slice (some ⟨w6.heap.size, 0, none⟩) 1 1)).run Tryz.prog (w6.alloc (.cells (fnCs gk [.next]) 1)) = .ok () w7 ∧
    (Instr.mapUpdate 323 (.map (some w.heap.size)) (.int .u8 8) (.slice (some ⟨w7.heap.size, 0, none⟩) 3 3)).run Tryz.prog (w7.alloc (.cells (fnCs gk [.place, .off, .text]) 1)) = .ok () w8 ∧
    Below w.heap.size w w8 ∧ (Instr.lookup 323 (.map (some w.heap.size)) (.int .u8 kind) true).run Tryz.prog w8 = .ok (.tuple #[v, .bool b]) w8 ∧ PartsAt gk w.heap.size kind w8 v b ∧ w.heap.size < w8.heap.size := by
  have hb0 : Below w.heap.size w (w.alloc (.map #[] 0)) := (Below.refl w.heap.size w).alloc (Nat.le_refl _) _
  have hm0 : (w.alloc (.map #[] 0)).heap[w.heap.size]? = some (.map (mapEs []) ([] : List Value).length) := heap_alloc_new w _
  have hs0 : (w.alloc (.map #[] 0)).heap.size = w.heap.size + 1 := by simp
  obtain ⟨w1, u1, m1, b1, g1, s1, k1⟩ := op_ins hm0 hb0 (Nat.le_refl _) (fnCs gk [.kind, .level, .next]) rfl
  obtain ⟨w2, u2, m2, b2, g2, s2, k2⟩ := op_ins m1 b1 (Nat.le_refl _) (fnCs gk [.place, .text]) rfl
  obtain ⟨w3, u3, m3, b3, g3, s3, k3⟩ := op_ins m2 b2 (Nat.le_refl _) (fnCs gk [.place, .text]) rfl
  obtain ⟨w4, u4, m4, b4, g4, s4, k4⟩ := op_ins m3 b3 (Nat.le_refl _) (fnCs gk [.place]) rfl
  obtain ⟨w5, u5, m5, b5, g5, s5, k5⟩ := op_ins m4 b4 (Nat.le_refl _) (fnCs gk [.place]) rfl
  obtain ⟨w6, u6, m6, b6, g6, s6, k6⟩ := op_ins m5 b5 (Nat.le_refl _) (fnCs gk [.rows]) rfl
  obtain ⟨w7, u7, m7, b7, g7, s7, k7⟩ := op_ins m6 b6 (Nat.le_refl _) (fnCs gk [.next]) rfl
  obtain ⟨w8, u8, m8, b8, g8, s8, k8⟩ := op_ins m7 b7 (Nat.le_refl _) (fnCs gk [.place, .off, .text]) rfl
  rw [hs0] at u1 s1
  have hz : (zeroValue 290).run Tryz.prog w8 = .ok (.slice none 0 0) w8 := by kernel_rfl
  have n1 : (w.alloc (.map #[] 0)).heap.size ≠ w.heap.size := by rw [hs0]; omega
  have n2 : w1.heap.size ≠ w.heap.size := by omega
  have n3 : w2.heap.size ≠ w.heap.size := by omega
  have n4 : w3.heap.size ≠ w.heap.size := by omega
  have n5 : w4.heap.size ≠ w.heap.size := by omega
  have n6 : w5.heap.size ≠ w.heap.size := by omega
  have n7 : w6.heap.size ≠ w.heap.size := by omega
  have hL : ∃ v b, (Instr.lookup 323 (.map (some w.heap.size)) (.int .u8 kind) true).run Tryz.prog w8 = .ok (.tuple #[v, .bool b]) w8 ∧ PartsAt gk w.heap.size kind w8 v b := by
    have hK : ∀ k : Nat, MapKept.IsKey (.int .u8) (.int .u8 (k : Int)) := fun k => by simp [MapKept.IsKey]
    rcases Nat.lt_or_ge kind 9 with h9 | h9
    · obtain rfl | rfl | rfl | rfl | rfl | rfl | rfl | rfl | rfl : kind = 0 ∨ kind = 1 ∨ kind = 2 ∨ kind = 3 ∨ kind = 4 ∨ kind = 5 ∨ kind = 6 ∨ kind = 7 ∨ kind = 8 := by omega
      · exact ⟨_, _, run_lookup_miss Tryz.underlying323 Tryz.underlying5 (hK 0) m8 rfl hz, .inl ⟨rfl, rfl, rfl⟩⟩
      · exact ⟨_, _, run_lookup_there Tryz.underlying323 Tryz.underlying5 (hK 1) m8 rfl, .inr ⟨_, _, rfl, rfl, rfl, by omega, k8 _ _ n1 (k7 _ _ n1 (k6 _ _ n1 (k5 _ _ n1 (k4 _ _ n1 (k3 _ _ n1 (k2 _ _ n1 g1))))))⟩⟩
      · exact ⟨_, _, run_lookup_there Tryz.underlying323 Tryz.underlying5 (hK 2) m8 rfl, .inr ⟨_, _, rfl, rfl, rfl, by omega, k8 _ _ n2 (k7 _ _ n2 (k6 _ _ n2 (k5 _ _ n2 (k4 _ _ n2 (k3 _ _ n2 g2)))))⟩⟩
      · exact ⟨_, _, run_lookup_there Tryz.underlying323 Tryz.underlying5 (hK 3) m8 rfl, .inr ⟨_, _, rfl, rfl, rfl, by omega, k8 _ _ n3 (k7 _ _ n3 (k6 _ _ n3 (k5 _ _ n3 (k4 _ _ n3 g3))))⟩⟩
      · exact ⟨_, _, run_lookup_there Tryz.underlying323 Tryz.underlying5 (hK 4) m8 rfl, .inr ⟨_, _, rfl, rfl, rfl, by omega, k8 _ _ n4 (k7 _ _ n4 (k6 _ _ n4 (k5 _ _ n4 g4)))⟩⟩
      · exact ⟨_, _, run_lookup_there Tryz.underlying323 Tryz.underlying5 (hK 5) m8 rfl, .inr ⟨_, _, rfl, rfl, rfl, by omega, k8 _ _ n5 (k7 _ _ n5 (k6 _ _ n5 g5))⟩⟩
      · exact ⟨_, _, run_lookup_there Tryz.underlying323 Tryz.underlying5 (hK 6) m8 rfl, .inr ⟨_, _, rfl, rfl, rfl, by omega, k8 _ _ n6 (k7 _ _ n6 g6)⟩⟩
      · exact ⟨_, _, run_lookup_there Tryz.underlying323 Tryz.underlying5 (hK 7) m8 rfl, .inr ⟨_, _, rfl, rfl, rfl, by omega, k8 _ _ n7 g7⟩⟩
      · exact ⟨_, _, run_lookup_there Tryz.underlying323 Tryz.underlying5 (hK 8) m8 rfl, .inr ⟨_, _, rfl, rfl, rfl, by omega, g8⟩⟩
    · obtain ⟨n, rfl⟩ : ∃ n, kind = n + 9 := ⟨kind - 9, by omega⟩
      refine ⟨_, _, run_lookup_miss Tryz.underlying323 Tryz.underlying5 (hK _) m8 ?_ hz, .inl ⟨rfl, rfl, rfl⟩⟩
      have hne : ∀ i : Int, i < 9 → ((n : Int) + 9 == i) = false := fun i hi => by rw [beq_eq_false_iff_ne]; omega
      simp [Instr.findNow, Instr.sameNow, mapEs, hne]
  obtain ⟨v, b, hl, hp⟩ := hL
  exact ⟨w1, w2, w3, w4, w5, w6, w7, w8, v, b, u1, u2, u3, u4, u5, u6, u7, u8, b8, hl, hp, by omega⟩
/-- What is bad behind an op's kind and page. -/
theorem parts_some {kind : Nat} {l : List Sp.Pt} (h : Sp.parts kind = some l) : l = [.kind, .level, .next] ∨ l = [.place, .text] ∨ l = [.place] ∨ l = [.rows] ∨ l = [.next] ∨ l = [.place, .off, .text] := by
  unfold Sp.parts at h
  split at h <;> simp at h <;> subst h <;> simp
def opBad (bad : Bool) (kind page : Nat) : Bool := bad || (Sp.parts kind).isNone || decide (page < 1)
set_option maxRecDepth 100000 in
set_option maxHeartbeats 4000000 in
theorem op_walk {w : World} {gk gx : Nat} {rd bad : Bool} {s : Sp.Bs} {a kind page : Nat} {cs : Array Value} {F : Foot} {Q : World → Prop} (k0 : w.cell? ⟨gk, 0, none⟩ = some (ptr gx)) (hcs0 : cs[0]? = some (.int .u8 kind)) (hcs1 : cs[1]? = some (.int .u32 page)) (hF : ∀ b, F b → b < w.heap.size)
    (H : Calls Tryz.prog 250 #[ptr gk, .pointer (some ⟨gx, 0, none⟩), .int .i64 1, .int .u64 255] w fun e w1 => e = .returned (.tuple #[]) ∧ w1.cell? ⟨gk, 0, none⟩ = some (ptr gx) ∧
      Calls Tryz.prog 251 #[ptr gk, .pointer (some ⟨gx, 1, none⟩), .int .i64 4, .int .u64 1024] w1 fun e w2 => e = .returned (.tuple #[]) ∧ w.heap.size ≤ w2.heap.size ∧ Blk w2 gk 289 (coCs gx s a rd bad) ∧ Blk w2 gx 28 cs ∧
        ∀ w3, Turns (only gk) (only gk) w2 w3 → Blk w3 gk 289 (coCs gx s a rd (opBad bad kind page)) → PtRuns gk F Q ((Sp.parts kind).getD []) w3) :
    Calls Tryz.prog 195 #[ptr gk] w fun e w' => e = .returned (.tuple #[]) ∧ Q w' := by
  have hmm := @run_makeMap Tryz.prog
  have hmf : ∀ (fn : Fn) (first cap : Array Value) (w : World), (Instr.makeFunc fn first cap).run Tryz.prog w = .ok (.func fn first cap) w := fun _ _ _ _ => rfl
  have HH := Lib.hid H
  clear H
  go_enter Tryz.func195, Tryz.ntmps195
  go_wp2_with fail
  refine HH.out.mono ?_
  rintro e w1 ⟨rfl, k1, H2⟩
  have HH2 := Lib.hid H2
  clear H2 HH k0
  go_wp2_with fail
  refine HH2.out.mono ?_
  rintro e w2 ⟨rfl, hsz, hK, hX, H3⟩
  have HH3 := Lib.hid H3
  clear H3 HH2 k1
  obtain ⟨v1, v2, v3, v4, v5, v6, v7, w8, v, b, u1, u2, u3, u4, u5, u6, u7, u8, hb8, hl, hp, hsz8⟩ := op_map gk kind w2
  simp only [fnCs, ptFn, List.map_cons, List.map_nil] at u1 u2 u3 u4 u5 u6 u7 u8
  have hK8 := hK.below hb8 hK.lt
  have hX8 := hX.below hb8 hX.lt
  have c0 := hK8.cell 0
  have x0 := (hX8.cell 0).trans hcs0
  have x1 := (hX8.cell 1).trans hcs1
  simp only [coCs, List.getElem?_toArray, List.getElem?_cons_zero] at c0
  have HK8 := Lib.hid hK8
  have HP := Lib.hid hp
  have HB8 := Lib.hid hb8
  clear hK8 hX8 hp hK hX hb8
  have hob : opBad bad kind page = (bad || !b || decide (page < 1)) := by
    unfold opBad
    rcases HP.out with ⟨h1, -, rfl⟩ | ⟨l, g, h1, -, rfl, -, -⟩ <;> rw [h1] <;> rfl
  go_upto_region 3 with fail
  go_cut [] from 71 to 91 (fun wx => Blk wx gk 289 (coCs gx s a rd (opBad bad kind page)) ∧ Turns (only gk) (only gk) w8 wx)
  case first =>
    have c4 := HK8.out.cell 4
    have f4 := HK8.out.frozen 4
    simp only [coCs, List.getElem?_toArray, List.getElem?_cons_succ, List.getElem?_cons_zero] at c4
    cases bad
    · cases b
      · go_wp2_with fail
        go_meet
        case rel => exact ⟨by rw [hob]; exact HK8.out.set_ 4 (.bool true), (Turns.refl (only gk) w8).setCell (p := ⟨gk, 4, none⟩) (.inl rfl) _⟩
      · by_cases hpg : page < 1
        · have d1 : decide ((page : Int) < 1) = true := by simp; omega
          go_wp2_with fail
          go_meet
          case rel => exact ⟨by rw [hob, decide_eq_true hpg]; exact HK8.out.set_ 4 (.bool true), (Turns.refl (only gk) w8).setCell (p := ⟨gk, 4, none⟩) (.inl rfl) _⟩
        · have d1 : decide ((page : Int) < 1) = false := by simp; omega
          go_wp2_with fail
          go_meet
          case rel => exact ⟨by rw [hob, decide_eq_false hpg]; exact HK8.out.set_ 4 (.bool false), (Turns.refl (only gk) w8).setCell (p := ⟨gk, 4, none⟩) (.inl rfl) _⟩
    · go_wp2_with fail
      go_meet
      case rel => exact ⟨by rw [hob]; exact HK8.out.set_ 4 (.bool true), (Turns.refl (only gk) w8).setCell (p := ⟨gk, 4, none⟩) (.inl rfl) _⟩
  case rest =>
    rename_i K8 hK8
    refine hK8 _ _ ?_
    obtain ⟨hKx, hTx⟩ := hcut
    clear u1 u2 u3 u4 u5 u6 u7 u8 hl hmm hmf c0 x0 x1
    have HR := Lib.hid (HH3.out _ ((Turns.of_below HB8.out (only gk)).trans hTx) hKx)
    rcases HP.out with ⟨h1, rfl, rfl⟩ | ⟨l, g, h1, rfl, rfl, hBg, hg⟩
    · go_wp2_with fail
      refine wp_loop_rounds 1 ?_
      rw [rounds_succ]
      go_wp2_with fail
      go_end0
      rw [h1] at HR
      exact ⟨rfl, HR.out⟩
    · have hgF : ¬ F g := fun h => by have := hF g h; omega
      have hgk : g ≠ gk := hg.ne_ HK8.out (by decide)
      have hgx := hg.turns hTx hgk
      rw [h1] at HR
      rcases parts_some h1 with rfl | rfl | rfl | rfl | rfl | rfl
      · go_wp2_with fail
        refine wp_loop_rounds 4 ?_
        rw [rounds_succ]
        have c0 := hgx.cell 0
        simp only [fnCs, ptFn, List.map_cons, List.map_nil, List.getElem?_toArray, List.getElem?_cons_zero] at c0
        go_wp2_with fail
        refine HR.out.mono ?_
        rintro e y1 ⟨rfl, t1, r1⟩
        have HR1 := Lib.hid r1
        have g1 := hgx.turns t1 hgF
        clear c0 r1 t1
        go_wp2_with fail
        rw [rounds_succ]
        have c1 := g1.cell 1
        simp only [fnCs, ptFn, List.map_cons, List.map_nil, List.getElem?_toArray, List.getElem?_cons_succ, List.getElem?_cons_zero] at c1
        go_wp2_with fail
        refine HR1.out.mono ?_
        rintro e y2 ⟨rfl, t2, r2⟩
        have HR2 := Lib.hid r2
        have g2 := g1.turns t2 hgF
        clear c1 r2 t2
        go_wp2_with fail
        rw [rounds_succ]
        have c2 := g2.cell 2
        simp only [fnCs, ptFn, List.map_cons, List.map_nil, List.getElem?_toArray, List.getElem?_cons_succ, List.getElem?_cons_zero] at c2
        go_wp2_with fail
        refine HR2.out.mono ?_
        rintro e y3 ⟨rfl, t3, r3⟩
        have HR3 := Lib.hid r3
        have g3 := g2.turns t3 hgF
        clear c2 r3 t3
        go_wp2_with fail
        rw [rounds_succ]
        go_wp2_with fail
        go_end0
        exact ⟨rfl, HR3.out⟩
      · go_wp2_with fail
        refine wp_loop_rounds 3 ?_
        rw [rounds_succ]
        have c0 := hgx.cell 0
        simp only [fnCs, ptFn, List.map_cons, List.map_nil, List.getElem?_toArray, List.getElem?_cons_zero] at c0
        go_wp2_with fail
        refine HR.out.mono ?_
        rintro e y1 ⟨rfl, t1, r1⟩
        have HR1 := Lib.hid r1
        have g1 := hgx.turns t1 hgF
        clear c0 r1 t1
        go_wp2_with fail
        rw [rounds_succ]
        have c1 := g1.cell 1
        simp only [fnCs, ptFn, List.map_cons, List.map_nil, List.getElem?_toArray, List.getElem?_cons_succ, List.getElem?_cons_zero] at c1
        go_wp2_with fail
        refine HR1.out.mono ?_
        rintro e y2 ⟨rfl, t2, r2⟩
        have HR2 := Lib.hid r2
        have g2 := g1.turns t2 hgF
        clear c1 r2 t2
        go_wp2_with fail
        rw [rounds_succ]
        go_wp2_with fail
        go_end0
        exact ⟨rfl, HR2.out⟩
      · go_wp2_with fail
        refine wp_loop_rounds 2 ?_
        rw [rounds_succ]
        have c0 := hgx.cell 0
        simp only [fnCs, ptFn, List.map_cons, List.map_nil, List.getElem?_toArray, List.getElem?_cons_zero] at c0
        go_wp2_with fail
        refine HR.out.mono ?_
        rintro e y1 ⟨rfl, t1, r1⟩
        have HR1 := Lib.hid r1
        have g1 := hgx.turns t1 hgF
        clear c0 r1 t1
        go_wp2_with fail
        rw [rounds_succ]
        go_wp2_with fail
        go_end0
        exact ⟨rfl, HR1.out⟩
      · go_wp2_with fail
        refine wp_loop_rounds 2 ?_
        rw [rounds_succ]
        have c0 := hgx.cell 0
        simp only [fnCs, ptFn, List.map_cons, List.map_nil, List.getElem?_toArray, List.getElem?_cons_zero] at c0
        go_wp2_with fail
        refine HR.out.mono ?_
        rintro e y1 ⟨rfl, t1, r1⟩
        have HR1 := Lib.hid r1
        have g1 := hgx.turns t1 hgF
        clear c0 r1 t1
        go_wp2_with fail
        rw [rounds_succ]
        go_wp2_with fail
        go_end0
        exact ⟨rfl, HR1.out⟩
      · go_wp2_with fail
        refine wp_loop_rounds 2 ?_
        rw [rounds_succ]
        have c0 := hgx.cell 0
        simp only [fnCs, ptFn, List.map_cons, List.map_nil, List.getElem?_toArray, List.getElem?_cons_zero] at c0
        go_wp2_with fail
        refine HR.out.mono ?_
        rintro e y1 ⟨rfl, t1, r1⟩
        have HR1 := Lib.hid r1
        have g1 := hgx.turns t1 hgF
        clear c0 r1 t1
        go_wp2_with fail
        rw [rounds_succ]
        go_wp2_with fail
        go_end0
        exact ⟨rfl, HR1.out⟩
      · go_wp2_with fail
        refine wp_loop_rounds 4 ?_
        rw [rounds_succ]
        have c0 := hgx.cell 0
        simp only [fnCs, ptFn, List.map_cons, List.map_nil, List.getElem?_toArray, List.getElem?_cons_zero] at c0
        go_wp2_with fail
        refine HR.out.mono ?_
        rintro e y1 ⟨rfl, t1, r1⟩
        have HR1 := Lib.hid r1
        have g1 := hgx.turns t1 hgF
        clear c0 r1 t1
        go_wp2_with fail
        rw [rounds_succ]
        have c1 := g1.cell 1
        simp only [fnCs, ptFn, List.map_cons, List.map_nil, List.getElem?_toArray, List.getElem?_cons_succ, List.getElem?_cons_zero] at c1
        go_wp2_with fail
        refine HR1.out.mono ?_
        rintro e y2 ⟨rfl, t2, r2⟩
        have HR2 := Lib.hid r2
        have g2 := g1.turns t2 hgF
        clear c1 r2 t2
        go_wp2_with fail
        rw [rounds_succ]
        have c2 := g2.cell 2
        simp only [fnCs, ptFn, List.map_cons, List.map_nil, List.getElem?_toArray, List.getElem?_cons_succ, List.getElem?_cons_zero] at c2
        go_wp2_with fail
        refine HR2.out.mono ?_
        rintro e y3 ⟨rfl, t3, r3⟩
        have HR3 := Lib.hid r3
        have g3 := g2.turns t3 hgF
        clear c2 r3 t3
        go_wp2_with fail
        rw [rounds_succ]
        go_wp2_with fail
        go_end0
        exact ⟨rfl, HR3.out⟩
end Go.Proofs.YtclpmkinjjhncaaGreat

/- Package op: the coder writes a whole op. -/
namespace Go.Proofs.YtclpmkinjjhncaaGreat
open Go.RowKit

theorem Reads.turnsN {G F F' : Foot} {w w' : World} {size n : Nat} {A : Option Addr} {xs : List Value} (h : Reads G w size A n xs) (ht : Turns F F' w w') (hG : ∀ b, G b → ¬ F b) : Reads G w' size A n xs := by
  refine ⟨h.1, fun h0 => ?_⟩
  obtain ⟨b, o, hA, hb, hlt, hc⟩ := h.2 h0
  exact ⟨b, o, hA, hb, Nat.lt_of_lt_of_le hlt ht.size, fun j u hj => (World.cell?_of_block (w := w) (a := ⟨b, o + j, none⟩) (ht.block b hlt (hG b hb))).trans (hc j u hj)⟩
theorem Sp.le_total : ∀ {l : List Sp.Bs} {r : Sp.Bs}, r ∈ l → r.length ≤ Sp.total l
  | x :: l, r, h => by
    rw [Sp.total_cons]
    rcases List.mem_cons.1 h with rfl | h
    · omega
    · have := Sp.le_total h
      omega
/-- How long a part may be. -/
def Sp.partLen (o : Sp.Op) : Sp.Pt → Nat
  | .text => 2 + o.text.length
  | .rows => 2 + (2 * o.rows.length + Sp.total o.rows)
  | _ => 4
theorem Sp.Co.piece_len (k : Sp.Co) (t : Sp.Bs) : (k.piece t).s.length ≤ k.s.length + (2 + t.length) := by
  have h := k.n2_len (t.length : Int)
  obtain ⟨q, hq⟩ : ∃ q, k.n2 (t.length : Int) = q := ⟨_, rfl⟩
  rw [hq] at h
  have e : k.piece t = ⟨q.s ++ t, q.bad⟩ := by
    unfold Sp.Co.piece
    rw [hq]
  rw [e]
  simp only [List.length_append]
  omega
theorem Sp.Co.rowsGo_len : ∀ (l : List Sp.Bs) (k : Sp.Co) (all : Nat), (k.rowsGo all l).s.length ≤ k.s.length + (2 * l.length + Sp.total l)
  | [], k, all => by unfold Sp.Co.rowsGo; simp
  | r :: l, k, all => by
    have h := k.piece_len r
    unfold Sp.Co.rowsGo
    rw [Sp.total_cons, List.length_cons]
    split
    · show (k.piece r).s.length ≤ _
      omega
    · have := Sp.Co.rowsGo_len l (k.piece r) (all + r.length)
      omega
theorem Sp.Co.part_len (o : Sp.Op) (k : Sp.Co) (p : Sp.Pt) : (k.part o p).s.length ≤ k.s.length + Sp.partLen o p := by
  cases p <;> simp only [Sp.Co.part, Sp.partLen]
  · simp [Sp.Co.n1]
  · simp [Sp.Co.n1]
  · simp [Sp.Co.n4]
  · have := k.n2_len o.at_
    omega
  · have := k.n2_len o.off
    omega
  · exact k.piece_len o.text
  · have h := k.n2_len (o.rows.length : Int)
    have h2 := Sp.Co.rowsGo_len o.rows (k.n2 (o.rows.length : Int)) 0
    unfold Sp.Co.rows
    split <;> omega
/-- How long the parts may be. -/
def Sp.partsLen (o : Sp.Op) (l : List Sp.Pt) : Nat := (l.map (Sp.partLen o)).sum

theorem pt_put {o : Sp.Op} {A : Option Addr} {c gk gx a : Nat} {G : Foot} {Q : World → Prop} (ho : o.Ok) (hG : ¬ G gk) : ∀ (l : List Sp.Pt) {k : Sp.Co} {w : World}, Blk w gk 289 (coCs gx k.s a false k.bad) → Blk w gx 28 (opCs o A c) → RowsAt G w A o.rows → k.s.length + Sp.partsLen o l ≤ 1000000 →
    (∀ w', Blk w' gk 289 (coCs gx (l.foldl (fun k p => k.part o p) k).s a false (l.foldl (fun k p => k.part o p) k).bad) → Turns (only gk) (only gk) w w' → Q w') → PtRuns gk (only gk) Q l w
  | [], k, w, hK, _, _, _, hQ => hQ w hK (Turns.refl _ _)
  | p :: l, k, w, hK, hX, hR, hl, hQ => by
    have hne : gx ≠ gk := hX.ne_ hK (by decide)
    have hpl := Sp.Co.part_len o k p
    have hl2 : k.s.length + (Sp.partLen o p + Sp.partsLen o l) ≤ 1000000 := hl
    have main : Calls Tryz.prog (ptFn p) #[ptr gk] w (CoPut gk gx (k.part o p) a w) := by
      cases p
      · exact co_kind hK hX ho (by omega)
      · exact co_level hK hX ho (by omega)
      · exact co_next hK hX ho (by omega)
      · exact co_place hK hX ho (by omega)
      · exact co_off hK hX ho (by omega)
      · simp only [Sp.partLen] at hl2
        exact co_text hK hX (by omega) (by omega)
      · simp only [Sp.partLen] at hl2
        refine co_rows hK hX hR hG (by omega) (fun r hr => ?_) (by omega)
        have := Sp.le_total hr
        omega
    refine main.mono ?_
    rintro e w' ⟨rfl, hb, ht⟩
    refine ⟨rfl, ht, pt_put ho hG l hb (hX.turns ht hne) (hR.turnsN ht (fun b hb e => hG (e ▸ hb))) (by omega) (fun w'' h1 h2 => hQ w'' h1 (ht.trans h2))⟩
/-- What a whole op may be long. -/
def Sp.Op.Short (o : Sp.Op) : Prop := o.text.length + 2 * o.rows.length + Sp.total o.rows ≤ 900000
theorem Sp.Op.Short.parts {o : Sp.Op} (h : o.Short) {kind : Nat} {l : List Sp.Pt} (hp : Sp.parts kind = some l) : Sp.partsLen o l ≤ 900012 := by
  unfold Sp.Op.Short at h
  rcases parts_some hp with rfl | rfl | rfl | rfl | rfl | rfl <;> simp [Sp.partsLen, Sp.partLen] <;> omega
theorem co_op {w : World} {gk gx a c : Nat} {k : Sp.Co} {o : Sp.Op} {A : Option Addr} {G : Foot} (hK : Blk w gk 289 (coCs gx k.s a false k.bad)) (hX : Blk w gx 28 (opCs o A c)) (hR : RowsAt G w A o.rows) (hG : ¬ G gk) (ho : o.Ok) (hS : o.Short) (hs : k.s.length ≤ 90000) :
    Calls Tryz.prog 195 #[ptr gk] w (CoPut gk gx (k.op o) a w) := by
  have hne : gx ≠ gk := hX.ne_ hK (by decide)
  have e1 : ((k.n1 o.kind 255).n4 o.page 1024).s.length = k.s.length + 5 := by simp [Sp.Co.n1, Sp.Co.n4]
  refine (op_walk (F := only gk) (kind := o.kind) (page := o.page) (cs := opCs o A c) (s := ((k.n1 o.kind 255).n4 o.page 1024).s) (bad := ((k.n1 o.kind 255).n4 o.page 1024).bad) (a := a) (rd := false)
    (Q := fun w' => Blk w' gk 289 (coCs gx (k.op o).s a false (k.op o).bad) ∧ Turns (only gk) (only gk) w w') (gx := gx) (hK.cell 0) rfl rfl (fun b hb => by rw [show b = gk from hb]; exact hK.lt) ?_).mono (fun e w' h => h)
  refine (num_put8 hK (by have := hX.cell 0; exact this) hne ho.kind (by omega) (most := 255)).mono ?_
  rintro e w1 ⟨rfl, h1, t1⟩
  refine ⟨rfl, h1.cell 0, ?_⟩
  refine (num_put32 (s := (k.n1 o.kind 255).s) (bad := (k.n1 o.kind 255).bad) h1 (by have := (hX.turns t1 hne).cell 1; exact this) hne ho.page (by simp [Sp.Co.n1]; omega) (most := 1024)).mono ?_
  rintro e w2 ⟨rfl, h2, t2⟩
  have hX2 := (hX.turns t1 hne).turns t2 hne
  have hR2 := (hR.turnsN t1 (fun b hb e => hG (e ▸ hb))).turnsN t2 (fun b hb e => hG (e ▸ hb))
  refine ⟨rfl, (t1.trans t2).size, h2, hX2, fun w3 t3 h3 => ?_⟩
  have hX3 := hX2.turns t3 hne
  have hR3 := hR2.turnsN t3 (fun b hb e => hG (e ▸ hb))
  have hT := (t1.trans t2).trans t3
  cases hp : Sp.parts o.kind with
  | none =>
    have e2 : k.op o = ⟨((k.n1 o.kind 255).n4 o.page 1024).s, true⟩ := by unfold Sp.Co.op; rw [hp]
    rw [e2]
    refine ⟨?_, hT⟩
    have e3 : opBad ((k.n1 o.kind 255).n4 o.page 1024).bad o.kind o.page = true := by unfold opBad; rw [hp]; simp
    rw [e3] at h3
    exact h3
  | some l =>
    have e3 : opBad ((k.n1 o.kind 255).n4 o.page 1024).bad o.kind o.page = (((k.n1 o.kind 255).n4 o.page 1024).bad || decide (o.page < 1)) := by unfold opBad; rw [hp]; simp
    rw [e3] at h3
    have e2 : k.op o = l.foldl (fun k p => k.part o p) ⟨((k.n1 o.kind 255).n4 o.page 1024).s, ((k.n1 o.kind 255).n4 o.page 1024).bad || decide (o.page < 1)⟩ := by unfold Sp.Co.op; rw [hp]
    rw [e2]
    exact pt_put (k := ⟨((k.n1 o.kind 255).n4 o.page 1024).s, ((k.n1 o.kind 255).n4 o.page 1024).bad || decide (o.page < 1)⟩) ho hG l h3 hX3 hR3 (by have := hS.parts hp; rw [e1]; omega) (fun w' h4 t4 => ⟨h4, hT.trans t4⟩)
end Go.Proofs.YtclpmkinjjhncaaGreat

/- append of one element to an owned row. No program is named here. -/
namespace Go.Proofs.YtclpmkinjjhncaaGreat
open Go.RowKit

theorem grownBy_trans' {w w' w'' : World} {row : Option Nat} (h : w.grownBy w' row) (h' : w'.grownBy w'' row) : w.grownBy w'' row :=
  ⟨h'.os.trans h.os, h'.tape.trans h.tape, h'.output.trans h.output, Nat.le_trans h.size h'.size, fun b hb hne => (h'.block b (Nat.lt_of_lt_of_le hb h.size) hne).trans (h.block b hb hne)⟩

theorem wpList_app1 {P : Program} {w : World} {ops : Array Oper} {rest : List Oper} {o : Oper} {a : Act} {Q : Exit → Act → World → Prop} (hgd : o.guard = none) (s x : Operand) (t : TypeId)
    (ho : o.op = .call { callee := .builtin .append, args := #[s, x], argTypes := #[t, t] })
    (base : Nat) (e : TypeId) (i : TypeInfo) (z : Value) (bytes : Nat) (ht : P.underlying t = some (.slice e)) (hi : P.info? e = some i) (hz : i.zero = some z)
    (hsize : i.size = 1) (hby : i.bytes = bytes) (hzs : z.cells.size = 1)
    (v : Value) (n : Nat) (xs : List Value) (hs : a.eval s = v) (hown : w.ownsRow base e 1 v n xs)
    (y : Value) (hx : a.eval x = .slice (some ⟨w.heap.size, 0, none⟩) 1 1) (hy : y.oneCell' = true)
    (h63 : n + 1 ≤ maxLen) (hbytes : (n + 1) * bytes ≤ 140737488355328) (hbase : base ≤ w.heap.size)
    (h : ∀ v' w', w'.ownsRow base e 1 v' (n + 1) (xs ++ [y]) → w.grownBy w' v.ownBlock → (∀ k, v'.ownBlock = some k → v.ownBlock = some k ∨ w.heap.size ≤ k) → wpList P ops Q rest (a.put o.dst v') w') : wpList P ops Q (o :: rest) a (w.alloc (.cells #[y] e)) := by
  refine wpList_append_own2 _ hgd s x t ho base e i z 1 bytes ht hi hz hsize hby hzs (by omega) v n xs hs (hown.alloc _) ⟨w.heap.size, 0, none⟩ 1 1 [y] hx rfl ?_ (fun u hu => by rw [List.mem_singleton.1 hu]; exact hy) h63 hbytes (by simp; omega) fun v' w' h1 h2 h3 => h v' w' h1 (grownBy_trans' (World.grownBy_alloc w _ _) h2) fun k hk => ?_
  · exact blk_news (cs := [y]) (Blk.new w e #[y])
  · rcases h3 k hk with h3 | h3
    · exact .inl h3
    · simp at h3; exact .inr (by omega)
end Go.Proofs.YtclpmkinjjhncaaGreat

/- Package op: the coder reads rows. -/
namespace Go.Proofs.YtclpmkinjjhncaaGreat
open Go.RowKit

/-- An own row's last cell, written. -/
theorem own_last {w : World} {base n : Nat} {e : TypeId} {g c : Nat} {xs : List Value} {u0 : Value} (h : w.ownsRow base e 1 (.slice (some ⟨g, 0, none⟩) (n + 1) c) (n + 1) (xs ++ [u0])) :
    base ≤ g ∧ ∃ cur, Blk w g e cur ∧ cur[n]? = some u0 ∧ ∀ (w' : World) (u : Value), Blk w' g e (cur.setIfInBounds n u) → w'.ownsRow base e 1 (.slice (some ⟨g, 0, none⟩) (n + 1) c) (n + 1) (xs ++ [u]) := by
  obtain ⟨hl, ⟨h1, -⟩ | ⟨g', cap, cur, h1, hg, hh, hn, hc, hs, ht⟩⟩ := h
  · cases h1
  · injection h1 with h2 h3 h4
    injection h2 with h2
    injection h2 with h2
    subst h2 h4
    have hxl : xs.length = n := by simpa using hl
    have hcs : n < cur.size := by omega
    have hcn : cur[n]? = some u0 := by
      have := congrArg (fun l => l[n]?) ht
      simp only [Nat.mul_one] at this
      rw [List.getElem?_take_of_lt (by omega), List.getElem?_append_right (by omega), hxl] at this
      simpa using this
    refine ⟨hg, cur, hh, hcn, fun w' u h' => ⟨by simpa using hl, .inr ⟨g, c, _, rfl, hg, h', hn, hc, by simpa using hs, ?_⟩⟩⟩
    rw [Array.toList_setIfInBounds, List.take_set, ht, List.set_append_right _ _ (by omega), hxl]
    simp
theorem Turns.more {F F1 F1' : Foot} {w w1 w2 : World} (h : Turns F F w w1) (h1 : Turns F1 F1' w1 w2) (hF : ∀ c, F1 c → F c ∨ w.heap.size ≤ c) : Turns F F w w2 :=
  ⟨h1.os.trans h.os, h1.tape.trans h.tape, h1.output.trans h.output, Nat.le_trans h.size h1.size, fun c hc hn => (h1.block c (Nat.lt_of_lt_of_le hc h.size) (fun h2 => by
      rcases hF c h2 with h3 | h3
      · exact hn h3
      · omega)).trans (h.block c hc hn), fun _ h => .inl h⟩
theorem Sp.rows_cut {s t : Sp.Bs} {b i : Nat} {rows : List Sp.Bs} (h : s.drop b = rows.flatMap Sp.pieceB ++ t) (hi : i < rows.length) :
    s.drop (b + ((rows.take i).flatMap Sp.pieceB).length) = Sp.pieceB rows[i] ++ ((rows.drop (i + 1)).flatMap Sp.pieceB ++ t) ∧ ((rows.take (i + 1)).flatMap Sp.pieceB).length = ((rows.take i).flatMap Sp.pieceB).length + (2 + rows[i].length) ∧ Sp.total (rows.take (i + 1)) = Sp.total (rows.take i) + rows[i].length ∧ rcs (rows.take (i + 1)) = rcs (rows.take i) ++ [str rows[i]] := by
  have e1 : rows.take (i + 1) = rows.take i ++ [rows[i]] := by rw [List.take_succ_eq_append_getElem hi]
  have e2 : rows = rows.take i ++ (rows[i] :: rows.drop (i + 1)) := by rw [← List.drop_eq_getElem_cons hi, List.take_append_drop]
  refine ⟨?_, ?_, ?_, ?_⟩
  · rw [← List.drop_drop, h]
    conv => lhs; arg 2; rw [e2]
    rw [List.flatMap_append, List.append_assoc, List.drop_left, List.flatMap_cons, List.append_assoc]
  · rw [e1, List.flatMap_append, List.length_append]
    simp [Sp.pieceB]
  · rw [e1, Sp.total_append]; simp
  · rw [e1]; simp only [rcs, List.map_append, List.map_cons, List.map_nil]
section
variable {w : World} {gk gx a : Nat} {s t : Sp.Bs}
/-- What reading rows leaves. -/
def RowsGot (gk gx : Nat) (cs : Array Value) (rows : List Sp.Bs) (s : Sp.Bs) (a : Nat) (w : World) (e : Ending) (w' : World) : Prop :=
  e = .returned (.tuple #[]) ∧ ∃ v, w'.ownsRow w.heap.size 9 1 v rows.length (rcs rows) ∧ Blk w' gk 289 (coCs gx s a true false) ∧ Blk w' gx 28 (cs.setIfInBounds 5 v) ∧ Turns (fun c => c = gk ∨ c = gx) (fun c => c = gk ∨ c = gx) w w'
set_option maxRecDepth 100000 in
set_option maxHeartbeats 4000000 in
theorem co_rowsR {cs : Array Value} {rows : List Sp.Bs} (hK : Blk w gk 289 (coCs gx s a true false)) (hX : Blk w gx 28 cs) (hx : cs[5]? = some (.slice none 0 0)) (hc : s.drop a = Sp.be 2 rows.length ++ (rows.flatMap Sp.pieceB ++ t)) (hn : rows.length ≤ 488) (htot : Sp.total rows ≤ 488) (hs : s.length ≤ 100000000) :
    Calls Tryz.prog 257 #[ptr gk] w (RowsGot gk gx cs rows s (a + (2 + (rows.flatMap Sp.pieceB).length)) w) := by
  have hne : gx ≠ gk := hX.ne_ hK (by decide)
  obtain ⟨ha, -, hc2⟩ := get_here hc (by omega) (by omega)
  obtain ⟨is, his, hs0, hs1, hs2⟩ := info_parts str_info
  replace his := Lib.hid his
  replace hs0 := Lib.hid hs0
  replace hs1 := Lib.hid hs1
  replace hs2 := Lib.hid hs2
  have hcs : 5 < cs.size := by
    rcases Nat.lt_or_ge 5 cs.size with h | h
    · exact h
    · rw [Array.getElem?_eq_none h] at hx; cases hx
  have k0 := hK.cell 0
  have x5 := (hX.cell 5).trans hx
  simp only [coCs, List.getElem?_toArray, List.getElem?_cons_zero] at k0
  have hK0 := hK.alloc (.cells #[.int .i64 ((0 : Nat) : Int)] 3)
  have hX0 := hX.alloc (.cells #[.int .i64 ((0 : Nat) : Int)] 3)
  have hB0 := Blk.new w 3 #[.int .i64 ((0 : Nat) : Int)]
  have hkl := hK.lt
  have hbl := hX.lt
  have HN := Lib.hid (num_getI (gx := gx) (b := w.heap.size) (o := 0) (most := 488) hK0 hB0 (v0 := .int .i64 ((0 : Nat) : Int)) (by simp) (by omega) hc (by omega) hn hs)
  have HX := Lib.hid hX0
  have HCS := Lib.hid (show cs = cs.setIfInBounds 5 (.slice none 0 0) by
    apply Array.ext_getElem?
    intro j
    rw [Array.getElem?_setIfInBounds]
    split
    · rename_i h5
      subst h5
      exact hx
    · rfl)
  have HC2 := Lib.hid hc2
  clear hB0 hK hX hX0 hc hc2
  go_enter Tryz.func257, Tryz.ntmps257
  go_wp2_with fail
  refine HN.out.mono ?_
  rintro e w1 ⟨rfl, h2, h3, h4⟩
  have k4 := h2.cell 4
  simp only [coCs, List.getElem?_toArray, List.getElem?_cons_succ, List.getElem?_cons_zero] at k4
  have m0 := h3.cell 0
  simp at m0
  have hX1 := HX.out.turns h4 (by omega)
  have hT : Turns (fun c => c = gk ∨ c = gx) (fun c => c = gk ∨ c = gx) w w1 := Turns.over ((Below.refl w.heap.size w).alloc (Nat.le_refl _) _) h4 (fun c hc => by rcases hc with rfl | rfl; exact .inl (.inl rfl); exact .inr (Nat.le_refl _))
  have HK1 := Lib.hid h2
  have HX1 := Lib.hid hX1
  have HT1 := Lib.hid hT
  clear h2 h3 h4 hX1 hT HN k0 x5
  go_wp2_with fail
  go_loopw [3, 20] (fun v3 v20 wr => ∃ (i : Nat) (v : Value), i ≤ rows.length ∧ v3 = .int .i64 (Sp.total (rows.take i)) ∧ v20 = .int .i64 i ∧ Blk wr gk 289 (coCs gx s (a + 2 + ((rows.take i).flatMap Sp.pieceB).length) true false) ∧ Blk wr gx 28 (cs.setIfInBounds 5 v) ∧ wr.ownsRow w.heap.size 9 1 v i (rcs (rows.take i)) ∧ Turns (fun c => c = gk ∨ c = gx) (fun c => c = gk ∨ c = gx) w wr) (fun _ v20 _ => rows.length - (intOf v20).toNat)
  case atStart => exact ⟨0, .slice none 0 0, by omega, rfl, rfl, HK1.out, HCS.out ▸ HX1.out, World.ownsRow_nil _ _ _ _, HT1.out⟩
  case round =>
    obtain ⟨i, v, hi, rfl, rfl, hKr, hXr, hO, hTr⟩ := hrel
    by_cases hlt : i < rows.length
    · have k3 := hKr.cell 3
      simp only [coCs, List.getElem?_toArray, List.getElem?_cons_succ, List.getElem?_cons_zero] at k3
      have hr0 := hKr.cell 0
      simp only [coCs, List.getElem?_toArray, List.getElem?_cons_zero] at hr0
      have hr5 := hXr.cell 5
      rw [Array.getElem?_setIfInBounds_self, if_pos hcs] at hr5
      have hkr := hKr.lt
      have hxr := hXr.lt
      have hgk9 : ∀ b, v.ownBlock = some b → b ≠ gk := fun b hb e => by have := (hO.lt b hb).1; omega
      have hgx9 : ∀ b, v.ownBlock = some b → b ≠ gx := fun b hb e => by have := (hO.lt b hb).1; omega
      have HSZ := Lib.hid hTr.size
      have HKr := Lib.hid hKr
      have HXr := Lib.hid hXr
      have HO := Lib.hid hO
      have HTr := Lib.hid hTr
      clear hKr hXr hO hTr
      go_wp2_with fail
      have hS := Lib.hid (show wr.drew.cell? ⟨gk, 0, none⟩ = some (ptr gx) ∧ wr.drew.cell? ⟨gx, 5, none⟩ = some v from ⟨hr0, hr5⟩)
      refine R_begin (fun W => W.cell? ⟨gk, 0, none⟩ = some (ptr gx) ∧ W.cell? ⟨gx, 5, none⟩ = some v) (fun j => decide (13 ≤ j)) rfl ?_
      refine R_tt 0 27 hS.out ?_
      simp only [List.setIfInBounds_toArray, List.set_cons_zero, List.set_cons_succ]
      refine R_tt 1 28 hS.out ?_
      simp only [List.setIfInBounds_toArray, List.set_cons_zero, List.set_cons_succ]
      refine R_tt 2 29 hS.out ?_
      simp only [List.setIfInBounds_toArray, List.set_cons_zero, List.set_cons_succ]
      refine R_tt 3 30 hS.out ?_
      simp only [List.setIfInBounds_toArray, List.set_cons_zero, List.set_cons_succ]
      refine R_tt 4 31 hS.out ?_
      simp only [List.setIfInBounds_toArray, List.set_cons_zero, List.set_cons_succ]
      refine R_tt 5 32 hS.out ?_
      simp only [List.setIfInBounds_toArray, List.set_cons_zero, List.set_cons_succ]
      refine R_tt 6 33 hS.out ?_
      simp only [List.setIfInBounds_toArray, List.set_cons_zero, List.set_cons_succ]
      refine R_tt 7 34 hS.out ?_
      simp only [List.setIfInBounds_toArray, List.set_cons_zero, List.set_cons_succ]
      refine R_tt 8 35 hS.out ?_
      simp only [List.setIfInBounds_toArray, List.set_cons_zero, List.set_cons_succ]
      refine R_tt 9 36 hS.out ?_
      simp only [List.setIfInBounds_toArray, List.set_cons_zero, List.set_cons_succ]
      refine R_tt 10 37 hS.out ?_
      simp only [List.setIfInBounds_toArray, List.set_cons_zero, List.set_cons_succ]
      refine R_run 11 38 (v := .slice (some ⟨wr.drew.heap.size, 0, none⟩) 1 1) (w' := wr.drew.alloc (.cells #[str []] 9)) rfl rfl (by rfl) (by kernel_rfl) (by go_simp) (fun _ => ⟨(World.cell?_alloc_lt _ _ _ (show gk < wr.drew.heap.size from hkr)).trans hr0, (World.cell?_alloc_lt _ _ _ (show gx < wr.drew.heap.size from hxr)).trans hr5⟩) ?_
      simp only [List.setIfInBounds_toArray, List.set_cons_zero, List.set_cons_succ]
      obtain ⟨v2, w2, hrun, hO2, hg2, hk2⟩ := run_append_own2 (P := Tryz.prog) (wr.drew.alloc (.cells #[str []] 9)) w.heap.size 26 26 9 is _ 1 16 Tryz.underlying26 his.out hs0.out hs1.out hs2.out rfl (by decide) v i _ (own_keep HO.out (fun b hb => Below.heap_alloc wr.drew _ b (HO.out.lt b hb).2)) ⟨wr.drew.heap.size, 0, none⟩ 1 1 [str []] rfl (fun j u hu => by cases j with | zero => exact ((Blk.new wr.drew 9 #[str []]).cell 0).trans hu | succ j => simp at hu) (fun x hx => by simp at hx; subst hx; rfl) (by unfold maxLen; omega) (by omega) (by simp; have := HSZ.out; omega)
      have hX2 := ((HXr.out.drew.alloc (.cells #[str []] 9)).grown hg2 (fun e => hgx9 gx e.symm rfl))
      have hK2 := ((HKr.out.drew.alloc (.cells #[str []] 9)).grown hg2 (fun e => hgk9 gk e.symm rfl))
      have q6 := hX2.cell 5
      rw [Array.getElem?_setIfInBounds_self, if_pos hcs] at q6
      refine R_run 12 39 (v := v2) (w' := w2) rfl rfl (by rfl) (by kernel_rfl) (run_op_append _ _ _ rfl rfl rfl hrun) (fun _ => ⟨hK2.cell 0, q6⟩) ?_
      simp only [List.setIfInBounds_toArray, List.set_cons_zero, List.set_cons_succ]
      refine R_run 13 40 (v := ptr gx) (w' := w2) rfl rfl (by rfl) (by kernel_rfl) (by go_simp) (fun h => absurd h (by decide)) ?_
      simp only [List.setIfInBounds_toArray, List.set_cons_zero, List.set_cons_succ]
      refine R_run 14 41 (v := .pointer (some ⟨gx, 5, none⟩)) (w' := w2) rfl rfl (by rfl) (by kernel_rfl) (by go_simp) (fun h => absurd h (by decide)) ?_
      simp only [List.setIfInBounds_toArray, List.set_cons_zero, List.set_cons_succ]
      obtain ⟨g2, c2, rfl⟩ := own_form hO2
      refine R_store 15 (n := .skip) (w' := w2.setCell ⟨gx, 5, none⟩ (.slice (some ⟨g2, 0, none⟩) (i + 1) c2)) rfl rfl (by rfl) (by kernel_rfl) ?_ (.inl rfl) (fun h => absurd h (by decide)) ?_
      · have f6 := hX2.frozen 5
        go_simp
      refine R_done (by kernel_rfl) ?_ _
      rename_i K9 hK9
      refine hK9 _ _ ?_
      clear hK9
      obtain ⟨hb2, cur, hcur, hci, hback⟩ := own_last hO2
      have hgx2 : g2 ≠ gx := by omega
      have hgk2 : g2 ≠ gk := by omega
      have hX3 := hX2.set_ 5 (.slice (some ⟨g2, 0, none⟩) (i + 1) c2)
      rw [Array.setIfInBounds_setIfInBounds] at hX3
      have hK3 := hK2.far (p := ⟨gx, 5, none⟩) (fun e => hne e.symm) (.slice (some ⟨g2, 0, none⟩) (i + 1) c2)
      have hB3 := hcur.far (p := ⟨gx, 5, none⟩) hgx2 (.slice (some ⟨g2, 0, none⟩) (i + 1) c2)
      have hT3 : Turns (fun c => c = gk ∨ c = gx) (fun c => c = gk ∨ c = gx) w (w2.setCell ⟨gx, 5, none⟩ (.slice (some ⟨g2, 0, none⟩) (i + 1) c2)) := ((HTr.out.drew.alloc (.cells #[str []] 9)).grown hg2 (fun k hk => .inr (HO.out.lt k hk).1)).setCell (p := ⟨gx, 5, none⟩) (.inl (.inr rfl)) _
      obtain ⟨w3, hw3⟩ : ∃ w3, w3 = w2.setCell ⟨gx, 5, none⟩ (.slice (some ⟨g2, 0, none⟩) (i + 1) c2) := ⟨_, rfl⟩
      rw [← hw3] at hX3 hK3 hB3 hT3 ⊢
      obtain ⟨ec1, ec2, ec3, ec4⟩ := Sp.rows_cut HC2.out hlt
      have hrl : rows[i].length ≤ 488 := by have := Sp.le_total (List.getElem_mem hlt); omega
      have HP := Lib.hid (co_pieceR hK3 hB3 hci hgk2 ec1 hrl hs)
      have r0 := hK3.cell 0
      have r5 := hX3.cell 5
      rw [Array.getElem?_setIfInBounds_self, if_pos hcs] at r5
      simp only [coCs, List.getElem?_toArray, List.getElem?_cons_zero] at r0
      have hic : i < cur.size := by
        rcases Nat.lt_or_ge i cur.size with h | h
        · exact h
        · rw [Array.getElem?_eq_none h] at hci; cases hci
      have HX3 := Lib.hid hX3
      have HT3 := Lib.hid hT3
      have HBK := Lib.hid hback
      have hBl := hB3.lt
      clear q6 hw3 hX3 hK3 hB3 hT3 hback hcur hci hO2 hg2 hk2 hX2 hK2 hrun hS hr0 hr5 HKr HXr HO HTr k3 ec1
      go_wp2_with fail
      refine HP.out.mono ?_
      rintro e w4 ⟨rfl, h2, h3, h4⟩
      have hX4 := HX3.out.turns h4 (fun h => h.elim (fun h => hne h) (fun h => hgx2 h.symm))
      have hO4 := HBK.out w4 _ h3
      rw [← ec4] at hO4
      have hT4 := HT3.out.more h4 (fun c hc => hc.elim (fun h => .inl (.inl h)) (fun h => .inr (h ▸ hb2)))
      have r0 := h2.cell 0
      have y4 := h2.cell 4
      have r5 := hX4.cell 5
      have rc := h3.cell i
      rw [Array.getElem?_setIfInBounds_self, if_pos hcs] at r5
      rw [Array.getElem?_setIfInBounds_self, if_pos hic] at rc
      simp only [coCs, List.getElem?_toArray, List.getElem?_cons_succ, List.getElem?_cons_zero] at r0 y4
      have htk : Sp.total (rows.take (i + 1)) ≤ 488 := by
        have e := congrArg Sp.total (List.take_append_drop (i + 1) rows)
        rw [Sp.total_append] at e
        omega
      have hsum : Sp.total (rows.take i) + rows[i].length ≤ 488 := by rw [← ec3]; exact htk
      have hd : decide ((488 : Int) < (Sp.total (rows.take i) : Int) + (rows[i].length : Int)) = false := by simp; omega
      have HK4 := Lib.hid h2
      have HX4 := Lib.hid hX4
      have HO4 := Lib.hid hO4
      have HT4 := Lib.hid hT4
      have EC2 := Lib.hid ec2
      have EC3 := Lib.hid ec3
      clear h2 h3 h4 hX4 hO4 hT4 HP HX3 HT3 HBK ec2 ec3 ec4
      go_wp2_with fail
      go_roundw
      case rel => exact ⟨i + 1, _, hlt, by rw [EC3.out]; go_num, by go_num, by have := HK4.out; rw [EC2.out, ← Nat.add_assoc]; exact this, HX4.out, HO4.out, HT4.out⟩
      case measure => simp [intOf]; omega
    · obtain rfl : i = rows.length := by omega
      rw [List.take_length] at hKr hO
      have hend : RowsGot gk gx cs rows s (a + (2 + (rows.flatMap Sp.pieceB).length)) w (.returned (.tuple #[])) wr := ⟨rfl, v, hO, by rw [← Nat.add_assoc]; exact hKr, hXr, hTr⟩
      go_wp2_with fail
      go_end0
      exact hend
end
end Go.Proofs.YtclpmkinjjhncaaGreat

/- Package op: the coder reads a whole op. -/
namespace Go.Proofs.YtclpmkinjjhncaaGreat
open Go.RowKit

/-- The coder's block, and the op's. -/
abbrev coF (gk gx : Nat) : Foot := fun c => c = gk ∨ c = gx
section
variable {w : World} {gk gx a : Nat} {s t : Sp.Bs}
set_option maxRecDepth 100000 in
set_option maxHeartbeats 1000000 in
theorem co_textR {cs : Array Value} {u : Sp.Bs} (hK : Blk w gk 289 (coCs gx s a true false)) (hX : Blk w gx 28 cs) (hx : cs[4]? = some (str [])) (hc : s.drop a = Sp.pieceB u ++ t) (hu : u.length ≤ 488) (hs : s.length ≤ 100000000) :
    Calls Tryz.prog 256 #[ptr gk] w (CoGot gk gx gx 28 (cs.setIfInBounds 4 (str u)) s (a + (2 + u.length)) w) := by
  have hne := hX.ne_ hK (by decide)
  have k0 := hK.cell 0
  simp only [coCs, List.getElem?_toArray, List.getElem?_cons_zero] at k0
  have HN := Lib.hid (co_pieceR hK hX hx hne hc hu hs)
  clear hX hK hx
  go_enter Tryz.func256, Tryz.ntmps256
  go_wp2_with fail
  refine HN.out.mono ?_
  rintro e w1 ⟨rfl, h2, h3, h4⟩
  go_wp2_with fail
  go_end0
  exact ⟨rfl, h2, h3, h4⟩
end
theorem piece_here {s t u : Sp.Bs} {a : Nat} (hc : s.drop a = Sp.pieceB u ++ t) (hu : u.length ≤ 488) : s.drop (a + (2 + u.length)) = t := by
  have hc1 : s.drop a = Sp.be 2 u.length ++ (u ++ t) := by rw [hc, Sp.pieceB, List.append_assoc]
  have h := (get_here hc1 (by omega) (by omega)).2.2
  rw [← Nat.add_assoc, ← List.drop_drop, h, List.drop_left]
/-- The cells of an op of which kind and page are read. -/
def opZs (kind page : Nat) : Array Value := #[.int .u8 kind, .int .u32 page, .int .i64 ((0 : Nat) : Int), .int .i64 ((0 : Nat) : Int), str [], .slice none 0 0, .int .u8 ((0 : Nat) : Int), .int .u8 ((0 : Nat) : Int), .int .u32 ((0 : Nat) : Int)]
section
variable {w : World} {gk gx a : Nat} {s t : Sp.Bs} {o : Sp.Op} {Q : World → Prop}
theorem ptR_format (ho : o.Ok) (hK : Blk w gk 289 (coCs gx s a true false)) (hX : Blk w gx 28 (opZs o.kind o.page)) (hm : ([.kind, .level, .next] : List Sp.Pt).all (Sp.partMay o) = true) (hc : s.drop a = ([.kind, .level, .next] : List Sp.Pt).flatMap (Sp.partB o) ++ t) (hs : s.length ≤ 100000000)
    (hQ : ∀ w', Blk w' gk 289 (coCs gx s (a + (([.kind, .level, .next] : List Sp.Pt).flatMap (Sp.partB o)).length) true false) → Blk w' gx 28 ((((opZs o.kind o.page).setIfInBounds 6 (.int .u8 o.pk)).setIfInBounds 7 (.int .u8 o.lv)).setIfInBounds 8 (.int .u32 o.nx)) → Turns (coF gk gx) (coF gk gx) w w' → Q w') : PtRuns gk (coF gk gx) Q [.kind, .level, .next] w := by
  simp only [List.all_cons, List.all_nil, Bool.and_true, Bool.and_eq_true, Sp.partMay, decide_eq_true_eq] at hm
  simp only [List.flatMap_cons, List.flatMap_nil, List.append_nil, List.append_assoc, Sp.partB] at hc
  obtain ⟨m0, m1, m2⟩ := hm
  refine (co_kindR hK hX rfl hc ho.pk m0 hs).mono ?_
  rintro e w1 ⟨rfl, k1, x1, t1⟩
  have q1 : Turns (coF gk gx) (coF gk gx) w w1 := t1.wider (fun b hb => hb.elim .inl .inr) (fun b hb => .inl hb)
  have c1 := (get_here hc (by omega) (by have := ho.pk; omega)).2.2
  refine ⟨rfl, q1, ?_⟩
  refine (co_levelR k1 x1 rfl c1 ho.lv (by have := ho.lv; omega) hs).mono ?_
  rintro e w2 ⟨rfl, k2, x2, t2⟩
  have q2 : Turns (coF gk gx) (coF gk gx) w1 w2 := t2.wider (fun b hb => hb.elim .inl .inr) (fun b hb => .inl hb)
  have c2 := (get_here c1 (by omega) (by have := ho.lv; omega)).2.2
  refine ⟨rfl, q2, ?_⟩
  refine (co_nextR k2 x2 rfl c2 ho.nx m2 hs).mono ?_
  rintro e w3 ⟨rfl, k3, x3, t3⟩
  have q3 : Turns (coF gk gx) (coF gk gx) w2 w3 := t3.wider (fun b hb => hb.elim .inl .inr) (fun b hb => .inl hb)
  refine ⟨rfl, q3, ?_⟩
  refine hQ _ ?_ x3 ((q1.trans q2).trans q3)
  have e : a + (([.kind, .level, .next] : List Sp.Pt).flatMap (Sp.partB o)).length = (((a + 1) + 1) + 4) := by simp [Sp.partB]
  rw [e]
  exact k3
theorem ptR_put (hK : Blk w gk 289 (coCs gx s a true false)) (hX : Blk w gx 28 (opZs o.kind o.page)) (hm : ([.place, .text] : List Sp.Pt).all (Sp.partMay o) = true) (hc : s.drop a = ([.place, .text] : List Sp.Pt).flatMap (Sp.partB o) ++ t) (hs : s.length ≤ 100000000)
    (hQ : ∀ w', Blk w' gk 289 (coCs gx s (a + (([.place, .text] : List Sp.Pt).flatMap (Sp.partB o)).length) true false) → Blk w' gx 28 (((opZs o.kind o.page).setIfInBounds 2 (.int .i64 (o.at_.toNat : Int))).setIfInBounds 4 (str o.text)) → Turns (coF gk gx) (coF gk gx) w w' → Q w') : PtRuns gk (coF gk gx) Q [.place, .text] w := by
  simp only [List.all_cons, List.all_nil, Bool.and_true, Bool.and_eq_true, Sp.partMay, decide_eq_true_eq] at hm
  simp only [List.flatMap_cons, List.flatMap_nil, List.append_nil, List.append_assoc, Sp.partB] at hc
  obtain ⟨m0, m1⟩ := hm
  refine (co_placeR hK hX rfl hc (by omega) (by omega) hs).mono ?_
  rintro e w1 ⟨rfl, k1, x1, t1⟩
  have q1 : Turns (coF gk gx) (coF gk gx) w w1 := t1.wider (fun b hb => hb.elim .inl .inr) (fun b hb => .inl hb)
  have c1 := (get_here hc (by omega) (by omega)).2.2
  refine ⟨rfl, q1, ?_⟩
  refine (co_textR k1 x1 rfl c1 m1 hs).mono ?_
  rintro e w2 ⟨rfl, k2, x2, t2⟩
  have q2 : Turns (coF gk gx) (coF gk gx) w1 w2 := t2.wider (fun b hb => hb.elim .inl .inr) (fun b hb => .inl hb)
  refine ⟨rfl, q2, ?_⟩
  refine hQ _ ?_ x2 (q1.trans q2)
  have e : a + (([.place, .text] : List Sp.Pt).flatMap (Sp.partB o)).length = ((a + 2) + (2 + o.text.length)) := by simp [Sp.partB, Sp.pieceB]; omega
  rw [e]
  exact k2
theorem ptR_drop (hK : Blk w gk 289 (coCs gx s a true false)) (hX : Blk w gx 28 (opZs o.kind o.page)) (hm : ([.place] : List Sp.Pt).all (Sp.partMay o) = true) (hc : s.drop a = ([.place] : List Sp.Pt).flatMap (Sp.partB o) ++ t) (hs : s.length ≤ 100000000)
    (hQ : ∀ w', Blk w' gk 289 (coCs gx s (a + (([.place] : List Sp.Pt).flatMap (Sp.partB o)).length) true false) → Blk w' gx 28 ((opZs o.kind o.page).setIfInBounds 2 (.int .i64 (o.at_.toNat : Int))) → Turns (coF gk gx) (coF gk gx) w w' → Q w') : PtRuns gk (coF gk gx) Q [.place] w := by
  simp only [List.all_cons, List.all_nil, Bool.and_true, Sp.partMay, decide_eq_true_eq] at hm
  simp only [List.flatMap_cons, List.flatMap_nil, List.append_nil, Sp.partB] at hc
  refine (co_placeR hK hX rfl hc (by omega) (by omega) hs).mono ?_
  rintro e w1 ⟨rfl, k1, x1, t1⟩
  have q1 : Turns (coF gk gx) (coF gk gx) w w1 := t1.wider (fun b hb => hb.elim .inl .inr) (fun b hb => .inl hb)
  refine ⟨rfl, q1, ?_⟩
  refine hQ _ ?_ x1 q1
  have e : a + (([.place] : List Sp.Pt).flatMap (Sp.partB o)).length = (a + 2) := by simp [Sp.partB]
  rw [e]
  exact k1
theorem ptR_next (ho : o.Ok) (hK : Blk w gk 289 (coCs gx s a true false)) (hX : Blk w gx 28 (opZs o.kind o.page)) (hm : ([.next] : List Sp.Pt).all (Sp.partMay o) = true) (hc : s.drop a = ([.next] : List Sp.Pt).flatMap (Sp.partB o) ++ t) (hs : s.length ≤ 100000000)
    (hQ : ∀ w', Blk w' gk 289 (coCs gx s (a + (([.next] : List Sp.Pt).flatMap (Sp.partB o)).length) true false) → Blk w' gx 28 ((opZs o.kind o.page).setIfInBounds 8 (.int .u32 o.nx)) → Turns (coF gk gx) (coF gk gx) w w' → Q w') : PtRuns gk (coF gk gx) Q [.next] w := by
  simp only [List.all_cons, List.all_nil, Bool.and_true, Sp.partMay, decide_eq_true_eq] at hm
  simp only [List.flatMap_cons, List.flatMap_nil, List.append_nil, Sp.partB] at hc
  refine (co_nextR hK hX rfl hc ho.nx hm hs).mono ?_
  rintro e w1 ⟨rfl, k1, x1, t1⟩
  have q1 : Turns (coF gk gx) (coF gk gx) w w1 := t1.wider (fun b hb => hb.elim .inl .inr) (fun b hb => .inl hb)
  refine ⟨rfl, q1, ?_⟩
  refine hQ _ ?_ x1 q1
  have e : a + (([.next] : List Sp.Pt).flatMap (Sp.partB o)).length = (a + 4) := by simp [Sp.partB]
  rw [e]
  exact k1
theorem ptR_patch (hK : Blk w gk 289 (coCs gx s a true false)) (hX : Blk w gx 28 (opZs o.kind o.page)) (hm : ([.place, .off, .text] : List Sp.Pt).all (Sp.partMay o) = true) (hc : s.drop a = ([.place, .off, .text] : List Sp.Pt).flatMap (Sp.partB o) ++ t) (hs : s.length ≤ 100000000)
    (hQ : ∀ w', Blk w' gk 289 (coCs gx s (a + (([.place, .off, .text] : List Sp.Pt).flatMap (Sp.partB o)).length) true false) → Blk w' gx 28 ((((opZs o.kind o.page).setIfInBounds 2 (.int .i64 (o.at_.toNat : Int))).setIfInBounds 3 (.int .i64 (o.off.toNat : Int))).setIfInBounds 4 (str o.text)) → Turns (coF gk gx) (coF gk gx) w w' → Q w') : PtRuns gk (coF gk gx) Q [.place, .off, .text] w := by
  simp only [List.all_cons, List.all_nil, Bool.and_true, Bool.and_eq_true, Sp.partMay, decide_eq_true_eq] at hm
  simp only [List.flatMap_cons, List.flatMap_nil, List.append_nil, List.append_assoc, Sp.partB] at hc
  obtain ⟨m0, m1, m2⟩ := hm
  refine (co_placeR hK hX rfl hc (by omega) (by omega) hs).mono ?_
  rintro e w1 ⟨rfl, k1, x1, t1⟩
  have q1 : Turns (coF gk gx) (coF gk gx) w w1 := t1.wider (fun b hb => hb.elim .inl .inr) (fun b hb => .inl hb)
  have c1 := (get_here hc (by omega) (by omega)).2.2
  refine ⟨rfl, q1, ?_⟩
  refine (co_offR k1 x1 rfl c1 (by omega) (by omega) hs).mono ?_
  rintro e w2 ⟨rfl, k2, x2, t2⟩
  have q2 : Turns (coF gk gx) (coF gk gx) w1 w2 := t2.wider (fun b hb => hb.elim .inl .inr) (fun b hb => .inl hb)
  have c2 := (get_here c1 (by omega) (by omega)).2.2
  refine ⟨rfl, q2, ?_⟩
  refine (co_textR k2 x2 rfl c2 m2 hs).mono ?_
  rintro e w3 ⟨rfl, k3, x3, t3⟩
  have q3 : Turns (coF gk gx) (coF gk gx) w2 w3 := t3.wider (fun b hb => hb.elim .inl .inr) (fun b hb => .inl hb)
  refine ⟨rfl, q3, ?_⟩
  refine hQ _ ?_ x3 ((q1.trans q2).trans q3)
  have e : a + (([.place, .off, .text] : List Sp.Pt).flatMap (Sp.partB o)).length = (((a + 2) + 2) + (2 + o.text.length)) := by simp [Sp.partB, Sp.pieceB]; omega
  rw [e]
  exact k3
theorem ptR_fill (hK : Blk w gk 289 (coCs gx s a true false)) (hX : Blk w gx 28 (opZs o.kind o.page)) (hm : ([.rows] : List Sp.Pt).all (Sp.partMay o) = true) (hc : s.drop a = ([.rows] : List Sp.Pt).flatMap (Sp.partB o) ++ t) (hs : s.length ≤ 100000000)
    (hQ : ∀ w' v, w'.ownsRow w.heap.size 9 1 v o.rows.length (rcs o.rows) → Blk w' gk 289 (coCs gx s (a + (([.rows] : List Sp.Pt).flatMap (Sp.partB o)).length) true false) → Blk w' gx 28 ((opZs o.kind o.page).setIfInBounds 5 v) → Turns (coF gk gx) (coF gk gx) w w' → Q w') : PtRuns gk (coF gk gx) Q [.rows] w := by
  simp only [List.all_cons, List.all_nil, Bool.and_true, Sp.partMay, decide_eq_true_eq] at hm
  simp only [List.flatMap_cons, List.flatMap_nil, List.append_nil, List.append_assoc, Sp.partB] at hc
  refine (co_rowsR hK hX rfl hc hm.1 hm.2 hs).mono ?_
  rintro e w1 ⟨rfl, v, hO, k1, x1, t1⟩
  refine ⟨rfl, t1, hQ w1 v hO ?_ x1 t1⟩
  have e : a + (([.rows] : List Sp.Pt).flatMap (Sp.partB o)).length = a + (2 + (o.rows.flatMap Sp.pieceB).length) := by simp [Sp.partB]
  rw [e]
  exact k1
end
end Go.Proofs.YtclpmkinjjhncaaGreat

/- Package op: the coder reads a whole op; read. -/
namespace Go.Proofs.YtclpmkinjjhncaaGreat
open Go.RowKit

theorem opFits_kind {o : Sp.Op} (h : Sp.opFits o = true) : (o.kind = 1 ∨ o.kind = 2 ∨ o.kind = 3 ∨ o.kind = 4 ∨ o.kind = 5 ∨ o.kind = 6 ∨ o.kind = 7 ∨ o.kind = 8) ∧ (1 ≤ o.page ∧ o.page ≤ 1024) ∧ ((Sp.parts o.kind).getD []).all (Sp.partMay o) = true ∧ (Sp.parts o.kind).isSome = true := by
  unfold Sp.opFits at h
  cases hp : Sp.parts o.kind with
  | none => rw [hp] at h; exact absurd h (by simp)
  | some l =>
    rw [hp] at h
    simp only [Bool.and_eq_true, decide_eq_true_eq] at h
    refine ⟨?_, h.1, h.2, rfl⟩
    generalize o.kind = k at *
    unfold Sp.parts at hp
    split at hp <;> simp at hp <;> simp
/-- What reading an op leaves. -/
def OpGot (gk gx : Nat) (o : Sp.Op) (s : Sp.Bs) (a : Nat) (w : World) (w' : World) : Prop :=
  ∃ A c, Blk w' gk 289 (coCs gx s a true false) ∧ Blk w' gx 28 (opCs o A c) ∧ RowsAt (fun b => w.heap.size ≤ b) w' A o.rows ∧ OkAddr A ∧ Turns (coF gk gx) (coF gk gx) w w'
section
variable {w : World} {gk gx a : Nat} {s t : Sp.Bs} {o : Sp.Op}
set_option maxRecDepth 100000 in
theorem co_opR (ho : o.Ok) (hf : Sp.opFits o = true) (hK : Blk w gk 289 (coCs gx s a true false)) (hX : Blk w gx 28 (opZs 0 0)) (hc : s.drop a = Sp.opBytes o ++ t) (hs : s.length ≤ 100000000) :
    Calls Tryz.prog 195 #[ptr gk] w fun e w' => e = .returned (.tuple #[]) ∧ OpGot gk gx o.only s (a + (Sp.opBytes o).length) w w' := by
  have hne : gx ≠ gk := hX.ne_ hK (by decide)
  obtain ⟨hk, hpg, hm, hsm⟩ := opFits_kind hf
  have hkd := ho.kind
  have hc1 : s.drop a = Sp.be 1 o.kind ++ (Sp.be 4 o.page ++ (((Sp.parts o.kind).getD []).flatMap (Sp.partB o) ++ t)) := by rw [hc, Sp.opBytes]; simp
  have hc2 := (get_here hc1 (by omega) (by omega)).2.2
  have hc3 := (get_here hc2 (by omega) (by omega)).2.2
  refine (op_walk (F := coF gk gx) (kind := o.kind) (page := o.page) (cs := opZs o.kind o.page) (s := s) (bad := false) (a := a + 1 + 4) (rd := true)
    (Q := fun w' => OpGot gk gx o.only s (a + (Sp.opBytes o).length) w w') (gx := gx) (hK.cell 0) rfl rfl (fun b hb => by rcases hb with rfl | rfl; exact hK.lt; exact hX.lt) ?_).mono (fun e w' h => h)
  refine (num_get8 (most := 255) hK hX (o := 0) rfl hne hc1 ho.kind (by omega) hs).mono ?_
  rintro e w1 ⟨rfl, k1, x1, t1⟩
  refine ⟨rfl, k1.cell 0, ?_⟩
  refine (num_get32 (most := 1024) k1 x1 (o := 1) rfl hne hc2 ho.page hpg.2 hs).mono ?_
  rintro e w2 ⟨rfl, k2, x2, t2⟩
  have q1 : Turns (coF gk gx) (coF gk gx) w w1 := t1.wider (fun b hb => hb.elim .inl .inr) (fun b hb => .inl hb)
  have q2 : Turns (coF gk gx) (coF gk gx) w w2 := q1.trans (t2.wider (fun b hb => hb.elim .inl .inr) (fun b hb => .inl hb))
  refine ⟨rfl, q2.size, k2, x2, fun w3 t3 k3 => ?_⟩
  have q3 : Turns (coF gk gx) (coF gk gx) w w3 := q2.trans (t3.wider (fun b hb => .inl hb) (fun b hb => .inl hb))
  have x3 : Blk w3 gx 28 (opZs o.kind o.page) := x2.turns t3 hne
  have hob : opBad false o.kind o.page = false := by
    unfold opBad
    rw [Option.isNone_eq_false_iff.2 hsm, decide_eq_false (by omega)]
    rfl
  rw [hob] at k3
  have el : a + (Sp.opBytes o).length = a + 1 + 4 + (((Sp.parts o.kind).getD []).flatMap (Sp.partB o)).length := by
    unfold Sp.opBytes
    simp only [List.length_append, Sp.be_length]
    omega
  rw [el]
  clear t1 t2 t3 k1 k2 x1 x2 q1 q2 el hob hc hc1 hc2 hsm hf
  rcases hk with hk | hk | hk | hk | hk | hk | hk | hk
  · have hp : Sp.parts o.kind = some [.kind, .level, .next] := by rw [hk]; rfl
    have hon : o.only = ⟨o.kind, o.page, 0, 0, [], [], o.pk, o.lv, o.nx⟩ := by unfold Sp.Op.only; rw [hk]; rfl
    rw [hp] at hm hc3 ⊢
    simp only [Option.getD_some] at hm hc3 ⊢
    refine ptR_format ho k3 x3 hm hc3 hs (fun w' k x t => ?_)
    rw [hon]
    exact ⟨none, 0, k, x, Reads.none_, .inl rfl, q3.trans t⟩
  · have hp : Sp.parts o.kind = some [.place, .text] := by rw [hk]; rfl
    have hon : o.only = ⟨o.kind, o.page, o.at_, 0, o.text, [], 0, 0, 0⟩ := by unfold Sp.Op.only; rw [hk]; rfl
    rw [hp] at hm hc3 ⊢
    simp only [Option.getD_some] at hm hc3 ⊢
    refine ptR_put k3 x3 hm hc3 hs (fun w' k x t => ?_)
    simp only [List.all_cons, List.all_nil, Bool.and_true, Bool.and_eq_true, Sp.partMay, decide_eq_true_eq] at hm
    rw [Int.toNat_of_nonneg (show 0 ≤ o.at_ by omega)] at x
    rw [hon]
    exact ⟨none, 0, k, x, Reads.none_, .inl rfl, q3.trans t⟩
  · have hp : Sp.parts o.kind = some [.place, .text] := by rw [hk]; rfl
    have hon : o.only = ⟨o.kind, o.page, o.at_, 0, o.text, [], 0, 0, 0⟩ := by unfold Sp.Op.only; rw [hk]; rfl
    rw [hp] at hm hc3 ⊢
    simp only [Option.getD_some] at hm hc3 ⊢
    refine ptR_put k3 x3 hm hc3 hs (fun w' k x t => ?_)
    simp only [List.all_cons, List.all_nil, Bool.and_true, Bool.and_eq_true, Sp.partMay, decide_eq_true_eq] at hm
    rw [Int.toNat_of_nonneg (show 0 ≤ o.at_ by omega)] at x
    rw [hon]
    exact ⟨none, 0, k, x, Reads.none_, .inl rfl, q3.trans t⟩
  · have hp : Sp.parts o.kind = some [.place] := by rw [hk]; rfl
    have hon : o.only = ⟨o.kind, o.page, o.at_, 0, [], [], 0, 0, 0⟩ := by unfold Sp.Op.only; rw [hk]; rfl
    rw [hp] at hm hc3 ⊢
    simp only [Option.getD_some] at hm hc3 ⊢
    refine ptR_drop k3 x3 hm hc3 hs (fun w' k x t => ?_)
    simp only [List.all_cons, List.all_nil, Bool.and_true, Sp.partMay, decide_eq_true_eq] at hm
    rw [Int.toNat_of_nonneg (show 0 ≤ o.at_ by omega)] at x
    rw [hon]
    exact ⟨none, 0, k, x, Reads.none_, .inl rfl, q3.trans t⟩
  · have hp : Sp.parts o.kind = some [.place] := by rw [hk]; rfl
    have hon : o.only = ⟨o.kind, o.page, o.at_, 0, [], [], 0, 0, 0⟩ := by unfold Sp.Op.only; rw [hk]; rfl
    rw [hp] at hm hc3 ⊢
    simp only [Option.getD_some] at hm hc3 ⊢
    refine ptR_drop k3 x3 hm hc3 hs (fun w' k x t => ?_)
    simp only [List.all_cons, List.all_nil, Bool.and_true, Sp.partMay, decide_eq_true_eq] at hm
    rw [Int.toNat_of_nonneg (show 0 ≤ o.at_ by omega)] at x
    rw [hon]
    exact ⟨none, 0, k, x, Reads.none_, .inl rfl, q3.trans t⟩
  · have hp : Sp.parts o.kind = some [.rows] := by rw [hk]; rfl
    have hon : o.only = ⟨o.kind, o.page, 0, 0, [], o.rows, 0, 0, 0⟩ := by unfold Sp.Op.only; rw [hk]; rfl
    rw [hp] at hm hc3 ⊢
    simp only [Option.getD_some] at hm hc3 ⊢
    refine ptR_fill k3 x3 hm hc3 hs (fun w' v hO k x t => ?_)
    obtain ⟨A, c, rfl, hA, hR⟩ := own_rows hO
    rw [hon]
    exact ⟨A, c, k, x, hR.mono (fun b hb => Nat.le_trans q3.size hb), hA, q3.trans t⟩
  · have hp : Sp.parts o.kind = some [.next] := by rw [hk]; rfl
    have hon : o.only = ⟨o.kind, o.page, 0, 0, [], [], 0, 0, o.nx⟩ := by unfold Sp.Op.only; rw [hk]; rfl
    rw [hp] at hm hc3 ⊢
    simp only [Option.getD_some] at hm hc3 ⊢
    refine ptR_next ho k3 x3 hm hc3 hs (fun w' k x t => ?_)
    rw [hon]
    exact ⟨none, 0, k, x, Reads.none_, .inl rfl, q3.trans t⟩
  · have hp : Sp.parts o.kind = some [.place, .off, .text] := by rw [hk]; rfl
    have hon : o.only = ⟨o.kind, o.page, o.at_, o.off, o.text, [], 0, 0, 0⟩ := by unfold Sp.Op.only; rw [hk]; rfl
    rw [hp] at hm hc3 ⊢
    simp only [Option.getD_some] at hm hc3 ⊢
    refine ptR_patch k3 x3 hm hc3 hs (fun w' k x t => ?_)
    simp only [List.all_cons, List.all_nil, Bool.and_true, Bool.and_eq_true, Sp.partMay, decide_eq_true_eq] at hm
    rw [Int.toNat_of_nonneg (show 0 ≤ o.at_ by omega)] at x
    rw [Int.toNat_of_nonneg (show 0 ≤ o.off by omega)] at x
    rw [hon]
    exact ⟨none, 0, k, x, Reads.none_, .inl rfl, q3.trans t⟩
end
end Go.Proofs.YtclpmkinjjhncaaGreat

/- Package op: read. -/
namespace Go.Proofs.YtclpmkinjjhncaaGreat
open Go.RowKit

/-- An op as a value. -/
abbrev opV (o : Sp.Op) (A : Option Addr) (c : Nat) : Value := .agg (opCs o A c)
theorem results_cell_tmp2 {fn : Func} {p u v : Tmp} {ty : TypeId} (h : fn.results = #[.cell p ty, .tmp u, .tmp v]) (tmps : Array Value) (P : Program) (w : World) :
    (results fn tmps).run P w =
      ((asAddr (tmps.getD p undef)).run P w).andThen fun a w₁ => ((loadVar ty a).run P w₁).andThen fun x w₂ => .ok (.tuple #[x, tmps.getD u undef, tmps.getD v undef]) w₂ := by
  simp only [results, h]
  simp [Sem.run_bind, Result.andThen]
theorem op_size : (Tryz.prog.info? 28).map (·.size) = some 9 := by kernel_rfl
theorem op_store {W : World} {g : Nat} {c0 c1 c2 c3 c4 c5 c6 c7 c8 : Value} {o : Sp.Op} {A : Option Addr} {c : Nat} (h : Blk W g 28 #[c0, c1, c2, c3, c4, c5, c6, c7, c8]) :
    (storeVar 28 ⟨g, 0, none⟩ (opV o A c)).run Tryz.prog W = .ok () (W.setRow g (opCs o A c)) :=
  run_storeVar_part W g 0 _ _ _ _ h op_size (by show 0 + 9 ≤ 9; omega) (by simp [opCs, Value.oneCell'])
set_option maxRecDepth 100000 in
set_option maxHeartbeats 4000000 in
theorem op_read {w : World} {o : Sp.Op} {t : Sp.Bs} (ho : o.Ok) (hf : Sp.opFits o = true) (hs : (Sp.opBytes o ++ t).length ≤ 100000000) :
    Calls Tryz.prog 149 #[str (Sp.opBytes o ++ t)] w fun e w' => ∃ A c, e = .returned (.tuple #[opV o.only A c, .int .i64 (Sp.opBytes o).length, .bool true]) ∧ RowsAt (fun b => w.heap.size ≤ b) w' A o.only.rows ∧ OkAddr A ∧ Below w.heap.size w w' := by
  have hX1 := (Blk.new w 28 (opZs 0 0)).alloc (.cells (coCs w.heap.size (Sp.opBytes o ++ t) 0 true false) 289)
  have hK1 := Blk.new (w.alloc (.cells (opZs 0 0) 28)) 289 (coCs w.heap.size (Sp.opBytes o ++ t) 0 true false)
  have hb1 := ((Below.refl w.heap.size w).alloc (Nat.le_refl _) (.cells (opZs 0 0) 28)).alloc (by simp) (.cells (coCs w.heap.size (Sp.opBytes o ++ t) 0 true false) 289)
  have hsz : (w.alloc (.cells (opZs 0 0) 28)).heap.size = w.heap.size + 1 := by simp
  rw [hsz] at hK1
  have HR := Lib.hid (co_opR ho hf hK1 hX1 (t := t) (by simp) hs)
  clear hK1 hX1 hsz
  go_enter Tryz.func149, Tryz.ntmps149
  go_wp2_with fail
  refine HR.out.mono ?_
  rintro e w2 ⟨rfl, A, c, hK2, hX2, hR2, hA, hT2⟩
  rw [Nat.zero_add] at hK2
  have hne : w.heap.size ≠ w.heap.size + 1 := by omega
  have hbl : Below w.heap.size w w2 := by
    have hb2 := hT2.below (n := w.heap.size) (by simp; omega) (fun b hb => by rcases hb with rfl | rfl <;> omega)
    exact hb1.trans hb2
  have hR3 : RowsAt (fun b => w.heap.size + 2 ≤ b) w2 A o.only.rows := hR2.mono (fun b hb => by simpa using hb)
  have HB := Lib.hid hbl
  have HR3 := Lib.hid hR3
  have HX2 := Lib.hid hX2
  have hS := Lib.hid (show Blk w2.drew w.heap.size 28 (opCs o.only A c) ∧ Blk w2.drew (w.heap.size + 1) 289 (coCs w.heap.size (Sp.opBytes o ++ t) (Sp.opBytes o).length true false) from ⟨hX2, hK2⟩)
  clear hb1 hT2 hbl hR2 hR3 HR hX2 hK2
  go_wp2_with fail
  refine R_begin (fun W => Blk W w.heap.size 28 (opCs o.only A c) ∧ Blk W (w.heap.size + 1) 289 (coCs w.heap.size (Sp.opBytes o ++ t) (Sp.opBytes o).length true false)) (fun _ => false) rfl ?_
  refine R_take 0 11 (v := opV o.only A c) rfl rfl (by rfl) (by kernel_rfl) (fun _ _ _ h => h) hS.out ?_ ?_
  · intro W hSw
    exact run_op_load _ _ _ rfl rfl (run_loadVar_row W w.heap.size _ _ _ _ _ hSw.1 Tryz.underlying28 rfl rfl)
  simp only [List.setIfInBounds_toArray, List.set_cons_zero, List.set_cons_succ]
  refine R_tk 1 12 hS.out ?_
  simp only [List.setIfInBounds_toArray, List.set_cons_zero, List.set_cons_succ]
  refine R_tk 2 13 hS.out ?_
  simp only [List.setIfInBounds_toArray, List.set_cons_zero, List.set_cons_succ]
  refine R_tk 3 14 hS.out ?_
  simp only [List.setIfInBounds_toArray, List.set_cons_zero, List.set_cons_succ]
  refine R_take 4 15 (v := .int .i64 ((Sp.opBytes o).length : Int)) rfl rfl (by rfl) (by kernel_rfl) (fun _ _ _ h => h) hS.out ?_ ?_
  · intro W hSw
    have k2 := hSw.2.cell 2
    simp only [coCs, List.getElem?_toArray, List.getElem?_cons_succ, List.getElem?_cons_zero] at k2
    go_simp
  simp only [List.setIfInBounds_toArray, List.set_cons_zero, List.set_cons_succ]
  refine R_tk 5 16 hS.out ?_
  simp only [List.setIfInBounds_toArray, List.set_cons_zero, List.set_cons_succ]
  refine R_tk 6 17 hS.out ?_
  simp only [List.setIfInBounds_toArray, List.set_cons_zero, List.set_cons_succ]
  refine R_tk 7 18 hS.out ?_
  simp only [List.setIfInBounds_toArray, List.set_cons_zero, List.set_cons_succ]
  refine R_take 8 19 (v := .bool false) rfl rfl (by rfl) (by kernel_rfl) (fun _ _ _ h => h) hS.out ?_ ?_
  · intro W hSw
    have k2 := hSw.2.cell 4
    simp only [coCs, List.getElem?_toArray, List.getElem?_cons_succ, List.getElem?_cons_zero] at k2
    go_simp
  simp only [List.setIfInBounds_toArray, List.set_cons_zero, List.set_cons_succ]
  refine R_take 9 20 (v := .bool true) rfl rfl (by rfl) (by kernel_rfl) (fun _ _ _ h => h) hS.out (fun W _ => by go_simp) ?_
  simp only [List.setIfInBounds_toArray, List.set_cons_zero, List.set_cons_succ]
  have hS2 := Lib.hid (show Blk (w2.drew.setRow w.heap.size (opCs o.only A c)) w.heap.size 28 (opCs o.only A c) ∧ Blk (w2.drew.setRow w.heap.size (opCs o.only A c)) (w.heap.size + 1) 289 (coCs w.heap.size (Sp.opBytes o ++ t) (Sp.opBytes o).length true false) from ⟨hS.out.1.setRow _, hS.out.2.keep (heap_setRow_other _ _ _ _ (fun e => hne e.symm))⟩)
  refine R_store 10 (n := .skip) (w' := w2.drew.setRow w.heap.size (opCs o.only A c)) rfl rfl (by rfl) (by kernel_rfl) (run_op_store _ _ _ _ _ rfl rfl rfl (op_store hS.out.1)) (.inl rfl) (fun _ => hS2.out) ?_
  refine R_tk 11 3 hS2.out ?_
  simp only [List.setIfInBounds_toArray, List.set_cons_zero, List.set_cons_succ]
  refine R_tk 12 4 hS2.out ?_
  simp only [List.setIfInBounds_toArray, List.set_cons_zero, List.set_cons_succ]
  refine R_done (by kernel_rfl) ?_ _
  rename_i K9 hK9
  refine hK9 _ _ ?_
  clear hK9
  have hB5 := hS2.out.1
  have hb5 : Below w.heap.size w (w2.drew.setRow w.heap.size (opCs o.only A c)) := below_setRow HB.out.drew (Nat.le_refl _) _
  have hR5 : RowsAt (fun b => w.heap.size ≤ b) (w2.drew.setRow w.heap.size (opCs o.only A c)) A o.only.rows :=
    (Reads.turnsN (HR3.out : Reads _ w2 1 A _ _) (((Turns.refl (only w.heap.size) w2).drew).setRow (.inl rfl) (opCs o.only A c)) (fun b hb e => by have e : b = w.heap.size := e; omega)).mono (fun b hb => by omega)
  generalize World.setRow _ _ _ = w5 at hb5 hR5 hB5 ⊢
  have z0 := hB5.cell 0
  have z1 := hB5.cell 1
  have z2 := hB5.cell 2
  have z3 := hB5.cell 3
  have z4 := hB5.cell 4
  have z5 := hB5.cell 5
  have z6 := hB5.cell 6
  have z7 := hB5.cell 7
  have z8 := hB5.cell 8
  simp only [opCs, List.getElem?_toArray, List.getElem?_cons_succ, List.getElem?_cons_zero] at z0 z1 z2 z3 z4 z5 z6 z7 z8
  go_wp2_with fail
  exact bodyPost_ret (v := .tuple #[opV o.only A c, .int .i64 (Sp.opBytes o).length, .bool true]) (by rw [results_cell_tmp2 rfl]; go_simp; rfl) rfl ⟨A, c, rfl, hR5, hA, hb5⟩
end Go.Proofs.YtclpmkinjjhncaaGreat

/- slices.Equal of strings; package op: Same. -/
namespace Go.Proofs.YtclpmkinjjhncaaGreat
open Go.RowKit

set_option maxRecDepth 100000 in
set_option maxHeartbeats 4000000 in
theorem equal_str {w : World} {G G2 : Foot} {A B : Option Addr} {c d : Nat} {xs ys : List Sp.Bs} (hA : RowsAt G w A xs) (hB : RowsAt G2 w B ys) (hx : xs.length ≤ 1000000) (hy : ys.length ≤ 1000000) :
    Calls Tryz.prog 266 #[.slice A xs.length c, .slice B ys.length d] w fun e w' => e = .returned (.bool (decide (xs = ys))) ∧ ∃ n, w' = w.drewN n := by
  have HA := Lib.hid hA
  have HB := Lib.hid hB
  clear hA hB
  by_cases hl : xs.length = ys.length
  · have e1 : ((xs.length : Int) != (ys.length : Int)) = false := by simp [hl]
    replace hl := Lib.hid hl
    go_enter Tryz.func266, Tryz.ntmps266
    go_wp2_with fail
    go_loopw [13] (fun v13 wr => ∃ i : Nat, i ≤ xs.length ∧ v13 = .int .i64 i ∧ xs.take i = ys.take i ∧ ∃ n, wr = w.drewN n) (fun v13 _ => xs.length - (intOf v13).toNat)
    case atStart => exact ⟨0, by omega, rfl, rfl, 0, rfl⟩
    case round =>
      obtain ⟨i, hi, rfl, htk, n, rfl⟩ := hrel
      by_cases hlt : i < xs.length
      · obtain ⟨b1, o1, rfl, hG1, hb1, hc1⟩ := HA.out.row hlt
        obtain ⟨b2, o2, rfl, hG2, hb2, hc2⟩ := HB.out.row (show i < ys.length by have := hl.out; omega)
        have hly : i < ys.length := by have := hl.out; omega
        have hgx := List.take_succ_eq_append_getElem hlt
        have hgy := List.take_succ_eq_append_getElem hly
        have hnx : ∀ h : xs = ys, xs[i] = ys[i] := fun h => by subst h; rfl
        generalize xs[i] = x at *
        generalize ys[i] = y at *
        by_cases hxy : x = y
        · subst hxy
          go_wp2_with fail
          go_quiet (fail)
          go_wp2_with fail
          go_roundw
          case rel => exact ⟨i + 1, hlt, by go_num, by rw [hgx, hgy, htk], n + nq, rfl⟩
          case measure => simp [intOf]; omega
        · have hq : (x == y) = false := by simp [hxy]
          have hne : xs ≠ ys := fun h => hxy (hnx h)
          go_wp2_with fail
          go_quiet (fail)
          go_wp2_with fail
          go_ret
          exact ⟨by rw [decide_eq_false hne]; rfl, n + nq, by rw [World.drewN_drewN]⟩
      · obtain rfl : i = xs.length := by omega
        have heq : xs = ys := by
          rw [List.take_length, hl.out, List.take_length] at htk
          exact htk
        go_wp2_with fail
        go_ret
        exact ⟨by rw [decide_eq_true heq]; rfl, n, rfl⟩
  · have e1 : ((xs.length : Int) != (ys.length : Int)) = true := by simp; omega
    go_enter Tryz.func266, Tryz.ntmps266
    go_wp2_with fail
    go_ret
    exact ⟨by rw [decide_eq_false (fun h => hl (by rw [h]))]; rfl, 0, rfl⟩
theorem op_ext {a b : Sp.Op} (h1 : a.kind = b.kind) (h2 : a.page = b.page) (h3 : a.at_ = b.at_) (h4 : a.off = b.off) (h5 : a.text = b.text) (h6 : a.rows = b.rows) (h7 : a.pk = b.pk) (h8 : a.lv = b.lv) (h9 : a.nx = b.nx) : a = b := by
  cases a; cases b; simp_all
set_option maxRecDepth 100000 in
set_option maxHeartbeats 4000000 in
theorem op_same {w : World} {G G2 : Foot} {A B : Option Addr} {c d : Nat} {a b : Sp.Op} (hA : RowsAt G w A a.rows) (hB : RowsAt G2 w B b.rows) (hx : a.rows.length ≤ 1000000) (hy : b.rows.length ≤ 1000000) :
    Calls Tryz.prog 214 #[opV a A c, opV b B d] w fun e w' => e = .returned (.bool (decide (a = b))) ∧ Below w.heap.size w w' := by
  have hb1 := (Below.refl w.heap.size w).alloc (Nat.le_refl _) (.cells (opCs a A c) 28)
  have hb2 := hb1.alloc (by simp) (.cells (opCs b B d) 28)
  have hA2 := Reads.below hA hb2
  have hB2 := Reads.below hB hb2
  have HE := Lib.hid (equal_str (c := c) (d := d) hA2 hB2 hx hy)
  have HB2 := Lib.hid hb2
  have ha := (Blk.new w 28 (opCs a A c)).alloc (.cells (opCs b B d) 28)
  have hb := Blk.new (w.alloc (.cells (opCs a A c) 28)) 28 (opCs b B d)
  have hsz : (w.alloc (.cells (opCs a A c) 28)).heap.size = w.heap.size + 1 := by simp
  rw [hsz] at hb
  have x0 := ha.cell 0
  have x1 := ha.cell 1
  have x2 := ha.cell 2
  have x3 := ha.cell 3
  have x4 := ha.cell 4
  have x5 := ha.cell 5
  have x6 := ha.cell 6
  have x7 := ha.cell 7
  have x8 := ha.cell 8
  have y0 := hb.cell 0
  have y1 := hb.cell 1
  have y2 := hb.cell 2
  have y3 := hb.cell 3
  have y4 := hb.cell 4
  have y5 := hb.cell 5
  have y6 := hb.cell 6
  have y7 := hb.cell 7
  have y8 := hb.cell 8
  simp only [show ∀ (o : Sp.Op) (A : Option Addr) (c : Nat) (i : Nat), (opCs o A c)[i]? = [Value.int .u8 o.kind, .int .u32 o.page, .int .i64 o.at_, .int .i64 o.off, str o.text, .slice A o.rows.length c, .int .u8 o.pk, .int .u8 o.lv, .int .u32 o.nx][i]? from fun o A c i => List.getElem?_toArray, List.getElem?_cons_succ, List.getElem?_cons_zero] at x0 x1 x2 x3 x4 x5 x6 x7 x8 y0 y1 y2 y3 y4 y5 y6 y7 y8
  clear hA2 hB2 hb1 hb2 hA hB ha hb hsz
  by_cases h0 : a.kind = b.kind
  · have q0 : ((a.kind : Int) == (b.kind : Int)) = true := by simp [h0]
    replace h0 := Lib.hid h0
    by_cases h1 : a.page = b.page
    · have q1 : ((a.page : Int) == (b.page : Int)) = true := by simp [h1]
      replace h1 := Lib.hid h1
      by_cases h2 : a.at_ = b.at_
      · have q2 : (a.at_ == b.at_) = true := by simp [h2]
        replace h2 := Lib.hid h2
        by_cases h3 : a.off = b.off
        · have q3 : (a.off == b.off) = true := by simp [h3]
          replace h3 := Lib.hid h3
          by_cases h4 : a.text = b.text
          · have q4 : (a.text == b.text) = true := by simp [h4]
            replace h4 := Lib.hid h4
            by_cases h5 : a.rows = b.rows
            · skip
              replace h5 := Lib.hid h5
              by_cases h6 : a.pk = b.pk
              · have q6 : ((a.pk : Int) == (b.pk : Int)) = true := by simp [h6]
                replace h6 := Lib.hid h6
                by_cases h7 : a.lv = b.lv
                · have q7 : ((a.lv : Int) == (b.lv : Int)) = true := by simp [h7]
                  replace h7 := Lib.hid h7
                  by_cases h8 : a.nx = b.nx
                  · have q8 : ((a.nx : Int) == (b.nx : Int)) = true := by simp [h8]
                    replace h8 := Lib.hid h8
                    go_enter Tryz.func214, Tryz.ntmps214
                    go_wp2_with fail
                    refine HE.out.mono ?_
                    rintro e w3 ⟨rfl, n, rfl⟩
                    rw [decide_eq_true h5.out]
                    go_wp2_with fail
                    go_ret
                    exact ⟨by rw [decide_eq_true (op_ext h0.out h1.out h2.out h3.out h4.out h5.out h6.out h7.out h8.out)]; rfl, below_drewN' HB2.out n⟩
                  · have q8 : ((a.nx : Int) == (b.nx : Int)) = false := by rw [beq_eq_false_iff_ne]; omega
                    go_enter Tryz.func214, Tryz.ntmps214
                    go_wp2_with fail
                    refine HE.out.mono ?_
                    rintro e w3 ⟨rfl, n, rfl⟩
                    rw [decide_eq_true h5.out]
                    go_wp2_with fail
                    go_ret
                    exact ⟨by rw [decide_eq_false (fun h => h8 (by rw [h]))]; rfl, below_drewN' HB2.out n⟩
                · have q7 : ((a.lv : Int) == (b.lv : Int)) = false := by rw [beq_eq_false_iff_ne]; omega
                  go_enter Tryz.func214, Tryz.ntmps214
                  go_wp2_with fail
                  refine HE.out.mono ?_
                  rintro e w3 ⟨rfl, n, rfl⟩
                  rw [decide_eq_true h5.out]
                  go_wp2_with fail
                  go_ret
                  exact ⟨by rw [decide_eq_false (fun h => h7 (by rw [h]))]; rfl, below_drewN' HB2.out n⟩
              · have q6 : ((a.pk : Int) == (b.pk : Int)) = false := by rw [beq_eq_false_iff_ne]; omega
                go_enter Tryz.func214, Tryz.ntmps214
                go_wp2_with fail
                refine HE.out.mono ?_
                rintro e w3 ⟨rfl, n, rfl⟩
                rw [decide_eq_true h5.out]
                go_wp2_with fail
                go_ret
                exact ⟨by rw [decide_eq_false (fun h => h6 (by rw [h]))]; rfl, below_drewN' HB2.out n⟩
            · skip
              go_enter Tryz.func214, Tryz.ntmps214
              go_wp2_with fail
              refine HE.out.mono ?_
              rintro e w3 ⟨rfl, n, rfl⟩
              rw [decide_eq_false h5]
              go_wp2_with fail
              go_ret
              exact ⟨by rw [decide_eq_false (fun h => h5 (by rw [h]))]; rfl, below_drewN' HB2.out n⟩
          · have q4 : (a.text == b.text) = false := by simp [h4]
            go_enter Tryz.func214, Tryz.ntmps214
            go_wp2_with fail
            go_ret
            exact ⟨by rw [decide_eq_false (fun h => h4 (by rw [h]))]; rfl, HB2.out⟩
        · have q3 : (a.off == b.off) = false := by rw [beq_eq_false_iff_ne]; omega
          go_enter Tryz.func214, Tryz.ntmps214
          go_wp2_with fail
          go_ret
          exact ⟨by rw [decide_eq_false (fun h => h3 (by rw [h]))]; rfl, HB2.out⟩
      · have q2 : (a.at_ == b.at_) = false := by rw [beq_eq_false_iff_ne]; omega
        go_enter Tryz.func214, Tryz.ntmps214
        go_wp2_with fail
        go_ret
        exact ⟨by rw [decide_eq_false (fun h => h2 (by rw [h]))]; rfl, HB2.out⟩
    · have q1 : ((a.page : Int) == (b.page : Int)) = false := by rw [beq_eq_false_iff_ne]; omega
      go_enter Tryz.func214, Tryz.ntmps214
      go_wp2_with fail
      go_ret
      exact ⟨by rw [decide_eq_false (fun h => h1 (by rw [h]))]; rfl, HB2.out⟩
  · have q0 : ((a.kind : Int) == (b.kind : Int)) = false := by rw [beq_eq_false_iff_ne]; omega
    go_enter Tryz.func214, Tryz.ntmps214
    go_wp2_with fail
    go_ret
    exact ⟨by rw [decide_eq_false (fun h => h0 (by rw [h]))]; rfl, HB2.out⟩
end Go.Proofs.YtclpmkinjjhncaaGreat

/- Package op: write, May. -/
namespace Go.Proofs.YtclpmkinjjhncaaGreat
open Go.RowKit

set_option maxRecDepth 100000 in
theorem op_load {W : World} {g : Nat} {o : Sp.Op} {A : Option Addr} {c : Nat} (h : Blk W g 28 (opCs o A c)) :
    (loadVar 28 ⟨g, 0, none⟩).run Tryz.prog W = .ok (opV o A c) W :=
  run_loadVar_row W g _ _ _ _ _ h Tryz.underlying28 rfl rfl
theorem Sp.pieces_len : ∀ (l : List Sp.Bs), (l.flatMap Sp.pieceB).length = 2 * l.length + Sp.total l
  | [] => rfl
  | r :: l => by
    rw [List.flatMap_cons, List.length_append, Sp.pieces_len l, Sp.total_cons, List.length_cons, Sp.pieceB, List.length_append, Sp.be_length]
    omega
theorem Sp.partB_len (o : Sp.Op) (p : Sp.Pt) : (Sp.partB o p).length ≤ Sp.partLen o p := by
  cases p <;> simp only [Sp.partB, Sp.partLen, Sp.be_length, Sp.pieceB, List.length_append, Sp.pieces_len] <;> omega
theorem Sp.partsB_len (o : Sp.Op) : ∀ (l : List Sp.Pt), (l.flatMap (Sp.partB o)).length ≤ Sp.partsLen o l
  | [] => Nat.zero_le _
  | p :: l => by
    have h1 := Sp.partB_len o p
    have h2 := Sp.partsB_len o l
    rw [List.flatMap_cons, List.length_append]
    show _ ≤ Sp.partLen o p + Sp.partsLen o l
    omega
theorem Sp.opBytes_len {o : Sp.Op} (hS : o.Short) : (Sp.opBytes o).length ≤ 900017 := by
  unfold Sp.opBytes
  rw [List.length_append, List.length_append, Sp.be_length, Sp.be_length]
  cases hp : Sp.parts o.kind with
  | none => simp
  | some l =>
    have h1 := hS.parts hp
    have h2 := Sp.partsB_len o l
    simp only [Option.getD_some]
    omega
theorem Reads.inside {G : Foot} {w : World} {size n : Nat} {A : Option Addr} {xs : List Value} (h : Reads G w size A n xs) : Reads (fun b => G b ∧ b < w.heap.size) w size A n xs := by
  refine ⟨h.1, fun h0 => ?_⟩
  obtain ⟨b, o, hA, hb, hlt, hc⟩ := h.2 h0
  exact ⟨b, o, hA, ⟨hb, hlt⟩, hlt, hc⟩
set_option maxRecDepth 100000 in
set_option maxHeartbeats 4000000 in
theorem op_write {w : World} {G : Foot} {A : Option Addr} {c : Nat} {o : Sp.Op} (hR : RowsAt G w A o.rows) (hA : OkAddr A) (ho : o.Ok) (hS : o.Short) :
    Calls Tryz.prog 162 #[opV o A c] w fun e w' => ∃ s, e = .returned (.tuple #[str s, .bool (Sp.opMay o)]) ∧ (Sp.opMay o = true → s = Sp.opBytes o) ∧ Below w.heap.size w w' := by
  have hB1 := Blk.new w 28 (opCs o A c)
  have hb1 := (Below.refl w.heap.size w).alloc (Nat.le_refl _) (.cells (opCs o A c) 28)
  have hb2 := hb1.alloc (by simp) (.cells (opZs 0 0) 28)
  have hsz : (w.alloc (.cells (opCs o A c) 28)).heap.size = w.heap.size + 1 := by simp
  have hz := Blk.new (w.alloc (.cells (opCs o A c) 28)) 28 (opZs 0 0)
  rw [hsz] at hz
  have HL1 := Lib.hid (op_load hB1)
  have HS1 := Lib.hid (op_store (o := o) (A := A) (c := c) hz)
  have hb3 : Below w.heap.size w (((w.alloc (.cells (opCs o A c) 28)).alloc (.cells (opZs 0 0) 28)).setRow (w.heap.size + 1) (opCs o A c)) := below_setRow hb2 (by omega) _
  have hB3 : Blk (((w.alloc (.cells (opCs o A c) 28)).alloc (.cells (opZs 0 0) 28)).setRow (w.heap.size + 1) (opCs o A c)) w.heap.size 28 (opCs o A c) := (hB1.alloc _).keep (heap_setRow_other _ _ _ _ (by omega))
  have hX3 : Blk (((w.alloc (.cells (opCs o A c) 28)).alloc (.cells (opZs 0 0) 28)).setRow (w.heap.size + 1) (opCs o A c)) (w.heap.size + 1) 28 (opCs o A c) := hz.setRow _
  have hR3 := Reads.below hR hb3
  go_enter Tryz.func162, Tryz.ntmps162
  go_upto_region 2 with (first
    | ((with_reducible refine wpList_run (v := opV o A c) (w' := w.alloc (.cells (opCs o A c) 28)) 9 rfl rfl ?_ ?_); exact run_op_load _ _ ⟨w.heap.size, 0, none⟩ rfl rfl HL1.out; simp only [List.setIfInBounds_toArray, List.set_cons_zero, List.set_cons_succ])
    | ((with_reducible refine wpList_skip (w' := ((w.alloc (.cells (opCs o A c) 28)).alloc (.cells (opZs 0 0) 28)).setRow (w.heap.size + 1) (opCs o A c)) rfl rfl ?_ ?_); exact run_op_store _ _ _ ⟨w.heap.size + 1, 0, none⟩ (opV o A c) rfl rfl rfl HS1.out))
  generalize ((w.alloc (.cells (opCs o A c) 28)).alloc (.cells (opZs 0 0) 28)).setRow (w.heap.size + 1) (opCs o A c) = w3 at hb3 hB3 hX3 hR3 ⊢
  have x5 := hB3.cell 5
  simp only [opCs, List.getElem?_toArray, List.getElem?_cons_succ, List.getElem?_cons_zero] at x5
  have hnl : o.rows.length ≤ 1000000 := by unfold Sp.Op.Short at hS; omega
  have HC := Lib.hid (clone_rows (c := c) hR3 hA hnl)
  have HB3 := Lib.hid hb3
  have HBo := Lib.hid hB3
  have HRo := Lib.hid hR3
  clear hb3 hB3 hR3 hB1 hb1 hb2 hsz hz HL1 HS1
  go_wp2_with fail
  refine HC.out.mono ?_
  rintro e w4 ⟨A4, c4, rfl, hA4, hR4, hb4⟩
  clear x5
  have hX4 := hX3.below hb4 hX3.lt
  have y5 := hX4.cell 5
  have f5 := hX4.frozen 5
  simp only [opCs, List.getElem?_toArray, List.getElem?_cons_succ, List.getElem?_cons_zero] at y5
  replace hX3 := Lib.hid hX3
  replace hX4 := Lib.hid hX4
  go_upto_region 3 with fail
  have hX5 : Blk (w4.setCell ⟨w.heap.size + 1, 5, none⟩ (.slice A4 o.rows.length c4)) (w.heap.size + 1) 28 (opCs o A4 c4) := hX4.out.set_ 5 _
  have hlt1 : w.heap.size + 1 < w3.heap.size := hX3.out.lt
  have hB5 := (HBo.out.below hb4 HBo.out.lt).far (p := ⟨w.heap.size + 1, 5, none⟩) (show w.heap.size ≠ w.heap.size + 1 by omega) (.slice A4 o.rows.length c4)
  have hb5 : Below w.heap.size w (w4.setCell ⟨w.heap.size + 1, 5, none⟩ (.slice A4 o.rows.length c4)) := (HB3.out.trans (hb4.mono HB3.out.size)).setCell (by show w.heap.size ≤ w.heap.size + 1; omega) _
  have hR5 : RowsAt (fun b => w3.heap.size ≤ b ∧ b < w4.heap.size) (w4.setCell ⟨w.heap.size + 1, 5, none⟩ (.slice A4 o.rows.length c4)) A4 o.rows := (Reads.inside hR4).turnsN ((Turns.refl (only (w.heap.size + 1)) w4).setCell (p := ⟨w.heap.size + 1, 5, none⟩) (.inl rfl) _) (fun b hb e => by have e : b = w.heap.size + 1 := e; omega)
  have hRo5 : RowsAt G (w4.setCell ⟨w.heap.size + 1, 5, none⟩ (.slice A4 o.rows.length c4)) A o.rows := Reads.below hR hb5
  have hs5 : (w4.setCell ⟨w.heap.size + 1, 5, none⟩ (.slice A4 o.rows.length c4)).heap.size = w4.heap.size := by simp [World.setCell]
  have hs34 := hb4.size
  generalize World.setCell w4 _ _ = w5 at hX5 hB5 hb5 hR5 hRo5 hs5 ⊢
  clear HC hX4 y5 f5 hR4 hX3 HB3 HBo HRo hA4 hb4
  rw [← hs5] at hR5
  have hK6 := Blk.new w5 289 (coCs (w.heap.size + 1) [] 0 false false)
  have hX6 := hX5.alloc (.cells (coCs (w.heap.size + 1) [] 0 false false) 289)
  have hB6 := hB5.alloc (.cells (coCs (w.heap.size + 1) [] 0 false false) 289)
  have hba6 := (Below.refl w5.heap.size w5).alloc (Nat.le_refl _) (.cells (coCs (w.heap.size + 1) [] 0 false false) 289)
  have hb6 := hb5.alloc hb5.size (.cells (coCs (w.heap.size + 1) [] 0 false false) 289)
  have hR6 := Reads.below hR5 hba6
  have hRo6 := Reads.below hRo5 hba6
  have HO := Lib.hid (co_op (k := ⟨[], false⟩) hK6 hX6 hR6 (fun h => by omega) ho hS (by simp))
  have hne6 : w.heap.size ≠ w5.heap.size := by have := hB5.lt; omega
  have HB6 := Lib.hid hB6
  have HBB6 := Lib.hid hb6
  have HRo6 := Lib.hid hRo6
  have hs5w := hb5.size
  clear hK6 hX6 hB6 hba6 hb6 hR6 hRo6 hX5 hB5 hb5 hR5 hRo5 hs5 hs34 hlt1
  go_wp2_with fail
  refine HO.out.mono ?_
  rintro e w7 ⟨rfl, hK7, hT7⟩
  have hb7 : Below w.heap.size w w7 := HBB6.out.trans (hT7.below (by simp; omega) (fun b hb => by have hb : b = w5.heap.size := hb; omega))
  have hB7 := HB6.out.turns hT7 hne6
  have hRo7 : RowsAt G w7 A o.rows := Reads.below hR hb7
  clear HO HBB6 HB6 HRo6
  by_cases hf : Sp.opFits o = true
  · rw [Sp.Co.op_ok ho rfl hf, List.nil_append] at hK7
    have k4 := hK7.cell 4
    have k1 := hK7.cell 1
    simp only [coCs, List.getElem?_toArray, List.getElem?_cons_succ, List.getElem?_cons_zero] at k4 k1
    have hlen := Sp.opBytes_len hS
    have HRD := Lib.hid (op_read (w := w7) (t := []) ho hf (by rw [List.append_nil]; omega))
    rw [List.append_nil] at HRD
    have HK7 := Lib.hid hK7
    have HB7 := Lib.hid hB7
    have HBW7 := Lib.hid hb7
    clear hK7 hB7 hb7 hRo7 hT7
    go_wp2_with fail
    refine HRD.out.mono ?_
    rintro e w8 ⟨A8, c8, rfl, hR8, hA8, hb8⟩
    have hz8 : Blk (w8.alloc (.cells (opZs 0 0) 28)) w8.heap.size 28 (opZs 0 0) := Blk.new _ _ _
    have HS8 := Lib.hid (op_store (o := o.only) (A := A8) (c := c8) hz8)
    have hb89 : Below w8.heap.size w8 ((w8.alloc (.cells (opZs 0 0) 28)).setRow w8.heap.size (opCs o.only A8 c8)) := below_setRow ((Below.refl w8.heap.size w8).alloc (Nat.le_refl _) _) (Nat.le_refl _) _
    have hX9 : Blk ((w8.alloc (.cells (opZs 0 0) 28)).setRow w8.heap.size (opCs o.only A8 c8)) w8.heap.size 28 (opCs o.only A8 c8) := hz8.setRow _
    have hK9 := (HK7.out.below hb8 HK7.out.lt).below hb89 (Nat.lt_of_lt_of_le HK7.out.lt hb8.size)
    have hB9 := (HB7.out.below hb8 HB7.out.lt).below hb89 (Nat.lt_of_lt_of_le HB7.out.lt hb8.size)
    have hb9 : Below w.heap.size w _ := (HBW7.out.trans (hb8.mono HBW7.out.size)).trans (hb89.mono (Nat.le_trans HBW7.out.size hb8.size))
    have hR9 := Reads.below hR8 hb89
    have hRo9 := Reads.below hR hb9
    replace hX9 := Lib.hid hX9
    replace hK9 := Lib.hid hK9
    replace hB9 := Lib.hid hB9
    replace hb9 := Lib.hid hb9
    replace hR9 := Lib.hid hR9
    replace hRo9 := Lib.hid hRo9
    clear hz8 hb89 hb8 hR8 HRD HK7 HB7 HBW7 k1 k4
    go_upto_region 8 with (first
      | ((with_reducible refine wpList_skip (w' := (w8.alloc (.cells (opZs 0 0) 28)).setRow w8.heap.size (opCs o.only A8 c8)) rfl rfl ?_ ?_); exact run_op_store _ _ _ ⟨w8.heap.size, 0, none⟩ (opV o.only A8 c8) rfl rfl rfl HS8.out))
    clear HS8
    generalize ((w8.alloc (.cells (opZs 0 0) 28)).setRow w8.heap.size (opCs o.only A8 c8)) = w9 at hX9 hK9 hB9 hb9 hR9 hRo9 ⊢
    obtain ⟨g8, hg8⟩ : ∃ g, g = w8.heap.size := ⟨_, rfl⟩
    rw [← hg8] at hX9
    rw [← hg8]
    clear hg8
    have hmay : Sp.opMay o = decide (o.only = o) := by unfold Sp.opMay; rw [hf, Bool.true_and]
    have hrn : o.only.rows.length ≤ 1000000 := by
      have : o.only.rows.length ≤ o.rows.length := by unfold Sp.Op.only; split <;> simp
      omega
    have HSM := Lib.hid (op_same (w := w9.drew) (c := c8) (d := c) (a := o.only) (b := o) (G := fun b => w7.heap.size ≤ b) (G2 := G) (A := A8) (B := A) hR9.out hRo9.out hrn hnl)
    have hS := Lib.hid (show Blk w9.drew w5.heap.size 289 (coCs (w.heap.size + 1) (Sp.opBytes o) 0 false false) ∧ Blk w9.drew g8 28 (opCs o.only A8 c8) ∧ Blk w9.drew w.heap.size 28 (opCs o A c) from ⟨hK9.out.drew, hX9.out.drew, hB9.out.drew⟩)
    refine R_begin (fun W => Blk W w5.heap.size 289 (coCs (w.heap.size + 1) (Sp.opBytes o) 0 false false) ∧ Blk W g8 28 (opCs o.only A8 c8) ∧ Blk W w.heap.size 28 (opCs o A c)) (fun _ => false) rfl ?_
    refine R_tk 0 31 hS.out ?_
    simp only [List.setIfInBounds_toArray, List.set_cons_zero, List.set_cons_succ]
    refine R_tk 1 32 hS.out ?_
    simp only [List.setIfInBounds_toArray, List.set_cons_zero, List.set_cons_succ]
    refine R_tk 2 33 hS.out ?_
    simp only [List.setIfInBounds_toArray, List.set_cons_zero, List.set_cons_succ]
    refine R_take 3 34 (v := str (Sp.opBytes o)) rfl rfl (by rfl) (by kernel_rfl) (fun _ _ _ h => h) hS.out ?_ ?_
    · intro W hSw
      have k2 := hSw.1.cell 1
      simp only [coCs, List.getElem?_toArray, List.getElem?_cons_succ, List.getElem?_cons_zero] at k2
      go_simp
    simp only [List.setIfInBounds_toArray, List.set_cons_zero, List.set_cons_succ]
    refine R_tk 4 35 hS.out ?_
    simp only [List.setIfInBounds_toArray, List.set_cons_zero, List.set_cons_succ]
    refine R_tk 5 36 hS.out ?_
    simp only [List.setIfInBounds_toArray, List.set_cons_zero, List.set_cons_succ]
    refine R_tk 6 37 hS.out ?_
    simp only [List.setIfInBounds_toArray, List.set_cons_zero, List.set_cons_succ]
    refine R_tk 7 38 hS.out ?_
    simp only [List.setIfInBounds_toArray, List.set_cons_zero, List.set_cons_succ]
    refine R_tk 8 39 hS.out ?_
    simp only [List.setIfInBounds_toArray, List.set_cons_zero, List.set_cons_succ]
    refine R_tk 9 40 hS.out ?_
    simp only [List.setIfInBounds_toArray, List.set_cons_zero, List.set_cons_succ]
    refine R_take 10 41 (v := str (Sp.opBytes o)) rfl rfl (by rfl) (by kernel_rfl) (fun _ _ _ h => h) hS.out ?_ ?_
    · intro W hSw
      have k2 := hSw.1.cell 1
      simp only [coCs, List.getElem?_toArray, List.getElem?_cons_succ, List.getElem?_cons_zero] at k2
      go_simp
    simp only [List.setIfInBounds_toArray, List.set_cons_zero, List.set_cons_succ]
    refine R_tk 11 42 hS.out ?_
    simp only [List.setIfInBounds_toArray, List.set_cons_zero, List.set_cons_succ]
    refine R_tk 12 43 hS.out ?_
    simp only [List.setIfInBounds_toArray, List.set_cons_zero, List.set_cons_succ]
    refine R_tk 13 44 hS.out ?_
    simp only [List.setIfInBounds_toArray, List.set_cons_zero, List.set_cons_succ]
    refine R_tk 14 45 hS.out ?_
    simp only [List.setIfInBounds_toArray, List.set_cons_zero, List.set_cons_succ]
    refine R_take 15 46 (v := opV o.only A8 c8) rfl rfl (by rfl) (by kernel_rfl) (fun _ _ _ h => h) hS.out ?_ ?_
    · intro W hSw
      exact run_op_load _ _ _ rfl rfl (op_load hSw.2.1)
    simp only [List.setIfInBounds_toArray, List.set_cons_zero, List.set_cons_succ]
    refine R_take 16 47 (v := opV o A c) rfl rfl (by rfl) (by kernel_rfl) (fun _ _ _ h => h) hS.out ?_ ?_
    · intro W hSw
      exact run_op_load _ _ _ rfl rfl (op_load hSw.2.2)
    simp only [List.setIfInBounds_toArray, List.set_cons_zero, List.set_cons_succ]
    refine R_call 17 48 (w' := w9.drew) rfl rfl (by rfl) (by kernel_rfl) ?_ HSM.out ?_
    · go_simp
    rintro e w10 ⟨rfl, hb10⟩
    have hS2 := Lib.hid (show Blk w10 w5.heap.size 289 (coCs (w.heap.size + 1) (Sp.opBytes o) 0 false false) ∧ Blk w10 g8 28 (opCs o.only A8 c8) ∧ Blk w10 w.heap.size 28 (opCs o A c) from ⟨hK9.out.drew.below hb10 hK9.out.drew.lt, hX9.out.drew.below hb10 hX9.out.drew.lt, hB9.out.drew.below hb10 hB9.out.drew.lt⟩)
    have hb11 : Below w.heap.size w w10 := hb9.out.drew.trans (hb10.mono hb9.out.drew.size)
    skip
    refine ⟨_, rfl, fun _ => hS2.out, ?_⟩
    simp only [List.setIfInBounds_toArray, List.set_cons_zero, List.set_cons_succ]
    refine R_tk 18 49 hS2.out ?_
    simp only [List.setIfInBounds_toArray, List.set_cons_zero, List.set_cons_succ]
    refine R_tk 19 2 hS2.out ?_
    simp only [List.setIfInBounds_toArray, List.set_cons_zero, List.set_cons_succ]
    refine R_tk 20 3 hS2.out ?_
    simp only [List.setIfInBounds_toArray, List.set_cons_zero, List.set_cons_succ]
    refine R_done (by kernel_rfl) ?_ _
    rename_i K9 hK9'
    refine hK9' _ _ ?_
    clear hK9'
    go_wp2_with fail
    go_ret2
    exact ⟨Sp.opBytes o, by rw [hmay]; rfl, fun _ => rfl, hb11⟩
  · have hf : Sp.opFits o = false := by simpa using hf
    have hbad := Sp.Co.op_bad (k := ⟨[], false⟩) hf
    generalize (Sp.Co.op ⟨[], false⟩ o) = q at hK7 hbad
    have k4 := hK7.cell 4
    simp only [coCs, List.getElem?_toArray, List.getElem?_cons_succ, List.getElem?_cons_zero, hbad] at k4
    have hm : Sp.opMay o = false := by unfold Sp.opMay; rw [hf]; rfl
    go_wp2_with fail
    go_ret2
    exact ⟨[], by rw [hm]; rfl, fun h => absurd (hm.symm.trans h) (by decide), hb7⟩
end Go.Proofs.YtclpmkinjjhncaaGreat

/- Package op: May, Encode. -/
namespace Go.Proofs.YtclpmkinjjhncaaGreat
open Go.RowKit

theorem addr_add (b o k : Nat) : (⟨b, o, none⟩ : Addr).add k = ⟨b, o + k, none⟩ := by unfold Addr.add; split <;> simp_all
/-- A list of ops that lies in a row. -/
def OpsAt (G : Foot) (w : World) (L : Option Addr) (l : List Sp.Op) : Prop :=
  l = [] ∨ ∃ b o, L = some ⟨b, o, none⟩ ∧ G b ∧ b < w.heap.size ∧ ∀ j (hj : j < l.length), ∃ A c, OkAddr A ∧ RowsAt G w A l[j].rows ∧ ∀ i u, (opCs l[j] A c)[i]? = some u → w.cell? ⟨b, o + j * 9 + i, none⟩ = some u
theorem OpsAt.below {G : Foot} {w w' : World} {L : Option Addr} {l : List Sp.Op} (h : OpsAt G w L l) (hb : Below w.heap.size w w') : OpsAt G w' L l := by
  rcases h with h | ⟨b, o, hL, hG, hlt, h⟩
  · exact .inl h
  · refine .inr ⟨b, o, hL, hG, Nat.lt_of_lt_of_le hlt hb.size, fun j hj => ?_⟩
    obtain ⟨A, c, hA, hR, hc⟩ := h j hj
    exact ⟨A, c, hA, Reads.below hR hb, fun i u hu => (hb.cell (p := ⟨b, _, none⟩) hlt).trans (hc i u hu)⟩
theorem OpsAt.mono {G G' : Foot} {w : World} {L : Option Addr} {l : List Sp.Op} (h : OpsAt G w L l) (hG : ∀ b, G b → G' b) : OpsAt G' w L l := by
  rcases h with h | ⟨b, o, hL, hb, hlt, h⟩
  · exact .inl h
  · refine .inr ⟨b, o, hL, hG b hb, hlt, fun j hj => ?_⟩
    obtain ⟨A, c, hA, hR, hc⟩ := h j hj
    exact ⟨A, c, hA, hR.mono hG, hc⟩
theorem OpsAt.turns {G F F' : Foot} {w w' : World} {L : Option Addr} {l : List Sp.Op} (h : OpsAt G w L l) (ht : Turns F F' w w') (hG : ∀ b, G b → ¬ F b) : OpsAt G w' L l := by
  rcases h with h | ⟨b, o, hL, hb, hlt, h⟩
  · exact .inl h
  · refine .inr ⟨b, o, hL, hb, Nat.lt_of_lt_of_le hlt ht.size, fun j hj => ?_⟩
    obtain ⟨A, c, hA, hR, hc⟩ := h j hj
    exact ⟨A, c, hA, hR.turnsN ht hG, fun i u hu => (World.cell?_of_block (w := w) (a := ⟨b, _, none⟩) (ht.block b hlt (hG b hb))).trans (hc i u hu)⟩
/-- The bytes of a list of ops. -/
def Sp.opsBytes (l : List Sp.Op) : Sp.Bs := Sp.be 1 l.length ++ l.flatMap Sp.opBytes
theorem Sp.opsB_len : ∀ {l : List Sp.Op}, (∀ o ∈ l, o.Short) → (l.flatMap Sp.opBytes).length ≤ 900017 * l.length
  | [], _ => by simp
  | x :: l, h => by
    have h1 := Sp.opBytes_len (h x (by simp))
    have h2 := Sp.opsB_len (l := l) (fun o ho => h o (by simp [ho]))
    rw [List.flatMap_cons, List.length_append, List.length_cons]
    omega
/-- What Encode answers. -/
def EncAns (l : List Sp.Op) (v : Value) : Prop :=
  (32 < l.length ∧ v = .tuple #[str [], .int .i64 5]) ∨ (l.length ≤ 32 ∧ l.all Sp.opMay = false ∧ v = .tuple #[str [], .int .i64 2]) ∨ (l.length ≤ 32 ∧ l.all Sp.opMay = true ∧ v = .tuple #[str (Sp.opsBytes l), .int .i64 0])
section
variable {w : World} {G : Foot}
set_option maxRecDepth 100000 in
set_option maxHeartbeats 4000000 in
theorem op_may {A : Option Addr} {c : Nat} {o : Sp.Op} (hR : RowsAt G w A o.rows) (hA : OkAddr A) (ho : o.Ok) (hS : o.Short) :
    Calls Tryz.prog 174 #[opV o A c] w fun e w' => e = .returned (.bool (Sp.opMay o)) ∧ Below w.heap.size w w' := by
  have hb1 := (Below.refl w.heap.size w).alloc (Nat.le_refl _) (.cells (opCs o A c) 28)
  have HL1 := Lib.hid (op_load (Blk.new w 28 (opCs o A c)))
  have HW := Lib.hid (op_write (c := c) (Reads.below hR hb1) hA ho hS)
  have HB1 := Lib.hid hb1
  clear hb1
  go_enter Tryz.func174, Tryz.ntmps174
  go_wp2_with (first
    | ((with_reducible refine wpList_run (v := opV o A c) (w' := w.alloc (.cells (opCs o A c) 28)) 6 rfl rfl ?_ ?_); exact run_op_load _ _ ⟨w.heap.size, 0, none⟩ rfl rfl HL1.out; simp only [List.setIfInBounds_toArray, List.set_cons_zero, List.set_cons_succ]))
  refine HW.out.mono ?_
  rintro e w2 ⟨s, rfl, -, hb2⟩
  have hb3 := HB1.out.trans (hb2.mono HB1.out.size)
  go_wp2_with fail
  go_ret
  exact ⟨rfl, hb3⟩
set_option maxRecDepth 100000 in
set_option maxHeartbeats 4000000 in
theorem op_encode {L : Option Addr} {cl : Nat} {l : List Sp.Op} (hL : OpsAt G w L l) (hok : ∀ o ∈ l, o.Ok ∧ o.Short) (hn : l.length ≤ 1000000) :
    Calls Tryz.prog 100 #[.slice L l.length cl] w fun e w' => (∃ v, e = .returned v ∧ EncAns l v) ∧ Below w.heap.size w w' := by
  by_cases hlong : 32 < l.length
  · have hW : Calls Tryz.prog 133 #[.int .u64 l.length, .int .i64 ((1 : Nat) : Int)] w fun e w' => (∃ b s, e = .returned (.tuple #[str s, .bool b])) ∧ Below w.heap.size w w' := by
      by_cases h : l.length < 256
      · exact (word_put l.length 1 w (by omega) (by omega) (by omega) (by omega)).mono (fun e w' h => ⟨⟨_, _, h.1⟩, h.2⟩)
      · exact (word_put_bad l.length 1 w (by omega) (by omega) (by omega)).mono (fun e w' h => ⟨⟨_, _, h.1⟩, h.2 ▸ Below.refl _ _⟩)
    have HW := Lib.hid hW
    clear hW hL
    have d1 : decide ((32 : Int) < (l.length : Int)) = true := by simp; omega
    go_enter Tryz.func100, Tryz.ntmps100
    go_wp2_with fail
    refine HW.out.mono ?_
    rintro e w1 ⟨⟨b, s, rfl⟩, hb1⟩
    go_wp2_with fail
    go_ret2
    exact ⟨⟨_, rfl, .inl ⟨hlong, rfl⟩⟩, hb1⟩
  · have HP := Lib.hid (word_put l.length 1 w (by omega) (by omega) (by omega) (by omega))
    have HLL := Lib.hid hL
    clear hL
    go_enter Tryz.func100, Tryz.ntmps100
    go_wp2_with fail
    refine HP.out.mono ?_
    rintro e w1 ⟨rfl, hb1⟩
    have d1 : decide ((32 : Int) < (l.length : Int)) = false := by simp; omega
    have HB1 := Lib.hid hb1
    clear hb1
    go_wp2_with fail
    go_loopw [4, 26] (fun v4 v26 wr => ∃ (i : Nat) (s : Sp.Bs), i ≤ l.length ∧ v26 = .int .i64 i ∧ v4 = str s ∧ s = Sp.be 1 l.length ++ (l.take i).flatMap Sp.opBytes ∧ (l.take i).all Sp.opMay = true ∧ Below w.heap.size w wr) (fun _ v26 _ => l.length - (intOf v26).toNat)
    case atStart => exact ⟨0, _, by omega, rfl, rfl, by rw [List.take_zero]; simp, rfl, HB1.out⟩
    case round =>
      obtain ⟨i, s, hi, rfl, rfl, hs0, hall, hbr⟩ := hrel
      replace hs0 := Lib.hid hs0
      by_cases hlt : i < l.length
      · rcases HLL.out with h0 | ⟨b, o, rfl, hG, hbl, hop⟩
        · rw [h0] at hlt; exact absurd hlt (by simp)
        obtain ⟨A, c, hA, hR, hc⟩ := hop i hlt
        have hx := hok l[i] (List.getElem_mem hlt)
        have e1 : l.take (i + 1) = l.take i ++ [l[i]] := List.take_succ_eq_append_getElem hlt
        have hlen : s.length ≤ 40000000 := by
          rw [hs0.out]
          have h1 := Sp.opsB_len (l := l.take i) (fun o ho => (hok o (List.mem_of_mem_take ho)).2)
          rw [List.length_append, Sp.be_length]
          have h2 : (l.take i).length ≤ 32 := by rw [List.length_take]; omega
          omega
        have hlenx := Sp.opBytes_len hx.2
        have hno : Sp.opMay l[i] = false → l.all Sp.opMay = false := fun h => by
          rw [List.all_eq_false]
          exact ⟨_, List.getElem_mem hlt, by simp [h]⟩
        generalize l[i] = x at *
        have hcl : ∀ (k : Nat) (u : Value), (opCs x A c).toList[k]? = some u → wr.cell? ((⟨b, o + i * 9, none⟩ : Addr).add k) = some u := fun k u hu => by
          rw [addr_add]
          exact (hbr.cell (p := ⟨b, _, none⟩) hbl).trans (hc k u (by simpa using hu))
        have HCL := Lib.hid hcl
        have hz : Blk (wr.alloc (.cells (opZs 0 0) 28)) wr.heap.size 28 (opZs 0 0) := Blk.new _ _ _
        have HS := Lib.hid (op_store (o := x) (A := A) (c := c) hz)
        have hX := hz.setRow (opCs x A c)
        have HLX := Lib.hid (op_load hX)
        have hb2 : Below w.heap.size w ((wr.alloc (.cells (opZs 0 0) 28)).setRow wr.heap.size (opCs x A c)) := below_setRow (hbr.alloc hbr.size _) hbr.size _
        have HW := Lib.hid (op_write (c := c) (Reads.below hR hb2) hA hx.1 hx.2)
        have HB2 := Lib.hid hb2
        clear hcl hz hX hb2 hc hR hop
        go_wp2_with (first
          | refine wpList_load_part rfl _ _ rfl ⟨b, o + i * 9, none⟩ rfl (opCs x A c).toList _ HCL.out Tryz.underlying28 rfl op_size ?_
          | ((with_reducible refine wpList_skip (w' := (wr.alloc (.cells (opZs 0 0) 28)).setRow wr.heap.size (opCs x A c)) rfl rfl ?_ ?_); exact run_op_store _ _ _ ⟨wr.heap.size, 0, none⟩ (opV x A c) rfl rfl rfl HS.out)
          | ((with_reducible refine wpList_run (v := opV x A c) (w' := (wr.alloc (.cells (opZs 0 0) 28)).setRow wr.heap.size (opCs x A c)) 31 rfl rfl ?_ ?_); exact run_op_load _ _ ⟨wr.heap.size, 0, none⟩ rfl rfl HLX.out; simp only [List.setIfInBounds_toArray, List.set_cons_zero, List.set_cons_succ]))
        refine HW.out.mono ?_
        rintro e w3 ⟨s2, rfl, hs, hb3⟩
        have hb4 := HB2.out.trans (hb3.mono HB2.out.size)
        cases hm : Sp.opMay x
        · clear hs hb3 HB2 HW HLX HS HCL
          go_wp2_with fail
          go_ret2
          exact ⟨⟨_, rfl, .inr (.inl ⟨by omega, hno hm, rfl⟩)⟩, hb4⟩
        · obtain rfl := hs hm
          clear hs hb3 HB2 HW HLX HS HCL
          go_wp2_with fail
          go_roundw
          case rel =>
            refine ⟨i + 1, _, hlt, by go_num, by rw [str_append], ?_, ?_, hb4⟩
            · rw [e1, List.flatMap_append, ← List.append_assoc, ← hs0.out]
              simp
            · rw [e1, List.all_append, hall]
              simp [hm]
          case measure => simp [intOf]; omega
      · obtain rfl : i = l.length := by omega
        rw [List.take_length] at hall
        have hend : (∃ v, Ending.returned (.tuple #[str s, .int .i64 0]) = .returned v ∧ EncAns l v) ∧ Below w.heap.size w wr :=
          ⟨⟨_, rfl, .inr (.inr ⟨by omega, hall, by rw [hs0.out, List.take_length]; rfl⟩)⟩, hbr⟩
        go_wp2_with fail
        go_ret2
        exact hend
end
end Go.Proofs.YtclpmkinjjhncaaGreat

/- Package rec: put; bytes of a record that has no tables. -/
namespace Go.Proofs.YtclpmkinjjhncaaGreat
open Go.RowKit

/-- A record; of its tables how many rows they have. -/
structure Sp.Rec where
  kind : Nat
  tx : Nat
  prev : Nat
  rp : Nat
  rs : Nat
  next : Nat
  number : Nat
  body : Sp.Bs
  nd : Nat
  nt : Nat
  ttx : Nat
  tnum : Nat
  deriving DecidableEq
structure Sp.Rec.Ok (r : Sp.Rec) : Prop where
  kind : r.kind < 256
  tx : r.tx < 18446744073709551616
  prev : r.prev < 18446744073709551616
  rp : r.rp < 4294967296
  rs : r.rs < 65536
  next : r.next < 18446744073709551616
  number : r.number < 18446744073709551616
  body : r.body.length ≤ 100000000
  nd : r.nd ≤ 100000000
  nt : r.nt ≤ 100000000
/-- Its cells; D, T: where its tables lie. -/
def recCs (r : Sp.Rec) (D T : Option Addr) (cd ct : Nat) : Array Value := #[.int .u8 r.kind, .int .u64 r.tx, .int .u64 r.prev, .int .u32 r.rp, .int .u16 r.rs, .int .u64 r.next, .int .u64 r.number, str r.body, .slice D r.nd cd, .slice T r.nt ct, .int .u64 r.ttx, .int .u64 r.tnum]
abbrev recV (r : Sp.Rec) (D T : Option Addr) (cd ct : Nat) : Value := .agg (recCs r D T cd ct)
def Sp.Rec.check (r : Sp.Rec) : Bool := r.kind == 7 || r.kind == 8
def Sp.Rec.nobody (r : Sp.Rec) : Bool := r.tx == 0
def Sp.Rec.early (r : Sp.Rec) : Bool := (r.check && !r.nobody) || (r.nobody && (r.prev != 0 || (!r.check && r.kind != 6)))
def Sp.Rec.bodyOk (r : Sp.Rec) : Bool := decide (1 ≤ r.body.length) && decide (r.body.length ≤ 3072)
/-- May it be, as far as its bytes tell? -/
def Sp.Rec.fits (r : Sp.Rec) : Bool := !r.early && (if r.kind = 1 ∨ r.kind = 5 ∨ r.kind = 7 then true else if r.kind = 2 then r.bodyOk && (decide (0 < r.rp) || r.rs == 0) else if r.kind = 6 then r.bodyOk else if r.kind = 3 then r.bodyOk else if r.kind = 4 then r.bodyOk && decide (0 < r.number) else false)
def Sp.Rec.head (r : Sp.Rec) : Sp.Bs := Sp.be 1 r.kind ++ Sp.be 8 r.tx ++ Sp.be 8 r.prev
def Sp.Rec.bytes (r : Sp.Rec) : Sp.Bs := if r.kind = 2 then r.head ++ Sp.be 4 r.rp ++ Sp.be 2 r.rs ++ r.body else if r.kind = 6 then r.head ++ r.body else if r.kind = 3 then r.head ++ Sp.be 8 r.next ++ r.body else if r.kind = 4 then r.head ++ Sp.be 8 r.number ++ r.body else r.head

set_option maxRecDepth 100000 in
set_option maxHeartbeats 1000000 in
theorem rec_put (n size : Nat) (w : World) (h1 : 1 ≤ size) (h8 : size ≤ 8) (hn : n < 256 ^ size) (hn64 : n < 18446744073709551616) :
    Calls Tryz.prog 179 #[.int .u64 n, .int .i64 size] w fun e w' => e = .returned (str (Sp.be size n)) ∧ Below w.heap.size w w' := by
  have HP := Lib.hid (word_put n size w h1 h8 hn hn64)
  go_enter Tryz.func179, Tryz.ntmps179
  go_wp2_with fail
  refine HP.out.mono ?_
  rintro e w1 ⟨rfl, hb⟩
  go_wp2_with fail
  go_ret
  exact ⟨rfl, hb⟩
theorem rec_size : (Tryz.prog.info? 48).map (·.size) = some 12 := by kernel_rfl
set_option maxRecDepth 100000 in
theorem rec_load {W : World} {g : Nat} {r : Sp.Rec} {D T : Option Addr} {cd ct : Nat} (h : Blk W g 48 (recCs r D T cd ct)) :
    (loadVar 48 ⟨g, 0, none⟩).run Tryz.prog W = .ok (recV r D T cd ct) W :=
  run_loadVar_row W g _ _ _ _ _ h Tryz.underlying48 rfl rfl
theorem rec_store {W : World} {g : Nat} {c0 c1 c2 c3 c4 c5 c6 c7 c8 c9 c10 c11 : Value} {r : Sp.Rec} {D T : Option Addr} {cd ct : Nat} (h : Blk W g 48 #[c0, c1, c2, c3, c4, c5, c6, c7, c8, c9, c10, c11]) :
    (storeVar 48 ⟨g, 0, none⟩ (recV r D T cd ct)).run Tryz.prog W = .ok () (W.setRow g (recCs r D T cd ct)) :=
  run_storeVar_part W g 0 _ _ _ _ h rec_size (by show 0 + 12 ≤ 12; omega) (by simp [recCs, Value.oneCell'])
set_option maxRecDepth 100000 in
set_option maxHeartbeats 8000000 in
theorem rec_bytes {w : World} {r : Sp.Rec} {D T : Option Addr} {cd ct : Nat} (ho : r.Ok) (h8 : r.kind ≠ 8) :
    Calls Tryz.prog 117 #[recV r D T cd ct] w fun e w' => ∃ s, e = .returned (.tuple #[str s, .bool r.fits]) ∧ (r.fits = true → s = r.bytes) ∧ Below w.heap.size w w' := by
  have hB1 := Blk.new w 48 (recCs r D T cd ct)
  have hb1 := (Below.refl w.heap.size w).alloc (Nat.le_refl _) (.cells (recCs r D T cd ct) 48)
  have hkd := ho.kind
  have hbd := ho.body
  have H8 := Lib.hid h8
  go_enter Tryz.func117, Tryz.ntmps117
  go_upto_region 1 with fail
  change Code.wp _ _ _ _ (w.alloc (.cells (recCs r D T cd ct) 48))
  generalize w.alloc (.cells (recCs r D T cd ct) 48) = w1 at hB1 hb1 ⊢
  have c0 := hB1.cell 0
  have c1 := hB1.cell 1
  have c2 := hB1.cell 2
  have c3 := hB1.cell 3
  have c4 := hB1.cell 4
  have c5 := hB1.cell 5
  have c6 := hB1.cell 6
  have c7 := hB1.cell 7
  simp only [recCs, List.getElem?_toArray, List.getElem?_cons_succ, List.getElem?_cons_zero] at c0 c1 c2 c3 c4 c5 c6 c7
  clear h8
  go_cut [4] from 8 to 15 (fun v wx => v = .bool r.check ∧ w1 = wx)
  case first =>
    by_cases h7 : r.kind = 7
    · have q7 : ((r.kind : Int) == 7) = true := by simp [h7]
      have HC := Lib.hid (show r.check = true by unfold Sp.Rec.check; simp [h7])
      replace h7 := Lib.hid h7
      go_wp2_with fail
      go_meet
      case rel => exact ⟨by rw [HC.out], rfl⟩
    · have q7 : ((r.kind : Int) == 7) = false := by rw [beq_eq_false_iff_ne]; omega
      have q8 : ((r.kind : Int) == 8) = false := by have := H8.out; rw [beq_eq_false_iff_ne]; omega
      have HC := Lib.hid (show r.check = false by unfold Sp.Rec.check; simp [h7, H8.out])
      go_wp2_with fail
      go_meet
      case rel => exact ⟨by rw [HC.out], rfl⟩
  case rest =>
  rename_i K8 hK8
  refine hK8 _ _ ?_
  clear hK8
  obtain ⟨rfl, rfl⟩ := hcut
  have qn : ((r.tx : Int) == 0) = r.nobody := by unfold Sp.Rec.nobody; rw [Bool.eq_iff_iff]; simp
  go_upto_region 3 with fail
  have qp : ((r.prev : Int) != 0) = (r.prev != 0) := by rw [Bool.eq_iff_iff]; simp
  have q6 : ((r.kind : Int) != 6) = (r.kind != 6) := by rw [Bool.eq_iff_iff]; simp; omega
  go_cut [40] from 19 to 40 (fun v wx => v = .bool r.early ∧ w1 = wx)
  case first =>
    have HE := Lib.hid (show r.early = ((r.check && !r.nobody) || (r.nobody && (r.prev != 0 || (!r.check && r.kind != 6)))) from rfl)
    clear qn
    generalize r.check = ck at *
    generalize r.nobody = nb at *
    generalize hpv : (r.prev != 0) = pv at *
    generalize hk6 : (r.kind != 6) = k6 at *
    clear hpv hk6
    cases ck <;> cases nb <;> cases pv
    all_goals
      go_wp2_with fail
      go_meet
      case rel => exact ⟨by rw [HE.out]; simp, rfl⟩
  case rest =>
  rename_i K8 hK8
  refine hK8 _ _ ?_
  clear hK8
  obtain ⟨rfl, rfl⟩ := hcut
  clear qn qp q6
  cases he : r.early
  · go_upto_region 5 with fail
    go_cut [6] from 41 to 52 (fun v wx => v = str r.head ∧ Below w1.heap.size w1 wx)
    case first =>
      have hcv : IntKind.u64.wrap (r.kind : Int) = (r.kind : Nat) := by simp [IntKind.wrap, IntKind.signed, IntKind.bits]; omega
      have HG := Lib.hid (show w.heap.size < w1.drew.heap.size from hB1.lt)
      have HZw1d := Lib.hid (Nat.le_refl w1.drew.heap.size)
      have hS := Lib.hid (show w1.drew.cell? ⟨w.heap.size, 0, none⟩ = some (.int .u8 r.kind) ∧ w1.drew.cell? ⟨w.heap.size, 1, none⟩ = some (.int .u64 r.tx) ∧ w1.drew.cell? ⟨w.heap.size, 2, none⟩ = some (.int .u64 r.prev) from ⟨c0, c1, c2⟩)
      have hl1 := Sp.be_length 1 r.kind
      have hl2 := Sp.be_length 8 r.tx
      have hl3 := Sp.be_length 8 r.prev
      have HH := Lib.hid (show r.head = Sp.be 1 r.kind ++ Sp.be 8 r.tx ++ Sp.be 8 r.prev from rfl)
      have P1 := Lib.hid fun (W : World) => rec_put r.kind 1 W (by omega) (by omega) (by omega) (by omega)
      have P2 := Lib.hid fun (W : World) => rec_put r.tx 8 W (by omega) (by omega) ho.tx ho.tx
      have P3 := Lib.hid fun (W : World) => rec_put r.prev 8 W (by omega) (by omega) ho.prev ho.prev
      generalize Sp.be 1 r.kind = b1 at *
      generalize Sp.be 8 r.tx = b2 at *
      generalize Sp.be 8 r.prev = b3 at *
      clear c0 c1 c2 c3 c4 c5 c6 c7
      refine R_begin (fun W => W.cell? ⟨w.heap.size, 0, none⟩ = some (.int .u8 r.kind) ∧ W.cell? ⟨w.heap.size, 1, none⟩ = some (.int .u64 r.tx) ∧ W.cell? ⟨w.heap.size, 2, none⟩ = some (.int .u64 r.prev)) (fun _ => false) rfl ?_
      refine R_tk 0 41 hS.out ?_
      simp only [List.setIfInBounds_toArray, List.set_cons_zero, List.set_cons_succ]
      refine R_tk 1 42 hS.out ?_
      simp only [List.setIfInBounds_toArray, List.set_cons_zero, List.set_cons_succ]
      refine R_tk 2 43 hS.out ?_
      simp only [List.setIfInBounds_toArray, List.set_cons_zero, List.set_cons_succ]
      refine R_tk 4 45 hS.out ?_
      simp only [List.setIfInBounds_toArray, List.set_cons_zero, List.set_cons_succ]
      refine R_tk 5 46 hS.out ?_
      simp only [List.setIfInBounds_toArray, List.set_cons_zero, List.set_cons_succ]
      refine R_tk 8 49 hS.out ?_
      simp only [List.setIfInBounds_toArray, List.set_cons_zero, List.set_cons_succ]
      refine R_tk 9 50 hS.out ?_
      simp only [List.setIfInBounds_toArray, List.set_cons_zero, List.set_cons_succ]
      refine R_call 3 44 (w' := w1.drew) rfl rfl (by rfl) (by kernel_rfl) ?_ (P1.out _) ?_
      · go_simp
      rintro e w2 ⟨rfl, hw2⟩
      have hSw2 := Lib.hid (show w2.cell? ⟨w.heap.size, 0, none⟩ = some (.int .u8 r.kind) ∧ w2.cell? ⟨w.heap.size, 1, none⟩ = some (.int .u64 r.tx) ∧ w2.cell? ⟨w.heap.size, 2, none⟩ = some (.int .u64 r.prev) from ⟨(hw2.cell (p := ⟨w.heap.size, _, none⟩) (show w.heap.size < _ from Nat.lt_of_lt_of_le HG.out HZw1d.out)).trans hS.out.1, (hw2.cell (p := ⟨w.heap.size, _, none⟩) (show w.heap.size < _ from Nat.lt_of_lt_of_le HG.out HZw1d.out)).trans hS.out.2.1, (hw2.cell (p := ⟨w.heap.size, _, none⟩) (show w.heap.size < _ from Nat.lt_of_lt_of_le HG.out HZw1d.out)).trans hS.out.2.2⟩)
      have HZw2 := Lib.hid (Nat.le_trans HZw1d.out hw2.size)
      refine ⟨_, rfl, fun _ => hSw2.out, ?_⟩
      simp only [List.setIfInBounds_toArray, List.set_cons_zero, List.set_cons_succ]
      refine R_call 6 47 (w' := w2) rfl rfl (by rfl) (by kernel_rfl) ?_ (P2.out _) ?_
      · go_simp
      rintro e w3 ⟨rfl, hw3⟩
      have hSw3 := Lib.hid (show w3.cell? ⟨w.heap.size, 0, none⟩ = some (.int .u8 r.kind) ∧ w3.cell? ⟨w.heap.size, 1, none⟩ = some (.int .u64 r.tx) ∧ w3.cell? ⟨w.heap.size, 2, none⟩ = some (.int .u64 r.prev) from ⟨(hw3.cell (p := ⟨w.heap.size, _, none⟩) (show w.heap.size < _ from Nat.lt_of_lt_of_le HG.out HZw2.out)).trans hSw2.out.1, (hw3.cell (p := ⟨w.heap.size, _, none⟩) (show w.heap.size < _ from Nat.lt_of_lt_of_le HG.out HZw2.out)).trans hSw2.out.2.1, (hw3.cell (p := ⟨w.heap.size, _, none⟩) (show w.heap.size < _ from Nat.lt_of_lt_of_le HG.out HZw2.out)).trans hSw2.out.2.2⟩)
      have HZw3 := Lib.hid (Nat.le_trans HZw2.out hw3.size)
      refine ⟨_, rfl, fun _ => hSw3.out, ?_⟩
      simp only [List.setIfInBounds_toArray, List.set_cons_zero, List.set_cons_succ]
      refine R_tk 7 48 hSw3.out ?_
      simp only [List.setIfInBounds_toArray, List.set_cons_zero, List.set_cons_succ]
      refine R_call 10 51 (w' := w3) rfl rfl (by rfl) (by kernel_rfl) ?_ (P3.out _) ?_
      · go_simp
      rintro e w4 ⟨rfl, hw4⟩
      have hSw4 := Lib.hid (show w4.cell? ⟨w.heap.size, 0, none⟩ = some (.int .u8 r.kind) ∧ w4.cell? ⟨w.heap.size, 1, none⟩ = some (.int .u64 r.tx) ∧ w4.cell? ⟨w.heap.size, 2, none⟩ = some (.int .u64 r.prev) from ⟨(hw4.cell (p := ⟨w.heap.size, _, none⟩) (show w.heap.size < _ from Nat.lt_of_lt_of_le HG.out HZw3.out)).trans hSw3.out.1, (hw4.cell (p := ⟨w.heap.size, _, none⟩) (show w.heap.size < _ from Nat.lt_of_lt_of_le HG.out HZw3.out)).trans hSw3.out.2.1, (hw4.cell (p := ⟨w.heap.size, _, none⟩) (show w.heap.size < _ from Nat.lt_of_lt_of_le HG.out HZw3.out)).trans hSw3.out.2.2⟩)
      have HZw4 := Lib.hid (Nat.le_trans HZw3.out hw4.size)
      refine ⟨_, rfl, fun _ => hSw4.out, ?_⟩
      simp only [List.setIfInBounds_toArray, List.set_cons_zero, List.set_cons_succ]
      refine R_tk 11 52 hSw4.out ?_
      simp only [List.setIfInBounds_toArray, List.set_cons_zero, List.set_cons_succ]
      refine R_tk 12 6 hSw4.out ?_
      simp only [List.setIfInBounds_toArray, List.set_cons_zero, List.set_cons_succ]
      refine R_done (by kernel_rfl) ?_ _
      rename_i J9 K9 hJ9 hK9
      refine hK9 _ _ ?_
      clear hK9
      go_meet
      case rel => exact ⟨by rw [HH.out, str_append, str_append], ((Below.refl _ _).drew.trans hw2).trans ((hw3.mono hw2.size).trans (hw4.mono (Nat.le_trans hw2.size hw3.size)))⟩
    case rest =>
    rename_i K8 hK8
    refine hK8 _ _ ?_
    clear hK8
    obtain ⟨rfl, hbx0⟩ := hcut
    have hbx := hb1.trans (hbx0.mono hb1.size)
    have hBx := hB1.below hbx0 hB1.lt
    have hgl := hBx.lt
    clear c0 c1 c2 c3 c4 c5 c6 c7 hbx0 hB1 hb1
    have c0 := hBx.cell 0
    have c3 := hBx.cell 3
    have c4 := hBx.cell 4
    have c5 := hBx.cell 5
    have c6 := hBx.cell 6
    have c7 := hBx.cell 7
    simp only [recCs, List.getElem?_toArray, List.getElem?_cons_succ, List.getElem?_cons_zero] at c0 c3 c4 c5 c6 c7
    have hhl : r.head.length = 17 := by unfold Sp.Rec.head; simp
    have HE := Lib.hid he
    obtain ⟨hd, hhd⟩ : ∃ hd, r.head = hd := ⟨_, rfl⟩
    rw [hhd] at hhl ⊢
    have HH := Lib.hid hhd
    clear hhd he hBx
    go_upto_region 6 with fail
    go_cut [7] from 53 to 62 (fun v wy => v = .bool r.bodyOk ∧ wc = wy)
    case first =>
      by_cases h1 : 1 ≤ r.body.length
      · have d1 : decide ((1 : Int) ≤ (r.body.length : Int)) = true := by simp; omega
        by_cases h2 : r.body.length ≤ 3072
        · have d2 : decide ((r.body.length : Int) ≤ 3072) = true := by simp; omega
          have HC := Lib.hid (show r.bodyOk = true by unfold Sp.Rec.bodyOk; rw [decide_eq_true h1, decide_eq_true h2]; rfl)
          go_wp2_with fail
          go_meet
          case rel => exact ⟨by rw [HC.out], rfl⟩
        · have d2 : decide ((r.body.length : Int) ≤ 3072) = false := by simp; omega
          have HC := Lib.hid (show r.bodyOk = false by unfold Sp.Rec.bodyOk; rw [decide_eq_true h1, decide_eq_false h2]; rfl)
          go_wp2_with fail
          go_meet
          case rel => exact ⟨by rw [HC.out], rfl⟩
      · have d1 : decide ((1 : Int) ≤ (r.body.length : Int)) = false := by simp; omega
        have HC := Lib.hid (show r.bodyOk = false by unfold Sp.Rec.bodyOk; rw [decide_eq_false h1]; rfl)
        go_wp2_with fail
        go_meet
        case rel => exact ⟨by rw [HC.out], rfl⟩
    case rest =>
    rename_i K8 hK8
    refine hK8 _ _ ?_
    clear hK8
    obtain ⟨rfl, rfl⟩ := hcut
    by_cases h1 : r.kind = 1
    · have q1 : ((r.kind : Int) == 1) = true := by simp [h1]
      have HK := Lib.hid h1
      clear h1
      have HF := Lib.hid (show r.fits = true by unfold Sp.Rec.fits; rw [HE.out, HK.out]; rfl)
      have HBY := Lib.hid (show r.bytes = hd by unfold Sp.Rec.bytes; rw [HK.out, HH.out]; rfl)
      go_wp2_with fail
      go_ret2
      exact ⟨_, by rw [HF.out]; rfl, fun _ => by rw [HBY.out], hbx⟩
    have q1 : ((r.kind : Int) == 1) = false := by rw [beq_eq_false_iff_ne]; omega
    by_cases h5 : r.kind = 5
    · have q5 : ((r.kind : Int) == 5) = true := by simp [h5]
      have HK := Lib.hid h5
      clear h5
      have HF := Lib.hid (show r.fits = true by unfold Sp.Rec.fits; rw [HE.out, HK.out]; rfl)
      have HBY := Lib.hid (show r.bytes = hd by unfold Sp.Rec.bytes; rw [HK.out, HH.out]; rfl)
      go_wp2_with fail
      go_ret2
      exact ⟨_, by rw [HF.out]; rfl, fun _ => by rw [HBY.out], hbx⟩
    have q5 : ((r.kind : Int) == 5) = false := by rw [beq_eq_false_iff_ne]; omega
    by_cases h7 : r.kind = 7
    · have q7 : ((r.kind : Int) == 7) = true := by simp [h7]
      have HK := Lib.hid h7
      clear h7
      have HF := Lib.hid (show r.fits = true by unfold Sp.Rec.fits; rw [HE.out, HK.out]; rfl)
      have HBY := Lib.hid (show r.bytes = hd by unfold Sp.Rec.bytes; rw [HK.out, HH.out]; rfl)
      go_wp2_with fail
      go_ret2
      exact ⟨_, by rw [HF.out]; rfl, fun _ => by rw [HBY.out], hbx⟩
    have q7 : ((r.kind : Int) == 7) = false := by rw [beq_eq_false_iff_ne]; omega
    by_cases h2 : r.kind = 2
    · have q2 : ((r.kind : Int) == 2) = true := by simp [h2]
      have HK := Lib.hid h2
      clear h2
      go_upto_region 13 with fail
      have hcv : IntKind.u64.wrap (r.rp : Int) = (r.rp : Nat) := by have := ho.rp; simp [IntKind.wrap, IntKind.signed, IntKind.bits]; omega
      have hcw : IntKind.u64.wrap (r.rs : Int) = (r.rs : Nat) := by have := ho.rs; simp [IntKind.wrap, IntKind.signed, IntKind.bits]; omega
      have hbs : ¬ 9223372036854775807 < 23 + r.body.length := by omega
      have hl1 := Sp.be_length 4 r.rp
      have hl2 := Sp.be_length 2 r.rs
      have HBY := Lib.hid (show r.bytes = hd ++ Sp.be 4 r.rp ++ Sp.be 2 r.rs ++ r.body by unfold Sp.Rec.bytes; rw [if_pos HK.out, HH.out])
      have P1 := Lib.hid fun (W : World) => rec_put r.rp 4 W (by omega) (by omega) (by have := ho.rp; omega) (by have := ho.rp; omega)
      have P2 := Lib.hid fun (W : World) => rec_put r.rs 2 W (by omega) (by omega) (by have := ho.rs; omega) (by have := ho.rs; omega)
      generalize Sp.be 4 r.rp = b1 at *
      generalize Sp.be 2 r.rs = b2 at *
      have HF := Lib.hid (show r.fits = (r.bodyOk && (decide (0 < r.rp) || r.rs == 0)) by unfold Sp.Rec.fits; rw [HE.out, HK.out]; simp)
      cases hbo : r.bodyOk
      · rw [hbo, Bool.false_and] at HF
        have HG := Lib.hid (show w.heap.size < wc.drew.heap.size from hgl)
        have HZwcd := Lib.hid (Nat.le_refl wc.drew.heap.size)
        have hS := Lib.hid (show wc.drew.cell? ⟨w.heap.size, 3, none⟩ = some (.int .u32 r.rp) ∧ wc.drew.cell? ⟨w.heap.size, 4, none⟩ = some (.int .u16 r.rs) ∧ wc.drew.cell? ⟨w.heap.size, 7, none⟩ = some (str r.body) from ⟨c3, c4, c7⟩)
        clear c3 c4 c5 c6 c7
        refine R_begin (fun W => W.cell? ⟨w.heap.size, 3, none⟩ = some (.int .u32 r.rp) ∧ W.cell? ⟨w.heap.size, 4, none⟩ = some (.int .u16 r.rs) ∧ W.cell? ⟨w.heap.size, 7, none⟩ = some (str r.body)) (fun _ => false) rfl ?_
        refine R_tk 0 72 hS.out ?_
        simp only [List.setIfInBounds_toArray, List.set_cons_zero, List.set_cons_succ]
        refine R_tk 1 73 hS.out ?_
        simp only [List.setIfInBounds_toArray, List.set_cons_zero, List.set_cons_succ]
        refine R_tk 2 74 hS.out ?_
        simp only [List.setIfInBounds_toArray, List.set_cons_zero, List.set_cons_succ]
        refine R_tk 3 75 hS.out ?_
        simp only [List.setIfInBounds_toArray, List.set_cons_zero, List.set_cons_succ]
        refine R_tk 4 76 hS.out ?_
        simp only [List.setIfInBounds_toArray, List.set_cons_zero, List.set_cons_succ]
        refine R_tk 7 79 hS.out ?_
        simp only [List.setIfInBounds_toArray, List.set_cons_zero, List.set_cons_succ]
        refine R_tk 8 80 hS.out ?_
        simp only [List.setIfInBounds_toArray, List.set_cons_zero, List.set_cons_succ]
        refine R_tk 9 81 hS.out ?_
        simp only [List.setIfInBounds_toArray, List.set_cons_zero, List.set_cons_succ]
        refine R_tk 10 82 hS.out ?_
        simp only [List.setIfInBounds_toArray, List.set_cons_zero, List.set_cons_succ]
        refine R_tk 13 85 hS.out ?_
        simp only [List.setIfInBounds_toArray, List.set_cons_zero, List.set_cons_succ]
        refine R_tk 14 86 hS.out ?_
        simp only [List.setIfInBounds_toArray, List.set_cons_zero, List.set_cons_succ]
        refine R_tk 16 88 hS.out ?_
        simp only [List.setIfInBounds_toArray, List.set_cons_zero, List.set_cons_succ]
        refine R_call 5 77 (w' := wc.drew) rfl rfl (by rfl) (by kernel_rfl) ?_ (P1.out _) ?_
        · go_simp
        rintro e w2 ⟨rfl, hw2⟩
        have hSw2 := Lib.hid (show w2.cell? ⟨w.heap.size, 3, none⟩ = some (.int .u32 r.rp) ∧ w2.cell? ⟨w.heap.size, 4, none⟩ = some (.int .u16 r.rs) ∧ w2.cell? ⟨w.heap.size, 7, none⟩ = some (str r.body) from ⟨(hw2.cell (p := ⟨w.heap.size, _, none⟩) (show w.heap.size < _ from Nat.lt_of_lt_of_le HG.out HZwcd.out)).trans hS.out.1, (hw2.cell (p := ⟨w.heap.size, _, none⟩) (show w.heap.size < _ from Nat.lt_of_lt_of_le HG.out HZwcd.out)).trans hS.out.2.1, (hw2.cell (p := ⟨w.heap.size, _, none⟩) (show w.heap.size < _ from Nat.lt_of_lt_of_le HG.out HZwcd.out)).trans hS.out.2.2⟩)
        have HZw2 := Lib.hid (Nat.le_trans HZwcd.out hw2.size)
        refine ⟨_, rfl, fun _ => hSw2.out, ?_⟩
        simp only [List.setIfInBounds_toArray, List.set_cons_zero, List.set_cons_succ]
        refine R_tk 6 78 hSw2.out ?_
        simp only [List.setIfInBounds_toArray, List.set_cons_zero, List.set_cons_succ]
        refine R_call 11 83 (w' := w2) rfl rfl (by rfl) (by kernel_rfl) ?_ (P2.out _) ?_
        · go_simp
        rintro e w3 ⟨rfl, hw3⟩
        have hSw3 := Lib.hid (show w3.cell? ⟨w.heap.size, 3, none⟩ = some (.int .u32 r.rp) ∧ w3.cell? ⟨w.heap.size, 4, none⟩ = some (.int .u16 r.rs) ∧ w3.cell? ⟨w.heap.size, 7, none⟩ = some (str r.body) from ⟨(hw3.cell (p := ⟨w.heap.size, _, none⟩) (show w.heap.size < _ from Nat.lt_of_lt_of_le HG.out HZw2.out)).trans hSw2.out.1, (hw3.cell (p := ⟨w.heap.size, _, none⟩) (show w.heap.size < _ from Nat.lt_of_lt_of_le HG.out HZw2.out)).trans hSw2.out.2.1, (hw3.cell (p := ⟨w.heap.size, _, none⟩) (show w.heap.size < _ from Nat.lt_of_lt_of_le HG.out HZw2.out)).trans hSw2.out.2.2⟩)
        have HZw3 := Lib.hid (Nat.le_trans HZw2.out hw3.size)
        refine ⟨_, rfl, fun _ => hSw3.out, ?_⟩
        simp only [List.setIfInBounds_toArray, List.set_cons_zero, List.set_cons_succ]
        refine R_tk 12 84 hSw3.out ?_
        simp only [List.setIfInBounds_toArray, List.set_cons_zero, List.set_cons_succ]
        refine R_tk 15 87 hSw3.out ?_
        simp only [List.setIfInBounds_toArray, List.set_cons_zero, List.set_cons_succ]
        refine R_tk 17 89 hSw3.out ?_
        simp only [List.setIfInBounds_toArray, List.set_cons_zero, List.set_cons_succ]
        refine R_skip 18 90 rfl rfl (by rfl) (by kernel_rfl) (fun _ _ _ h => h) hSw3.out ?_
        simp only [List.setIfInBounds_toArray, List.set_cons_zero, List.set_cons_succ]
        refine R_skip 19 91 rfl rfl (by rfl) (by kernel_rfl) (fun _ _ _ h => h) hSw3.out ?_
        simp only [List.setIfInBounds_toArray, List.set_cons_zero, List.set_cons_succ]
        refine R_skip 20 92 rfl rfl (by rfl) (by kernel_rfl) (fun _ _ _ h => h) hSw3.out ?_
        simp only [List.setIfInBounds_toArray, List.set_cons_zero, List.set_cons_succ]
        refine R_skip 21 93 rfl rfl (by rfl) (by kernel_rfl) (fun _ _ _ h => h) hSw3.out ?_
        simp only [List.setIfInBounds_toArray, List.set_cons_zero, List.set_cons_succ]
        refine R_skip 22 94 rfl rfl (by rfl) (by kernel_rfl) (fun _ _ _ h => h) hSw3.out ?_
        simp only [List.setIfInBounds_toArray, List.set_cons_zero, List.set_cons_succ]
        refine R_skip 23 95 rfl rfl (by rfl) (by kernel_rfl) (fun _ _ _ h => h) hSw3.out ?_
        simp only [List.setIfInBounds_toArray, List.set_cons_zero, List.set_cons_succ]
        refine R_skip 24 96 rfl rfl (by rfl) (by kernel_rfl) (fun _ _ _ h => h) hSw3.out ?_
        simp only [List.setIfInBounds_toArray, List.set_cons_zero, List.set_cons_succ]
        refine R_skip 25 97 rfl rfl (by rfl) (by kernel_rfl) (fun _ _ _ h => h) hSw3.out ?_
        simp only [List.setIfInBounds_toArray, List.set_cons_zero, List.set_cons_succ]
        refine R_skip 26 98 rfl rfl (by rfl) (by kernel_rfl) (fun _ _ _ h => h) hSw3.out ?_
        simp only [List.setIfInBounds_toArray, List.set_cons_zero, List.set_cons_succ]
        refine R_skip 27 99 rfl rfl (by rfl) (by kernel_rfl) (fun _ _ _ h => h) hSw3.out ?_
        simp only [List.setIfInBounds_toArray, List.set_cons_zero, List.set_cons_succ]
        refine R_tk 28 100 hSw3.out ?_
        simp only [List.setIfInBounds_toArray, List.set_cons_zero, List.set_cons_succ]
        refine R_tk 29 2 hSw3.out ?_
        simp only [List.setIfInBounds_toArray, List.set_cons_zero, List.set_cons_succ]
        refine R_tk 30 3 hSw3.out ?_
        simp only [List.setIfInBounds_toArray, List.set_cons_zero, List.set_cons_succ]
        refine R_done (by kernel_rfl) ?_ _
        rename_i J9 K9 hJ9 hK9
        refine hK9 _ _ ?_
        clear hK9
        go_wp2_with fail
        go_ret2
        exact ⟨_, by rw [HF.out]; rfl, fun _ => by rw [HBY.out]; simp [str_append], ((hbx.drew.trans (hw2.mono hbx.drew.size)).trans (hw3.mono (Nat.le_trans hbx.drew.size hw2.size)))⟩
      · rw [hbo, Bool.true_and] at HF
        by_cases hrp : 0 < r.rp
        · have d1 : decide ((0 : Int) < (r.rp : Int)) = true := by simp; omega
          rw [decide_eq_true hrp, Bool.true_or] at HF
          have HG := Lib.hid (show w.heap.size < wc.drew.heap.size from hgl)
          have HZwcd := Lib.hid (Nat.le_refl wc.drew.heap.size)
          have hS := Lib.hid (show wc.drew.cell? ⟨w.heap.size, 3, none⟩ = some (.int .u32 r.rp) ∧ wc.drew.cell? ⟨w.heap.size, 4, none⟩ = some (.int .u16 r.rs) ∧ wc.drew.cell? ⟨w.heap.size, 7, none⟩ = some (str r.body) from ⟨c3, c4, c7⟩)
          clear c3 c4 c5 c6 c7
          refine R_begin (fun W => W.cell? ⟨w.heap.size, 3, none⟩ = some (.int .u32 r.rp) ∧ W.cell? ⟨w.heap.size, 4, none⟩ = some (.int .u16 r.rs) ∧ W.cell? ⟨w.heap.size, 7, none⟩ = some (str r.body)) (fun _ => false) rfl ?_
          refine R_tk 0 72 hS.out ?_
          simp only [List.setIfInBounds_toArray, List.set_cons_zero, List.set_cons_succ]
          refine R_tk 1 73 hS.out ?_
          simp only [List.setIfInBounds_toArray, List.set_cons_zero, List.set_cons_succ]
          refine R_tk 2 74 hS.out ?_
          simp only [List.setIfInBounds_toArray, List.set_cons_zero, List.set_cons_succ]
          refine R_tk 3 75 hS.out ?_
          simp only [List.setIfInBounds_toArray, List.set_cons_zero, List.set_cons_succ]
          refine R_tk 4 76 hS.out ?_
          simp only [List.setIfInBounds_toArray, List.set_cons_zero, List.set_cons_succ]
          refine R_tk 7 79 hS.out ?_
          simp only [List.setIfInBounds_toArray, List.set_cons_zero, List.set_cons_succ]
          refine R_tk 8 80 hS.out ?_
          simp only [List.setIfInBounds_toArray, List.set_cons_zero, List.set_cons_succ]
          refine R_tk 9 81 hS.out ?_
          simp only [List.setIfInBounds_toArray, List.set_cons_zero, List.set_cons_succ]
          refine R_tk 10 82 hS.out ?_
          simp only [List.setIfInBounds_toArray, List.set_cons_zero, List.set_cons_succ]
          refine R_tk 13 85 hS.out ?_
          simp only [List.setIfInBounds_toArray, List.set_cons_zero, List.set_cons_succ]
          refine R_tk 14 86 hS.out ?_
          simp only [List.setIfInBounds_toArray, List.set_cons_zero, List.set_cons_succ]
          refine R_tk 16 88 hS.out ?_
          simp only [List.setIfInBounds_toArray, List.set_cons_zero, List.set_cons_succ]
          refine R_call 5 77 (w' := wc.drew) rfl rfl (by rfl) (by kernel_rfl) ?_ (P1.out _) ?_
          · go_simp
          rintro e w2 ⟨rfl, hw2⟩
          have hSw2 := Lib.hid (show w2.cell? ⟨w.heap.size, 3, none⟩ = some (.int .u32 r.rp) ∧ w2.cell? ⟨w.heap.size, 4, none⟩ = some (.int .u16 r.rs) ∧ w2.cell? ⟨w.heap.size, 7, none⟩ = some (str r.body) from ⟨(hw2.cell (p := ⟨w.heap.size, _, none⟩) (show w.heap.size < _ from Nat.lt_of_lt_of_le HG.out HZwcd.out)).trans hS.out.1, (hw2.cell (p := ⟨w.heap.size, _, none⟩) (show w.heap.size < _ from Nat.lt_of_lt_of_le HG.out HZwcd.out)).trans hS.out.2.1, (hw2.cell (p := ⟨w.heap.size, _, none⟩) (show w.heap.size < _ from Nat.lt_of_lt_of_le HG.out HZwcd.out)).trans hS.out.2.2⟩)
          have HZw2 := Lib.hid (Nat.le_trans HZwcd.out hw2.size)
          refine ⟨_, rfl, fun _ => hSw2.out, ?_⟩
          simp only [List.setIfInBounds_toArray, List.set_cons_zero, List.set_cons_succ]
          refine R_tk 6 78 hSw2.out ?_
          simp only [List.setIfInBounds_toArray, List.set_cons_zero, List.set_cons_succ]
          refine R_call 11 83 (w' := w2) rfl rfl (by rfl) (by kernel_rfl) ?_ (P2.out _) ?_
          · go_simp
          rintro e w3 ⟨rfl, hw3⟩
          have hSw3 := Lib.hid (show w3.cell? ⟨w.heap.size, 3, none⟩ = some (.int .u32 r.rp) ∧ w3.cell? ⟨w.heap.size, 4, none⟩ = some (.int .u16 r.rs) ∧ w3.cell? ⟨w.heap.size, 7, none⟩ = some (str r.body) from ⟨(hw3.cell (p := ⟨w.heap.size, _, none⟩) (show w.heap.size < _ from Nat.lt_of_lt_of_le HG.out HZw2.out)).trans hSw2.out.1, (hw3.cell (p := ⟨w.heap.size, _, none⟩) (show w.heap.size < _ from Nat.lt_of_lt_of_le HG.out HZw2.out)).trans hSw2.out.2.1, (hw3.cell (p := ⟨w.heap.size, _, none⟩) (show w.heap.size < _ from Nat.lt_of_lt_of_le HG.out HZw2.out)).trans hSw2.out.2.2⟩)
          have HZw3 := Lib.hid (Nat.le_trans HZw2.out hw3.size)
          refine ⟨_, rfl, fun _ => hSw3.out, ?_⟩
          simp only [List.setIfInBounds_toArray, List.set_cons_zero, List.set_cons_succ]
          refine R_tk 12 84 hSw3.out ?_
          simp only [List.setIfInBounds_toArray, List.set_cons_zero, List.set_cons_succ]
          refine R_tk 15 87 hSw3.out ?_
          simp only [List.setIfInBounds_toArray, List.set_cons_zero, List.set_cons_succ]
          refine R_tk 17 89 hSw3.out ?_
          simp only [List.setIfInBounds_toArray, List.set_cons_zero, List.set_cons_succ]
          refine R_tk 18 90 hSw3.out ?_
          simp only [List.setIfInBounds_toArray, List.set_cons_zero, List.set_cons_succ]
          refine R_tk 19 91 hSw3.out ?_
          simp only [List.setIfInBounds_toArray, List.set_cons_zero, List.set_cons_succ]
          refine R_tk 20 92 hSw3.out ?_
          simp only [List.setIfInBounds_toArray, List.set_cons_zero, List.set_cons_succ]
          refine R_tk 21 93 hSw3.out ?_
          simp only [List.setIfInBounds_toArray, List.set_cons_zero, List.set_cons_succ]
          refine R_tk 22 94 hSw3.out ?_
          simp only [List.setIfInBounds_toArray, List.set_cons_zero, List.set_cons_succ]
          refine R_skip 23 95 rfl rfl (by rfl) (by kernel_rfl) (fun _ _ _ h => h) hSw3.out ?_
          simp only [List.setIfInBounds_toArray, List.set_cons_zero, List.set_cons_succ]
          refine R_skip 24 96 rfl rfl (by rfl) (by kernel_rfl) (fun _ _ _ h => h) hSw3.out ?_
          simp only [List.setIfInBounds_toArray, List.set_cons_zero, List.set_cons_succ]
          refine R_skip 25 97 rfl rfl (by rfl) (by kernel_rfl) (fun _ _ _ h => h) hSw3.out ?_
          simp only [List.setIfInBounds_toArray, List.set_cons_zero, List.set_cons_succ]
          refine R_skip 26 98 rfl rfl (by rfl) (by kernel_rfl) (fun _ _ _ h => h) hSw3.out ?_
          simp only [List.setIfInBounds_toArray, List.set_cons_zero, List.set_cons_succ]
          refine R_tk 27 99 hSw3.out ?_
          simp only [List.setIfInBounds_toArray, List.set_cons_zero, List.set_cons_succ]
          refine R_tk 28 100 hSw3.out ?_
          simp only [List.setIfInBounds_toArray, List.set_cons_zero, List.set_cons_succ]
          refine R_tk 29 2 hSw3.out ?_
          simp only [List.setIfInBounds_toArray, List.set_cons_zero, List.set_cons_succ]
          refine R_tk 30 3 hSw3.out ?_
          simp only [List.setIfInBounds_toArray, List.set_cons_zero, List.set_cons_succ]
          refine R_done (by kernel_rfl) ?_ _
          rename_i J9 K9 hJ9 hK9
          refine hK9 _ _ ?_
          clear hK9
          go_wp2_with fail
          go_ret2
          exact ⟨_, by rw [HF.out]; rfl, fun _ => by rw [HBY.out]; simp [str_append], ((hbx.drew.trans (hw2.mono hbx.drew.size)).trans (hw3.mono (Nat.le_trans hbx.drew.size hw2.size)))⟩
        · have d1 : decide ((0 : Int) < (r.rp : Int)) = false := by simp; omega
          have d2 : ((r.rs : Int) == 0) = (r.rs == 0) := by rw [Bool.eq_iff_iff]; simp
          rw [decide_eq_false hrp, Bool.false_or] at HF
          have HG := Lib.hid (show w.heap.size < wc.drew.heap.size from hgl)
          have HZwcd := Lib.hid (Nat.le_refl wc.drew.heap.size)
          have hS := Lib.hid (show wc.drew.cell? ⟨w.heap.size, 3, none⟩ = some (.int .u32 r.rp) ∧ wc.drew.cell? ⟨w.heap.size, 4, none⟩ = some (.int .u16 r.rs) ∧ wc.drew.cell? ⟨w.heap.size, 7, none⟩ = some (str r.body) from ⟨c3, c4, c7⟩)
          clear c3 c4 c5 c6 c7
          refine R_begin (fun W => W.cell? ⟨w.heap.size, 3, none⟩ = some (.int .u32 r.rp) ∧ W.cell? ⟨w.heap.size, 4, none⟩ = some (.int .u16 r.rs) ∧ W.cell? ⟨w.heap.size, 7, none⟩ = some (str r.body)) (fun _ => false) rfl ?_
          refine R_tk 0 72 hS.out ?_
          simp only [List.setIfInBounds_toArray, List.set_cons_zero, List.set_cons_succ]
          refine R_tk 1 73 hS.out ?_
          simp only [List.setIfInBounds_toArray, List.set_cons_zero, List.set_cons_succ]
          refine R_tk 2 74 hS.out ?_
          simp only [List.setIfInBounds_toArray, List.set_cons_zero, List.set_cons_succ]
          refine R_tk 3 75 hS.out ?_
          simp only [List.setIfInBounds_toArray, List.set_cons_zero, List.set_cons_succ]
          refine R_tk 4 76 hS.out ?_
          simp only [List.setIfInBounds_toArray, List.set_cons_zero, List.set_cons_succ]
          refine R_tk 7 79 hS.out ?_
          simp only [List.setIfInBounds_toArray, List.set_cons_zero, List.set_cons_succ]
          refine R_tk 8 80 hS.out ?_
          simp only [List.setIfInBounds_toArray, List.set_cons_zero, List.set_cons_succ]
          refine R_tk 9 81 hS.out ?_
          simp only [List.setIfInBounds_toArray, List.set_cons_zero, List.set_cons_succ]
          refine R_tk 10 82 hS.out ?_
          simp only [List.setIfInBounds_toArray, List.set_cons_zero, List.set_cons_succ]
          refine R_tk 13 85 hS.out ?_
          simp only [List.setIfInBounds_toArray, List.set_cons_zero, List.set_cons_succ]
          refine R_tk 14 86 hS.out ?_
          simp only [List.setIfInBounds_toArray, List.set_cons_zero, List.set_cons_succ]
          refine R_tk 16 88 hS.out ?_
          simp only [List.setIfInBounds_toArray, List.set_cons_zero, List.set_cons_succ]
          refine R_call 5 77 (w' := wc.drew) rfl rfl (by rfl) (by kernel_rfl) ?_ (P1.out _) ?_
          · go_simp
          rintro e w2 ⟨rfl, hw2⟩
          have hSw2 := Lib.hid (show w2.cell? ⟨w.heap.size, 3, none⟩ = some (.int .u32 r.rp) ∧ w2.cell? ⟨w.heap.size, 4, none⟩ = some (.int .u16 r.rs) ∧ w2.cell? ⟨w.heap.size, 7, none⟩ = some (str r.body) from ⟨(hw2.cell (p := ⟨w.heap.size, _, none⟩) (show w.heap.size < _ from Nat.lt_of_lt_of_le HG.out HZwcd.out)).trans hS.out.1, (hw2.cell (p := ⟨w.heap.size, _, none⟩) (show w.heap.size < _ from Nat.lt_of_lt_of_le HG.out HZwcd.out)).trans hS.out.2.1, (hw2.cell (p := ⟨w.heap.size, _, none⟩) (show w.heap.size < _ from Nat.lt_of_lt_of_le HG.out HZwcd.out)).trans hS.out.2.2⟩)
          have HZw2 := Lib.hid (Nat.le_trans HZwcd.out hw2.size)
          refine ⟨_, rfl, fun _ => hSw2.out, ?_⟩
          simp only [List.setIfInBounds_toArray, List.set_cons_zero, List.set_cons_succ]
          refine R_tk 6 78 hSw2.out ?_
          simp only [List.setIfInBounds_toArray, List.set_cons_zero, List.set_cons_succ]
          refine R_call 11 83 (w' := w2) rfl rfl (by rfl) (by kernel_rfl) ?_ (P2.out _) ?_
          · go_simp
          rintro e w3 ⟨rfl, hw3⟩
          have hSw3 := Lib.hid (show w3.cell? ⟨w.heap.size, 3, none⟩ = some (.int .u32 r.rp) ∧ w3.cell? ⟨w.heap.size, 4, none⟩ = some (.int .u16 r.rs) ∧ w3.cell? ⟨w.heap.size, 7, none⟩ = some (str r.body) from ⟨(hw3.cell (p := ⟨w.heap.size, _, none⟩) (show w.heap.size < _ from Nat.lt_of_lt_of_le HG.out HZw2.out)).trans hSw2.out.1, (hw3.cell (p := ⟨w.heap.size, _, none⟩) (show w.heap.size < _ from Nat.lt_of_lt_of_le HG.out HZw2.out)).trans hSw2.out.2.1, (hw3.cell (p := ⟨w.heap.size, _, none⟩) (show w.heap.size < _ from Nat.lt_of_lt_of_le HG.out HZw2.out)).trans hSw2.out.2.2⟩)
          have HZw3 := Lib.hid (Nat.le_trans HZw2.out hw3.size)
          refine ⟨_, rfl, fun _ => hSw3.out, ?_⟩
          simp only [List.setIfInBounds_toArray, List.set_cons_zero, List.set_cons_succ]
          refine R_tk 12 84 hSw3.out ?_
          simp only [List.setIfInBounds_toArray, List.set_cons_zero, List.set_cons_succ]
          refine R_tk 15 87 hSw3.out ?_
          simp only [List.setIfInBounds_toArray, List.set_cons_zero, List.set_cons_succ]
          refine R_tk 17 89 hSw3.out ?_
          simp only [List.setIfInBounds_toArray, List.set_cons_zero, List.set_cons_succ]
          refine R_tk 18 90 hSw3.out ?_
          simp only [List.setIfInBounds_toArray, List.set_cons_zero, List.set_cons_succ]
          refine R_tk 19 91 hSw3.out ?_
          simp only [List.setIfInBounds_toArray, List.set_cons_zero, List.set_cons_succ]
          refine R_tk 20 92 hSw3.out ?_
          simp only [List.setIfInBounds_toArray, List.set_cons_zero, List.set_cons_succ]
          refine R_tk 21 93 hSw3.out ?_
          simp only [List.setIfInBounds_toArray, List.set_cons_zero, List.set_cons_succ]
          refine R_tk 22 94 hSw3.out ?_
          simp only [List.setIfInBounds_toArray, List.set_cons_zero, List.set_cons_succ]
          refine R_tk 23 95 hSw3.out ?_
          simp only [List.setIfInBounds_toArray, List.set_cons_zero, List.set_cons_succ]
          refine R_tk 24 96 hSw3.out ?_
          simp only [List.setIfInBounds_toArray, List.set_cons_zero, List.set_cons_succ]
          refine R_tk 25 97 hSw3.out ?_
          simp only [List.setIfInBounds_toArray, List.set_cons_zero, List.set_cons_succ]
          refine R_tk 26 98 hSw3.out ?_
          simp only [List.setIfInBounds_toArray, List.set_cons_zero, List.set_cons_succ]
          refine R_tk 27 99 hSw3.out ?_
          simp only [List.setIfInBounds_toArray, List.set_cons_zero, List.set_cons_succ]
          refine R_tk 28 100 hSw3.out ?_
          simp only [List.setIfInBounds_toArray, List.set_cons_zero, List.set_cons_succ]
          refine R_tk 29 2 hSw3.out ?_
          simp only [List.setIfInBounds_toArray, List.set_cons_zero, List.set_cons_succ]
          refine R_tk 30 3 hSw3.out ?_
          simp only [List.setIfInBounds_toArray, List.set_cons_zero, List.set_cons_succ]
          refine R_done (by kernel_rfl) ?_ _
          rename_i J9 K9 hJ9 hK9
          refine hK9 _ _ ?_
          clear hK9
          go_wp2_with fail
          go_ret2
          exact ⟨_, by rw [HF.out]; rfl, fun _ => by rw [HBY.out]; simp [str_append], ((hbx.drew.trans (hw2.mono hbx.drew.size)).trans (hw3.mono (Nat.le_trans hbx.drew.size hw2.size)))⟩
    have q2 : ((r.kind : Int) == 2) = false := by rw [beq_eq_false_iff_ne]; omega
    by_cases h6 : r.kind = 6
    · have q6 : ((r.kind : Int) == 6) = true := by simp [h6]
      have HK := Lib.hid h6
      clear h6
      have HF := Lib.hid (show r.fits = r.bodyOk by unfold Sp.Rec.fits; rw [HE.out, HK.out]; rfl)
      have HBY := Lib.hid (show r.bytes = hd ++ r.body by unfold Sp.Rec.bytes; rw [HK.out, HH.out]; rfl)
      go_wp2_with fail
      go_ret2
      exact ⟨_, by rw [HF.out]; rfl, fun _ => by rw [HBY.out], hbx⟩
    have q6 : ((r.kind : Int) == 6) = false := by rw [beq_eq_false_iff_ne]; omega
    by_cases h3 : r.kind = 3
    · have q3 : ((r.kind : Int) == 3) = true := by simp [h3]
      have HK := Lib.hid h3
      clear h3
      go_upto_region 17 with fail
      have hbs : ¬ 9223372036854775807 < 25 + r.body.length := by omega
      have hl1 := Sp.be_length 8 r.next
      have HBY := Lib.hid (show r.bytes = hd ++ Sp.be 8 r.next ++ r.body by unfold Sp.Rec.bytes; rw [HK.out, HH.out]; rfl)
      have P1 := Lib.hid fun (W : World) => rec_put r.next 8 W (by omega) (by omega) ho.next ho.next
      generalize Sp.be 8 r.next = b1 at *
      have HF := Lib.hid (show r.fits = r.bodyOk by unfold Sp.Rec.fits; rw [HE.out, HK.out]; rfl)
      have HG := Lib.hid (show w.heap.size < wc.drew.heap.size from hgl)
      have HZwcd := Lib.hid (Nat.le_refl wc.drew.heap.size)
      have hS := Lib.hid (show wc.drew.cell? ⟨w.heap.size, 5, none⟩ = some (.int .u64 r.next) ∧ wc.drew.cell? ⟨w.heap.size, 7, none⟩ = some (str r.body) from ⟨c5, c7⟩)
      clear c3 c4 c5 c6 c7
      refine R_begin (fun W => W.cell? ⟨w.heap.size, 5, none⟩ = some (.int .u64 r.next) ∧ W.cell? ⟨w.heap.size, 7, none⟩ = some (str r.body)) (fun _ => false) rfl ?_
      refine R_tk 0 110 hS.out ?_
      simp only [List.setIfInBounds_toArray, List.set_cons_zero, List.set_cons_succ]
      refine R_tk 1 111 hS.out ?_
      simp only [List.setIfInBounds_toArray, List.set_cons_zero, List.set_cons_succ]
      refine R_tk 2 112 hS.out ?_
      simp only [List.setIfInBounds_toArray, List.set_cons_zero, List.set_cons_succ]
      refine R_tk 5 115 hS.out ?_
      simp only [List.setIfInBounds_toArray, List.set_cons_zero, List.set_cons_succ]
      refine R_tk 6 116 hS.out ?_
      simp only [List.setIfInBounds_toArray, List.set_cons_zero, List.set_cons_succ]
      refine R_tk 8 118 hS.out ?_
      simp only [List.setIfInBounds_toArray, List.set_cons_zero, List.set_cons_succ]
      refine R_call 3 113 (w' := wc.drew) rfl rfl (by rfl) (by kernel_rfl) ?_ (P1.out _) ?_
      · go_simp
      rintro e w2 ⟨rfl, hw2⟩
      have hSw2 := Lib.hid (show w2.cell? ⟨w.heap.size, 5, none⟩ = some (.int .u64 r.next) ∧ w2.cell? ⟨w.heap.size, 7, none⟩ = some (str r.body) from ⟨(hw2.cell (p := ⟨w.heap.size, _, none⟩) (show w.heap.size < _ from Nat.lt_of_lt_of_le HG.out HZwcd.out)).trans hS.out.1, (hw2.cell (p := ⟨w.heap.size, _, none⟩) (show w.heap.size < _ from Nat.lt_of_lt_of_le HG.out HZwcd.out)).trans hS.out.2⟩)
      have HZw2 := Lib.hid (Nat.le_trans HZwcd.out hw2.size)
      refine ⟨_, rfl, fun _ => hSw2.out, ?_⟩
      simp only [List.setIfInBounds_toArray, List.set_cons_zero, List.set_cons_succ]
      refine R_tk 4 114 hSw2.out ?_
      simp only [List.setIfInBounds_toArray, List.set_cons_zero, List.set_cons_succ]
      refine R_tk 7 117 hSw2.out ?_
      simp only [List.setIfInBounds_toArray, List.set_cons_zero, List.set_cons_succ]
      refine R_tk 9 2 hSw2.out ?_
      simp only [List.setIfInBounds_toArray, List.set_cons_zero, List.set_cons_succ]
      refine R_tk 10 3 hSw2.out ?_
      simp only [List.setIfInBounds_toArray, List.set_cons_zero, List.set_cons_succ]
      refine R_done (by kernel_rfl) ?_ _
      rename_i J9 K9 hJ9 hK9
      refine hK9 _ _ ?_
      clear hK9
      go_wp2_with fail
      go_ret2
      exact ⟨_, by rw [HF.out]; rfl, fun _ => by rw [HBY.out]; simp [str_append], (hbx.drew.trans (hw2.mono hbx.drew.size))⟩
    have q3 : ((r.kind : Int) == 3) = false := by rw [beq_eq_false_iff_ne]; omega
    by_cases h4 : r.kind = 4
    · have q4 : ((r.kind : Int) == 4) = true := by simp [h4]
      have HK := Lib.hid h4
      clear h4
      go_upto_region 19 with fail
      have hbs : ¬ 9223372036854775807 < 25 + r.body.length := by omega
      have hl1 := Sp.be_length 8 r.number
      have HBY := Lib.hid (show r.bytes = hd ++ Sp.be 8 r.number ++ r.body by unfold Sp.Rec.bytes; rw [HK.out, HH.out]; rfl)
      have P1 := Lib.hid fun (W : World) => rec_put r.number 8 W (by omega) (by omega) ho.number ho.number
      generalize Sp.be 8 r.number = b1 at *
      have HF := Lib.hid (show r.fits = (r.bodyOk && decide (0 < r.number)) by unfold Sp.Rec.fits; rw [HE.out, HK.out]; rfl)
      have d1 : decide ((0 : Int) < (r.number : Int)) = decide (0 < r.number) := by rw [Bool.eq_iff_iff]; simp
      cases hbo : r.bodyOk
      · rw [hbo, Bool.false_and] at HF
        have HG := Lib.hid (show w.heap.size < wc.drew.heap.size from hgl)
        have HZwcd := Lib.hid (Nat.le_refl wc.drew.heap.size)
        have hS := Lib.hid (show wc.drew.cell? ⟨w.heap.size, 6, none⟩ = some (.int .u64 r.number) ∧ wc.drew.cell? ⟨w.heap.size, 7, none⟩ = some (str r.body) from ⟨c6, c7⟩)
        clear c3 c4 c5 c6 c7
        refine R_begin (fun W => W.cell? ⟨w.heap.size, 6, none⟩ = some (.int .u64 r.number) ∧ W.cell? ⟨w.heap.size, 7, none⟩ = some (str r.body)) (fun _ => false) rfl ?_
        refine R_tk 0 121 hS.out ?_
        simp only [List.setIfInBounds_toArray, List.set_cons_zero, List.set_cons_succ]
        refine R_tk 1 122 hS.out ?_
        simp only [List.setIfInBounds_toArray, List.set_cons_zero, List.set_cons_succ]
        refine R_tk 2 123 hS.out ?_
        simp only [List.setIfInBounds_toArray, List.set_cons_zero, List.set_cons_succ]
        refine R_tk 5 126 hS.out ?_
        simp only [List.setIfInBounds_toArray, List.set_cons_zero, List.set_cons_succ]
        refine R_tk 6 127 hS.out ?_
        simp only [List.setIfInBounds_toArray, List.set_cons_zero, List.set_cons_succ]
        refine R_tk 8 129 hS.out ?_
        simp only [List.setIfInBounds_toArray, List.set_cons_zero, List.set_cons_succ]
        refine R_call 3 124 (w' := wc.drew) rfl rfl (by rfl) (by kernel_rfl) ?_ (P1.out _) ?_
        · go_simp
        rintro e w2 ⟨rfl, hw2⟩
        have hSw2 := Lib.hid (show w2.cell? ⟨w.heap.size, 6, none⟩ = some (.int .u64 r.number) ∧ w2.cell? ⟨w.heap.size, 7, none⟩ = some (str r.body) from ⟨(hw2.cell (p := ⟨w.heap.size, _, none⟩) (show w.heap.size < _ from Nat.lt_of_lt_of_le HG.out HZwcd.out)).trans hS.out.1, (hw2.cell (p := ⟨w.heap.size, _, none⟩) (show w.heap.size < _ from Nat.lt_of_lt_of_le HG.out HZwcd.out)).trans hS.out.2⟩)
        have HZw2 := Lib.hid (Nat.le_trans HZwcd.out hw2.size)
        refine ⟨_, rfl, fun _ => hSw2.out, ?_⟩
        simp only [List.setIfInBounds_toArray, List.set_cons_zero, List.set_cons_succ]
        refine R_tk 4 125 hSw2.out ?_
        simp only [List.setIfInBounds_toArray, List.set_cons_zero, List.set_cons_succ]
        refine R_tk 7 128 hSw2.out ?_
        simp only [List.setIfInBounds_toArray, List.set_cons_zero, List.set_cons_succ]
        refine R_tk 9 130 hSw2.out ?_
        simp only [List.setIfInBounds_toArray, List.set_cons_zero, List.set_cons_succ]
        refine R_skip 10 131 rfl rfl (by rfl) (by kernel_rfl) (fun _ _ _ h => h) hSw2.out ?_
        simp only [List.setIfInBounds_toArray, List.set_cons_zero, List.set_cons_succ]
        refine R_skip 11 132 rfl rfl (by rfl) (by kernel_rfl) (fun _ _ _ h => h) hSw2.out ?_
        simp only [List.setIfInBounds_toArray, List.set_cons_zero, List.set_cons_succ]
        refine R_skip 12 133 rfl rfl (by rfl) (by kernel_rfl) (fun _ _ _ h => h) hSw2.out ?_
        simp only [List.setIfInBounds_toArray, List.set_cons_zero, List.set_cons_succ]
        refine R_tk 13 134 hSw2.out ?_
        simp only [List.setIfInBounds_toArray, List.set_cons_zero, List.set_cons_succ]
        refine R_tk 14 2 hSw2.out ?_
        simp only [List.setIfInBounds_toArray, List.set_cons_zero, List.set_cons_succ]
        refine R_tk 15 3 hSw2.out ?_
        simp only [List.setIfInBounds_toArray, List.set_cons_zero, List.set_cons_succ]
        refine R_done (by kernel_rfl) ?_ _
        rename_i J9 K9 hJ9 hK9
        refine hK9 _ _ ?_
        clear hK9
        go_wp2_with fail
        go_ret2
        exact ⟨_, by rw [HF.out]; rfl, fun _ => by rw [HBY.out]; simp [str_append], (hbx.drew.trans (hw2.mono hbx.drew.size))⟩
      · rw [hbo, Bool.true_and] at HF
        have HG := Lib.hid (show w.heap.size < wc.drew.heap.size from hgl)
        have HZwcd := Lib.hid (Nat.le_refl wc.drew.heap.size)
        have hS := Lib.hid (show wc.drew.cell? ⟨w.heap.size, 6, none⟩ = some (.int .u64 r.number) ∧ wc.drew.cell? ⟨w.heap.size, 7, none⟩ = some (str r.body) from ⟨c6, c7⟩)
        clear c3 c4 c5 c6 c7
        refine R_begin (fun W => W.cell? ⟨w.heap.size, 6, none⟩ = some (.int .u64 r.number) ∧ W.cell? ⟨w.heap.size, 7, none⟩ = some (str r.body)) (fun _ => false) rfl ?_
        refine R_tk 0 121 hS.out ?_
        simp only [List.setIfInBounds_toArray, List.set_cons_zero, List.set_cons_succ]
        refine R_tk 1 122 hS.out ?_
        simp only [List.setIfInBounds_toArray, List.set_cons_zero, List.set_cons_succ]
        refine R_tk 2 123 hS.out ?_
        simp only [List.setIfInBounds_toArray, List.set_cons_zero, List.set_cons_succ]
        refine R_tk 5 126 hS.out ?_
        simp only [List.setIfInBounds_toArray, List.set_cons_zero, List.set_cons_succ]
        refine R_tk 6 127 hS.out ?_
        simp only [List.setIfInBounds_toArray, List.set_cons_zero, List.set_cons_succ]
        refine R_tk 8 129 hS.out ?_
        simp only [List.setIfInBounds_toArray, List.set_cons_zero, List.set_cons_succ]
        refine R_call 3 124 (w' := wc.drew) rfl rfl (by rfl) (by kernel_rfl) ?_ (P1.out _) ?_
        · go_simp
        rintro e w2 ⟨rfl, hw2⟩
        have hSw2 := Lib.hid (show w2.cell? ⟨w.heap.size, 6, none⟩ = some (.int .u64 r.number) ∧ w2.cell? ⟨w.heap.size, 7, none⟩ = some (str r.body) from ⟨(hw2.cell (p := ⟨w.heap.size, _, none⟩) (show w.heap.size < _ from Nat.lt_of_lt_of_le HG.out HZwcd.out)).trans hS.out.1, (hw2.cell (p := ⟨w.heap.size, _, none⟩) (show w.heap.size < _ from Nat.lt_of_lt_of_le HG.out HZwcd.out)).trans hS.out.2⟩)
        have HZw2 := Lib.hid (Nat.le_trans HZwcd.out hw2.size)
        refine ⟨_, rfl, fun _ => hSw2.out, ?_⟩
        simp only [List.setIfInBounds_toArray, List.set_cons_zero, List.set_cons_succ]
        refine R_tk 4 125 hSw2.out ?_
        simp only [List.setIfInBounds_toArray, List.set_cons_zero, List.set_cons_succ]
        refine R_tk 7 128 hSw2.out ?_
        simp only [List.setIfInBounds_toArray, List.set_cons_zero, List.set_cons_succ]
        refine R_tk 9 130 hSw2.out ?_
        simp only [List.setIfInBounds_toArray, List.set_cons_zero, List.set_cons_succ]
        refine R_tk 10 131 hSw2.out ?_
        simp only [List.setIfInBounds_toArray, List.set_cons_zero, List.set_cons_succ]
        refine R_tk 11 132 hSw2.out ?_
        simp only [List.setIfInBounds_toArray, List.set_cons_zero, List.set_cons_succ]
        refine R_tk 12 133 hSw2.out ?_
        simp only [List.setIfInBounds_toArray, List.set_cons_zero, List.set_cons_succ]
        refine R_tk 13 134 hSw2.out ?_
        simp only [List.setIfInBounds_toArray, List.set_cons_zero, List.set_cons_succ]
        refine R_tk 14 2 hSw2.out ?_
        simp only [List.setIfInBounds_toArray, List.set_cons_zero, List.set_cons_succ]
        refine R_tk 15 3 hSw2.out ?_
        simp only [List.setIfInBounds_toArray, List.set_cons_zero, List.set_cons_succ]
        refine R_done (by kernel_rfl) ?_ _
        rename_i J9 K9 hJ9 hK9
        refine hK9 _ _ ?_
        clear hK9
        go_wp2_with fail
        go_ret2
        exact ⟨_, by rw [HF.out]; rfl, fun _ => by rw [HBY.out]; simp [str_append], (hbx.drew.trans (hw2.mono hbx.drew.size))⟩
    have q4 : ((r.kind : Int) == 4) = false := by rw [beq_eq_false_iff_ne]; omega
    have q8 : ((r.kind : Int) == 8) = false := by have := H8.out; rw [beq_eq_false_iff_ne]; omega
    have HF := Lib.hid (show r.fits = false by unfold Sp.Rec.fits; rw [HE.out]; simp [h1, h5, h7, h2, h6, h3, h4])
    clear h1 h2 h3 h4 h5 h6 h7
    go_wp2_with fail
    go_ret2
    exact ⟨_, by rw [HF.out]; rfl, fun h => absurd (HF.out.symm.trans h) (by decide), hbx⟩
  · have hf : r.fits = false := by unfold Sp.Rec.fits; rw [he]; rfl
    go_wp2_with fail
    go_ret2
    exact ⟨[], by rw [hf]; rfl, fun h => absurd (hf.symm.trans h) (by decide), hb1⟩
end Go.Proofs.YtclpmkinjjhncaaGreat

/- Package rec: has. -/
namespace Go.Proofs.YtclpmkinjjhncaaGreat
open Go.RowKit

/-- A record of what its kind has alone; no tables. -/
def Sp.Rec.base (r : Sp.Rec) : Sp.Rec := ⟨r.kind, r.tx, r.prev, 0, 0, 0, 0, [], 0, 0, 0, 0⟩
def Sp.Rec.has (r : Sp.Rec) : Sp.Rec :=
  if r.kind = 2 then { r.base with rp := r.rp, rs := r.rs, body := r.body } else if r.kind = 6 then { r.base with body := r.body } else if r.kind = 3 then { r.base with next := r.next, body := r.body } else if r.kind = 4 then { r.base with number := r.number, body := r.body } else r.base
def recZ : Sp.Rec := ⟨0, 0, 0, 0, 0, 0, 0, [], 0, 0, 0, 0⟩
set_option maxRecDepth 100000 in
set_option maxHeartbeats 8000000 in
theorem rec_has {w : World} {r : Sp.Rec} {D T : Option Addr} {cd ct : Nat} (h8 : r.kind ≠ 8) :
    Calls Tryz.prog 178 #[recV r D T cd ct] w fun e w' => e = .returned (recV r.has none none 0 0) ∧ Below w.heap.size w w' := by
  have hB1 := Blk.new w 48 (recCs r D T cd ct)
  have hb1 := (Below.refl w.heap.size w).alloc (Nat.le_refl _) (.cells (recCs r D T cd ct) 48)
  have H8 := Lib.hid h8
  clear h8
  go_enter Tryz.func178, Tryz.ntmps178
  go_upto_region 1 with fail
  change Code.wp _ _ _ _ ((w.alloc (.cells (recCs r D T cd ct) 48)).alloc (.cells (recCs recZ none none 0 0) 48))
  have hb2 := hb1.alloc (by simp) (.cells (recCs recZ none none 0 0) 48)
  have hB2 := hB1.alloc (.cells (recCs recZ none none 0 0) 48)
  have hC2 := Blk.new (w.alloc (.cells (recCs r D T cd ct) 48)) 48 (recCs recZ none none 0 0)
  have hsz : (w.alloc (.cells (recCs r D T cd ct) 48)).heap.size = w.heap.size + 1 := by simp
  rw [hsz] at hC2
  clear hsz hB1 hb1
  generalize (w.alloc (.cells (recCs r D T cd ct) 48)).alloc (.cells (recCs recZ none none 0 0) 48) = w2 at hb2 hB2 hC2 ⊢
  have hz : Blk (w2.alloc (.cells (recCs recZ none none 0 0) 48)) w2.heap.size 48 (recCs recZ none none 0 0) := Blk.new _ _ _
  have HS := Lib.hid (rec_store (r := r.base) (D := none) (T := none) (cd := 0) (ct := 0) hz)
  have hb23 : Below w2.heap.size w2 ((w2.alloc (.cells (recCs recZ none none 0 0) 48)).setRow w2.heap.size (recCs r.base none none 0 0)) := below_setRow ((Below.refl w2.heap.size w2).alloc (Nat.le_refl _) _) (Nat.le_refl _) _
  have hX3 : Blk ((w2.alloc (.cells (recCs recZ none none 0 0) 48)).setRow w2.heap.size (recCs r.base none none 0 0)) w2.heap.size 48 (recCs r.base none none 0 0) := hz.setRow _
  have hB3 := hB2.below hb23 hB2.lt
  have hC3 := hC2.below hb23 hC2.lt
  have hb3 := hb2.trans (hb23.mono hb2.size)
  have c0 := hB2.cell 0
  have c1 := hB2.cell 1
  have c2 := hB2.cell 2
  simp only [recCs, List.getElem?_toArray, List.getElem?_cons_succ, List.getElem?_cons_zero] at c0 c1 c2
  have hn1 : w.heap.size ≠ w2.heap.size := by have := hB2.lt; omega
  have hn2 : w.heap.size + 1 ≠ w2.heap.size := by have := hC2.lt; omega
  have hgx : w.heap.size ≤ w2.heap.size := hb2.size
  replace hX3 := Lib.hid hX3
  replace hB3 := Lib.hid hB3
  replace hC3 := Lib.hid hC3
  replace hb3 := Lib.hid hb3
  clear hz hb23 hb2 hB2 hC2
  go_upto_region 2 with (first
    | ((with_reducible refine wpList_skip (w' := (w2.alloc (.cells (recCs recZ none none 0 0) 48)).setRow w2.heap.size (recCs r.base none none 0 0)) rfl rfl ?_ ?_); exact run_op_store _ _ _ ⟨w2.heap.size, 0, none⟩ (recV r.base none none 0 0) rfl rfl rfl HS.out))
  clear HS c0 c1 c2
  generalize (w2.alloc (.cells (recCs recZ none none 0 0) 48)).setRow w2.heap.size (recCs r.base none none 0 0) = w3 at hX3 hB3 hC3 hb3 ⊢
  obtain ⟨gx, hg⟩ : ∃ g, g = w2.heap.size := ⟨_, rfl⟩
  rw [← hg] at hX3 hn1 hn2 hgx
  rw [← hg]
  clear hg
  have c0 := hB3.out.cell 0
  simp only [recCs, List.getElem?_toArray, List.getElem?_cons_zero] at c0
  go_upto_block 0 with fail
  clear c0
  go_cut [] from 13 to 46 (fun wx => Blk wx gx 48 (recCs r.has none none 0 0) ∧ Turns (only gx) (only gx) w3 wx)
  case first =>
    by_cases h2 : r.kind = 2
    · have q2 : ((r.kind : Int) == 2) = true := by simp [h2]
      have HK := Lib.hid h2
      have hh : r.has = { r.base with rp := r.rp, rs := r.rs, body := r.body } := by unfold Sp.Rec.has; rw [HK.out]; rfl
      clear h2
      have c3 := hB3.out.cell 3
      have x3 := hX3.out.cell 3
      have f3 := hX3.out.frozen 3
      have c4 := hB3.out.cell 4
      have x4 := hX3.out.cell 4
      have f4 := hX3.out.frozen 4
      have c7 := hB3.out.cell 7
      have x7 := hX3.out.cell 7
      have f7 := hX3.out.frozen 7
      simp only [recCs, List.getElem?_toArray, List.getElem?_cons_succ, List.getElem?_cons_zero] at c3 x3 c4 x4 c7 x7
      replace hh := Lib.hid hh
      go_wp2_with fail
      go_region
      go_wp2_with fail
      go_meet
      case rel => exact ⟨by rw [hh.out]; exact (((hX3.out.set_ 3 _).set_ 4 _).set_ 7 _).drew, ((((Turns.refl (only gx) w3).setCell (p := ⟨gx, 3, none⟩) (.inl rfl) _).setCell (p := ⟨gx, 4, none⟩) (.inl rfl) _).setCell (p := ⟨gx, 7, none⟩) (.inl rfl) _).drew⟩
    have q2 : ((r.kind : Int) == 2) = false := by rw [beq_eq_false_iff_ne]; omega
    by_cases h6 : r.kind = 6
    · have q6 : ((r.kind : Int) == 6) = true := by simp [h6]
      have HK := Lib.hid h6
      have hh : r.has = { r.base with body := r.body } := by unfold Sp.Rec.has; rw [HK.out]; rfl
      clear h6
      have c7 := hB3.out.cell 7
      have x7 := hX3.out.cell 7
      have f7 := hX3.out.frozen 7
      simp only [recCs, List.getElem?_toArray, List.getElem?_cons_succ, List.getElem?_cons_zero] at c7 x7
      replace hh := Lib.hid hh
      go_wp2_with fail
      go_meet
      case rel => exact ⟨by rw [hh.out]; exact (hX3.out.set_ 7 _), ((Turns.refl (only gx) w3).setCell (p := ⟨gx, 7, none⟩) (.inl rfl) _)⟩
    have q6 : ((r.kind : Int) == 6) = false := by rw [beq_eq_false_iff_ne]; omega
    by_cases h3 : r.kind = 3
    · have q3 : ((r.kind : Int) == 3) = true := by simp [h3]
      have HK := Lib.hid h3
      have hh : r.has = { r.base with next := r.next, body := r.body } := by unfold Sp.Rec.has; rw [HK.out]; rfl
      clear h3
      have c5 := hB3.out.cell 5
      have x5 := hX3.out.cell 5
      have f5 := hX3.out.frozen 5
      have c7 := hB3.out.cell 7
      have x7 := hX3.out.cell 7
      have f7 := hX3.out.frozen 7
      simp only [recCs, List.getElem?_toArray, List.getElem?_cons_succ, List.getElem?_cons_zero] at c5 x5 c7 x7
      replace hh := Lib.hid hh
      go_wp2_with fail
      go_region
      go_wp2_with fail
      go_meet
      case rel => exact ⟨by rw [hh.out]; exact ((hX3.out.set_ 5 _).set_ 7 _).drew, (((Turns.refl (only gx) w3).setCell (p := ⟨gx, 5, none⟩) (.inl rfl) _).setCell (p := ⟨gx, 7, none⟩) (.inl rfl) _).drew⟩
    have q3 : ((r.kind : Int) == 3) = false := by rw [beq_eq_false_iff_ne]; omega
    by_cases h4 : r.kind = 4
    · have q4 : ((r.kind : Int) == 4) = true := by simp [h4]
      have HK := Lib.hid h4
      have hh : r.has = { r.base with number := r.number, body := r.body } := by unfold Sp.Rec.has; rw [HK.out]; rfl
      clear h4
      have c6 := hB3.out.cell 6
      have x6 := hX3.out.cell 6
      have f6 := hX3.out.frozen 6
      have c7 := hB3.out.cell 7
      have x7 := hX3.out.cell 7
      have f7 := hX3.out.frozen 7
      simp only [recCs, List.getElem?_toArray, List.getElem?_cons_succ, List.getElem?_cons_zero] at c6 x6 c7 x7
      replace hh := Lib.hid hh
      go_wp2_with fail
      go_region
      go_wp2_with fail
      go_meet
      case rel => exact ⟨by rw [hh.out]; exact ((hX3.out.set_ 6 _).set_ 7 _).drew, (((Turns.refl (only gx) w3).setCell (p := ⟨gx, 6, none⟩) (.inl rfl) _).setCell (p := ⟨gx, 7, none⟩) (.inl rfl) _).drew⟩
    have q4 : ((r.kind : Int) == 4) = false := by rw [beq_eq_false_iff_ne]; omega
    have q8 : ((r.kind : Int) == 8) = false := by have := H8.out; rw [beq_eq_false_iff_ne]; omega
    have hh : r.has = r.base := by unfold Sp.Rec.has; rw [if_neg h2, if_neg h6, if_neg h3, if_neg h4]
    replace hh := Lib.hid hh
    clear h2 h3 h4 h6
    go_wp2_with fail
    go_meet
    case rel => exact ⟨by rw [hh.out]; exact hX3.out, Turns.refl _ _⟩
  case rest =>
  rename_i K8 hK8
  refine hK8 _ _ ?_
  clear hK8
  obtain ⟨hXx, hTx⟩ := hcut
  have HL := Lib.hid (rec_load hXx)
  have hCx := hC3.out.turns hTx hn2
  have HS := Lib.hid (rec_store (r := r.has) (D := none) (T := none) (cd := 0) (ct := 0) hCx)
  have hbx : Below w.heap.size w wc := hb3.out.trans (hTx.below (show w.heap.size ≤ w3.heap.size from hb3.out.size) (fun b hb => by have hb : b = gx := hb; omega))
  have hb5 : Below w.heap.size w (wc.setRow (w.heap.size + 1) (recCs r.has none none 0 0)) := below_setRow hbx (by omega) _
  have hC5 := hCx.setRow (recCs r.has none none 0 0)
  have HB5 := Lib.hid hb5
  have HC5 := Lib.hid hC5
  clear hXx hTx hCx hbx hb5 hC5
  go_wp2_with (first
    | ((with_reducible refine wpList_run (v := recV r.has none none 0 0) (w' := wc) 47 rfl rfl ?_ ?_); exact run_op_load _ _ ⟨gx, 0, none⟩ rfl rfl HL.out; simp only [List.setIfInBounds_toArray, List.set_cons_zero, List.set_cons_succ])
    | ((with_reducible refine wpList_skip (w' := wc.setRow (w.heap.size + 1) (recCs r.has none none 0 0)) rfl rfl ?_ ?_); exact run_op_store _ _ _ ⟨w.heap.size + 1, 0, none⟩ (recV r.has none none 0 0) rfl rfl rfl HS.out))
  exact bodyPost_ret (v := recV r.has none none 0 0) (results_cell_row rfl _ _ _ _ _ _ _ rfl HC5.out Tryz.underlying48 rfl rec_size) rfl ⟨rfl, HB5.out⟩
end Go.Proofs.YtclpmkinjjhncaaGreat
