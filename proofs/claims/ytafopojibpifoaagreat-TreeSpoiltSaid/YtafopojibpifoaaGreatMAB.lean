/- The walks of package page on a head: numbers written and read, part by part. (Printed by gen_head.py.) -/
import Derived.Test.YtafopojibpifoaaGreatMAA
import Derived.RegionTactic
import Derived.BigRegion
import Derived.ChangeAlike
import Derived.Laws.Rows
import Derived.Laws.Tables
import Derived.Deep.WholeRow
import Derived.Deep.MidRow
import Derived.Laws.ResultCell
import Derived.Laws.AppendOwn
import Derived.Maps.AppendAt
import Derived.Deep.AppendLies

namespace Go.Proofs.YtafopojibpifoaaGreat
open Go.RowKit

/-- The block of a head: the page's six cells, the text, the place, reading or not, whether it went wrong. -/
abbrev hdCells (c0 c1 c2 c3 c4 c5 : Value) (s : Sp.Bs) (at_ : Nat) (rd bad : Bool) : Array Value := #[c0, c1, c2, c3, c4, c5, str s, .int .i64 at_, .bool rd, .bool bad]

set_option maxRecDepth 100000 in
set_option maxHeartbeats 4000000 in
theorem num_w_uint8 {w : World} {b bx ox : Nat} {c0 c1 c2 c3 c4 c5 : Value} {s : Sp.Bs} {at_ size n : Nat} (hH : Blk w b 162 (hdCells c0 c1 c2 c3 c4 c5 s at_ false false))
    (hx : w.cell? ⟨bx, ox, none⟩ = some (.int .u8 n)) (h1 : 1 ≤ size) (h8 : size ≤ 8) (hn : n < 256 ^ size) (_hn64 : n < 256) (hlen : s.length ≤ 1000000) :
    Calls Tryz.prog 144 #[.pointer (some ⟨b, 0, none⟩), .pointer (some ⟨bx, ox, none⟩), .int .i64 size] w fun e w' => e = .returned (.tuple #[]) ∧
      Blk w' b 162 (hdCells c0 c1 c2 c3 c4 c5 (s ++ Sp.be size n) at_ false false) ∧ Turns (only b) (only b) w w' := by
  have hc6 := hH.cell 6
  have hc8 := hH.cell 8
  have hc9 := hH.cell 9
  simp only [hdCells, List.getElem?_toArray, List.getElem?_cons_succ, List.getElem?_cons_zero] at hc6 hc8 hc9
  have HH := Lib.hid hH
  have HP := Lib.hid (word_put n size w h1 h8 hn (by omega))
  clear hH hn
  go_enter Tryz.func144, Tryz.ntmps144
  go_wp2_with fail
  refine HP.out.mono ?_
  rintro e w1 ⟨rfl, hb⟩
  have hH1 := HH.out.below hb HH.out.lt
  have d6 := hH1.cell 6
  have d9 := hH1.cell 9
  have f6 := hH1.frozen 6
  have f9 := hH1.frozen 9
  simp only [hdCells, List.getElem?_toArray, List.getElem?_cons_succ, List.getElem?_cons_zero] at d6 d9
  have HH1 := Lib.hid hH1
  clear hc6 hc8 hc9 hx hH1
  go_wp2_with fail
  go_region
  go_end0
  refine ⟨rfl, ?_, (((Turns.of_below hb (only b)).setCell (p := ⟨b, 6, none⟩) (.inl rfl) _).setCell (p := ⟨b, 9, none⟩) (.inl rfl) _).drew⟩
  have h2 := ((HH1.out.set_ 6 (.string (⟨s.toArray⟩ ++ ⟨(Sp.be size n).toArray⟩))).set_ 9 (.bool false)).drew
  have e2 : ((hdCells c0 c1 c2 c3 c4 c5 s at_ false false).setIfInBounds 6 (.string (⟨s.toArray⟩ ++ ⟨(Sp.be size n).toArray⟩))).setIfInBounds 9 (.bool false) = hdCells c0 c1 c2 c3 c4 c5 (s ++ Sp.be size n) at_ false false := by
    rw [str_append]; rfl
  rw [e2] at h2
  exact h2

set_option maxRecDepth 100000 in
set_option maxHeartbeats 4000000 in
/-- A number is read into a field of the head's own page. -/
theorem num_r_uint8 {w : World} {b o : Nat} {cs : Array Value} {c0 c1 c2 c3 c4 c5 : Value} {s : Sp.Bs} {at_ size N : Nat} {v0 : Value} (hcs : cs = hdCells c0 c1 c2 c3 c4 c5 s at_ true false) (hH : Blk w b 162 cs)
    (ho : o < 5) (hx : cs[o]? = some v0) (h1 : 1 ≤ size) (h8 : size ≤ 8) (hat : at_ + size ≤ s.length) (hN : Sp.num ((s.drop at_).take size) = N) (_hn64 : N < 256) (hlen : s.length ≤ 1000000) :
    Calls Tryz.prog 144 #[.pointer (some ⟨b, 0, none⟩), .pointer (some ⟨b, o, none⟩), .int .i64 size] w fun e w' => e = .returned (.tuple #[]) ∧
      Blk w' b 162 ((hdCells c0 c1 c2 c3 c4 c5 s (at_ + size) true false).setIfInBounds o (.int .u8 N)) ∧ Turns (only b) (only b) w w' := by
  have hc6 := hH.cell 6
  have hc7 := hH.cell 7
  have hc8 := hH.cell 8
  rw [hcs] at hc6 hc7 hc8
  simp only [hdCells, List.getElem?_toArray, List.getElem?_cons_succ, List.getElem?_cons_zero] at hc6 hc7 hc8
  have HH := Lib.hid hH
  have HC := Lib.hid hcs
  have HP := Lib.hid fun n => word_get s at_ size (w.drewN n) hat h1 h8 (by omega)
  rw [hN] at HP
  have HX := Lib.hid hx
  have o7 : ¬ o = 7 := by omega
  have o7' : ¬ 7 = o := by omega
  have o9 : ¬ o = 9 := by omega
  have o9' : ¬ 9 = o := by omega
  clear hH hcs hN hx
  go_enter Tryz.func144, Tryz.ntmps144
  go_wp2_with fail
  have hlt := HH.out.lt
  go_region_held3 (fun w' => w'.cell? ⟨b, 6, none⟩ = some (str s) ∧ w'.cell? ⟨b, 7, none⟩ = some (.int .i64 at_) ∧ Below w.heap.size w w')
    (first
      | exact ⟨hc6, hc7, (Below.refl _ _).drew⟩
      | (go_split_ands; exact ⟨((below_cell hb).1 _ _ (Nat.lt_of_lt_of_le hlt (by assumption : Below _ _ _).size)).trans (by assumption), ((below_cell hb).1 _ _ (Nat.lt_of_lt_of_le hlt (by assumption : Below _ _ _).size)).trans (by assumption), (by assumption : Below w.heap.size w _).trans (hb.mono (by assumption : Below w.heap.size w _).size)⟩)
      | go_keep)
    (first
      | (go_at_call 69; refine (HP.out 1).mono ?_; rintro e w1 ⟨rfl, hb⟩))
  have hb4 : Below w.heap.size w w1 := by
    rename_i hh
    exact hh.2.2
  have hH1 := HH.out.below hb4 hlt
  have d0 := (hH1.cell o).trans HX.out
  have d7 := hH1.cell 7
  have d9 := hH1.cell 9
  have f0 := hH1.frozen o
  have f7 := hH1.frozen 7
  have f9 := hH1.frozen 9
  rw [HC.out] at d7 d9
  simp only [hdCells, List.getElem?_toArray, List.getElem?_cons_succ, List.getElem?_cons_zero] at d7 d9
  have HH1 := Lib.hid hH1
  clear hc6 hc7 hc8 hH1 hb
  go_wp2_with fail
  refine bodyPost_ret (results_none rfl _ _ _) rfl ⟨rfl, ?_, ((((Turns.of_below hb4 (only b)).setCell (p := ⟨b, o, none⟩) (.inl rfl) _).setCell (p := ⟨b, 9, none⟩) (.inl rfl) _).setCell (p := ⟨b, 7, none⟩) (.inl rfl) _)⟩
  have h2 := (((HH1.out.set_ o (.int .u8 N)).set_ 9 (.bool false)).set_ 7 (.int .i64 ((at_ : Int) + (size : Int))))
  have e2 : (((cs.setIfInBounds o (.int .u8 N)).setIfInBounds 9 (.bool false)).setIfInBounds 7 (.int .i64 ((at_ : Int) + (size : Int)))) = (hdCells c0 c1 c2 c3 c4 c5 s (at_ + size) true false).setIfInBounds o (.int .u8 N) := by
    rw [HC.out, ← Int.natCast_add]
    match o, ho with
    | 0, _ => rfl
    | 1, _ => rfl
    | 2, _ => rfl
    | 3, _ => rfl
    | 4, _ => rfl
  rw [e2] at h2
  exact h2

set_option maxRecDepth 100000 in
set_option maxHeartbeats 4000000 in
theorem num_w_uint32 {w : World} {b bx ox : Nat} {c0 c1 c2 c3 c4 c5 : Value} {s : Sp.Bs} {at_ size n : Nat} (hH : Blk w b 162 (hdCells c0 c1 c2 c3 c4 c5 s at_ false false))
    (hx : w.cell? ⟨bx, ox, none⟩ = some (.int .u32 n)) (h1 : 1 ≤ size) (h8 : size ≤ 8) (hn : n < 256 ^ size) (_hn64 : n < 4294967296) (hlen : s.length ≤ 1000000) :
    Calls Tryz.prog 145 #[.pointer (some ⟨b, 0, none⟩), .pointer (some ⟨bx, ox, none⟩), .int .i64 size] w fun e w' => e = .returned (.tuple #[]) ∧
      Blk w' b 162 (hdCells c0 c1 c2 c3 c4 c5 (s ++ Sp.be size n) at_ false false) ∧ Turns (only b) (only b) w w' := by
  have hc6 := hH.cell 6
  have hc8 := hH.cell 8
  have hc9 := hH.cell 9
  simp only [hdCells, List.getElem?_toArray, List.getElem?_cons_succ, List.getElem?_cons_zero] at hc6 hc8 hc9
  have HH := Lib.hid hH
  have HP := Lib.hid (word_put n size w h1 h8 hn (by omega))
  clear hH hn
  go_enter Tryz.func145, Tryz.ntmps145
  go_wp2_with fail
  refine HP.out.mono ?_
  rintro e w1 ⟨rfl, hb⟩
  have hH1 := HH.out.below hb HH.out.lt
  have d6 := hH1.cell 6
  have d9 := hH1.cell 9
  have f6 := hH1.frozen 6
  have f9 := hH1.frozen 9
  simp only [hdCells, List.getElem?_toArray, List.getElem?_cons_succ, List.getElem?_cons_zero] at d6 d9
  have HH1 := Lib.hid hH1
  clear hc6 hc8 hc9 hx hH1
  go_wp2_with fail
  go_region
  go_end0
  refine ⟨rfl, ?_, (((Turns.of_below hb (only b)).setCell (p := ⟨b, 6, none⟩) (.inl rfl) _).setCell (p := ⟨b, 9, none⟩) (.inl rfl) _).drew⟩
  have h2 := ((HH1.out.set_ 6 (.string (⟨s.toArray⟩ ++ ⟨(Sp.be size n).toArray⟩))).set_ 9 (.bool false)).drew
  have e2 : ((hdCells c0 c1 c2 c3 c4 c5 s at_ false false).setIfInBounds 6 (.string (⟨s.toArray⟩ ++ ⟨(Sp.be size n).toArray⟩))).setIfInBounds 9 (.bool false) = hdCells c0 c1 c2 c3 c4 c5 (s ++ Sp.be size n) at_ false false := by
    rw [str_append]; rfl
  rw [e2] at h2
  exact h2

set_option maxRecDepth 100000 in
set_option maxHeartbeats 4000000 in
/-- A number is read into a field of the head's own page. -/
theorem num_r_uint32 {w : World} {b o : Nat} {cs : Array Value} {c0 c1 c2 c3 c4 c5 : Value} {s : Sp.Bs} {at_ size N : Nat} {v0 : Value} (hcs : cs = hdCells c0 c1 c2 c3 c4 c5 s at_ true false) (hH : Blk w b 162 cs)
    (ho : o < 5) (hx : cs[o]? = some v0) (h1 : 1 ≤ size) (h8 : size ≤ 8) (hat : at_ + size ≤ s.length) (hN : Sp.num ((s.drop at_).take size) = N) (_hn64 : N < 4294967296) (hlen : s.length ≤ 1000000) :
    Calls Tryz.prog 145 #[.pointer (some ⟨b, 0, none⟩), .pointer (some ⟨b, o, none⟩), .int .i64 size] w fun e w' => e = .returned (.tuple #[]) ∧
      Blk w' b 162 ((hdCells c0 c1 c2 c3 c4 c5 s (at_ + size) true false).setIfInBounds o (.int .u32 N)) ∧ Turns (only b) (only b) w w' := by
  have hc6 := hH.cell 6
  have hc7 := hH.cell 7
  have hc8 := hH.cell 8
  rw [hcs] at hc6 hc7 hc8
  simp only [hdCells, List.getElem?_toArray, List.getElem?_cons_succ, List.getElem?_cons_zero] at hc6 hc7 hc8
  have HH := Lib.hid hH
  have HC := Lib.hid hcs
  have HP := Lib.hid fun n => word_get s at_ size (w.drewN n) hat h1 h8 (by omega)
  rw [hN] at HP
  have HX := Lib.hid hx
  have o7 : ¬ o = 7 := by omega
  have o7' : ¬ 7 = o := by omega
  have o9 : ¬ o = 9 := by omega
  have o9' : ¬ 9 = o := by omega
  clear hH hcs hN hx
  go_enter Tryz.func145, Tryz.ntmps145
  go_wp2_with fail
  have hlt := HH.out.lt
  go_region_held3 (fun w' => w'.cell? ⟨b, 6, none⟩ = some (str s) ∧ w'.cell? ⟨b, 7, none⟩ = some (.int .i64 at_) ∧ Below w.heap.size w w')
    (first
      | exact ⟨hc6, hc7, (Below.refl _ _).drew⟩
      | (go_split_ands; exact ⟨((below_cell hb).1 _ _ (Nat.lt_of_lt_of_le hlt (by assumption : Below _ _ _).size)).trans (by assumption), ((below_cell hb).1 _ _ (Nat.lt_of_lt_of_le hlt (by assumption : Below _ _ _).size)).trans (by assumption), (by assumption : Below w.heap.size w _).trans (hb.mono (by assumption : Below w.heap.size w _).size)⟩)
      | go_keep)
    (first
      | (go_at_call 69; refine (HP.out 1).mono ?_; rintro e w1 ⟨rfl, hb⟩))
  have hb4 : Below w.heap.size w w1 := by
    rename_i hh
    exact hh.2.2
  have hH1 := HH.out.below hb4 hlt
  have d0 := (hH1.cell o).trans HX.out
  have d7 := hH1.cell 7
  have d9 := hH1.cell 9
  have f0 := hH1.frozen o
  have f7 := hH1.frozen 7
  have f9 := hH1.frozen 9
  rw [HC.out] at d7 d9
  simp only [hdCells, List.getElem?_toArray, List.getElem?_cons_succ, List.getElem?_cons_zero] at d7 d9
  have HH1 := Lib.hid hH1
  clear hc6 hc7 hc8 hH1 hb
  go_wp2_with fail
  refine bodyPost_ret (results_none rfl _ _ _) rfl ⟨rfl, ?_, ((((Turns.of_below hb4 (only b)).setCell (p := ⟨b, o, none⟩) (.inl rfl) _).setCell (p := ⟨b, 9, none⟩) (.inl rfl) _).setCell (p := ⟨b, 7, none⟩) (.inl rfl) _)⟩
  have h2 := (((HH1.out.set_ o (.int .u32 N)).set_ 9 (.bool false)).set_ 7 (.int .i64 ((at_ : Int) + (size : Int))))
  have e2 : (((cs.setIfInBounds o (.int .u32 N)).setIfInBounds 9 (.bool false)).setIfInBounds 7 (.int .i64 ((at_ : Int) + (size : Int)))) = (hdCells c0 c1 c2 c3 c4 c5 s (at_ + size) true false).setIfInBounds o (.int .u32 N) := by
    rw [HC.out, ← Int.natCast_add]
    match o, ho with
    | 0, _ => rfl
    | 1, _ => rfl
    | 2, _ => rfl
    | 3, _ => rfl
    | 4, _ => rfl
  rw [e2] at h2
  exact h2

set_option maxRecDepth 100000 in
set_option maxHeartbeats 4000000 in
theorem num_w_uint64 {w : World} {b bx ox : Nat} {c0 c1 c2 c3 c4 c5 : Value} {s : Sp.Bs} {at_ size n : Nat} (hH : Blk w b 162 (hdCells c0 c1 c2 c3 c4 c5 s at_ false false))
    (hx : w.cell? ⟨bx, ox, none⟩ = some (.int .u64 n)) (h1 : 1 ≤ size) (h8 : size ≤ 8) (hn : n < 256 ^ size) (_hn64 : n < 18446744073709551616) (hlen : s.length ≤ 1000000) :
    Calls Tryz.prog 146 #[.pointer (some ⟨b, 0, none⟩), .pointer (some ⟨bx, ox, none⟩), .int .i64 size] w fun e w' => e = .returned (.tuple #[]) ∧
      Blk w' b 162 (hdCells c0 c1 c2 c3 c4 c5 (s ++ Sp.be size n) at_ false false) ∧ Turns (only b) (only b) w w' := by
  have hc6 := hH.cell 6
  have hc8 := hH.cell 8
  have hc9 := hH.cell 9
  simp only [hdCells, List.getElem?_toArray, List.getElem?_cons_succ, List.getElem?_cons_zero] at hc6 hc8 hc9
  have HH := Lib.hid hH
  have HP := Lib.hid (word_put n size w h1 h8 hn (by omega))
  clear hH hn
  go_enter Tryz.func146, Tryz.ntmps146
  go_wp2_with fail
  refine HP.out.mono ?_
  rintro e w1 ⟨rfl, hb⟩
  have hH1 := HH.out.below hb HH.out.lt
  have d6 := hH1.cell 6
  have d9 := hH1.cell 9
  have f6 := hH1.frozen 6
  have f9 := hH1.frozen 9
  simp only [hdCells, List.getElem?_toArray, List.getElem?_cons_succ, List.getElem?_cons_zero] at d6 d9
  have HH1 := Lib.hid hH1
  clear hc6 hc8 hc9 hx hH1
  go_wp2_with fail
  go_region
  go_end0
  refine ⟨rfl, ?_, (((Turns.of_below hb (only b)).setCell (p := ⟨b, 6, none⟩) (.inl rfl) _).setCell (p := ⟨b, 9, none⟩) (.inl rfl) _).drew⟩
  have h2 := ((HH1.out.set_ 6 (.string (⟨s.toArray⟩ ++ ⟨(Sp.be size n).toArray⟩))).set_ 9 (.bool false)).drew
  have e2 : ((hdCells c0 c1 c2 c3 c4 c5 s at_ false false).setIfInBounds 6 (.string (⟨s.toArray⟩ ++ ⟨(Sp.be size n).toArray⟩))).setIfInBounds 9 (.bool false) = hdCells c0 c1 c2 c3 c4 c5 (s ++ Sp.be size n) at_ false false := by
    rw [str_append]; rfl
  rw [e2] at h2
  exact h2

set_option maxRecDepth 100000 in
set_option maxHeartbeats 4000000 in
/-- A number is read into a field of the head's own page. -/
theorem num_r_uint64 {w : World} {b o : Nat} {cs : Array Value} {c0 c1 c2 c3 c4 c5 : Value} {s : Sp.Bs} {at_ size N : Nat} {v0 : Value} (hcs : cs = hdCells c0 c1 c2 c3 c4 c5 s at_ true false) (hH : Blk w b 162 cs)
    (ho : o < 5) (hx : cs[o]? = some v0) (h1 : 1 ≤ size) (h8 : size ≤ 8) (hat : at_ + size ≤ s.length) (hN : Sp.num ((s.drop at_).take size) = N) (_hn64 : N < 18446744073709551616) (hlen : s.length ≤ 1000000) :
    Calls Tryz.prog 146 #[.pointer (some ⟨b, 0, none⟩), .pointer (some ⟨b, o, none⟩), .int .i64 size] w fun e w' => e = .returned (.tuple #[]) ∧
      Blk w' b 162 ((hdCells c0 c1 c2 c3 c4 c5 s (at_ + size) true false).setIfInBounds o (.int .u64 N)) ∧ Turns (only b) (only b) w w' := by
  have hc6 := hH.cell 6
  have hc7 := hH.cell 7
  have hc8 := hH.cell 8
  rw [hcs] at hc6 hc7 hc8
  simp only [hdCells, List.getElem?_toArray, List.getElem?_cons_succ, List.getElem?_cons_zero] at hc6 hc7 hc8
  have HH := Lib.hid hH
  have HC := Lib.hid hcs
  have HP := Lib.hid fun n => word_get s at_ size (w.drewN n) hat h1 h8 (by omega)
  rw [hN] at HP
  have HX := Lib.hid hx
  have o7 : ¬ o = 7 := by omega
  have o7' : ¬ 7 = o := by omega
  have o9 : ¬ o = 9 := by omega
  have o9' : ¬ 9 = o := by omega
  clear hH hcs hN hx
  go_enter Tryz.func146, Tryz.ntmps146
  go_wp2_with fail
  have hlt := HH.out.lt
  go_region_held3 (fun w' => w'.cell? ⟨b, 6, none⟩ = some (str s) ∧ w'.cell? ⟨b, 7, none⟩ = some (.int .i64 at_) ∧ Below w.heap.size w w')
    (first
      | exact ⟨hc6, hc7, (Below.refl _ _).drew⟩
      | (go_split_ands; exact ⟨((below_cell hb).1 _ _ (Nat.lt_of_lt_of_le hlt (by assumption : Below _ _ _).size)).trans (by assumption), ((below_cell hb).1 _ _ (Nat.lt_of_lt_of_le hlt (by assumption : Below _ _ _).size)).trans (by assumption), (by assumption : Below w.heap.size w _).trans (hb.mono (by assumption : Below w.heap.size w _).size)⟩)
      | go_keep)
    (first
      | (go_at_call 69; refine (HP.out 1).mono ?_; rintro e w1 ⟨rfl, hb⟩))
  have hb4 : Below w.heap.size w w1 := by
    rename_i hh
    exact hh.2.2
  have hH1 := HH.out.below hb4 hlt
  have d0 := (hH1.cell o).trans HX.out
  have d7 := hH1.cell 7
  have d9 := hH1.cell 9
  have f0 := hH1.frozen o
  have f7 := hH1.frozen 7
  have f9 := hH1.frozen 9
  rw [HC.out] at d7 d9
  simp only [hdCells, List.getElem?_toArray, List.getElem?_cons_succ, List.getElem?_cons_zero] at d7 d9
  have HH1 := Lib.hid hH1
  clear hc6 hc7 hc8 hH1 hb
  go_wp2_with fail
  refine bodyPost_ret (results_none rfl _ _ _) rfl ⟨rfl, ?_, ((((Turns.of_below hb4 (only b)).setCell (p := ⟨b, o, none⟩) (.inl rfl) _).setCell (p := ⟨b, 9, none⟩) (.inl rfl) _).setCell (p := ⟨b, 7, none⟩) (.inl rfl) _)⟩
  have h2 := (((HH1.out.set_ o (.int .u64 N)).set_ 9 (.bool false)).set_ 7 (.int .i64 ((at_ : Int) + (size : Int))))
  have e2 : (((cs.setIfInBounds o (.int .u64 N)).setIfInBounds 9 (.bool false)).setIfInBounds 7 (.int .i64 ((at_ : Int) + (size : Int)))) = (hdCells c0 c1 c2 c3 c4 c5 s (at_ + size) true false).setIfInBounds o (.int .u64 N) := by
    rw [HC.out, ← Int.natCast_add]
    match o, ho with
    | 0, _ => rfl
    | 1, _ => rfl
    | 2, _ => rfl
    | 3, _ => rfl
    | 4, _ => rfl
  rw [e2] at h2
  exact h2

set_option maxRecDepth 100000 in
set_option maxHeartbeats 4000000 in
/-- A number is read into a variable beside the head. -/
theorem num_rl {w : World} {b bx : Nat} {c0 c1 c2 c3 c4 c5 : Value} {s : Sp.Bs} {at_ size N : Nat} {v0 : Value} (hH : Blk w b 162 (hdCells c0 c1 c2 c3 c4 c5 s at_ true false))
    (hX : Blk w bx 33 #[v0]) (h1 : 1 ≤ size) (h8 : size ≤ 8) (hat : at_ + size ≤ s.length) (hN : Sp.num ((s.drop at_).take size) = N) (hn64 : N < 4294967296) (hlen : s.length ≤ 1000000) :
    Calls Tryz.prog 145 #[.pointer (some ⟨b, 0, none⟩), .pointer (some ⟨bx, 0, none⟩), .int .i64 size] w fun e w' => e = .returned (.tuple #[]) ∧
      Blk w' b 162 (hdCells c0 c1 c2 c3 c4 c5 s (at_ + size) true false) ∧ Blk w' bx 33 #[.int .u32 N] ∧ Turns (fun x => x = b ∨ x = bx) (fun x => x = b ∨ x = bx) w w' := by
  have hne : b ≠ bx := hH.ne_ hX (by decide)
  have hne' : bx ≠ b := hne.symm
  have hc6 := hH.cell 6
  have hc7 := hH.cell 7
  have hc8 := hH.cell 8
  simp only [hdCells, List.getElem?_toArray, List.getElem?_cons_succ, List.getElem?_cons_zero] at hc6 hc7 hc8
  have HH := Lib.hid hH
  have HX := Lib.hid hX
  have HP := Lib.hid fun n => word_get s at_ size (w.drewN n) hat h1 h8 (by omega)
  rw [hN] at HP
  clear hH hN hX
  go_enter Tryz.func145, Tryz.ntmps145
  go_wp2_with fail
  have hlt := HH.out.lt
  go_region_held3 (fun w' => w'.cell? ⟨b, 6, none⟩ = some (str s) ∧ w'.cell? ⟨b, 7, none⟩ = some (.int .i64 at_) ∧ Below w.heap.size w w')
    (first
      | exact ⟨hc6, hc7, (Below.refl _ _).drew⟩
      | (go_split_ands; exact ⟨((below_cell hb).1 _ _ (Nat.lt_of_lt_of_le hlt (by assumption : Below _ _ _).size)).trans (by assumption), ((below_cell hb).1 _ _ (Nat.lt_of_lt_of_le hlt (by assumption : Below _ _ _).size)).trans (by assumption), (by assumption : Below w.heap.size w _).trans (hb.mono (by assumption : Below w.heap.size w _).size)⟩)
      | go_keep)
    (first
      | (go_at_call 69; refine (HP.out 1).mono ?_; rintro e w1 ⟨rfl, hb⟩))
  have hb4 : Below w.heap.size w w1 := by
    rename_i hh
    exact hh.2.2
  have hH1 := HH.out.below hb4 hlt
  have hX1 := HX.out.below hb4 HX.out.lt
  have d0 := hX1.cell 0
  have d7 := hH1.cell 7
  have d9 := hH1.cell 9
  have f0 := hX1.frozen 0
  have f7 := hH1.frozen 7
  have f9 := hH1.frozen 9
  simp only [hdCells, List.getElem?_toArray, List.getElem?_cons_succ, List.getElem?_cons_zero] at d0 d7 d9
  have HH1 := Lib.hid hH1
  have HX1 := Lib.hid hX1
  clear hc6 hc7 hc8 hH1 hb hX1
  go_wp2_with fail
  refine bodyPost_ret (results_none rfl _ _ _) rfl ⟨rfl, ?_, ?_, ((((Turns.of_below hb4 (fun x => x = b ∨ x = bx)).setCell (p := ⟨bx, 0, none⟩) (.inl (.inr rfl)) _).setCell (p := ⟨b, 9, none⟩) (.inl (.inl rfl)) _).setCell (p := ⟨b, 7, none⟩) (.inl (.inl rfl)) _)⟩
  · have h2 := (((HH1.out.far (p := ⟨bx, 0, none⟩) hne (.int .u32 N)).set_ 9 (.bool false)).set_ 7 (.int .i64 ((at_ : Int) + (size : Int))))
    have e2 : (((hdCells c0 c1 c2 c3 c4 c5 s at_ true false).setIfInBounds 9 (.bool false)).setIfInBounds 7 (.int .i64 ((at_ : Int) + (size : Int)))) = hdCells c0 c1 c2 c3 c4 c5 s (at_ + size) true false := by
      rw [← Int.natCast_add]
      rfl
    rw [e2] at h2
    exact h2
  · exact (((HX1.out.set_ 0 (.int .u32 N)).far (p := ⟨b, 9, none⟩) hne' (.bool false)).far (p := ⟨b, 7, none⟩) hne' _)
end Go.Proofs.YtafopojibpifoaaGreat

/- The walks of package page on a head: its parts, and all of them. (Printed by gen_head.py.) -/
namespace Go.Proofs.YtafopojibpifoaaGreat
open Go.RowKit

set_option maxRecDepth 100000 in
set_option maxHeartbeats 4000000 in
theorem kind_w {w : World} {b n : Nat} {c1 c2 c3 c4 c5 : Value} {s : Sp.Bs} {at_ : Nat} (hH : Blk w b 162 (hdCells (.int .u8 n) c1 c2 c3 c4 c5 s at_ false false)) (hn : n < 256) (hlen : s.length ≤ 1000000) :
    Calls Tryz.prog 109 #[.pointer (some ⟨b, 0, none⟩)] w fun e w' => e = .returned (.tuple #[]) ∧
      Blk w' b 162 (hdCells (.int .u8 n) c1 c2 c3 c4 c5 (s ++ Sp.be 1 n) at_ false false) ∧ Turns (only b) (only b) w w' := by
  have HC := Lib.hid (num_w_uint8 hH (hH.cell 0) (by omega) (by omega) (size := 1) (n := n) (by omega) (by omega) hlen)
  clear hH
  go_enter Tryz.func109, Tryz.ntmps109
  go_wp2_with fail
  refine HC.out.mono ?_
  rintro e w1 ⟨rfl, h1, h2⟩
  go_wp2_with fail
  go_end0
  exact ⟨rfl, h1, h2⟩

set_option maxRecDepth 100000 in
set_option maxHeartbeats 4000000 in
theorem kind_r {w : World} {b N : Nat} {c0 c1 c2 c3 c4 c5 : Value} {s : Sp.Bs} {at_ : Nat} (hH : Blk w b 162 (hdCells c0 c1 c2 c3 c4 c5 s at_ true false)) (hat : at_ + 1 ≤ s.length) (hN : Sp.num ((s.drop at_).take 1) = N) (hlen : s.length ≤ 1000000) :
    Calls Tryz.prog 109 #[.pointer (some ⟨b, 0, none⟩)] w fun e w' => e = .returned (.tuple #[]) ∧
      Blk w' b 162 (hdCells (.int .u8 N) c1 c2 c3 c4 c5 s (at_ + 1) true false) ∧ Turns (only b) (only b) w w' := by
  have hn : N < 256 := by
    rw [← hN]
    exact Nat.lt_of_lt_of_le (Sp.num_lt _) (Nat.le_trans (Nat.pow_le_pow_right (by omega) (show _ ≤ 1 by simp; omega)) (by decide))
  have HC := Lib.hid (num_r_uint8 (o := 0) rfl hH (by omega) rfl (by omega) (by omega) hat hN hn hlen)
  clear hH hN hn
  go_enter Tryz.func109, Tryz.ntmps109
  go_wp2_with fail
  refine HC.out.mono ?_
  rintro e w1 ⟨rfl, h1, h2⟩
  go_wp2_with fail
  go_end0
  exact ⟨rfl, h1, h2⟩

set_option maxRecDepth 100000 in
set_option maxHeartbeats 4000000 in
theorem level_w {w : World} {b n : Nat} {c0 c2 c3 c4 c5 : Value} {s : Sp.Bs} {at_ : Nat} (hH : Blk w b 162 (hdCells c0 (.int .u8 n) c2 c3 c4 c5 s at_ false false)) (hn : n < 256) (hlen : s.length ≤ 1000000) :
    Calls Tryz.prog 110 #[.pointer (some ⟨b, 0, none⟩)] w fun e w' => e = .returned (.tuple #[]) ∧
      Blk w' b 162 (hdCells c0 (.int .u8 n) c2 c3 c4 c5 (s ++ Sp.be 1 n) at_ false false) ∧ Turns (only b) (only b) w w' := by
  have HC := Lib.hid (num_w_uint8 hH (hH.cell 1) (by omega) (by omega) (size := 1) (n := n) (by omega) (by omega) hlen)
  clear hH
  go_enter Tryz.func110, Tryz.ntmps110
  go_wp2_with fail
  refine HC.out.mono ?_
  rintro e w1 ⟨rfl, h1, h2⟩
  go_wp2_with fail
  go_end0
  exact ⟨rfl, h1, h2⟩

set_option maxRecDepth 100000 in
set_option maxHeartbeats 4000000 in
theorem level_r {w : World} {b N : Nat} {c0 c1 c2 c3 c4 c5 : Value} {s : Sp.Bs} {at_ : Nat} (hH : Blk w b 162 (hdCells c0 c1 c2 c3 c4 c5 s at_ true false)) (hat : at_ + 1 ≤ s.length) (hN : Sp.num ((s.drop at_).take 1) = N) (hlen : s.length ≤ 1000000) :
    Calls Tryz.prog 110 #[.pointer (some ⟨b, 0, none⟩)] w fun e w' => e = .returned (.tuple #[]) ∧
      Blk w' b 162 (hdCells c0 (.int .u8 N) c2 c3 c4 c5 s (at_ + 1) true false) ∧ Turns (only b) (only b) w w' := by
  have hn : N < 256 := by
    rw [← hN]
    exact Nat.lt_of_lt_of_le (Sp.num_lt _) (Nat.le_trans (Nat.pow_le_pow_right (by omega) (show _ ≤ 1 by simp; omega)) (by decide))
  have HC := Lib.hid (num_r_uint8 (o := 1) rfl hH (by omega) rfl (by omega) (by omega) hat hN hn hlen)
  clear hH hN hn
  go_enter Tryz.func110, Tryz.ntmps110
  go_wp2_with fail
  refine HC.out.mono ?_
  rintro e w1 ⟨rfl, h1, h2⟩
  go_wp2_with fail
  go_end0
  exact ⟨rfl, h1, h2⟩

set_option maxRecDepth 100000 in
set_option maxHeartbeats 4000000 in
theorem id_w {w : World} {b n : Nat} {c0 c1 c3 c4 c5 : Value} {s : Sp.Bs} {at_ : Nat} (hH : Blk w b 162 (hdCells c0 c1 (.int .u32 n) c3 c4 c5 s at_ false false)) (hn : n < 4294967296) (hlen : s.length ≤ 1000000) :
    Calls Tryz.prog 111 #[.pointer (some ⟨b, 0, none⟩)] w fun e w' => e = .returned (.tuple #[]) ∧
      Blk w' b 162 (hdCells c0 c1 (.int .u32 n) c3 c4 c5 (s ++ Sp.be 4 n) at_ false false) ∧ Turns (only b) (only b) w w' := by
  have HC := Lib.hid (num_w_uint32 hH (hH.cell 2) (by omega) (by omega) (size := 4) (n := n) (by omega) (by omega) hlen)
  clear hH
  go_enter Tryz.func111, Tryz.ntmps111
  go_wp2_with fail
  refine HC.out.mono ?_
  rintro e w1 ⟨rfl, h1, h2⟩
  go_wp2_with fail
  go_end0
  exact ⟨rfl, h1, h2⟩

set_option maxRecDepth 100000 in
set_option maxHeartbeats 4000000 in
theorem id_r {w : World} {b N : Nat} {c0 c1 c2 c3 c4 c5 : Value} {s : Sp.Bs} {at_ : Nat} (hH : Blk w b 162 (hdCells c0 c1 c2 c3 c4 c5 s at_ true false)) (hat : at_ + 4 ≤ s.length) (hN : Sp.num ((s.drop at_).take 4) = N) (hlen : s.length ≤ 1000000) :
    Calls Tryz.prog 111 #[.pointer (some ⟨b, 0, none⟩)] w fun e w' => e = .returned (.tuple #[]) ∧
      Blk w' b 162 (hdCells c0 c1 (.int .u32 N) c3 c4 c5 s (at_ + 4) true false) ∧ Turns (only b) (only b) w w' := by
  have hn : N < 4294967296 := by
    rw [← hN]
    exact Nat.lt_of_lt_of_le (Sp.num_lt _) (Nat.le_trans (Nat.pow_le_pow_right (by omega) (show _ ≤ 4 by simp; omega)) (by decide))
  have HC := Lib.hid (num_r_uint32 (o := 2) rfl hH (by omega) rfl (by omega) (by omega) hat hN hn hlen)
  clear hH hN hn
  go_enter Tryz.func111, Tryz.ntmps111
  go_wp2_with fail
  refine HC.out.mono ?_
  rintro e w1 ⟨rfl, h1, h2⟩
  go_wp2_with fail
  go_end0
  exact ⟨rfl, h1, h2⟩

set_option maxRecDepth 100000 in
set_option maxHeartbeats 4000000 in
theorem lsn_w {w : World} {b n : Nat} {c0 c1 c2 c4 c5 : Value} {s : Sp.Bs} {at_ : Nat} (hH : Blk w b 162 (hdCells c0 c1 c2 (.int .u64 n) c4 c5 s at_ false false)) (hn : n < 18446744073709551616) (hlen : s.length ≤ 1000000) :
    Calls Tryz.prog 112 #[.pointer (some ⟨b, 0, none⟩)] w fun e w' => e = .returned (.tuple #[]) ∧
      Blk w' b 162 (hdCells c0 c1 c2 (.int .u64 n) c4 c5 (s ++ Sp.be 8 n) at_ false false) ∧ Turns (only b) (only b) w w' := by
  have HC := Lib.hid (num_w_uint64 hH (hH.cell 3) (by omega) (by omega) (size := 8) (n := n) (by omega) (by omega) hlen)
  clear hH
  go_enter Tryz.func112, Tryz.ntmps112
  go_wp2_with fail
  refine HC.out.mono ?_
  rintro e w1 ⟨rfl, h1, h2⟩
  go_wp2_with fail
  go_end0
  exact ⟨rfl, h1, h2⟩

set_option maxRecDepth 100000 in
set_option maxHeartbeats 4000000 in
theorem lsn_r {w : World} {b N : Nat} {c0 c1 c2 c3 c4 c5 : Value} {s : Sp.Bs} {at_ : Nat} (hH : Blk w b 162 (hdCells c0 c1 c2 c3 c4 c5 s at_ true false)) (hat : at_ + 8 ≤ s.length) (hN : Sp.num ((s.drop at_).take 8) = N) (hlen : s.length ≤ 1000000) :
    Calls Tryz.prog 112 #[.pointer (some ⟨b, 0, none⟩)] w fun e w' => e = .returned (.tuple #[]) ∧
      Blk w' b 162 (hdCells c0 c1 c2 (.int .u64 N) c4 c5 s (at_ + 8) true false) ∧ Turns (only b) (only b) w w' := by
  have hn : N < 18446744073709551616 := by
    rw [← hN]
    exact Nat.lt_of_lt_of_le (Sp.num_lt _) (Nat.le_trans (Nat.pow_le_pow_right (by omega) (show _ ≤ 8 by simp; omega)) (by decide))
  have HC := Lib.hid (num_r_uint64 (o := 3) rfl hH (by omega) rfl (by omega) (by omega) hat hN hn hlen)
  clear hH hN hn
  go_enter Tryz.func112, Tryz.ntmps112
  go_wp2_with fail
  refine HC.out.mono ?_
  rintro e w1 ⟨rfl, h1, h2⟩
  go_wp2_with fail
  go_end0
  exact ⟨rfl, h1, h2⟩

set_option maxRecDepth 100000 in
set_option maxHeartbeats 4000000 in
theorem next_w {w : World} {b n : Nat} {c0 c1 c2 c3 c5 : Value} {s : Sp.Bs} {at_ : Nat} (hH : Blk w b 162 (hdCells c0 c1 c2 c3 (.int .u32 n) c5 s at_ false false)) (hn : n < 4294967296) (hlen : s.length ≤ 1000000) :
    Calls Tryz.prog 113 #[.pointer (some ⟨b, 0, none⟩)] w fun e w' => e = .returned (.tuple #[]) ∧
      Blk w' b 162 (hdCells c0 c1 c2 c3 (.int .u32 n) c5 (s ++ Sp.be 4 n) at_ false false) ∧ Turns (only b) (only b) w w' := by
  have HC := Lib.hid (num_w_uint32 hH (hH.cell 4) (by omega) (by omega) (size := 4) (n := n) (by omega) (by omega) hlen)
  clear hH
  go_enter Tryz.func113, Tryz.ntmps113
  go_wp2_with fail
  refine HC.out.mono ?_
  rintro e w1 ⟨rfl, h1, h2⟩
  go_wp2_with fail
  go_end0
  exact ⟨rfl, h1, h2⟩

set_option maxRecDepth 100000 in
set_option maxHeartbeats 4000000 in
theorem next_r {w : World} {b N : Nat} {c0 c1 c2 c3 c4 c5 : Value} {s : Sp.Bs} {at_ : Nat} (hH : Blk w b 162 (hdCells c0 c1 c2 c3 c4 c5 s at_ true false)) (hat : at_ + 4 ≤ s.length) (hN : Sp.num ((s.drop at_).take 4) = N) (hlen : s.length ≤ 1000000) :
    Calls Tryz.prog 113 #[.pointer (some ⟨b, 0, none⟩)] w fun e w' => e = .returned (.tuple #[]) ∧
      Blk w' b 162 (hdCells c0 c1 c2 c3 (.int .u32 N) c5 s (at_ + 4) true false) ∧ Turns (only b) (only b) w w' := by
  have hn : N < 4294967296 := by
    rw [← hN]
    exact Nat.lt_of_lt_of_le (Sp.num_lt _) (Nat.le_trans (Nat.pow_le_pow_right (by omega) (show _ ≤ 4 by simp; omega)) (by decide))
  have HC := Lib.hid (num_r_uint32 (o := 4) rfl hH (by omega) rfl (by omega) (by omega) hat hN hn hlen)
  clear hH hN hn
  go_enter Tryz.func113, Tryz.ntmps113
  go_wp2_with fail
  refine HC.out.mono ?_
  rintro e w1 ⟨rfl, h1, h2⟩
  go_wp2_with fail
  go_end0
  exact ⟨rfl, h1, h2⟩
end Go.Proofs.YtafopojibpifoaaGreat

/- The walks of package page on a head: the part that is nought, and all parts. -/
namespace Go.Proofs.YtafopojibpifoaaGreat
open Go.RowKit

set_option maxRecDepth 100000 in
set_option maxHeartbeats 4000000 in
theorem none_w {w : World} {b : Nat} {c0 c1 c2 c3 c4 c5 : Value} {s : Sp.Bs} {at_ : Nat} (hH : Blk w b 162 (hdCells c0 c1 c2 c3 c4 c5 s at_ false false)) (hlen : s.length ≤ 1000000) :
    Calls Tryz.prog 114 #[.pointer (some ⟨b, 0, none⟩)] w fun e w' => e = .returned (.tuple #[]) ∧
      Blk w' b 162 (hdCells c0 c1 c2 c3 c4 c5 (s ++ Sp.be 2 0) at_ false false) ∧ Turns (only b) (only b) w w' := by
  have hne : b ≠ w.heap.size := by have := hH.lt; omega
  have HH := Lib.hid hH
  clear hH
  go_enter Tryz.func114, Tryz.ntmps114
  go_wp2_with fail
  have hN := Blk.new w 33 #[.int .u32 0]
  refine (num_w_uint32 (HH.out.alloc _) (hN.cell 0) (by omega) (by omega) (size := 2) (n := 0) (by omega) (by omega) hlen).mono ?_
  rintro e w1 ⟨rfl, h1, h2⟩
  have hN1 := hN.turns h2 (fun e => hne e.symm)
  have d0 := hN1.cell 0
  have d9 := h1.cell 9
  have f9 := h1.frozen 9
  simp only [hdCells, List.getElem?_toArray, List.getElem?_cons_succ, List.getElem?_cons_zero] at d0 d9
  have HH1 := Lib.hid h1
  clear h1 hN hN1
  go_wp2_with fail
  go_end0
  refine ⟨rfl, ?_, (((Turns.refl (only b) w).alloc _).trans h2).setCell (p := ⟨b, 9, none⟩) (.inl rfl) _⟩
  exact HH1.out.set_ 9 (.bool false)

set_option maxRecDepth 100000 in
set_option maxHeartbeats 4000000 in
theorem none_r {w : World} {b : Nat} {c0 c1 c2 c3 c4 c5 : Value} {s : Sp.Bs} {at_ : Nat} (hH : Blk w b 162 (hdCells c0 c1 c2 c3 c4 c5 s at_ true false)) (hat : at_ + 2 ≤ s.length) (hN : Sp.num ((s.drop at_).take 2) = 0) (hlen : s.length ≤ 1000000) :
    Calls Tryz.prog 114 #[.pointer (some ⟨b, 0, none⟩)] w fun e w' => e = .returned (.tuple #[]) ∧
      Blk w' b 162 (hdCells c0 c1 c2 c3 c4 c5 s (at_ + 2) true false) ∧ Turns (only b) (only b) w w' := by
  have hlt := hH.lt
  have HH := Lib.hid hH
  clear hH
  go_enter Tryz.func114, Tryz.ntmps114
  go_wp2_with fail
  have hNn := Blk.new w 33 #[.int .u32 0]
  refine (num_rl (HH.out.alloc _) hNn (by omega) (by omega) (size := 2) hat hN (by omega) hlen).mono ?_
  rintro e w1 ⟨rfl, h1, h3, h2⟩
  have d0 := h3.cell 0
  have d9 := h1.cell 9
  have f9 := h1.frozen 9
  simp only [hdCells, List.getElem?_toArray, List.getElem?_cons_succ, List.getElem?_cons_zero] at d0 d9
  have HH1 := Lib.hid h1
  clear h1 hNn h3
  go_wp2_with fail
  go_end0
  refine ⟨rfl, HH1.out.set_ 9 (.bool false), ?_⟩
  refine Turns.setCell (F := only b) (w := w) (p := ⟨b, 9, none⟩) ?_ (.inl rfl) _
  refine ⟨h2.os, h2.tape, h2.output, Nat.le_trans (by simp) h2.size, fun k hk hn => (h2.block k (by simp; omega) (fun hx => ?_)).trans (Below.heap_alloc w _ k hk), fun k hk => .inl hk⟩
  rcases hx with hx | hx
  · exact hn hx
  · omega

/-- The parts of a head, as they are written. -/
def headParts (p : Sp.Pg) : List Sp.Bs := [Sp.be 1 p.kind, Sp.be 1 p.level, Sp.be 4 p.id, Sp.be 8 p.lsn, Sp.be 4 p.next, Sp.be 2 0]

theorem head_parts (p : Sp.Pg) : p.head = (headParts p).flatten := by simp [Sp.Pg.head, headParts]

abbrev pgCells (p : Sp.Pg) (rows : Value) (s : Sp.Bs) (at_ : Nat) (rd : Bool) : Array Value := hdCells (.int .u8 p.kind) (.int .u8 p.level) (.int .u32 p.id) (.int .u64 p.lsn) (.int .u32 p.next) rows s at_ rd false

def headFns (b : Nat) : Array Value := #[.func (.func 109) #[.pointer (some ⟨b, 0, none⟩)] #[], .func (.func 110) #[.pointer (some ⟨b, 0, none⟩)] #[], .func (.func 111) #[.pointer (some ⟨b, 0, none⟩)] #[],
  .func (.func 112) #[.pointer (some ⟨b, 0, none⟩)] #[], .func (.func 113) #[.pointer (some ⟨b, 0, none⟩)] #[], .func (.func 114) #[.pointer (some ⟨b, 0, none⟩)] #[]]

set_option maxRecDepth 100000 in
set_option maxHeartbeats 8000000 in
theorem all_w {w : World} {b : Nat} {p : Sp.Pg} {rows : Value} (hp : p.wf) (hH : Blk w b 162 (pgCells p rows [] 0 false)) :
    Calls Tryz.prog 75 #[.pointer (some ⟨b, 0, none⟩)] w fun e w' => e = .returned (.tuple #[]) ∧
      Blk w' b 162 (pgCells p rows p.head 0 false) ∧ Turns (only b) (only b) w w' := by
  obtain ⟨q1, q2, q3, q4, q5⟩ := hp
  have hlt := hH.lt
  have HH := Lib.hid hH
  have HP := Lib.hid (head_parts p)
  clear hH
  go_enter Tryz.func75, Tryz.ntmps75
  go_wp2_with fail
  go_loopw [3, 18] (fun _ i wr => ∃ k : Nat, k ≤ 6 ∧ i = .int .i64 k ∧ Blk wr b 162 (pgCells p rows ((headParts p).take k).flatten 0 false) ∧ Turns (only b) (only b) (w.alloc (.cells (headFns b) 1)) wr) (fun _ i _ => 6 - (intOf i).toNat)
  case atStart => exact ⟨0, by omega, rfl, HH.out.alloc _, Turns.refl _ _⟩
  case round =>
    obtain ⟨k, hk, rfl, hB, ht⟩ := hrel
    have hF := (Blk.new w 1 (headFns b)).turns ht (fun e => by have e : w.heap.size = b := e; omega)
    have hlk : ∀ k, k < 6 → ((headParts p).take k).flatten.length ≤ 1000000 := fun k hk => by
      have h1 : ((headParts p).take k).flatten.length ≤ (headParts p).flatten.length := by
        conv => rhs; rw [← List.take_append_drop k (headParts p), List.flatten_append, List.length_append]
        omega
      have h2 : (headParts p).flatten.length = 20 := by simp [headParts]
      omega
    have HK := Lib.hid hlk
    clear hlk
    rcases (by omega : k = 0 ∨ k = 1 ∨ k = 2 ∨ k = 3 ∨ k = 4 ∨ k = 5 ∨ k = 6) with rfl | rfl | rfl | rfl | rfl | rfl | rfl
    · have hc := hF.cell 0
      simp only [headFns, List.getElem?_toArray, List.getElem?_cons_zero] at hc
      have HB := Lib.hid hB
      clear hB hF
      go_wp2_with fail
      refine (kind_w HB.out q1 (HK.out 0 (by omega))).mono ?_
      rintro e w1 ⟨rfl, h1, h2⟩
      have HB1 := Lib.hid h1
      clear h1
      go_wp2_with fail
      go_roundw
      case rel => exact ⟨1, by omega, rfl, by simpa [headParts] using HB1.out, ht.trans h2⟩
      case measure => simp [intOf]
    · have hc := hF.cell 1
      simp only [headFns, List.getElem?_toArray, List.getElem?_cons_succ, List.getElem?_cons_zero] at hc
      have HB := Lib.hid hB
      clear hB hF
      go_wp2_with fail
      refine (level_w HB.out q2 (HK.out 1 (by omega))).mono ?_
      rintro e w1 ⟨rfl, h1, h2⟩
      have HB1 := Lib.hid h1
      clear h1
      go_wp2_with fail
      go_roundw
      case rel => exact ⟨2, by omega, rfl, by simpa [headParts] using HB1.out, ht.trans h2⟩
      case measure => simp [intOf]
    · have hc := hF.cell 2
      simp only [headFns, List.getElem?_toArray, List.getElem?_cons_succ, List.getElem?_cons_zero] at hc
      have HB := Lib.hid hB
      clear hB hF
      go_wp2_with fail
      refine (id_w HB.out q3 (HK.out 2 (by omega))).mono ?_
      rintro e w1 ⟨rfl, h1, h2⟩
      have HB1 := Lib.hid h1
      clear h1
      go_wp2_with fail
      go_roundw
      case rel => exact ⟨3, by omega, rfl, by simpa [headParts] using HB1.out, ht.trans h2⟩
      case measure => simp [intOf]
    · have hc := hF.cell 3
      simp only [headFns, List.getElem?_toArray, List.getElem?_cons_succ, List.getElem?_cons_zero] at hc
      have HB := Lib.hid hB
      clear hB hF
      go_wp2_with fail
      refine (lsn_w HB.out q4 (HK.out 3 (by omega))).mono ?_
      rintro e w1 ⟨rfl, h1, h2⟩
      have HB1 := Lib.hid h1
      clear h1
      go_wp2_with fail
      go_roundw
      case rel => exact ⟨4, by omega, rfl, by simpa [headParts] using HB1.out, ht.trans h2⟩
      case measure => simp [intOf]
    · have hc := hF.cell 4
      simp only [headFns, List.getElem?_toArray, List.getElem?_cons_succ, List.getElem?_cons_zero] at hc
      have HB := Lib.hid hB
      clear hB hF
      go_wp2_with fail
      refine (next_w HB.out q5 (HK.out 4 (by omega))).mono ?_
      rintro e w1 ⟨rfl, h1, h2⟩
      have HB1 := Lib.hid h1
      clear h1
      go_wp2_with fail
      go_roundw
      case rel => exact ⟨5, by omega, rfl, by simpa [headParts] using HB1.out, ht.trans h2⟩
      case measure => simp [intOf]
    · have hc := hF.cell 5
      simp only [headFns, List.getElem?_toArray, List.getElem?_cons_succ, List.getElem?_cons_zero] at hc
      have HB := Lib.hid hB
      clear hB hF
      go_wp2_with fail
      refine (none_w HB.out (HK.out 5 (by omega))).mono ?_
      rintro e w1 ⟨rfl, h1, h2⟩
      have HB1 := Lib.hid h1
      clear h1
      go_wp2_with fail
      go_roundw
      case rel => exact ⟨6, by omega, rfl, by simpa [headParts] using HB1.out, ht.trans h2⟩
      case measure => simp [intOf]
    · have HB := Lib.hid hB
      clear hB hF
      go_wp2_with fail
      go_end0
      refine ⟨rfl, ?_, ((Turns.refl (only b) w).alloc _).trans ht⟩
      rw [HP.out]
      exact HB.out

/-- What is read of a text that begins as a head. -/
theorem head_nums {p : Sp.Pg} (hp : p.wf) (t rest : Sp.Bs) (h : t = p.head ++ rest) :
    Sp.num ((t.drop 0).take 1) = p.kind ∧ Sp.num ((t.drop 1).take 1) = p.level ∧ Sp.num ((t.drop 2).take 4) = p.id ∧ Sp.num ((t.drop 6).take 8) = p.lsn ∧ Sp.num ((t.drop 14).take 4) = p.next ∧ Sp.num ((t.drop 18).take 2) = 0 := by
  obtain ⟨q1, q2, q3, q4, q5⟩ := hp
  subst h
  unfold Sp.Pg.head
  refine ⟨?_, ?_, ?_, ?_, ?_, ?_⟩
  · rw [show Sp.be 1 p.kind ++ Sp.be 1 p.level ++ Sp.be 4 p.id ++ Sp.be 8 p.lsn ++ Sp.be 4 p.next ++ Sp.be 2 0 ++ rest = [] ++ Sp.be 1 p.kind ++ (Sp.be 1 p.level ++ Sp.be 4 p.id ++ Sp.be 8 p.lsn ++ Sp.be 4 p.next ++ Sp.be 2 0 ++ rest) by simp only [List.append_assoc, List.nil_append],
      Sp.take2_mid (by simp) (by simp), Sp.num_be_lt (by omega)]
  · rw [show Sp.be 1 p.kind ++ Sp.be 1 p.level ++ Sp.be 4 p.id ++ Sp.be 8 p.lsn ++ Sp.be 4 p.next ++ Sp.be 2 0 ++ rest = Sp.be 1 p.kind ++ Sp.be 1 p.level ++ (Sp.be 4 p.id ++ Sp.be 8 p.lsn ++ Sp.be 4 p.next ++ Sp.be 2 0 ++ rest) by simp only [List.append_assoc],
      Sp.take2_mid (by simp) (by simp), Sp.num_be_lt (by omega)]
  · rw [show Sp.be 1 p.kind ++ Sp.be 1 p.level ++ Sp.be 4 p.id ++ Sp.be 8 p.lsn ++ Sp.be 4 p.next ++ Sp.be 2 0 ++ rest = (Sp.be 1 p.kind ++ Sp.be 1 p.level) ++ Sp.be 4 p.id ++ (Sp.be 8 p.lsn ++ Sp.be 4 p.next ++ Sp.be 2 0 ++ rest) by simp only [List.append_assoc],
      Sp.take2_mid (by simp) (by simp), Sp.num_be_lt (by omega)]
  · rw [show Sp.be 1 p.kind ++ Sp.be 1 p.level ++ Sp.be 4 p.id ++ Sp.be 8 p.lsn ++ Sp.be 4 p.next ++ Sp.be 2 0 ++ rest = (Sp.be 1 p.kind ++ Sp.be 1 p.level ++ Sp.be 4 p.id) ++ Sp.be 8 p.lsn ++ (Sp.be 4 p.next ++ Sp.be 2 0 ++ rest) by simp only [List.append_assoc],
      Sp.take2_mid (by simp) (by simp), Sp.num_be_lt (by omega)]
  · rw [show Sp.be 1 p.kind ++ Sp.be 1 p.level ++ Sp.be 4 p.id ++ Sp.be 8 p.lsn ++ Sp.be 4 p.next ++ Sp.be 2 0 ++ rest = (Sp.be 1 p.kind ++ Sp.be 1 p.level ++ Sp.be 4 p.id ++ Sp.be 8 p.lsn) ++ Sp.be 4 p.next ++ (Sp.be 2 0 ++ rest) by simp only [List.append_assoc],
      Sp.take2_mid (by simp) (by simp), Sp.num_be_lt (by omega)]
  · rw [show Sp.be 1 p.kind ++ Sp.be 1 p.level ++ Sp.be 4 p.id ++ Sp.be 8 p.lsn ++ Sp.be 4 p.next ++ Sp.be 2 0 ++ rest = (Sp.be 1 p.kind ++ Sp.be 1 p.level ++ Sp.be 4 p.id ++ Sp.be 8 p.lsn ++ Sp.be 4 p.next) ++ Sp.be 2 0 ++ rest by simp only [List.append_assoc],
      Sp.take2_mid (by simp) (by simp), Sp.num_be_lt (by omega)]

/-- A head of which k parts are read. -/
def rdCells (p : Sp.Pg) (rows : Value) (t : Sp.Bs) : Nat → Array Value
  | 0 => hdCells (.int .u8 0) (.int .u8 0) (.int .u32 0) (.int .u64 0) (.int .u32 0) rows t 0 true false
  | 1 => hdCells (.int .u8 p.kind) (.int .u8 0) (.int .u32 0) (.int .u64 0) (.int .u32 0) rows t 1 true false
  | 2 => hdCells (.int .u8 p.kind) (.int .u8 p.level) (.int .u32 0) (.int .u64 0) (.int .u32 0) rows t 2 true false
  | 3 => hdCells (.int .u8 p.kind) (.int .u8 p.level) (.int .u32 p.id) (.int .u64 0) (.int .u32 0) rows t 6 true false
  | 4 => hdCells (.int .u8 p.kind) (.int .u8 p.level) (.int .u32 p.id) (.int .u64 p.lsn) (.int .u32 0) rows t 14 true false
  | 5 => hdCells (.int .u8 p.kind) (.int .u8 p.level) (.int .u32 p.id) (.int .u64 p.lsn) (.int .u32 p.next) rows t 18 true false
  | _ => pgCells p rows t 20 true

set_option maxRecDepth 100000 in
set_option maxHeartbeats 8000000 in
theorem all_r {w : World} {b : Nat} {p : Sp.Pg} {rows : Value} {t rest : Sp.Bs} (hp : p.wf) (hh : t = p.head ++ rest) (hlen : t.length ≤ 1000000) (hH : Blk w b 162 (rdCells p rows t 0)) :
    Calls Tryz.prog 75 #[.pointer (some ⟨b, 0, none⟩)] w fun e w' => e = .returned (.tuple #[]) ∧
      Blk w' b 162 (pgCells p rows t 20 true) ∧ Turns (only b) (only b) w w' := by
  have hl20 : 20 ≤ t.length := by rw [hh, List.length_append, Sp.Pg.head_length]; omega
  obtain ⟨n1, n2, n3, n4, n5, n6⟩ := head_nums hp t rest hh
  have hlt := hH.lt
  have HH := Lib.hid hH
  have N1 := Lib.hid n1
  have N2 := Lib.hid n2
  have N3 := Lib.hid n3
  have N4 := Lib.hid n4
  have N5 := Lib.hid n5
  have N6 := Lib.hid n6
  clear hH hh n1 n2 n3 n4 n5 n6
  go_enter Tryz.func75, Tryz.ntmps75
  go_wp2_with fail
  go_loopw [3, 18] (fun _ i wr => ∃ k : Nat, k ≤ 6 ∧ i = .int .i64 k ∧ Blk wr b 162 (rdCells p rows t k) ∧ Turns (only b) (only b) (w.alloc (.cells (headFns b) 1)) wr) (fun _ i _ => 6 - (intOf i).toNat)
  case atStart => exact ⟨0, by omega, rfl, HH.out.alloc _, Turns.refl _ _⟩
  case round =>
    obtain ⟨k, hk, rfl, hB, ht⟩ := hrel
    have hF := (Blk.new w 1 (headFns b)).turns ht (fun e => by have e : w.heap.size = b := e; omega)
    rcases (by omega : k = 0 ∨ k = 1 ∨ k = 2 ∨ k = 3 ∨ k = 4 ∨ k = 5 ∨ k = 6) with rfl | rfl | rfl | rfl | rfl | rfl | rfl
    · have hc := hF.cell 0
      simp only [headFns, List.getElem?_toArray, List.getElem?_cons_zero] at hc
      have HB := Lib.hid hB
      clear hB hF
      go_wp2_with fail
      refine (kind_r HB.out (by omega) N1.out hlen).mono ?_
      rintro e w1 ⟨rfl, h1, h2⟩
      have HB1 := Lib.hid h1
      clear h1
      go_wp2_with fail
      go_roundw
      case rel => exact ⟨1, by omega, rfl, HB1.out, ht.trans h2⟩
      case measure => simp [intOf]
    · have hc := hF.cell 1
      simp only [headFns, List.getElem?_toArray, List.getElem?_cons_succ, List.getElem?_cons_zero] at hc
      have HB := Lib.hid hB
      clear hB hF
      go_wp2_with fail
      refine (level_r HB.out (by omega) N2.out hlen).mono ?_
      rintro e w1 ⟨rfl, h1, h2⟩
      have HB1 := Lib.hid h1
      clear h1
      go_wp2_with fail
      go_roundw
      case rel => exact ⟨2, by omega, rfl, HB1.out, ht.trans h2⟩
      case measure => simp [intOf]
    · have hc := hF.cell 2
      simp only [headFns, List.getElem?_toArray, List.getElem?_cons_succ, List.getElem?_cons_zero] at hc
      have HB := Lib.hid hB
      clear hB hF
      go_wp2_with fail
      refine (id_r HB.out (by omega) N3.out hlen).mono ?_
      rintro e w1 ⟨rfl, h1, h2⟩
      have HB1 := Lib.hid h1
      clear h1
      go_wp2_with fail
      go_roundw
      case rel => exact ⟨3, by omega, rfl, HB1.out, ht.trans h2⟩
      case measure => simp [intOf]
    · have hc := hF.cell 3
      simp only [headFns, List.getElem?_toArray, List.getElem?_cons_succ, List.getElem?_cons_zero] at hc
      have HB := Lib.hid hB
      clear hB hF
      go_wp2_with fail
      refine (lsn_r HB.out (by omega) N4.out hlen).mono ?_
      rintro e w1 ⟨rfl, h1, h2⟩
      have HB1 := Lib.hid h1
      clear h1
      go_wp2_with fail
      go_roundw
      case rel => exact ⟨4, by omega, rfl, HB1.out, ht.trans h2⟩
      case measure => simp [intOf]
    · have hc := hF.cell 4
      simp only [headFns, List.getElem?_toArray, List.getElem?_cons_succ, List.getElem?_cons_zero] at hc
      have HB := Lib.hid hB
      clear hB hF
      go_wp2_with fail
      refine (next_r HB.out (by omega) N5.out hlen).mono ?_
      rintro e w1 ⟨rfl, h1, h2⟩
      have HB1 := Lib.hid h1
      clear h1
      go_wp2_with fail
      go_roundw
      case rel => exact ⟨5, by omega, rfl, HB1.out, ht.trans h2⟩
      case measure => simp [intOf]
    · have hc := hF.cell 5
      simp only [headFns, List.getElem?_toArray, List.getElem?_cons_succ, List.getElem?_cons_zero] at hc
      have HB := Lib.hid hB
      clear hB hF
      go_wp2_with fail
      refine (none_r HB.out (by omega) N6.out hlen).mono ?_
      rintro e w1 ⟨rfl, h1, h2⟩
      have HB1 := Lib.hid h1
      clear h1
      go_wp2_with fail
      go_roundw
      case rel => exact ⟨6, by omega, rfl, HB1.out, ht.trans h2⟩
      case measure => simp [intOf]
    · have HB := Lib.hid hB
      clear hB hF
      go_wp2_with fail
      go_end0
      exact ⟨rfl, HB.out, ((Turns.refl (only b) w).alloc _).trans ht⟩
end Go.Proofs.YtafopojibpifoaaGreat

/- The walks of package page: May. -/
namespace Go.Proofs.YtafopojibpifoaaGreat
open Go.RowKit

/-- Rows as cells. -/
def rcs (rows : List Sp.Bs) : List Value := rows.map fun r => str r
@[simp] theorem rcs_length (rows : List Sp.Bs) : (rcs rows).length = rows.length := by simp [rcs]
/-- The slice reads as these rows. -/
abbrev RowsAt (G : Foot) (w : World) (A : Option Addr) (rows : List Sp.Bs) : Prop := Reads G w 1 A rows.length (rcs rows)
theorem RowsAt.row {G : Foot} {w : World} {A : Option Addr} {rows : List Sp.Bs} (h : RowsAt G w A rows) {k : Nat} (hk : k < rows.length) : ∃ b o, A = some ⟨b, o, none⟩ ∧ G b ∧ b < w.heap.size ∧ w.cell? ⟨b, o + k, none⟩ = some (str rows[k]) := by
  obtain ⟨b, o, u, hA, hG, hlt, hu, hc⟩ := h.at_ hk
  simp [rcs, hk] at hu
  subst hu
  exact ⟨b, o, hA, hG, hlt, hc⟩

/-- A page as a value. -/
abbrev pgV (p : Sp.Pg) (A : Option Addr) (c : Nat) : Value := .agg #[.int .u8 p.kind, .int .u8 p.level, .int .u32 p.id, .int .u64 p.lsn, .int .u32 p.next, .slice A p.rows.length c]

def mayB (p : Sp.Pg) : Bool := decide (p.kind ≤ 5) && decide (1 ≤ p.id) && decide (p.id ≤ 1024) && decide (p.next ≤ 1024) && decide (4 * p.rows.length + Sp.total p.rows ≤ 484)

theorem mayB_iff (p : Sp.Pg) : mayB p = true ↔ p.may := by simp [mayB, Sp.Pg.may, and_assoc]

set_option maxRecDepth 100000 in
set_option maxHeartbeats 4000000 in
theorem page_may {w : World} {G : Foot} {p : Sp.Pg} {A : Option Addr} {c : Nat} (hR : RowsAt G w A p.rows) (hn : p.rows.length ≤ 1000000000) (ht : Sp.total p.rows ≤ 1000000000) :
    Calls Tryz.prog 45 #[pgV p A c] w fun e w' => e = .returned (.bool (mayB p)) ∧ Below w.heap.size w w' := by
  have key : (decide ((p.kind : Int) ≤ 5) = false ∧ mayB p = false) ∨ (decide ((p.kind : Int) ≤ 5) = true ∧ decide (1 ≤ (p.id : Int)) = false ∧ mayB p = false) ∨
      (decide ((p.kind : Int) ≤ 5) = true ∧ decide (1 ≤ (p.id : Int)) = true ∧ decide ((p.id : Int) ≤ 1024) = false ∧ mayB p = false) ∨
      (decide ((p.kind : Int) ≤ 5) = true ∧ decide (1 ≤ (p.id : Int)) = true ∧ decide ((p.id : Int) ≤ 1024) = true ∧ decide ((p.next : Int) ≤ 1024) = false ∧ mayB p = false) ∨
      (decide ((p.kind : Int) ≤ 5) = true ∧ decide (1 ≤ (p.id : Int)) = true ∧ decide ((p.id : Int) ≤ 1024) = true ∧ decide ((p.next : Int) ≤ 1024) = true ∧ decide ((Sp.total p.rows : Int) ≤ (484 : Int) - 4 * p.rows.length) = false ∧ mayB p = false) ∨
      (decide ((p.kind : Int) ≤ 5) = true ∧ decide (1 ≤ (p.id : Int)) = true ∧ decide ((p.id : Int) ≤ 1024) = true ∧ decide ((p.next : Int) ≤ 1024) = true ∧ decide ((Sp.total p.rows : Int) ≤ (484 : Int) - 4 * p.rows.length) = true ∧ mayB p = true) := by
    by_cases a1 : p.kind ≤ 5
    · by_cases a2 : 1 ≤ p.id
      · by_cases a3 : p.id ≤ 1024
        · by_cases a4 : p.next ≤ 1024
          · by_cases a5 : 4 * p.rows.length + Sp.total p.rows ≤ 484
            · refine .inr (.inr (.inr (.inr (.inr ⟨?_, ?_, ?_, ?_, ?_, by simp [mayB, a1, a2, a3, a4, a5]⟩)))) <;> rw [decide_eq_true_eq] <;> omega
            · refine .inr (.inr (.inr (.inr (.inl ⟨?_, ?_, ?_, ?_, ?_, by simp [mayB, a5]⟩)))) <;> first | (rw [decide_eq_true_eq]; omega) | (rw [decide_eq_false_iff_not]; omega)
          · refine .inr (.inr (.inr (.inl ⟨?_, ?_, ?_, ?_, by simp [mayB, a4]⟩))) <;> first | (rw [decide_eq_true_eq]; omega) | (rw [decide_eq_false_iff_not]; omega)
        · refine .inr (.inr (.inl ⟨?_, ?_, ?_, by simp [mayB, a3]⟩)) <;> first | (rw [decide_eq_true_eq]; omega) | (rw [decide_eq_false_iff_not]; omega)
      · refine .inr (.inl ⟨?_, ?_, by simp [mayB, a2]⟩) <;> first | (rw [decide_eq_true_eq]; omega) | (rw [decide_eq_false_iff_not]; omega)
    · refine .inl ⟨?_, by simp [mayB, a1]⟩; rw [decide_eq_false_iff_not]; omega
  obtain ⟨kind, level, id, lsn, next, rows⟩ := p
  dsimp only at *
  have HR := Lib.hid hR
  have HM : Hid (∃ mb, mayB ⟨kind, level, id, lsn, next, rows⟩ = mb) := ⟨_, rfl⟩
  generalize mayB ⟨kind, level, id, lsn, next, rows⟩ = mb at *
  clear hR HM
  rcases key with ⟨d1, hmb⟩ | ⟨d1, d2, hmb⟩ | ⟨d1, d2, d3, hmb⟩ | ⟨d1, d2, d3, d4, hmb⟩ | ⟨d1, d2, d3, d4, d5, hmb⟩ | ⟨d1, d2, d3, d4, d5, hmb⟩
  all_goals
    subst hmb
    go_enter Tryz.func45, Tryz.ntmps45
    go_wp2_with fail
    go_loop [3, 5, 9] (fun v _ i => ∃ k : Nat, k ≤ rows.length ∧ i = .int .i64 k ∧ v = .int .i64 ((484 : Int) - 4 * k - Sp.total (rows.take k))) (fun _ _ i => rows.length - (intOf i).toNat)
    case atStart => exact ⟨0, by omega, rfl, by simp⟩
    case round =>
      obtain ⟨k, hk, rfl, rfl⟩ := hrel
      by_cases hlt : k < rows.length
      · obtain ⟨b, o, rfl, _, hb, hc⟩ := HR.out.row hlt
        have htk := Lib.hid (Sp.total_take_succ rows k hlt)
        have hle := Sp.total_take_le rows k
        have hle2 := Sp.total_take_le rows (k + 1)
        rw [htk.out] at hle2
        have hc2 := (World.cell?_alloc_lt w (.cells #[.int .u8 kind, .int .u8 level, .int .u32 id, .int .u64 lsn, .int .u32 next, .slice (some ⟨b, o, none⟩) rows.length c] 51) ⟨b, o + k, none⟩ hb).trans hc
        generalize Sp.total (rows.take k) = T at *
        generalize rows[k] = r at *
        clear hc
        go_wp2_with fail
        go_round
        case rel => exact ⟨k + 1, by omega, by go_num, by rw [htk.out]; go_num⟩
        case measure => simp [intOf]; omega
      · obtain rfl : k = rows.length := by omega
        rw [List.take_length]
        go_wp2_with fail
        go_ret
        exact ⟨rfl, (Below.refl _ w).alloc (Nat.le_refl _) _⟩
end Go.Proofs.YtafopojibpifoaaGreat

/- Rows that are owned, from one world to the next; a page's zero. No law's function is named here. -/
namespace Go.Proofs.YtafopojibpifoaaGreat
open Go.RowKit

def pgZero : Value := .agg #[.int .u8 0, .int .u8 0, .int .u32 0, .int .u64 0, .int .u32 0, .slice none 0 0]
theorem page_info : (Tryz.prog.info? 51).map (fun i => (i.zero, i.size, i.bytes)) = some (some pgZero, 6, 48) := by kernel_rfl
theorem blk_news {w : World} {g : Nat} {t : TypeId} {cs : List Value} (h : Blk w g t cs.toArray) : ∀ j u, cs[j]? = some u → w.cell? ((⟨g, 0, none⟩ : Addr).add j) = some u := fun j u hu => by
  have e : (⟨g, 0, none⟩ : Addr).add j = ⟨g, j, none⟩ := by cases j <;> simp [Addr.add]
  rw [e, h.cell, List.getElem?_toArray]; exact hu

theorem row_keep' {w w' : World} {base : Nat} {e : TypeId} {sz : Nat} {v : Value} {n : Nat} {xs : List Value} (h : w.ownsRow base e sz v n xs) (hk : ∀ b, v.ownBlock = some b → w'.heap[b]? = w.heap[b]?) : w'.ownsRow base e sz v n xs := by
  refine ⟨h.1, ?_⟩
  rcases h.2 with h' | ⟨b, cap, cur, rfl, hb, hh, rest⟩
  · exact .inl h'
  · exact .inr ⟨b, cap, cur, rfl, hb, (hk b rfl).trans hh, rest⟩

theorem row_mono {w : World} {base base' : Nat} {e : TypeId} {sz : Nat} {v : Value} {n : Nat} {xs : List Value} (h : w.ownsRow base e sz v n xs) (hb : base' ≤ base) : w.ownsRow base' e sz v n xs := by
  refine ⟨h.1, ?_⟩
  rcases h.2 with h' | ⟨b, cap, cur, rfl, hbb, rest⟩
  · exact .inl h'
  · exact .inr ⟨b, cap, cur, rfl, Nat.le_trans hb hbb, rest⟩

theorem row_base {w : World} {base : Nat} {e : TypeId} {sz : Nat} {v : Value} {n : Nat} {xs : List Value} (h : w.ownsRow base e sz v n xs) {b : Nat} (hb : v.ownBlock = some b) : base ≤ b := by
  rcases h.2 with ⟨rfl, _⟩ | ⟨g, cap, cur, rfl, hbb, rest⟩
  · simp [Value.ownBlock] at hb
  · simp only [Value.ownBlock, Option.some.injEq] at hb
    omega

end Go.Proofs.YtafopojibpifoaaGreat

/- Plain words on the sum of a text, and a text sealed by it. No program is named here. -/
namespace Go.Proofs.YtafopojibpifoaaGreat.Sp

def poly : Nat := 0x82F63B78
def crcStep (c : Nat) : Nat := (c / 2) ^^^ (poly * (c % 2))
def crcSteps : Nat → Nat → Nat
  | 0, c => c
  | k + 1, c => crcStep (crcSteps k c)
def crcTab (i : Nat) : Nat := crcSteps 8 i
def crcByte (c x : Nat) : Nat := crcTab ((c % 256) ^^^ x) ^^^ (c / 256)
def crcRun (c : Nat) (s : Bs) : Nat := s.foldl (fun c x => crcByte c x.toNat) c
def crc (s : Bs) : Nat := 4294967295 - crcRun 4294967295 s

theorem crcStep_lt {c : Nat} (h : c < 4294967296) : crcStep c < 4294967296 := by
  have h1 : c / 2 < 2 ^ 32 := by omega
  have h2 : poly * (c % 2) < 2 ^ 32 := by
    unfold poly
    have : c % 2 < 2 := Nat.mod_lt _ (by omega)
    omega
  exact Nat.xor_lt_two_pow h1 h2

theorem crcSteps_lt {c : Nat} (h : c < 4294967296) : ∀ k, crcSteps k c < 4294967296
  | 0 => h
  | k + 1 => crcStep_lt (crcSteps_lt h k)

theorem crcTab_lt {i : Nat} (h : i < 256) : crcTab i < 4294967296 := crcSteps_lt (by omega) 8

theorem xor_byte {c x : Nat} (hx : x < 256) : (c % 256) ^^^ x < 256 := Nat.xor_lt_two_pow (n := 8) (by omega) hx

theorem crcByte_lt {c x : Nat} (hc : c < 4294967296) (hx : x < 256) : crcByte c x < 4294967296 :=
  Nat.xor_lt_two_pow (n := 32) (crcTab_lt (xor_byte hx)) (by omega)

theorem crcRun_snoc (c : Nat) (s : Bs) (x : UInt8) : crcRun c (s ++ [x]) = crcByte (crcRun c s) x.toNat := by simp [crcRun]

theorem crcRun_lt {c : Nat} (hc : c < 4294967296) (s : Bs) : crcRun c s < 4294967296 := by
  induction s generalizing c with
  | nil => exact hc
  | cons x s ih => exact ih (crcByte_lt hc x.toNat_lt)

theorem crc_lt (s : Bs) : crc s < 4294967296 := by unfold crc; omega

/-- the sum's bytes, the lowest first. -/
def sumBytes (s : Bs) : Bs := [UInt8.ofNat (crc s), UInt8.ofNat (crc s / 256), UInt8.ofNat (crc s / 65536), UInt8.ofNat (crc s / 16777216)]
@[simp] theorem sumBytes_length (s : Bs) : (sumBytes s).length = 4 := rfl
def sealed (s : Bs) : Bs := s ++ sumBytes s
@[simp] theorem sealed_length (s : Bs) : (sealed s).length = s.length + 4 := by simp [sealed]
theorem sealed_take (s : Bs) : (sealed s).take ((sealed s).length - 4) = s := by simp [sealed]

/-- 508 bytes that are 0, behind them four more: no text is sealed so. -/
theorem zeros_unsealed : sealed (zeros 508) ≠ zeros 512 := by
  intro h
  have h1 : (sealed (zeros 508)).drop 508 = (zeros 512).drop 508 := by rw [h]
  have h2 : (sealed (zeros 508)).drop 508 = sumBytes (zeros 508) := List.drop_left' (List.length_replicate ..)
  rw [h2] at h1
  revert h1
  decide +kernel

end Go.Proofs.YtafopojibpifoaaGreat.Sp

/- The walks of package sum. -/
namespace Go.Proofs.YtafopojibpifoaaGreat
open Go.RowKit

/-- The table behind k rounds. -/
def tabCells (k : Nat) : Array Value := ((List.range 256).map fun j => Value.int .u32 (if j < k then ((Sp.crcTab j : Nat) : Int) else 0)).toArray
theorem tabCells_size (k : Nat) : (tabCells k).size = 256 := by simp [tabCells]
theorem tabCells_get (k j : Nat) (h : j < 256) : (tabCells k)[j]? = some (Value.int .u32 (if j < k then ((Sp.crcTab j : Nat) : Int) else 0)) := by
  simp only [tabCells, List.getElem?_toArray, List.getElem?_map, List.getElem?_range h, Option.map_some]
theorem tabCells_next (k : Nat) (_hk : k < 256) : (tabCells k).setIfInBounds k (.int .u32 ((Sp.crcTab k : Nat) : Int)) = tabCells (k + 1) := by
  apply Array.ext_getElem?
  intro j
  rw [Array.getElem?_setIfInBounds]
  rcases Nat.lt_or_ge j 256 with hj | hj
  · rw [tabCells_get _ _ hj, tabCells_get _ _ hj, tabCells_size]
    by_cases e : k = j
    · subst e; simp [hj]
    · rw [if_neg e]
      congr 2
      by_cases h : j < k
      · rw [if_pos h, if_pos (by omega)]
      · rw [if_neg h, if_neg (by omega)]
  · rw [Array.getElem?_eq_none (by rw [tabCells_size]; exact hj), Array.getElem?_eq_none (by rw [tabCells_size]; exact hj), tabCells_size]
    split <;> simp; omega
theorem tabCells_zero : tabCells 0 = Array.replicate 256 (.int .u32 0) := by
  apply Array.ext_getElem?
  intro j
  rcases Nat.lt_or_ge j 256 with hj | hj
  · rw [tabCells_get _ _ hj]; simp [hj]
  · rw [Array.getElem?_eq_none (by rw [tabCells_size]; exact hj)]; simp; omega

theorem tab_info : (Tryz.prog.info? 245).map (fun i => (i.zero, i.size)) = some (some (.agg (tabCells 0)), 256) := by
  rw [tabCells_zero]; kernel_rfl

theorem crcStep_cast (c : Nat) (h : c < 4294967296) : bits .xor .u32 ((c : Int) / 2) (2197175160 * bits .and .u32 (c : Int) 1 % 4294967296) = ((Sp.crcStep c : Nat) : Int) := by
  have e1 : bits .and .u32 (c : Int) 1 = ((c % 2 : Nat) : Int) := by
    rw [show (1 : Int) = ((1 : Nat) : Int) from rfl, u32_and_nat _ _ h (by omega), nat_mask1]
  have hm : c % 2 < 2 := Nat.mod_lt _ (by omega)
  have e2 : (2197175160 * ((c % 2 : Nat) : Int)) % 4294967296 = ((Sp.poly * (c % 2) : Nat) : Int) := by
    unfold Sp.poly; omega
  rw [e1, e2, show (c : Int) / 2 = ((c / 2 : Nat) : Int) by omega, u32_xor_nat _ _ (by omega) (by unfold Sp.poly; omega)]
  rfl

theorem xor_ones (c : Nat) (h : c < 4294967296) : bits .xor .u32 IntKind.u32.max (c : Int) = ((4294967295 - c : Nat) : Int) := by
  rw [show IntKind.u32.max = ((4294967295 : Nat) : Int) from rfl, u32_xor_nat _ _ (by omega) h]
  congr 1
  apply Nat.eq_of_testBit_eq
  intro i
  rw [Nat.testBit_xor, show 4294967295 - c = 2 ^ 32 - (c + 1) by omega, Nat.testBit_two_pow_sub_succ (by omega), show (4294967295 : Nat) = 2 ^ 32 - 1 from rfl, Nat.testBit_two_pow_sub_one]
  by_cases hi : i < 32
  · simp [hi]
  · have : c.testBit i = false := Nat.testBit_lt_two_pow (Nat.lt_of_lt_of_le h (show 2 ^ 32 ≤ 2 ^ i from Nat.pow_le_pow_right (by omega) (by omega)))
    simp [hi, this]

set_option maxRecDepth 100000 in
set_option maxHeartbeats 2000000 in
theorem sum_table (w : World) :
    Calls Tryz.prog 156 #[] w fun e w' => e = .returned (.agg (tabCells 256)) ∧ Below w.heap.size w w' := by
  obtain ⟨hz, hsz⟩ := zero_of_info tab_info
  go_enter Tryz.func156, Tryz.ntmps156
  go_wp2_with fail
  go_loopw [1, 2, 3] (fun _ _ i wr => ∃ k : Nat, k ≤ 256 ∧ i = .int .i64 k ∧ Blk wr w.heap.size 245 (tabCells k) ∧ Below w.heap.size w wr) (fun _ _ i _ => 256 - (intOf i).toNat)
  case atStart => exact ⟨0, by omega, rfl, Blk.new w _ _, (Below.refl _ _).alloc (Nat.le_refl _) _⟩
  case round =>
    obtain ⟨k, hk, rfl, hblk, hb⟩ := hrel
    by_cases hlt : k < 256
    · have hcell := (hblk.cell k).trans (tabCells_get k k hlt)
      have hfz := hblk.frozen k
      go_wp2_with fail
      go_loop [2, 8] (fun c i => ∃ j : Nat, j ≤ 8 ∧ i = .int .i64 j ∧ c = .int .u32 (Sp.crcSteps j k)) (fun _ i => 8 - (intOf i).toNat)
      case atStart => exact ⟨0, by omega, rfl, rfl⟩
      case round =>
        obtain ⟨j, hj, rfl, rfl⟩ := hrel
        have hc := Sp.crcSteps_lt (c := k) (by omega) j
        by_cases hlt2 : j < 8
        · have hst := Lib.hid (crcStep_cast _ hc)
          have hnx : Hid (Sp.crcSteps (j + 1) k = Sp.crcStep (Sp.crcSteps j k)) := rfl
          generalize Sp.crcSteps j k = c at *
          clear hcell hfz
          go_wp2_with fail
          go_round
          case rel => exact ⟨j + 1, by omega, by go_num, by rw [hnx.out, hst.out]⟩
          case measure => simp [intOf]; omega
        · obtain rfl : j = 8 := by omega
          have ht : Hid (Sp.crcSteps 8 k = Sp.crcTab k) := rfl
          generalize Sp.crcSteps 8 k = c at *
          go_wp2_with fail
          go_roundw
          case rel =>
            refine ⟨k + 1, by omega, by go_num, ?_, hb.setCell (Nat.le_refl _) _⟩
            rw [ht.out]
            rw [← tabCells_next k hlt]
            exact hblk.set_ _ _
          case measure => simp [intOf]; omega
    · obtain rfl : k = 256 := by omega
      have hsz2 : (Tryz.prog.info? 245).map (·.size) = some (tabCells 256).size := by rw [hsz, tabCells_size]
      have h1 : (tabCells 256).all (·.oneCell') = true := by
        rw [Array.all_eq_true_iff_forall_mem]
        intro v hv
        simp only [tabCells, List.mem_toArray, List.mem_map] at hv
        obtain ⟨_, _, rfl⟩ := hv
        rfl
      have HH := Lib.hid (And.intro hsz2 h1)
      clear hsz2 h1 hsz hz
      go_wp2_with (first
        | (refine wpList_load_row rfl 245 _ rfl w.heap.size rfl 245 (tabCells 256) (0, 0) _ hblk Tryz.underlying245 rfl HH.out.1 ?_)
        | (refine wpList_store_row rfl 245 _ _ rfl w.heap.size (tabCells 256) rfl rfl 245 (tabCells 256) hblk HH.out.1 rfl HH.out.2 ?_))
      refine bodyPost_ret (v := .agg (tabCells 256)) (results_cell_row rfl _ _ w.heap.size 245 _ (0, 0) _ rfl (hblk.setRow _) Tryz.underlying245 rfl HH.out.1) rfl ⟨rfl, below_setRow hb (Nat.le_refl _) _⟩

set_option maxRecDepth 100000 in
set_option maxHeartbeats 2000000 in
theorem sum_more (l : Sp.Bs) (w : World) (hl : l.length ≤ 1000000000) :
    Calls Tryz.prog 149 #[.int .u32 0, str l] w fun e w' => e = .returned (.int .u32 (Sp.crc l)) ∧ Below w.heap.size w w' := by
  obtain ⟨hz, hsz⟩ := zero_of_info tab_info
  have hsz2 : (Tryz.prog.info? 245).map (·.size) = some (tabCells 256).size := by rw [hsz, tabCells_size]
  have h1 : (tabCells 256).all (·.oneCell') = true := by
    rw [Array.all_eq_true_iff_forall_mem]
    intro v hv
    simp only [tabCells, List.mem_toArray, List.mem_map] at hv
    obtain ⟨_, _, rfl⟩ := hv
    rfl
  have HH := Lib.hid (And.intro hsz2 h1)
  clear hsz2 h1 hsz
  have hsize : ∀ k, (tabCells k).size = 256 := tabCells_size
  have HS := Lib.hid hsize
  clear hsize
  have hcv := conv_any (P := Tryz.prog) 9 102 5 l Tryz.underlying9 Tryz.underlying102 Tryz.underlying5
  go_enter Tryz.func149, Tryz.ntmps149
  go_wp2_with fail
  refine (sum_table w).mono ?_
  rintro e w1 ⟨rfl, hb1⟩
  go_wp2_with (refine wpList_store_row rfl 245 _ _ rfl w1.heap.size (tabCells 256) rfl rfl 245 (tabCells 0) (Blk.new w1 _ _) HH.out.1 (by rw [HS.out, HS.out]) HH.out.2 ?_)
  have hT : Blk ((w1.alloc (Obj.cells (tabCells 0) 245)).setRow w1.heap.size (tabCells 256)) w1.heap.size 245 (tabCells 256) := (Blk.new w1 _ _).setRow _
  have hb2 : Below w.heap.size w ((w1.alloc (Obj.cells (tabCells 0) 245)).setRow w1.heap.size (tabCells 256)) := below_setRow (hb1.alloc hb1.size _) hb1.size _
  have e1 : ((w1.alloc (Obj.cells (tabCells 0) 245)).setRow w1.heap.size (tabCells 256)).heap.size = w1.heap.size + 1 := by simp
  obtain ⟨hb3, hsz3, hnew, _⟩ := bytesW_facts ((w1.alloc (Obj.cells (tabCells 0) 245)).setRow w1.heap.size (tabCells 256)) 5 l
  rw [e1] at hsz3 hnew
  have hT3 := hT.below hb3 (by rw [e1]; omega)
  have hb4 : Below w.heap.size w (bytesW ((w1.alloc (Obj.cells (tabCells 0) 245)).setRow w1.heap.size (tabCells 256)) 5 l) := hb2.trans (hb3.mono hb2.size)
  clear hb3 hb2 hT hz hcv e1
  generalize bytesW ((w1.alloc (Obj.cells (tabCells 0) 245)).setRow w1.heap.size (tabCells 256)) 5 l = w3 at *
  generalize w1.heap.size = B at *
  clear hb1 hsz3
  go_loop [0, 7, 14] (fun c _ i => ∃ k : Nat, k ≤ l.length ∧ i = .int .i64 k ∧ c = .int .u32 (Sp.crcRun 4294967295 (l.take k))) (fun _ _ i => l.length - (intOf i).toNat)
  case atStart => exact ⟨0, by omega, rfl, rfl⟩
  case round =>
    obtain ⟨k, hk, rfl, rfl⟩ := hrel
    have hlt32 := Sp.crcRun_lt (c := 4294967295) (by omega) (l.take k)
    by_cases hlt : k < l.length
    · have hcell := hnew k hlt
      have hnx : Sp.crcRun 4294967295 (l.take (k + 1)) = Sp.crcByte (Sp.crcRun 4294967295 (l.take k)) l[k].toNat := by
        rw [List.take_succ_eq_append_getElem hlt, Sp.crcRun_snoc]
      have HX := Lib.hid hnx
      clear hnx hnew
      generalize Sp.crcRun 4294967295 (l.take k) = c at *
      have hx := l[k].toNat_lt
      obtain ⟨i, hi, he⟩ : ∃ i, i < 256 ∧ (c % 256) ^^^ l[k].toNat = i := ⟨_, Sp.xor_byte hx, rfl⟩
      have hxor : bits .xor .u8 ((c : Int) % 256) (l[k].toNat : Int) = (i : Int) := by
        rw [show (c : Int) % 256 = ((c % 256 : Nat) : Int) by omega, u8_xor_nat _ _ (by omega) hx, he]
      have hst : bits .xor .u32 ((Sp.crcTab i : Nat) : Int) ((c : Int) / 256) = ((Sp.crcByte c l[k].toNat : Nat) : Int) := by
        rw [show (c : Int) / 256 = ((c / 256 : Nat) : Int) by omega, u32_xor_nat _ _ (Sp.crcTab_lt hi) (by omega), Sp.crcByte, he]
      have HE := Lib.hid he
      have HT := Lib.hid hst
      clear he hst
      have hct := (hT3.cell i).trans (tabCells_get 256 i hi)
      rw [if_pos hi] at hct
      generalize Sp.crcTab i = tv at *
      go_wp2_with fail
      go_round
      case rel => exact ⟨k + 1, by omega, by go_num, by rw [HX.out, HT.out]⟩
      case measure => simp [intOf]; omega
    · obtain rfl : k = l.length := by omega
      have hN := Lib.hid (xor_ones _ hlt32)
      have he : Hid (Sp.crcRun 4294967295 (l.take l.length) = 4294967295 - Sp.crc l) := by
        have := Sp.crcRun_lt (c := 4294967295) (by omega) l
        show _ = _
        rw [List.take_length, Sp.crc]; omega
      have hlt3 := Sp.crc_lt l
      generalize Sp.crcRun 4294967295 (l.take l.length) = c at *
      clear hnew
      go_wp2_with fail
      go_ret
      refine ⟨?_, hb4⟩
      show Ending.returned (.int .u32 (bits .xor .u32 IntKind.u32.max (c : Int))) = _
      rw [hN.out, he.out]
      congr 3
      omega

set_option maxRecDepth 100000 in
set_option maxHeartbeats 2000000 in
theorem sum_of (l : Sp.Bs) (w : World) (hl : l.length ≤ 1000000000) :
    Calls Tryz.prog 123 #[str l] w fun e w' => e = .returned (.int .u32 (Sp.crc l)) ∧ Below w.heap.size w w' := by
  go_enter Tryz.func123, Tryz.ntmps123
  go_wp2_with fail
  refine (sum_more l w hl).mono ?_
  rintro e w1 ⟨rfl, hb1⟩
  go_wp2_with fail
  go_ret
  exact ⟨rfl, hb1⟩

set_option maxRecDepth 100000 in
set_option maxHeartbeats 2000000 in
theorem sum_seal (l : Sp.Bs) (w : World) (hl : l.length ≤ 1000000000) :
    Calls Tryz.prog 78 #[str l] w fun e w' => e = .returned (str (Sp.sealed l)) ∧ Below w.heap.size w w' := by
  go_enter Tryz.func78, Tryz.ntmps78
  go_wp2_with fail
  refine (sum_of l w hl).mono ?_
  rintro e w1 ⟨rfl, hb1⟩
  have hc := Sp.crc_lt l
  have hs : Hid (Sp.sealed l = l ++ [UInt8.ofNat (Sp.crc l), UInt8.ofNat (Sp.crc l / 256), UInt8.ofNat (Sp.crc l / 65536), UInt8.ofNat (Sp.crc l / 16777216)]) := rfl
  generalize Sp.crc l = c at *
  have hcb : (convert 102 9 (.slice (some ⟨w1.heap.size, 0, none⟩) 4 4)).run Tryz.prog (w1.alloc (.cells #[.int .u8 ((c : Int) % 256), .int .u8 ((c : Int) / 256 % 256), .int .u8 ((c : Int) / 65536 % 256), .int .u8 ((c : Int) / 16777216)] 5)) =
      .ok (str [UInt8.ofNat c, UInt8.ofNat (c / 256), UInt8.ofNat (c / 65536), UInt8.ofNat (c / 16777216)]) (w1.alloc (.cells #[.int .u8 ((c : Int) % 256), .int .u8 ((c : Int) / 256 % 256), .int .u8 ((c : Int) / 65536 % 256), .int .u8 ((c : Int) / 16777216)] 5)) := by
    refine run_bytes_back _ 102 9 5 w1.heap.size 0 4 4 _ Tryz.underlying102 Tryz.underlying5 Tryz.underlying9 rfl (fun j hj => ?_)
    rw [(Blk.new w1 _ _).cell]
    match j, hj with
    | 0, _ => simp
    | 1, _ => simp
    | 2, _ => simp
    | 3, _ => simp; omega
  go_wp2_with fail
  go_ret
  refine ⟨?_, hb1.alloc hb1.size _⟩
  show Ending.returned (.string (_ ++ _)) = _
  rw [str_append, hs.out]

set_option maxRecDepth 100000 in
set_option maxHeartbeats 2000000 in
/-- A sealed text is opened. -/
theorem sum_open_ok (l : Sp.Bs) (w : World) (hl : l.length ≤ 1000000000) :
    Calls Tryz.prog 92 #[str (Sp.sealed l)] w fun e w' => e = .returned (.tuple #[str l, .bool true]) ∧ Below w.heap.size w w' := by
  have hlen : (Sp.sealed l).length = l.length + 4 := Sp.sealed_length l
  have htk : Hid ((Sp.sealed l).take l.length = l) := by show _ = _; rw [Sp.sealed, List.take_left]
  have HS : Hid (∀ w, Calls Tryz.prog 78 #[str l] w fun e w' => e = .returned (str (Sp.sealed l)) ∧ Below w.heap.size w w') := fun w => sum_seal l w hl
  generalize hs : Sp.sealed l = s at *
  have HX := Lib.hid hs
  clear hs
  have hneq : ((⟨s.toArray⟩ : ByteArray).toList == (⟨s.toArray⟩ : ByteArray).toList) = true := by simp
  go_enter Tryz.func92, Tryz.ntmps92
  go_wp2_with fail
  have hex : (⟨s.toArray⟩ : ByteArray).extract 0 l.length = ⟨l.toArray⟩ := by rw [str_extract, Nat.sub_zero, List.drop_zero, htk.out]
  rw [hex]
  refine (HS.out w).mono ?_
  rintro e w1 ⟨rfl, hb1⟩
  go_wp2_with fail
  go_ret2
  exact ⟨rfl, hb1⟩
end Go.Proofs.YtafopojibpifoaaGreat

/- The walks of package page: Encode. -/
namespace Go.Proofs.YtafopojibpifoaaGreat
open Go.RowKit

/-- A page's bytes. -/
def pgBytes (p : Sp.Pg) : Sp.Bs := Sp.sealed p.body

theorem pgBytes_length {p : Sp.Pg} (h : p.may) : (pgBytes p).length = 512 := by rw [pgBytes, Sp.sealed_length, Sp.Pg.body_length h]

set_option maxRecDepth 100000 in
set_option maxHeartbeats 8000000 in
theorem page_encode {w : World} {G : Foot} {p : Sp.Pg} {A : Option Addr} {c : Nat} (hR : RowsAt G w A p.rows) (hw : p.wf) (hm : p.may) :
    Calls Tryz.prog 57 #[pgV p A c] w fun e w' => e = .returned (.tuple #[str (pgBytes p), .int .i64 0]) ∧ Below w.heap.size w w' := by
  have hfit := hm.2.2.2.2
  have hmay := fun W (h : RowsAt G W A p.rows) => page_may (w := W) (c := c) h (by omega) (by omega)
  rw [(mayB_iff p).2 hm] at hmay
  have HMY := Lib.hid hmay
  have HH0 : Hid (∀ (W : World) b rows, Blk W b 162 (pgCells p rows [] 0 false) → Calls Tryz.prog 75 #[.pointer (some ⟨b, 0, none⟩)] W fun e w' => e = .returned (.tuple #[]) ∧
      Blk w' b 162 (pgCells p rows p.head 0 false) ∧ Turns (only b) (only b) W w') := fun W b rows h => all_w hw h
  have HS := Lib.hid (fun W => sum_seal p.body W (by rw [Sp.Pg.body_length hm]; omega))
  have hpb : Hid (p.body = p.head ++ Sp.area 488 p.rows) := rfl
  have HE : Hid (pgBytes p = Sp.sealed p.body) := rfl
  have HR := Lib.hid hR
  clear hR hm hmay hw
  go_enter Tryz.func57, Tryz.ntmps57
  go_wp2_with fail
  refine (HMY.out _ (HR.out.below ((Below.refl _ w).alloc (Nat.le_refl _) _))).mono ?_
  rintro e w1 ⟨rfl, hb1⟩
  have hbx := (Blk.new w 51 #[.int .u8 p.kind, .int .u8 p.level, .int .u32 p.id, .int .u64 p.lsn, .int .u32 p.next, .slice A p.rows.length c]).below hb1 (by simp)
  have hbw : Below w.heap.size w w1 := ((Below.refl _ w).alloc (Nat.le_refl _) _).trans (hb1.mono (by simp))
  have hlt1 : w.heap.size < w1.heap.size := by have := hb1.size; simp at this; omega
  have x0 := hbx.cell 0
  have x1 := hbx.cell 1
  have x2 := hbx.cell 2
  have x3 := hbx.cell 3
  have x4 := hbx.cell 4
  have x5 := hbx.cell 5
  simp only [List.getElem?_toArray, List.getElem?_cons_succ, List.getElem?_cons_zero] at x0 x1 x2 x3 x4 x5
  have HX := Lib.hid hbx
  clear hbx
  go_wp2_with fail
  have hH := Blk.new w1 162 (pgCells p (.slice A p.rows.length c) [] 0 false)
  refine (HH0.out _ _ _ hH).mono ?_
  rintro e w2 ⟨rfl, hH2, ht2⟩
  have hbx2 := (HX.out.alloc _).turns ht2 (fun e => by have e : w.heap.size = w1.heap.size := e; omega)
  have hbw2 : Below w.heap.size w w2 := (hbw.alloc hbw.size _).trans (ht2.below (by simp; omega) (fun b hb => by rw [hb]; omega))
  have hs2 : w1.heap.size < w2.heap.size := by have := ht2.size; simp at this; omega
  clear x0 x1 x2 x3 x4 x5 hH hb1
  go_wp2_with fail
  refine (slot_new 488 w2 (by omega) (by omega)).mono ?_
  rintro e w3 ⟨g, h, rfl, hA3, hg, hh, hb3⟩
  have hbx3 := hbx2.below hb3 (by omega)
  have hH3 := hH2.below hb3 (by omega)
  have hbw3 : Below w.heap.size w w3 := hbw2.trans (hb3.mono hbw2.size)
  have x5 := hbx3.cell 5
  simp only [List.getElem?_toArray, List.getElem?_cons_succ, List.getElem?_cons_zero] at x5
  have HA3 := Lib.hid hA3
  have HH3 := Lib.hid hH3
  have hh1 : w1.heap.size ≠ h := by omega
  have hsz := hbw.size
  clear hA3 hH3 hH2 hbx2 hbx3 hb3 hbw2 hbw
  go_wp2_with fail
  go_loopw [7, 8, 9, 28] (fun _ _ _ i wr => ∃ k : Nat, k ≤ p.rows.length ∧ i = .int .i64 k ∧ AreaW wr g h (Sp.area 488 (p.rows.take k)) ∧ Turns (only h) (only h) w3 wr) (fun _ _ _ i _ => p.rows.length - (intOf i).toNat)
  case atStart => exact ⟨0, by omega, rfl, by simpa using HA3.out, Turns.refl _ _⟩
  case round =>
    obtain ⟨k, hk, rfl, hA, ht⟩ := hrel
    have hbr : Below w.heap.size w wr := hbw3.trans (ht.below hbw3.size (fun b hb => by rw [hb]; omega))
    by_cases hlt : k < p.rows.length
    · obtain ⟨b, o, rfl, _, _, hc⟩ := RowsAt.row (Reads.below HR.out hbr) hlt
      have hlen : (p.rows.take k).length = k := by simp; omega
      have hle := Sp.total_take_le p.rows (k + 1)
      rw [Sp.total_take_succ p.rows k hlt] at hle
      have hput := slot_put (size := 488) (rows := p.rows.take k) p.rows[k] hA (by rw [hlen]; omega) (by omega)
      rw [hlen, ← List.take_succ_eq_append_getElem hlt] at hput
      have HP := Lib.hid hput
      clear hput hlen hle hA
      generalize p.rows[k] = r at *
      go_wp2_with fail
      refine HP.out.mono ?_
      rintro e w4 ⟨rfl, hA4, ht4⟩
      have HA4 := Lib.hid hA4
      clear hA4
      go_wp2_with fail
      go_roundw
      case rel => exact ⟨k + 1, by omega, by go_num, HA4.out, ht.trans ht4⟩
      case measure => simp [intOf]; omega
    · obtain rfl : k = p.rows.length := by omega
      rw [List.take_length] at hA
      have hHr := HH3.out.turns ht hh1
      have h6 := hHr.cell 6
      simp only [pgCells, hdCells, List.getElem?_toArray, List.getElem?_cons_succ, List.getElem?_cons_zero] at h6
      have hltr := hHr.lt
      have HA := Lib.hid hA
      have l1 : p.head.length ≤ 20 := by rw [Sp.Pg.head_length]; omega
      have l2 : (Sp.area 488 p.rows).length ≤ 488 := by rw [Sp.area_length (by omega)]; omega
      have B9 : Hid (∀ W : World, (W.cell? ⟨w1.heap.size, 6, none⟩ = some (str p.head) ∧ Below wr.heap.size wr W) → Below wr.heap.size wr W) := fun _ h => h.2
      clear hA hHr x5
      go_wp2_with fail
      go_region_with (first
          | (go_at_call 79; refine (slot_bytes (HA.out.read.drewN 1)).mono ?_; rintro e w4 ⟨rfl, rfl⟩)
          | (go_at_call 78; rw [str_append, ← hpb.out]; refine (HS.out _).mono ?_; rintro e w5 ⟨rfl, hb⟩))
      all_goals
        go_wp2_with fail
        go_ret2
        refine ⟨?_, hbr.trans ((below_drewN' (Below.refl wr.heap.size wr) 1).trans hb |>.mono hbr.size)⟩
        rw [HE.out]
        rfl
end Go.Proofs.YtafopojibpifoaaGreat

/- The walks of package page: Decode, of a page's own bytes. -/
namespace Go.Proofs.YtafopojibpifoaaGreat
open Go.RowKit

theorem area_ok {size : Nat} {rows : List Sp.Bs} (h : 4 + 4 * rows.length + Sp.total rows ≤ size) (hs : size ≤ 4096) : AreaOk (Sp.area size rows) := by
  have hl := Sp.area_length h
  have hc : Sp.two (Sp.area size rows) 0 = rows.length := Sp.area_count (by omega)
  have hlow : Sp.two (Sp.area size rows) 2 = size - Sp.total rows := Sp.area_low (by omega)
  have hle : ∀ i, i < rows.length → Sp.total (rows.take (i + 1)) ≤ Sp.total rows := fun i _ => Sp.total_take_le rows (i + 1)
  have hlen : ∀ i (hi : i < rows.length), rows[i].length ≤ Sp.total rows := fun i hi => by
    have h1 := Sp.total_take_succ rows i hi
    have h2 := hle i hi
    omega
  refine ⟨by rw [hc, hlow]; omega, by rw [hlow, hl]; omega, fun i hi => ?_, fun i j hi hj => ?_⟩
  · rw [hc] at hi
    have h1 := Sp.total_take_succ rows i hi
    have h2 := hle i hi
    have h3 := hlen i hi
    rw [hlow, Sp.area_from hi (by omega), Sp.area_len hi (by omega), hl]
    omega
  · rw [hc] at hi
    have hj' : j < rows.length := by omega
    have h1 := Sp.total_take_succ rows i hi
    have h2 := hle i hi
    have h3 := hlen i hi
    have h4 := Sp.total_take_mono rows (show j + 1 ≤ i by omega)
    rw [Sp.area_from hi (by omega), Sp.area_len hi (by omega), Sp.area_from hj' (by omega), Sp.area_len hj' (by have := hlen j hj'; omega)]
    omega

theorem str_info : (Tryz.prog.info? 9).map (fun i => (i.zero, i.size, i.bytes)) = some (some (.string ByteArray.empty), 1, 16) := by kernel_rfl

/-- no row, or an address that is an element's. -/
def OkAddr (A : Option Addr) : Prop := A = none ∨ ∃ b o, A = some ⟨b, o, none⟩

/-- Owned rows, as rows that are read. -/
theorem own_rows {w : World} {base : Nat} {e : TypeId} {v : Value} {rows : List Sp.Bs} (h : w.ownsRow base e 1 v rows.length (rcs rows)) :
    ∃ A c, v = .slice A rows.length c ∧ OkAddr A ∧ RowsAt (fun b => base ≤ b) w A rows := by
  rcases h.2 with ⟨rfl, h0⟩ | ⟨g, cap, cur, rfl, hg, hh, h1, h2, h3, h4⟩
  · have : rows = [] := List.eq_nil_of_length_eq_zero h0
    subst this
    exact ⟨none, 0, rfl, .inl rfl, Reads.none_⟩
  · refine ⟨_, cap, rfl, .inr ⟨g, 0, rfl⟩, by simp, fun _ => ⟨g, 0, rfl, hg, ?_, fun j u hu => ?_⟩⟩
    · rcases Nat.lt_or_ge g w.heap.size with hlt | hge
      · exact hlt
      · rw [Array.getElem?_eq_none hge] at hh; cases hh
    · rw [Nat.zero_add, cell_of_row w g j cur e (0, 0) hh]
      rw [← h4] at hu
      have hj : j < (cur.toList.take (rows.length * 1)).length := (List.getElem?_eq_some_iff.1 hu).1
      rw [List.getElem?_take] at hu
      split at hu
      · simpa using hu
      · cases hu

theorem rcs_take_succ (rows : List Sp.Bs) (k : Nat) (h : k < rows.length) : rcs (rows.take (k + 1)) = rcs (rows.take k) ++ [str rows[k]] := by
  unfold rcs
  rw [List.take_succ_eq_append_getElem h, List.map_append]; rfl

theorem grown_set (w : World) (a : Addr) (u : Value) : w.grownBy (w.setCell a u) (some a.block) :=
  ⟨rfl, rfl, rfl, by simp [World.setCell], fun b _ hb => Below.heap_setCell w a u b (fun e => hb (congrArg some e))⟩

theorem six_set {w : World} {b : Nat} {t : TypeId} {c0 c1 c2 c3 c4 c5 : Value} (h : Blk w b t #[c0, c1, c2, c3, c4, c5]) (d0 d1 d2 d3 d4 d5 : Value) :
    ∃ w', (((((w.setCell ⟨b, 0, none⟩ d0).setCell ⟨b, 1, none⟩ d1).setCell ⟨b, 2, none⟩ d2).setCell ⟨b, 3, none⟩ d3).setCell ⟨b, 4, none⟩ d4).setCell ⟨b, 5, none⟩ d5 = w' ∧
      Blk w' b t #[d0, d1, d2, d3, d4, d5] ∧ Turns (only b) (only b) w w' ∧ ∀ k, k ≠ b → w'.heap[k]? = w.heap[k]? :=
  ⟨_, rfl, (((((h.set_ 0 d0).set_ 1 d1).set_ 2 d2).set_ 3 d3).set_ 4 d4).set_ 5 d5,
    ((((((Turns.refl (only b) w).setCell (.inl rfl) d0).setCell (.inl rfl) d1).setCell (.inl rfl) d2).setCell (.inl rfl) d3).setCell (.inl rfl) d4).setCell (.inl rfl) d5, fun k hk => by
      rw [Below.heap_setCell _ _ _ k hk, Below.heap_setCell _ _ _ k hk, Below.heap_setCell _ _ _ k hk, Below.heap_setCell _ _ _ k hk, Below.heap_setCell _ _ _ k hk, Below.heap_setCell _ _ _ k hk]⟩

theorem AreaR.turns {F F' : Foot} {w w' : World} {g h : Nat} {l : Sp.Bs} (hA : AreaR w g h l) (ht : Turns F F' w w') (hg : ¬ F g) (hh : ¬ F h) : AreaR w' g h l := by
  obtain ⟨⟨c, h1, hc⟩, h2, h3, h4, h5⟩ := hA
  refine ⟨⟨c, h1.turns ht hg, hc⟩, fun j hj => ?_, h3, h4, Nat.lt_of_lt_of_le h5 ht.size⟩
  rw [World.cell?_of_block (w := w) (w' := w') (a := ⟨h, 0 + j, none⟩) (ht.block h h5 hh)]
  exact h2 j hj

set_option maxRecDepth 100000 in
set_option maxHeartbeats 8000000 in
theorem page_decode {w : World} {p : Sp.Pg} (hw : p.wf) (hm : p.may) :
    Calls Tryz.prog 63 #[str (pgBytes p)] w fun e w' => ∃ A c, e = .returned (.tuple #[pgV p A c, .int .i64 0]) ∧ OkAddr A ∧ RowsAt (fun b => w.heap.size ≤ b) w' A p.rows ∧ Below w.heap.size w w' := by
  obtain ⟨i0, hi, hz0, hz1, hz2⟩ := info_parts str_info
  have hfit := hm.2.2.2.2
  have hal : (Sp.area 488 p.rows).length = 488 := Sp.area_length (by omega)
  have hO := Lib.hid (area_ok (size := 488) (rows := p.rows) (by omega) (by omega))
  have hbl := Sp.Pg.body_length hm
  have hpl := pgBytes_length hm
  have HO := Lib.hid fun W => sum_open_ok p.body W (by omega)
  have hseal : Sp.sealed p.body = pgBytes p := rfl
  rw [hseal] at HO
  have HAR := Lib.hid fun (W : World) b rows h => all_r (w := W) (b := b) (p := p) (rows := rows) (t := p.body) (rest := Sp.area 488 p.rows) hw rfl (by omega) h
  have HCUT := Lib.hid fun W => word_cut p.body 20 488 W (by omega) (by omega)
  have hcut : (p.body.drop 20).take 488 = Sp.area 488 p.rows := by
    have := Sp.take2_mid (x := p.head) (y := Sp.area 488 p.rows) (z := []) (k := 20) (n := 488) (by rw [Sp.Pg.head_length]) (by rw [hal])
    rwa [List.append_nil] at this
  rw [hcut] at HCUT
  have HENC := Lib.hid fun (W : World) G A c (h : RowsAt G W A p.rows) => page_encode (w := W) (c := c) h hw hm
  have hneq : ((⟨(pgBytes p).toArray⟩ : ByteArray).toList == (⟨(pgBytes p).toArray⟩ : ByteArray).toList) = true := by simp
  have d512 : (((pgBytes p).length : Int) == 512) = true := by rw [hpl]; rfl
  have HAL := Lib.hid hal
  have HBL := Lib.hid hbl
  clear hseal hcut hal hm hw
  have hlb : IntKind.i64.wrap ((p.body.length : Int) - 20) = 488 := by rw [hbl]; rfl
  clear hbl
  go_enter Tryz.func63, Tryz.ntmps63
  go_wp2_with fail
  refine (HO.out _).mono ?_
  rintro e w1 ⟨rfl, hb1⟩
  have hbx := (Blk.new w 51 #[.int .u8 0, .int .u8 0, .int .u32 0, .int .u64 0, .int .u32 0, .slice none 0 0]).below hb1 (by simp)
  have hbw := ((Below.refl _ w).alloc (Nat.le_refl _) (.cells #[.int .u8 0, .int .u8 0, .int .u32 0, .int .u64 0, .int .u32 0, .slice none 0 0] 51)).trans (hb1.mono (by simp))
  have hs1 : w.heap.size < w1.heap.size := by have := hb1.size; simp at this; omega
  have HX := Lib.hid hbx
  clear hbx hb1
  go_wp2_with fail
  refine (HAR.out _ _ _ (Blk.new w1 162 (rdCells p (.slice none 0 0) p.body 0))).mono ?_
  rintro e w2 ⟨rfl, hH2, ht2⟩
  have hX2 := (HX.out.alloc _).turns ht2 (fun e => by have e : w.heap.size = w1.heap.size := e; omega)
  have hbw2 : Below w.heap.size w w2 := (hbw.alloc hbw.size _).trans (ht2.below (by simp; omega) (fun b hb => by rw [hb]; omega))
  have hs2 : w1.heap.size < w2.heap.size := by have := ht2.size; simp at this; omega
  have h7 := hH2.cell 7
  have h8 := hH2.cell 8
  have h9 := hH2.cell 9
  have h6 := hH2.cell 6
  have h10 := hH2.cell 10
  simp only [pgCells, hdCells, List.getElem?_toArray, List.getElem?_cons_succ, List.getElem?_cons_zero] at h6 h7 h8 h9
  have HH := Lib.hid hH2
  have HX2 := Lib.hid hX2
  clear hH2 hX2 ht2 hbw HX
  go_wp2_with fail
  go_quiet ((go_at_call 72; exact quiet_left (HCUT.out _)))
  go_wp2_with fail
  refine (slot_load (Sp.area 488 p.rows) (w2.drewN nq) (by rw [HAL.out]; omega) (by rw [HAL.out]; omega) hO.out).mono ?_
  rintro e w3 ⟨g, h, rfl, hA3, hg, hh, hb3⟩
  have hbz : Below w2.heap.size w2 w3 := (below_drewN' (Below.refl w2.heap.size w2) nq).trans hb3
  have hg2 : w2.heap.size ≤ g := hg
  have hh2 : w2.heap.size ≤ h := hh
  have hs3 : w2.heap.size ≤ w3.heap.size := hbz.size
  have hbw3 : Below w.heap.size w w3 := hbw2.trans (hbz.mono hbw2.size)
  have hH3 := HH.out.below hbz (by omega)
  have hX3 := HX2.out.below hbz (by omega)
  have x4 := hH3.cell 8
  have x9 := hH3.cell 9
  simp only [pgCells, hdCells, List.getElem?_toArray, List.getElem?_cons_succ, List.getElem?_cons_zero] at x4 x9
  have HA3 := Lib.hid hA3
  have HH3 := Lib.hid hH3
  have HX3 := Lib.hid hX3
  have HTW := Lib.hid (Sp.area_count (size := 488) (rows := p.rows) (by omega))
  clear hA3 hH3 hX3 hg hh hb3 h6 h7 h8 h9 h10 HH HX2
  go_wp2_with fail
  refine (slot_len HA3.out).mono ?_
  rintro e w4 ⟨rfl, n4, rfl⟩
  rw [HTW.out]
  have HA4 := Lib.hid (HA3.out.drewN n4)
  have HH4 := Lib.hid (HH3.out.drewN n4)
  have HX4 := Lib.hid (HX3.out.drewN n4)
  have hbw4 := below_drewN' hbw3 n4
  have hs4 : w3.heap.size ≤ (w3.drewN n4).heap.size := Nat.le_refl _
  clear x4 x9 HA3 HH3 HX3 hbz hbw3 hbw2
  generalize w3.drewN n4 = w4 at *
  go_wp2_with fail
  go_loopw [10, 11, 12, 69] (fun _ _ _ i wr => ∃ (k : Nat) (v : Value), k ≤ p.rows.length ∧ i = .int .i64 k ∧ Blk wr w1.heap.size 162 (pgCells p v p.body 20 true) ∧ wr.ownsRow w4.heap.size 9 1 v k (rcs (p.rows.take k)) ∧ Turns (only w1.heap.size) (only w1.heap.size) w4 wr) (fun _ _ _ i _ => p.rows.length - (intOf i).toNat)
  case atStart => exact ⟨0, _, by omega, rfl, HH4.out, by simpa [rcs] using World.ownsRow_nil _ _ _ _, Turns.refl _ _⟩
  case round =>
    obtain ⟨k, v, hk, rfl, hB, hO1, ht⟩ := hrel
    have hlr := hB.lt
    have h5 := hB.cell 5
    simp only [pgCells, hdCells, List.getElem?_toArray, List.getElem?_cons_succ, List.getElem?_cons_zero] at h5
    have HAr := Lib.hid (HA4.out.turns ht (show ¬ g = w1.heap.size by omega) (show ¬ h = w1.heap.size by omega))
    have HB := Lib.hid hB
    have HO1 := Lib.hid hO1
    have hs5 := ht.size
    clear hB hO1
    by_cases hlt : k < p.rows.length
    · have hle := Sp.total_take_le p.rows (k + 1)
      have hle2 := Sp.total_take_succ p.rows k hlt
      have hll : p.rows[k].length < 65536 := by omega
      have hGet := slot_Get HAr.out k (488 - Sp.total (p.rows.take (k + 1))) p.rows[k].length (by rw [HTW.out]; exact hlt) (by rw [HAL.out]; omega) (Sp.area_from hlt (by omega)) (Sp.area_len hlt hll) (by rw [HAL.out]; omega)
      rw [Sp.area_text hlt (by omega)] at hGet
      have HG := Lib.hid hGet
      have HRC := Lib.hid (rcs_take_succ p.rows k hlt)
      clear hGet hle2 hle hll
      generalize p.rows[k] = r at *
      go_wp2_with fail
      refine HG.out.mono ?_
      rintro e w5 ⟨rfl, n5, rfl⟩
      have h5' : (wr.drewN n5).cell? ⟨w1.heap.size, 5, none⟩ = some v := h5
      have HO2 : Hid ((wr.drewN n5).ownsRow w4.heap.size 9 1 v k (rcs (p.rows.take k))) := Lib.hid HO1.out
      have HB2 := Lib.hid (HB.out.drewN n5)
      have ht5 := ht.drewN n5
      have hs5' : wr.heap.size ≤ (wr.drewN n5).heap.size := Nat.le_refl _
      clear h5 HG HO1 HB ht
      generalize wr.drewN n5 = w5 at *
      have g5 := ((HB2.out.alloc (.cells #[str r] 9)).cell 5)
      simp only [pgCells, hdCells, List.getElem?_toArray, List.getElem?_cons_succ, List.getElem?_cons_zero] at g5
      go_wp2_with (at_builtin; refine wpList_append_own _ rfl _ _ 49 rfl w4.heap.size 9 i0 (.string ByteArray.empty) 1 16 Tryz.underlying49 hi hz0 hz1 hz2 rfl (by decide) _ _ _ rfl (HO2.out.alloc _) ⟨w5.heap.size, 0, none⟩ 1 1 [str r] rfl rfl (cell_one_new _ _ _) (fun x hx => by simp at hx; subst hx; rfl) (by unfold maxLen; omega) (by omega) (by simp; omega) ?_)
      intro v' w6 hown hgrow hnil
      have hB6 := (HB2.out.alloc (.cells #[str r] 9)).grown hgrow (fun e => by have := (HO2.out.lt _ e.symm).1; omega)
      have ht6 := (ht5.alloc (.cells #[str r] 9)).grown hgrow (fun q hq => .inr (HO2.out.lt q hq).1)
      have f5 := hB6.frozen 5
      have f6 := hB6.cell 5
      simp only [pgCells, hdCells, List.getElem?_toArray, List.getElem?_cons_succ, List.getElem?_cons_zero] at f6
      obtain ⟨g6, c6, rfl⟩ : ∃ g6 c6, v' = .slice (some ⟨g6, 0, none⟩) (k + 1) c6 := by
        rcases hown.2 with ⟨_, h0⟩ | ⟨g6, c6, _, h0, _⟩
        · omega
        · exact ⟨g6, c6, h0⟩
      have HW := Lib.hid hown
      clear hnil hown hgrow
      have HB6 := Lib.hid hB6
      clear hB6 h5' g5 HB2 HO2
      go_wp2_with fail
      go_roundw
      case rel =>
        refine ⟨k + 1, _, by omega, by go_num, HB6.out.set_ 5 _, ?_, ht6.setCell (p := ⟨w1.heap.size, 5, none⟩) (.inl rfl) _⟩
        rw [HRC.out]
        exact HW.out.kept (grown_set _ ⟨w1.heap.size, 5, none⟩ _) (.inr (fun e => by
          have hq := (HW.out.lt g6 rfl).1
          injection e with e
          have e : g6 = w1.heap.size := e
          omega))
      case measure => simp [intOf]; omega
    · obtain rfl : k = p.rows.length := by omega
      rw [List.take_length] at HO1
      obtain ⟨A, c, rfl, hA, hR⟩ := own_rows HO1.out
      have HA := Lib.hid hA
      have HR := Lib.hid hR
      have y0 := HB.out.cell 0
      have y1 := HB.out.cell 1
      have y2 := HB.out.cell 2
      have y3 := HB.out.cell 3
      have y4 := HB.out.cell 4
      simp only [pgCells, hdCells, List.getElem?_toArray, List.getElem?_cons_succ, List.getElem?_cons_zero] at y0 y1 y2 y3 y4
      have hX := HX4.out.turns ht (show ¬ w.heap.size = w1.heap.size by omega)
      have hbwr : Below w.heap.size w wr := hbw4.trans (ht.below hbw4.size (fun b hb => by rw [hb]; omega))
      have HX := Lib.hid hX
      clear hR hX ht HO1 hA
      go_wp2_with fail
      refine (HENC.out wr _ A c HR.out).mono ?_
      rintro e w7 ⟨rfl, hb7⟩
      have hB7 := HB.out.below hb7 hlr
      have hX7 := HX.out.below hb7 (by omega)
      have hbw7 : Below w.heap.size w w7 := hbwr.trans (hb7.mono hbwr.size)
      have hs7 := hb7.size
      have hR7 := Lib.hid (HR.out.below hb7)
      have y0 := hB7.cell 0
      have y1 := hB7.cell 1
      have y2 := hB7.cell 2
      have y3 := hB7.cell 3
      have y4 := hB7.cell 4
      have y5 := hB7.cell 5
      simp only [pgCells, hdCells, List.getElem?_toArray, List.getElem?_cons_succ, List.getElem?_cons_zero] at y0 y1 y2 y3 y4 y5
      have z0 := hX7.cell 0
      have z1 := hX7.cell 1
      have z2 := hX7.cell 2
      have z3 := hX7.cell 3
      have z4 := hX7.cell 4
      have z5 := hX7.cell 5
      have f0 := hX7.frozen 0
      have f1 := hX7.frozen 1
      have f2 := hX7.frozen 2
      have f3 := hX7.frozen 3
      have f4 := hX7.frozen 4
      have f5 := hX7.frozen 5
      simp only [List.getElem?_toArray, List.getElem?_cons_succ, List.getElem?_cons_zero] at z0 z1 z2 z3 z4 z5
      have HX7 := Lib.hid hX7
      clear hB7 hX7 hb7 HB HX HR
      go_wp2_with fail
      obtain ⟨W8, hW8, hX8, ht8, hk8⟩ := six_set HX7.out (.int .u8 p.kind) (.int .u8 p.level) (.int .u32 p.id) (.int .u64 p.lsn) (.int .u32 p.next) (.slice A p.rows.length c)
      rw [hW8]
      have z0 := hX8.cell 0
      have z1 := hX8.cell 1
      have z2 := hX8.cell 2
      have z3 := hX8.cell 3
      have z4 := hX8.cell 4
      have z5 := hX8.cell 5
      simp only [List.getElem?_toArray, List.getElem?_cons_succ, List.getElem?_cons_zero] at z0 z1 z2 z3 z4 z5
      clear y0 y1 y2 y3 y4 y5 f0 f1 f2 f3 f4 f5
      refine bodyPost_ret (v := .tuple #[pgV p A c, .int .i64 0]) (by rw [results_cell_tmp rfl]; go_simp) rfl ⟨A, c, rfl, HA.out, ?_, ?_⟩
      · have hsz := hbw4.size
        exact (hR7.out.keep ht8.size (fun b hb => hk8 b (by have hb : w4.heap.size ≤ b := hb; omega))).mono (fun b hb => Nat.le_trans hsz hb)
      · exact hbw7.trans (ht8.below hbw7.size (fun b hb => by rw [hb]; exact Nat.le_refl _))
end Go.Proofs.YtafopojibpifoaaGreat

/- The walks of sum.Open and page.Decode of a text that is not sealed. -/
namespace Go.Proofs.YtafopojibpifoaaGreat
open Go.RowKit

set_option maxRecDepth 100000 in
set_option maxHeartbeats 2000000 in
/-- A text that bears not its sum is not opened. -/
theorem sum_open_bad (s : Sp.Bs) (w : World) (h4 : 4 ≤ s.length) (hl : s.length ≤ 1000000000) (hne : Sp.sealed (s.take (s.length - 4)) ≠ s) :
    Calls Tryz.prog 92 #[str s] w fun e w' => e = .returned (.tuple #[str [], .bool false]) ∧ Below w.heap.size w w' := by
  obtain ⟨n, hn⟩ : ∃ n, s.length = n + 4 := ⟨s.length - 4, by omega⟩
  have hn' : s.length - 4 = n := by omega
  rw [hn'] at hne
  have HS := Lib.hid fun w => sum_seal (s.take n) w (by simp; omega)
  have hneq : ((⟨(Sp.sealed (s.take n)).toArray⟩ : ByteArray).toList == (⟨s.toArray⟩ : ByteArray).toList) = false := by simpa using hne
  have hneq2 : (Sp.sealed (s.take n) == s) = false := by simpa using hne
  generalize hs : Sp.sealed (s.take n) = s' at *
  have HX := Lib.hid hs
  clear hs
  go_enter Tryz.func92, Tryz.ntmps92
  go_wp2_with fail
  have hex : (⟨s.toArray⟩ : ByteArray).extract 0 n = ⟨(s.take n).toArray⟩ := by rw [str_extract, Nat.sub_zero, List.drop_zero]
  rw [hex]
  refine (HS.out w).mono ?_
  rintro e w1 ⟨rfl, hb1⟩
  go_wp2_with fail
  go_ret2
  exact ⟨rfl, hb1⟩

set_option maxRecDepth 100000 in
set_option maxHeartbeats 2000000 in
/-- Such a text is no page. -/
theorem page_decode_bad (s : Sp.Bs) (w : World) (h4 : 4 ≤ s.length) (hl : s.length ≤ 1000000000) (hne : Sp.sealed (s.take (s.length - 4)) ≠ s) :
    Calls Tryz.prog 63 #[str s] w fun e w' => e = .returned (.tuple #[.agg #[.int .u8 0, .int .u8 0, .int .u32 0, .int .u64 0, .int .u32 0, .slice none 0 0], .int .i64 60]) ∧ Below w.heap.size w w' := by
  have HO := Lib.hid fun W => sum_open_bad s W h4 hl hne
  clear hne
  go_enter Tryz.func63, Tryz.ntmps63
  go_wp2_with fail
  refine (HO.out _).mono ?_
  rintro e w1 ⟨rfl, hb1⟩
  have hbx := (Blk.new w 51 #[.int .u8 0, .int .u8 0, .int .u32 0, .int .u64 0, .int .u32 0, .slice none 0 0]).below hb1 (by simp)
  have hbw := ((Below.refl _ w).alloc (Nat.le_refl _) (.cells #[.int .u8 0, .int .u8 0, .int .u32 0, .int .u64 0, .int .u32 0, .slice none 0 0] 51)).trans (hb1.mono (by simp))
  have z0 := hbx.cell 0
  have z1 := hbx.cell 1
  have z2 := hbx.cell 2
  have z3 := hbx.cell 3
  have z4 := hbx.cell 4
  have z5 := hbx.cell 5
  have f0 := hbx.frozen 0
  have f1 := hbx.frozen 1
  have f2 := hbx.frozen 2
  have f3 := hbx.frozen 3
  have f4 := hbx.frozen 4
  have f5 := hbx.frozen 5
  simp only [List.getElem?_toArray, List.getElem?_cons_succ, List.getElem?_cons_zero] at z0 z1 z2 z3 z4 z5
  have HX := Lib.hid hbx
  clear hbx hb1
  go_wp2_with fail
  obtain ⟨W8, hW8, hX8, ht8, hk8⟩ := six_set HX.out (.int .u8 0) (.int .u8 0) (.int .u32 0) (.int .u64 0) (.int .u32 0) (.slice none 0 0)
  rw [hW8]
  have z0 := hX8.cell 0
  have z1 := hX8.cell 1
  have z2 := hX8.cell 2
  have z3 := hX8.cell 3
  have z4 := hX8.cell 4
  have z5 := hX8.cell 5
  simp only [List.getElem?_toArray, List.getElem?_cons_succ, List.getElem?_cons_zero] at z0 z1 z2 z3 z4 z5
  refine bodyPost_ret (v := .tuple #[.agg #[.int .u8 0, .int .u8 0, .int .u32 0, .int .u64 0, .int .u32 0, .slice none 0 0], .int .i64 60]) (by rw [results_cell_tmp rfl]; go_simp) rfl ⟨rfl, hbw.trans (ht8.below hbw.size (fun b hb => by rw [hb]; exact Nat.le_refl _))⟩
end Go.Proofs.YtafopojibpifoaaGreat

/- Plain words on a disk of sectors: what a write, a sync, a read do. No program is named here. -/
namespace Go.Proofs.YtafopojibpifoaaGreat.Sp

structure Dk where
  sure : List Bs
  loose : List (Nat × Bs)
  fuse : Int

def lay (l : List (Nat × Bs)) (s : List Bs) : List Bs := l.foldl (fun s x => s.set x.1 x.2) s

@[simp] theorem lay_length : ∀ (l : List (Nat × Bs)) (s : List Bs), (lay l s).length = s.length
  | [], _ => rfl
  | x :: l, s => by rw [lay, List.foldl_cons, ← lay, lay_length l]; simp

theorem lay_append (a b : List (Nat × Bs)) (s : List Bs) : lay (a ++ b) s = lay b (lay a s) := by simp [lay]

structure Dk.wf (d : Dk) : Prop where
  some_ : 1 ≤ d.sure.length
  few : d.sure.length ≤ 16384
  sure : ∀ s ∈ d.sure, s.length = 128
  loose : ∀ x ∈ d.loose, x.1 < d.sure.length ∧ x.2.length = 128

/-- what a read sees. -/
def Dk.view (d : Dk) : List Bs := lay d.loose d.sure

theorem Dk.view_length (d : Dk) : d.view.length = d.sure.length := by simp [view]

theorem lay_all {l : List (Nat × Bs)} {s : List Bs} {n : Nat} (hs : ∀ x ∈ s, x.length = n) (hl : ∀ x ∈ l, x.2.length = n) : ∀ x ∈ lay l s, x.length = n := by
  induction l generalizing s with
  | nil => exact hs
  | cons y l ih =>
    rw [lay, List.foldl_cons, ← lay]
    refine ih (fun x hx => ?_) (fun x hx => hl x (by simp [hx]))
    rcases List.mem_or_eq_of_mem_set hx with h | h
    · exact hs x h
    · rw [h]; exact hl y (by simp)

theorem Dk.wf.view {d : Dk} (h : d.wf) : ∀ s ∈ d.view, s.length = 128 := lay_all h.sure (fun x hx => (h.loose x hx).2)

def burn (f : Int) : Int := if 0 < f then f - 1 else f

/-- a write that may be. -/
def Dk.put (d : Dk) (k : Nat) (s : Bs) : Dk := { d with loose := d.loose ++ [(k, s)], fuse := burn d.fuse }
def Dk.synced (d : Dk) : Dk := { sure := d.view, loose := [], fuse := burn d.fuse }

theorem Dk.put_wf {d : Dk} (h : d.wf) {k : Nat} {s : Bs} (hk : k < d.sure.length) (hs : s.length = 128) : (d.put k s).wf :=
  ⟨h.some_, h.few, h.sure, fun x hx => by
    rcases List.mem_append.1 hx with h' | h'
    · exact h.loose x h'
    · rw [List.mem_singleton.1 h']; exact ⟨hk, hs⟩⟩
theorem Dk.synced_wf {d : Dk} (h : d.wf) : d.synced.wf :=
  ⟨by simpa [synced, view] using h.some_, by simpa [synced, view] using h.few, h.view, fun x hx => by simp [synced] at hx⟩

@[simp] theorem Dk.put_view (d : Dk) (k : Nat) (s : Bs) : (d.put k s).view = d.view.set k s := by simp [put, view, lay]
@[simp] theorem Dk.synced_view (d : Dk) : d.synced.view = d.view := by simp [synced, view, lay]

/-- the last loose write of a sector, walked from behind. -/
theorem lay_getElem? (l : List (Nat × Bs)) (s : List Bs) (k : Nat) (h : ∀ x ∈ l, x.1 ≠ k) : (lay l s)[k]? = s[k]? := by
  induction l generalizing s with
  | nil => rfl
  | cons y l ih =>
    rw [lay, List.foldl_cons, ← lay, ih _ (fun x hx => h x (by simp [hx])), List.getElem?_set_ne (h y (by simp))]

theorem lay_last (a b : List (Nat × Bs)) (s : List Bs) (k : Nat) (x : Bs) (h : ∀ y ∈ b, y.1 ≠ k) (hk : k < s.length) : (lay (a ++ (k, x) :: b) s)[k]? = some x := by
  rw [lay_append, lay, List.foldl_cons, ← lay, lay_getElem? b _ k h, List.getElem?_set_self (by simpa using hk)]

end Go.Proofs.YtafopojibpifoaaGreat.Sp
