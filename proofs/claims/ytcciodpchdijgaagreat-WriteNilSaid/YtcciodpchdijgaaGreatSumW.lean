/- The walks of package sum. -/
import Derived.Test.YtcciodpchdijgaaGreatHead
import Derived.Test.YtcciodpchdijgaaGreatSum
import Derived.Laws.Rows
import Derived.Laws.Tables
import Derived.Deep.WholeRow
import Derived.Deep.MidRow
import Derived.Laws.ResultCell
namespace Go.Proofs.YtcciodpchdijgaaGreat
open Go.RowKit

/-- The table behind k rounds. -/
def tabCells (k : Nat) : Array Value := ((List.range 256).map fun j => Value.int .u32 (if j < k then ((Sp.crcTab j : Nat) : Int) else 0)).toArray
theorem tabCells_size (k : Nat) : (tabCells k).size = 256 := by simp [tabCells]
theorem tabCells_get (k j : Nat) (h : j < 256) : (tabCells k)[j]? = some (Value.int .u32 (if j < k then ((Sp.crcTab j : Nat) : Int) else 0)) := by
  simp only [tabCells, List.getElem?_toArray, List.getElem?_map, List.getElem?_range h, Option.map_some]
theorem tabCells_next (k : Nat) (_hk : k < 256) : (tabCells k).setIfInBounds k (.int .u32 ((Sp.crcTab k : Nat) : Int)) = tabCells (k + 1) := by
  apply Array.ext_getElem?
  intro j
  rw [Array.getElem?_setIfInBounds]
  rcases Nat.lt_or_ge j 256 with hj | hj
  · rw [tabCells_get _ _ hj, tabCells_get _ _ hj, tabCells_size]
    by_cases e : k = j
    · subst e; simp [hj]
    · rw [if_neg e]
      congr 2
      by_cases h : j < k
      · rw [if_pos h, if_pos (by omega)]
      · rw [if_neg h, if_neg (by omega)]
  · rw [Array.getElem?_eq_none (by rw [tabCells_size]; exact hj), Array.getElem?_eq_none (by rw [tabCells_size]; exact hj), tabCells_size]
    split <;> simp; omega
theorem tabCells_zero : tabCells 0 = Array.replicate 256 (.int .u32 0) := by
  apply Array.ext_getElem?
  intro j
  rcases Nat.lt_or_ge j 256 with hj | hj
  · rw [tabCells_get _ _ hj]; simp [hj]
  · rw [Array.getElem?_eq_none (by rw [tabCells_size]; exact hj)]; simp; omega

theorem tab_info : (Tryz.prog.info? 535).map (fun i => (i.zero, i.size)) = some (some (.agg (tabCells 0)), 256) := by
  rw [tabCells_zero]; kernel_rfl

theorem crcStep_cast (c : Nat) (h : c < 4294967296) : bits .xor .u32 ((c : Int) / 2) (2197175160 * bits .and .u32 (c : Int) 1 % 4294967296) = ((Sp.crcStep c : Nat) : Int) := by
  have e1 : bits .and .u32 (c : Int) 1 = ((c % 2 : Nat) : Int) := by
    rw [show (1 : Int) = ((1 : Nat) : Int) from rfl, u32_and_nat _ _ h (by omega), nat_mask1]
  have hm : c % 2 < 2 := Nat.mod_lt _ (by omega)
  have e2 : (2197175160 * ((c % 2 : Nat) : Int)) % 4294967296 = ((Sp.poly * (c % 2) : Nat) : Int) := by
    unfold Sp.poly; omega
  rw [e1, e2, show (c : Int) / 2 = ((c / 2 : Nat) : Int) by omega, u32_xor_nat _ _ (by omega) (by unfold Sp.poly; omega)]
  rfl

theorem xor_ones (c : Nat) (h : c < 4294967296) : bits .xor .u32 IntKind.u32.max (c : Int) = ((4294967295 - c : Nat) : Int) := by
  rw [show IntKind.u32.max = ((4294967295 : Nat) : Int) from rfl, u32_xor_nat _ _ (by omega) h]
  congr 1
  apply Nat.eq_of_testBit_eq
  intro i
  rw [Nat.testBit_xor, show 4294967295 - c = 2 ^ 32 - (c + 1) by omega, Nat.testBit_two_pow_sub_succ (by omega), show (4294967295 : Nat) = 2 ^ 32 - 1 from rfl, Nat.testBit_two_pow_sub_one]
  by_cases hi : i < 32
  · simp [hi]
  · have : c.testBit i = false := Nat.testBit_lt_two_pow (Nat.lt_of_lt_of_le h (show 2 ^ 32 ≤ 2 ^ i from Nat.pow_le_pow_right (by omega) (by omega)))
    simp [hi, this]

set_option maxRecDepth 100000 in
set_option maxHeartbeats 2000000 in
theorem sum_table (w : World) :
    Calls Tryz.prog 439 #[] w fun e w' => e = .returned (.agg (tabCells 256)) ∧ Below w.heap.size w w' := by
  obtain ⟨hz, hsz⟩ := zero_of_info tab_info
  go_enter Tryz.func439, Tryz.ntmps439
  go_wp2_with fail
  go_loopw [1, 2, 3] (fun _ _ i wr => ∃ k : Nat, k ≤ 256 ∧ i = .int .i64 k ∧ Blk wr w.heap.size 535 (tabCells k) ∧ Below w.heap.size w wr) (fun _ _ i _ => 256 - (intOf i).toNat)
  case atStart => exact ⟨0, by omega, rfl, Blk.new w _ _, (Below.refl _ _).alloc (Nat.le_refl _) _⟩
  case round =>
    obtain ⟨k, hk, rfl, hblk, hb⟩ := hrel
    by_cases hlt : k < 256
    · have hcell := (hblk.cell k).trans (tabCells_get k k hlt)
      have hfz := hblk.frozen k
      go_wp2_with fail
      go_loop [2, 8] (fun c i => ∃ j : Nat, j ≤ 8 ∧ i = .int .i64 j ∧ c = .int .u32 (Sp.crcSteps j k)) (fun _ i => 8 - (intOf i).toNat)
      case atStart => exact ⟨0, by omega, rfl, rfl⟩
      case round =>
        obtain ⟨j, hj, rfl, rfl⟩ := hrel
        have hc := Sp.crcSteps_lt (c := k) (by omega) j
        by_cases hlt2 : j < 8
        · have hst := Lib.hid (crcStep_cast _ hc)
          have hnx : Hid (Sp.crcSteps (j + 1) k = Sp.crcStep (Sp.crcSteps j k)) := rfl
          generalize Sp.crcSteps j k = c at *
          clear hcell hfz
          go_wp2_with fail
          go_round
          case rel => exact ⟨j + 1, by omega, by go_num, by rw [hnx.out, hst.out]⟩
          case measure => simp [intOf]; omega
        · obtain rfl : j = 8 := by omega
          have ht : Hid (Sp.crcSteps 8 k = Sp.crcTab k) := rfl
          generalize Sp.crcSteps 8 k = c at *
          go_wp2_with fail
          go_roundw
          case rel =>
            refine ⟨k + 1, by omega, by go_num, ?_, hb.setCell (Nat.le_refl _) _⟩
            rw [ht.out]
            rw [← tabCells_next k hlt]
            exact hblk.set_ _ _
          case measure => simp [intOf]; omega
    · obtain rfl : k = 256 := by omega
      have hsz2 : (Tryz.prog.info? 535).map (·.size) = some (tabCells 256).size := by rw [hsz, tabCells_size]
      have h1 : (tabCells 256).all (·.oneCell') = true := by
        rw [Array.all_eq_true_iff_forall_mem]
        intro v hv
        simp only [tabCells, List.mem_toArray, List.mem_map] at hv
        obtain ⟨_, _, rfl⟩ := hv
        rfl
      have HH := Lib.hid (And.intro hsz2 h1)
      clear hsz2 h1 hsz hz
      go_wp2_with (first
        | (refine wpList_load_row rfl 535 _ rfl w.heap.size rfl 535 (tabCells 256) (0, 0) _ hblk Tryz.underlying535 rfl HH.out.1 ?_)
        | (refine wpList_store_row rfl 535 _ _ rfl w.heap.size (tabCells 256) rfl rfl 535 (tabCells 256) hblk HH.out.1 rfl HH.out.2 ?_))
      refine bodyPost_ret (v := .agg (tabCells 256)) (results_cell_row rfl _ _ w.heap.size 535 _ (0, 0) _ rfl (hblk.setRow _) Tryz.underlying535 rfl HH.out.1) rfl ⟨rfl, below_setRow hb (Nat.le_refl _) _⟩

set_option maxRecDepth 100000 in
set_option maxHeartbeats 2000000 in
theorem sum_more (l : Sp.Bs) (w : World) (hl : l.length ≤ 1000000000) :
    Calls Tryz.prog 402 #[.int .u32 0, str l] w fun e w' => e = .returned (.int .u32 (Sp.crc l)) ∧ Below w.heap.size w w' := by
  obtain ⟨hz, hsz⟩ := zero_of_info tab_info
  have hsz2 : (Tryz.prog.info? 535).map (·.size) = some (tabCells 256).size := by rw [hsz, tabCells_size]
  have h1 : (tabCells 256).all (·.oneCell') = true := by
    rw [Array.all_eq_true_iff_forall_mem]
    intro v hv
    simp only [tabCells, List.mem_toArray, List.mem_map] at hv
    obtain ⟨_, _, rfl⟩ := hv
    rfl
  have HH := Lib.hid (And.intro hsz2 h1)
  clear hsz2 h1 hsz
  have hsize : ∀ k, (tabCells k).size = 256 := tabCells_size
  have HS := Lib.hid hsize
  clear hsize
  have hcv := conv_any (P := Tryz.prog) 9 84 5 l Tryz.underlying9 Tryz.underlying84 Tryz.underlying5
  go_enter Tryz.func402, Tryz.ntmps402
  go_wp2_with fail
  refine (sum_table w).mono ?_
  rintro e w1 ⟨rfl, hb1⟩
  go_wp2_with (refine wpList_store_row rfl 535 _ _ rfl w1.heap.size (tabCells 256) rfl rfl 535 (tabCells 0) (Blk.new w1 _ _) HH.out.1 (by rw [HS.out, HS.out]) HH.out.2 ?_)
  have hT : Blk ((w1.alloc (Obj.cells (tabCells 0) 535)).setRow w1.heap.size (tabCells 256)) w1.heap.size 535 (tabCells 256) := (Blk.new w1 _ _).setRow _
  have hb2 : Below w.heap.size w ((w1.alloc (Obj.cells (tabCells 0) 535)).setRow w1.heap.size (tabCells 256)) := below_setRow (hb1.alloc hb1.size _) hb1.size _
  have e1 : ((w1.alloc (Obj.cells (tabCells 0) 535)).setRow w1.heap.size (tabCells 256)).heap.size = w1.heap.size + 1 := by simp
  obtain ⟨hb3, hsz3, hnew, _⟩ := bytesW_facts ((w1.alloc (Obj.cells (tabCells 0) 535)).setRow w1.heap.size (tabCells 256)) 5 l
  rw [e1] at hsz3 hnew
  have hT3 := hT.below hb3 (by rw [e1]; omega)
  have hb4 : Below w.heap.size w (bytesW ((w1.alloc (Obj.cells (tabCells 0) 535)).setRow w1.heap.size (tabCells 256)) 5 l) := hb2.trans (hb3.mono hb2.size)
  clear hb3 hb2 hT hz hcv e1
  generalize bytesW ((w1.alloc (Obj.cells (tabCells 0) 535)).setRow w1.heap.size (tabCells 256)) 5 l = w3 at *
  generalize w1.heap.size = B at *
  clear hb1 hsz3
  go_loop [0, 7, 14] (fun c _ i => ∃ k : Nat, k ≤ l.length ∧ i = .int .i64 k ∧ c = .int .u32 (Sp.crcRun 4294967295 (l.take k))) (fun _ _ i => l.length - (intOf i).toNat)
  case atStart => exact ⟨0, by omega, rfl, rfl⟩
  case round =>
    obtain ⟨k, hk, rfl, rfl⟩ := hrel
    have hlt32 := Sp.crcRun_lt (c := 4294967295) (by omega) (l.take k)
    by_cases hlt : k < l.length
    · have hcell := hnew k hlt
      have hnx : Sp.crcRun 4294967295 (l.take (k + 1)) = Sp.crcByte (Sp.crcRun 4294967295 (l.take k)) l[k].toNat := by
        rw [List.take_succ_eq_append_getElem hlt, Sp.crcRun_snoc]
      have HX := Lib.hid hnx
      clear hnx hnew
      generalize Sp.crcRun 4294967295 (l.take k) = c at *
      have hx := l[k].toNat_lt
      obtain ⟨i, hi, he⟩ : ∃ i, i < 256 ∧ (c % 256) ^^^ l[k].toNat = i := ⟨_, Sp.xor_byte hx, rfl⟩
      have hxor : bits .xor .u8 ((c : Int) % 256) (l[k].toNat : Int) = (i : Int) := by
        rw [show (c : Int) % 256 = ((c % 256 : Nat) : Int) by omega, u8_xor_nat _ _ (by omega) hx, he]
      have hst : bits .xor .u32 ((Sp.crcTab i : Nat) : Int) ((c : Int) / 256) = ((Sp.crcByte c l[k].toNat : Nat) : Int) := by
        rw [show (c : Int) / 256 = ((c / 256 : Nat) : Int) by omega, u32_xor_nat _ _ (Sp.crcTab_lt hi) (by omega), Sp.crcByte, he]
      have HE := Lib.hid he
      have HT := Lib.hid hst
      clear he hst
      have hct := (hT3.cell i).trans (tabCells_get 256 i hi)
      rw [if_pos hi] at hct
      generalize Sp.crcTab i = tv at *
      go_wp2_with fail
      go_round
      case rel => exact ⟨k + 1, by omega, by go_num, by rw [HX.out, HT.out]⟩
      case measure => simp [intOf]; omega
    · obtain rfl : k = l.length := by omega
      have hN := Lib.hid (xor_ones _ hlt32)
      have he : Hid (Sp.crcRun 4294967295 (l.take l.length) = 4294967295 - Sp.crc l) := by
        have := Sp.crcRun_lt (c := 4294967295) (by omega) l
        show _ = _
        rw [List.take_length, Sp.crc]; omega
      have hlt3 := Sp.crc_lt l
      generalize Sp.crcRun 4294967295 (l.take l.length) = c at *
      clear hnew
      go_wp2_with fail
      go_ret
      refine ⟨?_, hb4⟩
      show Ending.returned (.int .u32 (bits .xor .u32 IntKind.u32.max (c : Int))) = _
      rw [hN.out, he.out]
      congr 3
      omega

set_option maxRecDepth 100000 in
set_option maxHeartbeats 2000000 in
theorem sum_of (l : Sp.Bs) (w : World) (hl : l.length ≤ 1000000000) :
    Calls Tryz.prog 332 #[str l] w fun e w' => e = .returned (.int .u32 (Sp.crc l)) ∧ Below w.heap.size w w' := by
  go_enter Tryz.func332, Tryz.ntmps332
  go_wp2_with fail
  refine (sum_more l w hl).mono ?_
  rintro e w1 ⟨rfl, hb1⟩
  go_wp2_with fail
  go_ret
  exact ⟨rfl, hb1⟩

set_option maxRecDepth 100000 in
set_option maxHeartbeats 2000000 in
theorem sum_seal (l : Sp.Bs) (w : World) (hl : l.length ≤ 1000000000) :
    Calls Tryz.prog 256 #[str l] w fun e w' => e = .returned (str (Sp.sealed l)) ∧ Below w.heap.size w w' := by
  go_enter Tryz.func256, Tryz.ntmps256
  go_wp2_with fail
  refine (sum_of l w hl).mono ?_
  rintro e w1 ⟨rfl, hb1⟩
  have hc := Sp.crc_lt l
  have hs : Hid (Sp.sealed l = l ++ [UInt8.ofNat (Sp.crc l), UInt8.ofNat (Sp.crc l / 256), UInt8.ofNat (Sp.crc l / 65536), UInt8.ofNat (Sp.crc l / 16777216)]) := rfl
  generalize Sp.crc l = c at *
  have hcb : (convert 84 9 (.slice (some ⟨w1.heap.size, 0, none⟩) 4 4)).run Tryz.prog (w1.alloc (.cells #[.int .u8 ((c : Int) % 256), .int .u8 ((c : Int) / 256 % 256), .int .u8 ((c : Int) / 65536 % 256), .int .u8 ((c : Int) / 16777216)] 5)) =
      .ok (str [UInt8.ofNat c, UInt8.ofNat (c / 256), UInt8.ofNat (c / 65536), UInt8.ofNat (c / 16777216)]) (w1.alloc (.cells #[.int .u8 ((c : Int) % 256), .int .u8 ((c : Int) / 256 % 256), .int .u8 ((c : Int) / 65536 % 256), .int .u8 ((c : Int) / 16777216)] 5)) := by
    refine run_bytes_back _ 84 9 5 w1.heap.size 0 4 4 _ Tryz.underlying84 Tryz.underlying5 Tryz.underlying9 rfl (fun j hj => ?_)
    rw [(Blk.new w1 _ _).cell]
    match j, hj with
    | 0, _ => simp
    | 1, _ => simp
    | 2, _ => simp
    | 3, _ => simp; omega
  go_wp2_with fail
  go_ret
  refine ⟨?_, hb1.alloc hb1.size _⟩
  show Ending.returned (.string (_ ++ _)) = _
  rw [str_append, hs.out]

set_option maxRecDepth 100000 in
set_option maxHeartbeats 2000000 in
/-- A sealed text is opened. -/
theorem sum_open_ok (l : Sp.Bs) (w : World) (hl : l.length ≤ 1000000000) :
    Calls Tryz.prog 272 #[str (Sp.sealed l)] w fun e w' => e = .returned (.tuple #[str l, .bool true]) ∧ Below w.heap.size w w' := by
  have hlen : (Sp.sealed l).length = l.length + 4 := Sp.sealed_length l
  have htk : Hid ((Sp.sealed l).take l.length = l) := by show _ = _; rw [Sp.sealed, List.take_left]
  have HS : Hid (∀ w, Calls Tryz.prog 256 #[str l] w fun e w' => e = .returned (str (Sp.sealed l)) ∧ Below w.heap.size w w') := fun w => sum_seal l w hl
  generalize hs : Sp.sealed l = s at *
  have HX := Lib.hid hs
  clear hs
  have hneq : ((⟨s.toArray⟩ : ByteArray).toList == (⟨s.toArray⟩ : ByteArray).toList) = true := by simp
  go_enter Tryz.func272, Tryz.ntmps272
  go_wp2_with fail
  have hex : (⟨s.toArray⟩ : ByteArray).extract 0 l.length = ⟨l.toArray⟩ := by rw [str_extract, Nat.sub_zero, List.drop_zero, htk.out]
  rw [hex]
  refine (HS.out w).mono ?_
  rintro e w1 ⟨rfl, hb1⟩
  go_wp2_with fail
  go_ret2
  exact ⟨rfl, hb1⟩
end Go.Proofs.YtcciodpchdijgaaGreat
