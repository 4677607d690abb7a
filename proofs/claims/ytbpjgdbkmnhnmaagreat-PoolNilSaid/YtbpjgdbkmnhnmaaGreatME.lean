/- The walks of package page: Encode. -/
import Derived.Test.YtbpjgdbkmnhnmaaGreatMD
import Derived.Test.YtbpjgdbkmnhnmaaGreatMC
import Derived.Laws.AppendOwn
import Derived.Maps.AppendAt
import Derived.Deep.AppendLies
import Derived.Test.YtbpjgdbkmnhnmaaGreatMA

namespace Go.Proofs.YtbpjgdbkmnhnmaaGreat
open Go.RowKit

/-- A page's bytes. -/
def pgBytes (p : Sp.Pg) : Sp.Bs := Sp.sealed p.body

theorem pgBytes_length {p : Sp.Pg} (h : p.may) : (pgBytes p).length = 512 := by rw [pgBytes, Sp.sealed_length, Sp.Pg.body_length h]

set_option maxRecDepth 100000 in
set_option maxHeartbeats 8000000 in
theorem page_encode {w : World} {G : Foot} {p : Sp.Pg} {A : Option Addr} {c : Nat} (hR : RowsAt G w A p.rows) (hw : p.wf) (hm : p.may) :
    Calls Tryz.prog 30 #[pgV p A c] w fun e w' => e = .returned (.tuple #[str (pgBytes p), .int .i64 0]) ∧ Below w.heap.size w w' := by
  have hfit := hm.2.2.2.2
  have hmay := fun W (h : RowsAt G W A p.rows) => page_may (w := W) (c := c) h (by omega) (by omega)
  rw [(mayB_iff p).2 hm] at hmay
  have HMY := Lib.hid hmay
  have HH0 : Hid (∀ (W : World) b rows, Blk W b 119 (pgCells p rows [] 0 false) → Calls Tryz.prog 67 #[.pointer (some ⟨b, 0, none⟩)] W fun e w' => e = .returned (.tuple #[]) ∧
      Blk w' b 119 (pgCells p rows p.head 0 false) ∧ Turns (only b) (only b) W w') := fun W b rows h => all_w hw h
  have HS := Lib.hid (fun W => sum_seal p.body W (by rw [Sp.Pg.body_length hm]; omega))
  have hpb : Hid (p.body = p.head ++ Sp.area 488 p.rows) := rfl
  have HE : Hid (pgBytes p = Sp.sealed p.body) := rfl
  have HR := Lib.hid hR
  clear hR hm hmay hw
  go_enter Tryz.func30, Tryz.ntmps30
  go_wp2_with fail
  refine (HMY.out _ (HR.out.below ((Below.refl _ w).alloc (Nat.le_refl _) _))).mono ?_
  rintro e w1 ⟨rfl, hb1⟩
  have hbx := (Blk.new w 30 #[.int .u8 p.kind, .int .u8 p.level, .int .u32 p.id, .int .u64 p.lsn, .int .u32 p.next, .slice A p.rows.length c]).below hb1 (by simp)
  have hbw : Below w.heap.size w w1 := ((Below.refl _ w).alloc (Nat.le_refl _) _).trans (hb1.mono (by simp))
  have hlt1 : w.heap.size < w1.heap.size := by have := hb1.size; simp at this; omega
  have x0 := hbx.cell 0
  have x1 := hbx.cell 1
  have x2 := hbx.cell 2
  have x3 := hbx.cell 3
  have x4 := hbx.cell 4
  have x5 := hbx.cell 5
  simp only [List.getElem?_toArray, List.getElem?_cons_succ, List.getElem?_cons_zero] at x0 x1 x2 x3 x4 x5
  have HX := Lib.hid hbx
  clear hbx
  go_wp2_with fail
  have hH := Blk.new w1 119 (pgCells p (.slice A p.rows.length c) [] 0 false)
  refine (HH0.out _ _ _ hH).mono ?_
  rintro e w2 ⟨rfl, hH2, ht2⟩
  have hbx2 := (HX.out.alloc _).turns ht2 (fun e => by have e : w.heap.size = w1.heap.size := e; omega)
  have hbw2 : Below w.heap.size w w2 := (hbw.alloc hbw.size _).trans (ht2.below (by simp; omega) (fun b hb => by rw [hb]; omega))
  have hs2 : w1.heap.size < w2.heap.size := by have := ht2.size; simp at this; omega
  clear x0 x1 x2 x3 x4 x5 hH hb1
  go_wp2_with fail
  refine (slot_new 488 w2 (by omega) (by omega)).mono ?_
  rintro e w3 ⟨g, h, rfl, hA3, hg, hh, hb3⟩
  have hbx3 := hbx2.below hb3 (by omega)
  have hH3 := hH2.below hb3 (by omega)
  have hbw3 : Below w.heap.size w w3 := hbw2.trans (hb3.mono hbw2.size)
  have x5 := hbx3.cell 5
  simp only [List.getElem?_toArray, List.getElem?_cons_succ, List.getElem?_cons_zero] at x5
  have HA3 := Lib.hid hA3
  have HH3 := Lib.hid hH3
  have hh1 : w1.heap.size ≠ h := by omega
  have hsz := hbw.size
  clear hA3 hH3 hH2 hbx2 hbx3 hb3 hbw2 hbw
  go_wp2_with fail
  go_loopw [7, 8, 9, 28] (fun _ _ _ i wr => ∃ k : Nat, k ≤ p.rows.length ∧ i = .int .i64 k ∧ AreaW wr g h (Sp.area 488 (p.rows.take k)) ∧ Turns (only h) (only h) w3 wr) (fun _ _ _ i _ => p.rows.length - (intOf i).toNat)
  case atStart => exact ⟨0, by omega, rfl, by simpa using HA3.out, Turns.refl _ _⟩
  case round =>
    obtain ⟨k, hk, rfl, hA, ht⟩ := hrel
    have hbr : Below w.heap.size w wr := hbw3.trans (ht.below hbw3.size (fun b hb => by rw [hb]; omega))
    by_cases hlt : k < p.rows.length
    · obtain ⟨b, o, rfl, _, _, hc⟩ := RowsAt.row (Reads.below HR.out hbr) hlt
      have hlen : (p.rows.take k).length = k := by simp; omega
      have hle := Sp.total_take_le p.rows (k + 1)
      rw [Sp.total_take_succ p.rows k hlt] at hle
      have hput := slot_put (size := 488) (rows := p.rows.take k) p.rows[k] hA (by rw [hlen]; omega) (by omega)
      rw [hlen, ← List.take_succ_eq_append_getElem hlt] at hput
      have HP := Lib.hid hput
      clear hput hlen hle hA
      generalize p.rows[k] = r at *
      go_wp2_with fail
      refine HP.out.mono ?_
      rintro e w4 ⟨rfl, hA4, ht4⟩
      have HA4 := Lib.hid hA4
      clear hA4
      go_wp2_with fail
      go_roundw
      case rel => exact ⟨k + 1, by omega, by go_num, HA4.out, ht.trans ht4⟩
      case measure => simp [intOf]; omega
    · obtain rfl : k = p.rows.length := by omega
      rw [List.take_length] at hA
      have hHr := HH3.out.turns ht hh1
      have h6 := hHr.cell 6
      simp only [pgCells, hdCells, List.getElem?_toArray, List.getElem?_cons_succ, List.getElem?_cons_zero] at h6
      have hltr := hHr.lt
      have HA := Lib.hid hA
      have l1 : p.head.length ≤ 20 := by rw [Sp.Pg.head_length]; omega
      have l2 : (Sp.area 488 p.rows).length ≤ 488 := by rw [Sp.area_length (by omega)]; omega
      have B9 : Hid (∀ W : World, (W.cell? ⟨w1.heap.size, 6, none⟩ = some (str p.head) ∧ Below wr.heap.size wr W) → Below wr.heap.size wr W) := fun _ h => h.2
      clear hA hHr x5
      go_wp2_with fail
      go_region_with (first
          | (go_at_call 71; refine (slot_bytes (HA.out.read.drewN 1)).mono ?_; rintro e w4 ⟨rfl, rfl⟩)
          | (go_at_call 70; rw [str_append, ← hpb.out]; refine (HS.out _).mono ?_; rintro e w5 ⟨rfl, hb⟩))
      all_goals
        go_wp2_with fail
        go_ret2
        refine ⟨?_, hbr.trans ((below_drewN' (Below.refl wr.heap.size wr) 1).trans hb |>.mono hbr.size)⟩
        rw [HE.out]
        rfl
end Go.Proofs.YtbpjgdbkmnhnmaaGreat

/- The walks of package page: Decode, of a page's own bytes. -/
namespace Go.Proofs.YtbpjgdbkmnhnmaaGreat
open Go.RowKit

theorem area_ok {size : Nat} {rows : List Sp.Bs} (h : 4 + 4 * rows.length + Sp.total rows ≤ size) (hs : size ≤ 4096) : AreaOk (Sp.area size rows) := by
  have hl := Sp.area_length h
  have hc : Sp.two (Sp.area size rows) 0 = rows.length := Sp.area_count (by omega)
  have hlow : Sp.two (Sp.area size rows) 2 = size - Sp.total rows := Sp.area_low (by omega)
  have hle : ∀ i, i < rows.length → Sp.total (rows.take (i + 1)) ≤ Sp.total rows := fun i _ => Sp.total_take_le rows (i + 1)
  have hlen : ∀ i (hi : i < rows.length), rows[i].length ≤ Sp.total rows := fun i hi => by
    have h1 := Sp.total_take_succ rows i hi
    have h2 := hle i hi
    omega
  refine ⟨by rw [hc, hlow]; omega, by rw [hlow, hl]; omega, fun i hi => ?_, fun i j hi hj => ?_⟩
  · rw [hc] at hi
    have h1 := Sp.total_take_succ rows i hi
    have h2 := hle i hi
    have h3 := hlen i hi
    rw [hlow, Sp.area_from hi (by omega), Sp.area_len hi (by omega), hl]
    omega
  · rw [hc] at hi
    have hj' : j < rows.length := by omega
    have h1 := Sp.total_take_succ rows i hi
    have h2 := hle i hi
    have h3 := hlen i hi
    have h4 := Sp.total_take_mono rows (show j + 1 ≤ i by omega)
    rw [Sp.area_from hi (by omega), Sp.area_len hi (by omega), Sp.area_from hj' (by omega), Sp.area_len hj' (by have := hlen j hj'; omega)]
    omega

theorem str_info : (Tryz.prog.info? 9).map (fun i => (i.zero, i.size, i.bytes)) = some (some (.string ByteArray.empty), 1, 16) := by kernel_rfl

/-- no row, or an address that is an element's. -/
def OkAddr (A : Option Addr) : Prop := A = none ∨ ∃ b o, A = some ⟨b, o, none⟩

/-- Owned rows, as rows that are read. -/
theorem own_rows {w : World} {base : Nat} {e : TypeId} {v : Value} {rows : List Sp.Bs} (h : w.ownsRow base e 1 v rows.length (rcs rows)) :
    ∃ A c, v = .slice A rows.length c ∧ OkAddr A ∧ RowsAt (fun b => base ≤ b) w A rows := by
  rcases h.2 with ⟨rfl, h0⟩ | ⟨g, cap, cur, rfl, hg, hh, h1, h2, h3, h4⟩
  · have : rows = [] := List.eq_nil_of_length_eq_zero h0
    subst this
    exact ⟨none, 0, rfl, .inl rfl, Reads.none_⟩
  · refine ⟨_, cap, rfl, .inr ⟨g, 0, rfl⟩, by simp, fun _ => ⟨g, 0, rfl, hg, ?_, fun j u hu => ?_⟩⟩
    · rcases Nat.lt_or_ge g w.heap.size with hlt | hge
      · exact hlt
      · rw [Array.getElem?_eq_none hge] at hh; cases hh
    · rw [Nat.zero_add, cell_of_row w g j cur e (0, 0) hh]
      rw [← h4] at hu
      have hj : j < (cur.toList.take (rows.length * 1)).length := (List.getElem?_eq_some_iff.1 hu).1
      rw [List.getElem?_take] at hu
      split at hu
      · simpa using hu
      · cases hu

theorem rcs_take_succ (rows : List Sp.Bs) (k : Nat) (h : k < rows.length) : rcs (rows.take (k + 1)) = rcs (rows.take k) ++ [str rows[k]] := by
  unfold rcs
  rw [List.take_succ_eq_append_getElem h, List.map_append]; rfl

theorem grown_set (w : World) (a : Addr) (u : Value) : w.grownBy (w.setCell a u) (some a.block) :=
  ⟨rfl, rfl, rfl, by simp [World.setCell], fun b _ hb => Below.heap_setCell w a u b (fun e => hb (congrArg some e))⟩

theorem six_set {w : World} {b : Nat} {t : TypeId} {c0 c1 c2 c3 c4 c5 : Value} (h : Blk w b t #[c0, c1, c2, c3, c4, c5]) (d0 d1 d2 d3 d4 d5 : Value) :
    ∃ w', (((((w.setCell ⟨b, 0, none⟩ d0).setCell ⟨b, 1, none⟩ d1).setCell ⟨b, 2, none⟩ d2).setCell ⟨b, 3, none⟩ d3).setCell ⟨b, 4, none⟩ d4).setCell ⟨b, 5, none⟩ d5 = w' ∧
      Blk w' b t #[d0, d1, d2, d3, d4, d5] ∧ Turns (only b) (only b) w w' ∧ ∀ k, k ≠ b → w'.heap[k]? = w.heap[k]? :=
  ⟨_, rfl, (((((h.set_ 0 d0).set_ 1 d1).set_ 2 d2).set_ 3 d3).set_ 4 d4).set_ 5 d5,
    ((((((Turns.refl (only b) w).setCell (.inl rfl) d0).setCell (.inl rfl) d1).setCell (.inl rfl) d2).setCell (.inl rfl) d3).setCell (.inl rfl) d4).setCell (.inl rfl) d5, fun k hk => by
      rw [Below.heap_setCell _ _ _ k hk, Below.heap_setCell _ _ _ k hk, Below.heap_setCell _ _ _ k hk, Below.heap_setCell _ _ _ k hk, Below.heap_setCell _ _ _ k hk, Below.heap_setCell _ _ _ k hk]⟩

theorem AreaR.turns {F F' : Foot} {w w' : World} {g h : Nat} {l : Sp.Bs} (hA : AreaR w g h l) (ht : Turns F F' w w') (hg : ¬ F g) (hh : ¬ F h) : AreaR w' g h l := by
  obtain ⟨⟨c, h1, hc⟩, h2, h3, h4, h5⟩ := hA
  refine ⟨⟨c, h1.turns ht hg, hc⟩, fun j hj => ?_, h3, h4, Nat.lt_of_lt_of_le h5 ht.size⟩
  rw [World.cell?_of_block (w := w) (w' := w') (a := ⟨h, 0 + j, none⟩) (ht.block h h5 hh)]
  exact h2 j hj

set_option maxRecDepth 100000 in
set_option maxHeartbeats 8000000 in
theorem page_decode {w : World} {p : Sp.Pg} (hw : p.wf) (hm : p.may) :
    Calls Tryz.prog 35 #[str (pgBytes p)] w fun e w' => ∃ A c, e = .returned (.tuple #[pgV p A c, .int .i64 0]) ∧ OkAddr A ∧ RowsAt (fun b => w.heap.size ≤ b) w' A p.rows ∧ Below w.heap.size w w' := by
  obtain ⟨i0, hi, hz0, hz1, hz2⟩ := info_parts str_info
  have hfit := hm.2.2.2.2
  have hal : (Sp.area 488 p.rows).length = 488 := Sp.area_length (by omega)
  have hO := Lib.hid (area_ok (size := 488) (rows := p.rows) (by omega) (by omega))
  have hbl := Sp.Pg.body_length hm
  have hpl := pgBytes_length hm
  have HO := Lib.hid fun W => sum_open_ok p.body W (by omega)
  have hseal : Sp.sealed p.body = pgBytes p := rfl
  rw [hseal] at HO
  have HAR := Lib.hid fun (W : World) b rows h => all_r (w := W) (b := b) (p := p) (rows := rows) (t := p.body) (rest := Sp.area 488 p.rows) hw rfl (by omega) h
  have HCUT := Lib.hid fun W => word_cut p.body 20 488 W (by omega) (by omega)
  have hcut : (p.body.drop 20).take 488 = Sp.area 488 p.rows := by
    have := Sp.take2_mid (x := p.head) (y := Sp.area 488 p.rows) (z := []) (k := 20) (n := 488) (by rw [Sp.Pg.head_length]) (by rw [hal])
    rwa [List.append_nil] at this
  rw [hcut] at HCUT
  have HENC := Lib.hid fun (W : World) G A c (h : RowsAt G W A p.rows) => page_encode (w := W) (c := c) h hw hm
  have hneq : ((⟨(pgBytes p).toArray⟩ : ByteArray).toList == (⟨(pgBytes p).toArray⟩ : ByteArray).toList) = true := by simp
  have d512 : (((pgBytes p).length : Int) == 512) = true := by rw [hpl]; rfl
  have HAL := Lib.hid hal
  have HBL := Lib.hid hbl
  clear hseal hcut hal hm hw
  have hlb : IntKind.i64.wrap ((p.body.length : Int) - 20) = 488 := by rw [hbl]; rfl
  clear hbl
  go_enter Tryz.func35, Tryz.ntmps35
  go_wp2_with fail
  refine (HO.out _).mono ?_
  rintro e w1 ⟨rfl, hb1⟩
  have hbx := (Blk.new w 30 #[.int .u8 0, .int .u8 0, .int .u32 0, .int .u64 0, .int .u32 0, .slice none 0 0]).below hb1 (by simp)
  have hbw := ((Below.refl _ w).alloc (Nat.le_refl _) (.cells #[.int .u8 0, .int .u8 0, .int .u32 0, .int .u64 0, .int .u32 0, .slice none 0 0] 30)).trans (hb1.mono (by simp))
  have hs1 : w.heap.size < w1.heap.size := by have := hb1.size; simp at this; omega
  have HX := Lib.hid hbx
  clear hbx hb1
  go_wp2_with fail
  refine (HAR.out _ _ _ (Blk.new w1 119 (rdCells p (.slice none 0 0) p.body 0))).mono ?_
  rintro e w2 ⟨rfl, hH2, ht2⟩
  have hX2 := (HX.out.alloc _).turns ht2 (fun e => by have e : w.heap.size = w1.heap.size := e; omega)
  have hbw2 : Below w.heap.size w w2 := (hbw.alloc hbw.size _).trans (ht2.below (by simp; omega) (fun b hb => by rw [hb]; omega))
  have hs2 : w1.heap.size < w2.heap.size := by have := ht2.size; simp at this; omega
  have h7 := hH2.cell 7
  have h8 := hH2.cell 8
  have h9 := hH2.cell 9
  have h6 := hH2.cell 6
  have h10 := hH2.cell 10
  simp only [pgCells, hdCells, List.getElem?_toArray, List.getElem?_cons_succ, List.getElem?_cons_zero] at h6 h7 h8 h9
  have HH := Lib.hid hH2
  have HX2 := Lib.hid hX2
  clear hH2 hX2 ht2 hbw HX
  go_wp2_with fail
  go_quiet ((go_at_call 83; exact quiet_left (HCUT.out _)))
  go_wp2_with fail
  refine (slot_load (Sp.area 488 p.rows) (w2.drewN nq) (by rw [HAL.out]; omega) (by rw [HAL.out]; omega) hO.out).mono ?_
  rintro e w3 ⟨g, h, rfl, hA3, hg, hh, hb3⟩
  have hbz : Below w2.heap.size w2 w3 := (below_drewN' (Below.refl w2.heap.size w2) nq).trans hb3
  have hg2 : w2.heap.size ≤ g := hg
  have hh2 : w2.heap.size ≤ h := hh
  have hs3 : w2.heap.size ≤ w3.heap.size := hbz.size
  have hbw3 : Below w.heap.size w w3 := hbw2.trans (hbz.mono hbw2.size)
  have hH3 := HH.out.below hbz (by omega)
  have hX3 := HX2.out.below hbz (by omega)
  have x4 := hH3.cell 8
  have x9 := hH3.cell 9
  simp only [pgCells, hdCells, List.getElem?_toArray, List.getElem?_cons_succ, List.getElem?_cons_zero] at x4 x9
  have HA3 := Lib.hid hA3
  have HH3 := Lib.hid hH3
  have HX3 := Lib.hid hX3
  have HTW := Lib.hid (Sp.area_count (size := 488) (rows := p.rows) (by omega))
  clear hA3 hH3 hX3 hg hh hb3 h6 h7 h8 h9 h10 HH HX2
  go_wp2_with fail
  refine (slot_len HA3.out).mono ?_
  rintro e w4 ⟨rfl, n4, rfl⟩
  rw [HTW.out]
  have HA4 := Lib.hid (HA3.out.drewN n4)
  have HH4 := Lib.hid (HH3.out.drewN n4)
  have HX4 := Lib.hid (HX3.out.drewN n4)
  have hbw4 := below_drewN' hbw3 n4
  have hs4 : w3.heap.size ≤ (w3.drewN n4).heap.size := Nat.le_refl _
  clear x4 x9 HA3 HH3 HX3 hbz hbw3 hbw2
  generalize w3.drewN n4 = w4 at *
  go_wp2_with fail
  go_loopw [10, 11, 12, 69] (fun _ _ _ i wr => ∃ (k : Nat) (v : Value), k ≤ p.rows.length ∧ i = .int .i64 k ∧ Blk wr w1.heap.size 119 (pgCells p v p.body 20 true) ∧ wr.ownsRow w4.heap.size 9 1 v k (rcs (p.rows.take k)) ∧ Turns (only w1.heap.size) (only w1.heap.size) w4 wr) (fun _ _ _ i _ => p.rows.length - (intOf i).toNat)
  case atStart => exact ⟨0, _, by omega, rfl, HH4.out, by simpa [rcs] using World.ownsRow_nil _ _ _ _, Turns.refl _ _⟩
  case round =>
    obtain ⟨k, v, hk, rfl, hB, hO1, ht⟩ := hrel
    have hlr := hB.lt
    have h5 := hB.cell 5
    simp only [pgCells, hdCells, List.getElem?_toArray, List.getElem?_cons_succ, List.getElem?_cons_zero] at h5
    have HAr := Lib.hid (HA4.out.turns ht (show ¬ g = w1.heap.size by omega) (show ¬ h = w1.heap.size by omega))
    have HB := Lib.hid hB
    have HO1 := Lib.hid hO1
    have hs5 := ht.size
    clear hB hO1
    by_cases hlt : k < p.rows.length
    · have hle := Sp.total_take_le p.rows (k + 1)
      have hle2 := Sp.total_take_succ p.rows k hlt
      have hll : p.rows[k].length < 65536 := by omega
      have hGet := slot_Get HAr.out k (488 - Sp.total (p.rows.take (k + 1))) p.rows[k].length (by rw [HTW.out]; exact hlt) (by rw [HAL.out]; omega) (Sp.area_from hlt (by omega)) (Sp.area_len hlt hll) (by rw [HAL.out]; omega)
      rw [Sp.area_text hlt (by omega)] at hGet
      have HG := Lib.hid hGet
      have HRC := Lib.hid (rcs_take_succ p.rows k hlt)
      clear hGet hle2 hle hll
      generalize p.rows[k] = r at *
      go_wp2_with fail
      refine HG.out.mono ?_
      rintro e w5 ⟨rfl, n5, rfl⟩
      have h5' : (wr.drewN n5).cell? ⟨w1.heap.size, 5, none⟩ = some v := h5
      have HO2 : Hid ((wr.drewN n5).ownsRow w4.heap.size 9 1 v k (rcs (p.rows.take k))) := Lib.hid HO1.out
      have HB2 := Lib.hid (HB.out.drewN n5)
      have ht5 := ht.drewN n5
      have hs5' : wr.heap.size ≤ (wr.drewN n5).heap.size := Nat.le_refl _
      clear h5 HG HO1 HB ht
      generalize wr.drewN n5 = w5 at *
      have g5 := ((HB2.out.alloc (.cells #[str r] 9)).cell 5)
      simp only [pgCells, hdCells, List.getElem?_toArray, List.getElem?_cons_succ, List.getElem?_cons_zero] at g5
      go_wp2_with (at_builtin; refine wpList_append_own _ rfl _ _ 28 rfl w4.heap.size 9 i0 (.string ByteArray.empty) 1 16 Tryz.underlying28 hi hz0 hz1 hz2 rfl (by decide) _ _ _ rfl (HO2.out.alloc _) ⟨w5.heap.size, 0, none⟩ 1 1 [str r] rfl rfl (cell_one_new _ _ _) (fun x hx => by simp at hx; subst hx; rfl) (by unfold maxLen; omega) (by omega) (by simp; omega) ?_)
      intro v' w6 hown hgrow hnil
      have hB6 := (HB2.out.alloc (.cells #[str r] 9)).grown hgrow (fun e => by have := (HO2.out.lt _ e.symm).1; omega)
      have ht6 := (ht5.alloc (.cells #[str r] 9)).grown hgrow (fun q hq => .inr (HO2.out.lt q hq).1)
      have f5 := hB6.frozen 5
      have f6 := hB6.cell 5
      simp only [pgCells, hdCells, List.getElem?_toArray, List.getElem?_cons_succ, List.getElem?_cons_zero] at f6
      obtain ⟨g6, c6, rfl⟩ : ∃ g6 c6, v' = .slice (some ⟨g6, 0, none⟩) (k + 1) c6 := by
        rcases hown.2 with ⟨_, h0⟩ | ⟨g6, c6, _, h0, _⟩
        · omega
        · exact ⟨g6, c6, h0⟩
      have HW := Lib.hid hown
      clear hnil hown hgrow
      have HB6 := Lib.hid hB6
      clear hB6 h5' g5 HB2 HO2
      go_wp2_with fail
      go_roundw
      case rel =>
        refine ⟨k + 1, _, by omega, by go_num, HB6.out.set_ 5 _, ?_, ht6.setCell (p := ⟨w1.heap.size, 5, none⟩) (.inl rfl) _⟩
        rw [HRC.out]
        exact HW.out.kept (grown_set _ ⟨w1.heap.size, 5, none⟩ _) (.inr (fun e => by
          have hq := (HW.out.lt g6 rfl).1
          injection e with e
          have e : g6 = w1.heap.size := e
          omega))
      case measure => simp [intOf]; omega
    · obtain rfl : k = p.rows.length := by omega
      rw [List.take_length] at HO1
      obtain ⟨A, c, rfl, hA, hR⟩ := own_rows HO1.out
      have HA := Lib.hid hA
      have HR := Lib.hid hR
      have y0 := HB.out.cell 0
      have y1 := HB.out.cell 1
      have y2 := HB.out.cell 2
      have y3 := HB.out.cell 3
      have y4 := HB.out.cell 4
      simp only [pgCells, hdCells, List.getElem?_toArray, List.getElem?_cons_succ, List.getElem?_cons_zero] at y0 y1 y2 y3 y4
      have hX := HX4.out.turns ht (show ¬ w.heap.size = w1.heap.size by omega)
      have hbwr : Below w.heap.size w wr := hbw4.trans (ht.below hbw4.size (fun b hb => by rw [hb]; omega))
      have HX := Lib.hid hX
      clear hR hX ht HO1 hA
      go_wp2_with fail
      refine (HENC.out wr _ A c HR.out).mono ?_
      rintro e w7 ⟨rfl, hb7⟩
      have hB7 := HB.out.below hb7 hlr
      have hX7 := HX.out.below hb7 (by omega)
      have hbw7 : Below w.heap.size w w7 := hbwr.trans (hb7.mono hbwr.size)
      have hs7 := hb7.size
      have hR7 := Lib.hid (HR.out.below hb7)
      have y0 := hB7.cell 0
      have y1 := hB7.cell 1
      have y2 := hB7.cell 2
      have y3 := hB7.cell 3
      have y4 := hB7.cell 4
      have y5 := hB7.cell 5
      simp only [pgCells, hdCells, List.getElem?_toArray, List.getElem?_cons_succ, List.getElem?_cons_zero] at y0 y1 y2 y3 y4 y5
      have z0 := hX7.cell 0
      have z1 := hX7.cell 1
      have z2 := hX7.cell 2
      have z3 := hX7.cell 3
      have z4 := hX7.cell 4
      have z5 := hX7.cell 5
      have f0 := hX7.frozen 0
      have f1 := hX7.frozen 1
      have f2 := hX7.frozen 2
      have f3 := hX7.frozen 3
      have f4 := hX7.frozen 4
      have f5 := hX7.frozen 5
      simp only [List.getElem?_toArray, List.getElem?_cons_succ, List.getElem?_cons_zero] at z0 z1 z2 z3 z4 z5
      have HX7 := Lib.hid hX7
      clear hB7 hX7 hb7 HB HX HR
      go_wp2_with fail
      obtain ⟨W8, hW8, hX8, ht8, hk8⟩ := six_set HX7.out (.int .u8 p.kind) (.int .u8 p.level) (.int .u32 p.id) (.int .u64 p.lsn) (.int .u32 p.next) (.slice A p.rows.length c)
      rw [hW8]
      have z0 := hX8.cell 0
      have z1 := hX8.cell 1
      have z2 := hX8.cell 2
      have z3 := hX8.cell 3
      have z4 := hX8.cell 4
      have z5 := hX8.cell 5
      simp only [List.getElem?_toArray, List.getElem?_cons_succ, List.getElem?_cons_zero] at z0 z1 z2 z3 z4 z5
      clear y0 y1 y2 y3 y4 y5 f0 f1 f2 f3 f4 f5
      refine bodyPost_ret (v := .tuple #[pgV p A c, .int .i64 0]) (by rw [results_cell_tmp rfl]; go_simp) rfl ⟨A, c, rfl, HA.out, ?_, ?_⟩
      · have hsz := hbw4.size
        exact (hR7.out.keep ht8.size (fun b hb => hk8 b (by have hb : w4.heap.size ≤ b := hb; omega))).mono (fun b hb => Nat.le_trans hsz hb)
      · exact hbw7.trans (ht8.below hbw7.size (fun b hb => by rw [hb]; exact Nat.le_refl _))
end Go.Proofs.YtbpjgdbkmnhnmaaGreat

/- The walks of sum.Open and page.Decode of a text that is not sealed. -/
namespace Go.Proofs.YtbpjgdbkmnhnmaaGreat
open Go.RowKit

set_option maxRecDepth 100000 in
set_option maxHeartbeats 2000000 in
/-- A text that bears not its sum is not opened. -/
theorem sum_open_bad (s : Sp.Bs) (w : World) (h4 : 4 ≤ s.length) (hl : s.length ≤ 1000000000) (hne : Sp.sealed (s.take (s.length - 4)) ≠ s) :
    Calls Tryz.prog 82 #[str s] w fun e w' => e = .returned (.tuple #[str [], .bool false]) ∧ Below w.heap.size w w' := by
  obtain ⟨n, hn⟩ : ∃ n, s.length = n + 4 := ⟨s.length - 4, by omega⟩
  have hn' : s.length - 4 = n := by omega
  rw [hn'] at hne
  have HS := Lib.hid fun w => sum_seal (s.take n) w (by simp; omega)
  have hneq : ((⟨(Sp.sealed (s.take n)).toArray⟩ : ByteArray).toList == (⟨s.toArray⟩ : ByteArray).toList) = false := by simpa using hne
  have hneq2 : (Sp.sealed (s.take n) == s) = false := by simpa using hne
  generalize hs : Sp.sealed (s.take n) = s' at *
  have HX := Lib.hid hs
  clear hs
  go_enter Tryz.func82, Tryz.ntmps82
  go_wp2_with fail
  have hex : (⟨s.toArray⟩ : ByteArray).extract 0 n = ⟨(s.take n).toArray⟩ := by rw [str_extract, Nat.sub_zero, List.drop_zero]
  rw [hex]
  refine (HS.out w).mono ?_
  rintro e w1 ⟨rfl, hb1⟩
  go_wp2_with fail
  go_ret2
  exact ⟨rfl, hb1⟩

set_option maxRecDepth 100000 in
set_option maxHeartbeats 2000000 in
/-- Such a text is no page. -/
theorem page_decode_bad (s : Sp.Bs) (w : World) (h4 : 4 ≤ s.length) (hl : s.length ≤ 1000000000) (hne : Sp.sealed (s.take (s.length - 4)) ≠ s) :
    Calls Tryz.prog 35 #[str s] w fun e w' => e = .returned (.tuple #[.agg #[.int .u8 0, .int .u8 0, .int .u32 0, .int .u64 0, .int .u32 0, .slice none 0 0], .int .i64 60]) ∧ Below w.heap.size w w' := by
  have HO := Lib.hid fun W => sum_open_bad s W h4 hl hne
  clear hne
  go_enter Tryz.func35, Tryz.ntmps35
  go_wp2_with fail
  refine (HO.out _).mono ?_
  rintro e w1 ⟨rfl, hb1⟩
  have hbx := (Blk.new w 30 #[.int .u8 0, .int .u8 0, .int .u32 0, .int .u64 0, .int .u32 0, .slice none 0 0]).below hb1 (by simp)
  have hbw := ((Below.refl _ w).alloc (Nat.le_refl _) (.cells #[.int .u8 0, .int .u8 0, .int .u32 0, .int .u64 0, .int .u32 0, .slice none 0 0] 30)).trans (hb1.mono (by simp))
  have z0 := hbx.cell 0
  have z1 := hbx.cell 1
  have z2 := hbx.cell 2
  have z3 := hbx.cell 3
  have z4 := hbx.cell 4
  have z5 := hbx.cell 5
  have f0 := hbx.frozen 0
  have f1 := hbx.frozen 1
  have f2 := hbx.frozen 2
  have f3 := hbx.frozen 3
  have f4 := hbx.frozen 4
  have f5 := hbx.frozen 5
  simp only [List.getElem?_toArray, List.getElem?_cons_succ, List.getElem?_cons_zero] at z0 z1 z2 z3 z4 z5
  have HX := Lib.hid hbx
  clear hbx hb1
  go_wp2_with fail
  obtain ⟨W8, hW8, hX8, ht8, hk8⟩ := six_set HX.out (.int .u8 0) (.int .u8 0) (.int .u32 0) (.int .u64 0) (.int .u32 0) (.slice none 0 0)
  rw [hW8]
  have z0 := hX8.cell 0
  have z1 := hX8.cell 1
  have z2 := hX8.cell 2
  have z3 := hX8.cell 3
  have z4 := hX8.cell 4
  have z5 := hX8.cell 5
  simp only [List.getElem?_toArray, List.getElem?_cons_succ, List.getElem?_cons_zero] at z0 z1 z2 z3 z4 z5
  refine bodyPost_ret (v := .tuple #[.agg #[.int .u8 0, .int .u8 0, .int .u32 0, .int .u64 0, .int .u32 0, .slice none 0 0], .int .i64 60]) (by rw [results_cell_tmp rfl]; go_simp) rfl ⟨rfl, hbw.trans (ht8.below hbw.size (fun b hb => by rw [hb]; exact Nat.le_refl _))⟩
end Go.Proofs.YtbpjgdbkmnhnmaaGreat

/- The walks of package disk: none, may, burns. -/
namespace Go.Proofs.YtbpjgdbkmnhnmaaGreat
open Go.RowKit

/-- The struct of a disk. -/
abbrev dkCells (A v : Value) (fuse : Int) : Array Value := #[A, v, .int .i64 fuse]

set_option maxRecDepth 100000 in
set_option maxHeartbeats 2000000 in
theorem disk_none {w : World} {g n c : Nat} {a : Addr} {v : Value} {fuse : Int} (hB : Blk w g 116 (dkCells (.slice (some a) n c) v fuse)) (hn : 1 ≤ n) :
    Calls Tryz.prog 128 #[.pointer (some ⟨g, 0, none⟩)] w fun e w' => e = .returned (.bool false) ∧ w' = w := by
  have c0 := hB.cell 0
  simp only [dkCells, List.getElem?_toArray, List.getElem?_cons_zero] at c0
  have d0 : ((n : Int) == 0) = false := by simp; omega
  have d1 : (n == 0) = false := by simp; omega
  clear hB
  go_enter Tryz.func128, Tryz.ntmps128
  go_wp2_with fail
  go_ret
  exact ⟨by simp_all, rfl⟩

theorem disk_none_nil (w : World) :
    Calls Tryz.prog 128 #[.pointer none] w fun e w' => e = .returned (.bool true) ∧ w' = w := by
  go_enter Tryz.func128, Tryz.ntmps128
  go_wp2_with fail
  go_ret
  exact ⟨rfl, rfl⟩

set_option maxRecDepth 100000 in
set_option maxHeartbeats 2000000 in
theorem disk_may {w : World} {g n c : Nat} {a : Addr} {v : Value} {fuse : Int} (hB : Blk w g 116 (dkCells (.slice (some a) n c) v fuse)) (hn : 1 ≤ n) (hf : fuse ≠ 0) :
    Calls Tryz.prog 106 #[.pointer (some ⟨g, 0, none⟩)] w fun e w' => e = .returned (.int .i64 0) ∧ w' = w := by
  have c2 := hB.cell 2
  simp only [dkCells, List.getElem?_toArray, List.getElem?_cons_succ, List.getElem?_cons_zero] at c2
  have d0 : (fuse == 0) = false := by simpa using hf
  have HN := Lib.hid (disk_none hB hn)
  clear hB
  go_enter Tryz.func106, Tryz.ntmps106
  go_wp2_with fail
  refine HN.out.mono ?_
  rintro e w1 ⟨rfl, rfl⟩
  go_wp2_with fail
  go_ret
  exact ⟨rfl, rfl⟩

set_option maxRecDepth 100000 in
set_option maxHeartbeats 2000000 in
theorem disk_may_down {w : World} {g n c : Nat} {a : Addr} {v : Value} (hB : Blk w g 116 (dkCells (.slice (some a) n c) v 0)) (hn : 1 ≤ n) :
    Calls Tryz.prog 106 #[.pointer (some ⟨g, 0, none⟩)] w fun e w' => e = .returned (.int .i64 40) ∧ w' = w := by
  have c2 := hB.cell 2
  simp only [dkCells, List.getElem?_toArray, List.getElem?_cons_succ, List.getElem?_cons_zero] at c2
  have HN := Lib.hid (disk_none hB hn)
  clear hB
  go_enter Tryz.func106, Tryz.ntmps106
  go_wp2_with fail
  refine HN.out.mono ?_
  rintro e w1 ⟨rfl, rfl⟩
  go_wp2_with fail
  go_ret
  exact ⟨rfl, rfl⟩

set_option maxRecDepth 100000 in
set_option maxHeartbeats 2000000 in
theorem disk_burns {w : World} {g : Nat} {A v : Value} {fuse : Int} (hB : Blk w g 116 (dkCells A v fuse)) (h1 : fuse ≤ 9223372036854775807) :
    Calls Tryz.prog 107 #[.pointer (some ⟨g, 0, none⟩)] w fun e w' => e = .returned (.tuple #[]) ∧
      Blk w' g 116 (dkCells A v (Sp.burn fuse)) ∧ Turns (only g) (only g) w w' := by
  have c2 := hB.cell 2
  have f2 := hB.frozen 2
  simp only [dkCells, List.getElem?_toArray, List.getElem?_cons_succ, List.getElem?_cons_zero] at c2
  have HB := Lib.hid hB
  clear hB
  by_cases hp : 0 < fuse
  · have d0 : decide (0 < fuse) = true := by simpa using hp
    have hw : IntKind.i64.wrap (fuse - 1) = fuse - 1 := IntWalk.i64_in _ (by omega)
    have hbn : Hid (Sp.burn fuse = fuse - 1) := Lib.hid (by simp [Sp.burn, hp])
    go_enter Tryz.func107, Tryz.ntmps107
    go_wp2_with fail
    go_end0
    refine ⟨rfl, ?_, (Turns.refl (only g) w).setCell (p := ⟨g, 2, none⟩) (.inl rfl) _⟩
    rw [hbn.out]
    exact HB.out.set_ 2 (.int .i64 (fuse - 1))
  · have d0 : decide (0 < fuse) = false := by simpa using hp
    have hbn : Hid (Sp.burn fuse = fuse) := Lib.hid (by simp [Sp.burn, hp])
    go_enter Tryz.func107, Tryz.ntmps107
    go_wp2_with fail
    go_end0
    refine ⟨rfl, ?_, Turns.refl (only g) w⟩
    rw [hbn.out]
    exact HB.out
end Go.Proofs.YtbpjgdbkmnhnmaaGreat

/- The walks of package disk: a disk in memory; New, Len. -/
namespace Go.Proofs.YtbpjgdbkmnhnmaaGreat
open Go.RowKit

/-- Sectors as cells. -/
def secs (l : List Sp.Bs) : List Value := (l.map bcs).flatten
/-- Loose writes as cells. -/
def loos (l : List (Nat × Sp.Bs)) : List Value := (l.map fun x => .int .i64 (x.1 : Int) :: bcs x.2).flatten

theorem flatten_length_all {α β : Type} (f : α → List β) (m : Nat) : ∀ (l : List α), (∀ x ∈ l, (f x).length = m) → ((l.map f).flatten).length = l.length * m
  | [], _ => by simp
  | x :: l, h => by
    rw [List.map_cons, List.flatten_cons, List.length_append, h x (by simp), flatten_length_all f m l (fun y hy => h y (by simp [hy])), List.length_cons, Nat.add_mul, Nat.one_mul, Nat.add_comm]

/-- A disk in memory: its struct in block g; F is all its blocks. -/
structure IsDk (F : Foot) (w : World) (g : Nat) (d : Sp.Dk) : Prop where
  wf : d.wf
  fuse : d.fuse ≤ 9223372036854775807
  mem : ∃ a v, Blk w g 116 (dkCells (.slice (some ⟨a, 0, none⟩) d.sure.length d.sure.length) v d.fuse) ∧ Blk w a 155 (secs d.sure).toArray ∧
    w.ownsRow 0 157 129 v d.loose.length (loos d.loose) ∧ ∀ b, F b ↔ b = g ∨ b = a ∨ v.ownBlock = some b

theorem madeCells_all {z : Array Value} {v : Value} {m : Nat} (hz : z = Array.replicate m v) (hm : 0 < m) (n : Nat) : madeCells z n = (List.replicate n v).toArray := by
  subst hz
  unfold madeCells
  apply Array.ext_getElem?
  intro j
  rcases Nat.lt_or_ge j n with hj | hj
  · have hlt := Nat.mod_lt j hm
    simp [hj, hlt]
  · rw [Array.getElem?_eq_none (by simpa using hj)]; simp; omega

theorem secs_zero (n : Nat) : secs (List.replicate n (Sp.zeros 128)) = List.replicate (n * 128) (.int .u8 0) := by
  have hb : bcs (Sp.zeros 128) = List.replicate 128 (.int .u8 0) := by simp [bcs, Sp.zeros]
  induction n with
  | zero => rfl
  | succ n ih =>
    rw [List.replicate_succ, secs, List.map_cons, List.flatten_cons, ← secs, ih, hb, List.replicate_append_replicate, Nat.add_mul, Nat.one_mul, Nat.add_comm]

theorem sec_info : (Tryz.prog.info? 155).map (fun i => (i.zero, i.size, i.bytes)) = some (some (.agg (Array.replicate 128 (.int .u8 0))), 128, 128) := by kernel_rfl

theorem sec_cells : (Value.agg (Array.replicate 128 (.int .u8 0))).cells = Array.replicate 128 (.int .u8 0) := by kernel_rfl

/-- A new disk. -/
def Sp.newDk (n : Nat) : Sp.Dk := ⟨List.replicate n (Sp.zeros 128), [], -1⟩

theorem Sp.newDk_wf {n : Nat} (h1 : 1 ≤ n) (h2 : n ≤ 16384) : (Sp.newDk n).wf :=
  ⟨by simpa [Sp.newDk] using h1, by simpa [Sp.newDk] using h2, fun s hs => by rw [(List.mem_replicate.1 hs).2]; simp [Sp.zeros], fun x hx => by simp [Sp.newDk] at hx⟩

set_option maxRecDepth 100000 in
set_option maxHeartbeats 2000000 in
theorem disk_new (n : Nat) (w : World) (h1 : 1 ≤ n) (h2 : n ≤ 16384) :
    Calls Tryz.prog 28 #[.int .i64 n] w fun e w' => ∃ g F, e = .returned (.tuple #[.pointer (some ⟨g, 0, none⟩), .int .i64 0]) ∧ IsDk F w' g (Sp.newDk n) ∧ Turns noFoot F w w' := by
  obtain ⟨i0, hi, hz0, hz1, hz2⟩ := info_parts sec_info
  have hmk : ∀ W, (Instr.makeSlice 113 (.int .i64 (n : Int)) (.int .i64 (n : Int))).run Tryz.prog W = .ok (.slice (some ⟨W.heap.size, 0, none⟩) n n) (W.alloc (.cells (secs (Sp.newDk n).sure).toArray 155)) := fun W => by
    have := run_make_rowN (P := Tryz.prog) 113 155 i0 (.agg (Array.replicate 128 (.int .u8 0))) Tryz.underlying113 hi hz0 .i64 .i64 n n (Nat.le_refl _) (by rw [hz2]; omega) (by omega) W
    rw [this, hz1, madeCells_all (m := 128) (v := .int .u8 0) sec_cells (by omega), ← secs_zero]
    rfl
  have d1 : decide ((n : Int) < 1) = false := by rw [decide_eq_false_iff_not]; omega
  have d2 : decide ((16384 : Int) < n) = false := by rw [decide_eq_false_iff_not]; omega
  clear hi hz0 hz1 hz2
  go_enter Tryz.func28, Tryz.ntmps28
  go_wp2_with fail
  go_ret2
  have hB := Blk.new (w.alloc (.cells (secs (Sp.newDk n).sure).toArray 155)) 116 (dkCells (.slice (some ⟨w.heap.size, 0, none⟩) n n) (.slice none 0 0) (-1))
  rw [World.size_alloc] at hB
  refine ⟨_, fun b => b = w.heap.size + 1 ∨ b = w.heap.size, rfl, ⟨Sp.newDk_wf h1 h2, by simp [Sp.newDk], w.heap.size, .slice none 0 0, ?_, (Blk.new w _ _).alloc _, World.ownsRow_nil _ _ _ _, ?_⟩, ?_⟩
  · rw [show (Sp.newDk n).sure.length = n by simp [Sp.newDk]]
    exact hB
  · intro b
    simp [Value.ownBlock]
  · have ht := ((Turns.refl noFoot w).alloc (.cells (secs (Sp.newDk n).sure).toArray 155)).alloc (.cells (dkCells (.slice (some ⟨w.heap.size, 0, none⟩) n n) (.slice none 0 0) (-1)) 116)
    exact ⟨ht.os, ht.tape, ht.output, ht.size, ht.block, fun b hb => .inr (by rcases hb with rfl | rfl <;> omega)⟩

theorem IsDk.below {F : Foot} {w w' : World} {g : Nat} {d : Sp.Dk} (h : IsDk F w g d) (hb : Below w.heap.size w w') : IsDk F w' g d := by
  obtain ⟨h1, h2, a, v, h3, h4, h5, h6⟩ := h
  refine ⟨h1, h2, a, v, h3.below hb h3.lt, h4.below hb h4.lt, ?_, h6⟩
  refine h5.kept (row := none) ⟨hb.os, hb.tape, hb.output, hb.size, fun k hk _ => hb.block k hk⟩ ?_
  cases v.ownBlock <;> simp

theorem IsDk.keep {F : Foot} {w w' : World} {g : Nat} {d : Sp.Dk} (h : IsDk F w g d) (hk : ∀ b, F b → w'.heap[b]? = w.heap[b]?) : IsDk F w' g d := by
  obtain ⟨h1, h2, a, v, h3, h4, h5, h6⟩ := h
  refine ⟨h1, h2, a, v, h3.keep (hk g ((h6 g).2 (.inl rfl))), h4.keep (hk a ((h6 a).2 (.inr (.inl rfl)))), ⟨h5.1, ?_⟩, h6⟩
  rcases h5.2 with h | ⟨b, cap, cur, rfl, hb, hh, rest⟩
  · exact .inl h
  · exact .inr ⟨b, cap, cur, rfl, hb, (hk b ((h6 b).2 (.inr (.inr rfl)))).trans hh, rest⟩

theorem IsDk.in_ {F : Foot} {w : World} {g : Nat} {d : Sp.Dk} (h : IsDk F w g d) : ∀ b, F b → b < w.heap.size := by
  obtain ⟨h1, h2, a, v, h3, h4, h5, h6⟩ := h
  intro b hb
  rcases (h6 b).1 hb with rfl | rfl | hb
  · exact h3.lt
  · exact h4.lt
  · exact (h5.lt b hb).2

set_option maxRecDepth 100000 in
set_option maxHeartbeats 2000000 in
theorem disk_len {F : Foot} {w : World} {g : Nat} {d : Sp.Dk} (h : IsDk F w g d) :
    Calls Tryz.prog 80 #[.pointer (some ⟨g, 0, none⟩)] w fun e w' => e = .returned (.int .i64 d.sure.length) ∧ w' = w := by
  obtain ⟨h1, h2, a, v, h3, h4, h5, h6⟩ := h
  have c0 := h3.cell 0
  simp only [dkCells, List.getElem?_toArray, List.getElem?_cons_zero] at c0
  have HN := Lib.hid (disk_none h3 h1.some_)
  clear h1 h2 h3 h4 h5 h6
  go_enter Tryz.func80, Tryz.ntmps80
  go_wp2_with fail
  refine HN.out.mono ?_
  rintro e w1 ⟨rfl, rfl⟩
  go_wp2_with fail
  go_ret
  exact ⟨rfl, rfl⟩
end Go.Proofs.YtbpjgdbkmnhnmaaGreat
