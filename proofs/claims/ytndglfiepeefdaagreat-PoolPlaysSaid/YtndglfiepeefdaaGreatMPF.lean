/- The document's pool: Write. -/
import Derived.Test.YtndglfiepeefdaaGreatMPE
import Derived.Deep.DeepCutAuto
import Derived.Deep.CutBlock
import Derived.Test.YtndglfiepeefdaaGreatMPA
import Derived.Ground.SlgnProg
import Derived.Shelf.SlicesE.Clone
import Derived.Test.YtndglfiepeefdaaGreatProg
import Derived.Test.YtndglfiepeefdaaGreatMPD
import Derived.Test.YtndglfiepeefdaaGreatMPB
import Derived.Laws.AppendOwnNone

namespace Go.Proofs.YtndglfiepeefdaaGreat
open Go.RowKit Go.Conc

namespace Sp
def lsnStep (L : List RI) (m id : Nat) : Nat := match getR? L id with
  | some x => if x.dirty then max m x.page.lsn else m
  | none => m
theorem lsnOf_snoc (L : List RI) (q : List Nat) (n : Nat) : lsnOf L (q ++ [n]) = lsnStep L (lsnOf L q) n := by
  unfold lsnOf
  rw [List.foldl_append]
  rfl
theorem lsnOf_take {L : List RI} {q : List Nat} {i : Nat} (hi : i < q.length) {x : RI} (hx : getR? L q[i] = some x) : lsnOf L (q.take (i + 1)) = if x.dirty then max (lsnOf L (q.take i)) x.page.lsn else lsnOf L (q.take i) := by
  rw [List.take_succ_eq_append_getElem hi, lsnOf_snoc]
  unfold lsnStep
  rw [hx]
def cntD (L : List RI) (q : List Nat) : Nat := q.countP (isDirty L)
theorem cntD_take {L : List RI} {q : List Nat} {i : Nat} (hi : i < q.length) {x : RI} (hx : getR? L q[i] = some x) : cntD L (q.take (i + 1)) = if x.dirty then cntD L (q.take i) + 1 else cntD L (q.take i) := by
  unfold cntD
  rw [List.take_succ_eq_append_getElem hi, List.countP_append]
  have e : isDirty L q[i] = x.dirty := by unfold isDirty; rw [hx]
  rw [List.countP_singleton, e]
  cases x.dirty <;> rfl
theorem cntD_zero {L : List RI} {q : List Nat} : cntD L q = 0 ↔ q.all (fun id => !isDirty L id) = true := by
  unfold cntD
  rw [List.countP_eq_zero, List.all_eq_true]
  constructor
  · intro h x hx
    have := h x hx
    simpa using this
  · intro h x hx
    have := h x hx
    simpa using this
end Sp

def riZ : Array Value := #[.int .u8 0, .int .u8 0, .int .u32 0, .int .u64 0, .int .u32 0, .slice none 0 0, .int .i64 0, .bool false, .int .u64 0]
theorem pgr_size : (Tryz.prog.info? 32).map (·.size) = some 6 := by kernel_rfl
theorem riZ_part (x : Sp.RI) (A : Option Addr) (c : Nat) : partRow riZ 0 (riCells x A c) = (riCells x A c).toArray := by simp [partRow, riZ, riCells]

section
variable {B gr : Nat} {G : Foot} {w : World} {vL vD : Value} {s : Sp.R15}
set_option maxRecDepth 100000 in
set_option maxHeartbeats 8000000 in
theorem ref_write (h : RfAt B G w gr vL vD s) {G1 : Foot} {A0 : Option Addr} {c0 : Nat} {q : List Nat} (hR0 : Reads G1 w 1 A0 q.length (q.map u32v)) (hG1 : Apart w (rfO gr vL vD) G1) (hq : ∀ n ∈ q, Sp.hasR s.L n = true) (hql : q.length ≤ 100000) (hls : ∀ x ∈ s.L, x.page.lsn < 18446744073709551616)
    (hin : ∀ x ∈ s.L, 1 ≤ x.page.id ∧ x.page.id ≤ s.top) :
    Calls Tryz.prog 96 #[ptr gr, .slice A0 q.length c0] w fun e w' => e = .returned (.int .i64 (s.write q).1) ∧ RfAt B G w' gr vL vD (s.write q).2 ∧ Turns (rfO gr vL vD) (rfO gr vL vD) w w' := by
  obtain ⟨r, hr⟩ : ∃ r, r = s.write q := ⟨_, rfl⟩
  rw [← hr]
  have HE := Lib.hid hr
  obtain ⟨gD, cD, rfl, _⟩ := h.disk
  have H := Lib.hid h
  have HR0 := Lib.hid hR0
  have HQ := Lib.hid hq
  have HA1 := Lib.hid hG1
  have HIN := Lib.hid hin
  have HLS := Lib.hid hls
  clear hr h hR0 hq hG1 hin hls
  go_enter Tryz.func96, Tryz.ntmps96
  go_wp2_with fail
  go_loopw [5, 6, 7] (fun v5 v6 v7 wr => ∃ i : Nat, i ≤ q.length ∧ v5 = .int .u64 (Sp.lsnOf s.L (q.take i) : Nat) ∧ v6 = .int .i64 (Sp.cntD s.L (q.take i) : Nat) ∧ v7 = .int .i64 i ∧ Below w.heap.size w wr) (fun _ _ v7 _ => q.length - (intOf v7).toNat)
  case atStart => exact ⟨0, by omega, rfl, rfl, rfl, Below.refl _ _⟩
  case round =>
    obtain ⟨i, hi, rfl, rfl, rfl, hbr⟩ := hrel
    by_cases hlt : i < q.length
    · obtain ⟨b, o, u, rfl, hGb, hbw, hu, hcell⟩ := (Reads.below HR0.out hbr).at_ hlt
      have hu' : u = u32v q[i] := by
        rw [List.getElem?_map, List.getElem?_eq_getElem hlt] at hu
        injection hu with hu
        exact hu.symm
      subst hu'
      have h1 := H.out.below hbr
      rcases Sp.at_cases s q[i] with ⟨_, _, hno⟩ | ⟨k, hk, hat, hid, hget, _⟩
      · rw [HQ.out q[i] (List.getElem_mem hlt)] at hno; cases hno
      · obtain ⟨g, c, A, c', rfl, hA, hR, hc⟩ := h1.item hk
        have hlsn := Sp.lsnOf_take hlt hget
        have hcnt := Sp.cntD_take hlt hget
        obtain ⟨x, hx⟩ : ∃ x, x = s.L[k] := ⟨_, rfl⟩
        rw [← hx] at hlsn hcnt hc hR hid hget
        have hSS : ∀ W, Below wr.heap.size wr W → W.cell? ⟨gr, 1, none⟩ = some (.slice (some ⟨g, 0, none⟩) s.L.length c) ∧ W.cell? ⟨b, o + i, none⟩ = some (u32v q[i]) ∧ W.cell? ⟨g, k * 9, none⟩ = some (.int .u8 x.page.kind) ∧ W.cell? ⟨g, k * 9 + 1, none⟩ = some (.int .u8 x.page.level) ∧ W.cell? ⟨g, k * 9 + 2, none⟩ = some (.int .u32 x.page.id) ∧ W.cell? ⟨g, k * 9 + 3, none⟩ = some (.int .u64 x.page.lsn) ∧ W.cell? ⟨g, k * 9 + 4, none⟩ = some (.int .u32 x.page.next) ∧ W.cell? ⟨g, k * 9 + 5, none⟩ = some (.slice A x.page.rows.length c') ∧ W.cell? ⟨g, k * 9 + 6, none⟩ = some (.int .i64 x.pins) ∧ W.cell? ⟨g, k * 9 + 7, none⟩ = some (.bool x.dirty) ∧ W.cell? ⟨g, k * 9 + 8, none⟩ = some (.int .u64 x.from_) := fun W hb => by
          have hw := (h1.below hb)
          have c1 := hw.blk.cell 1
          have hgg : g < wr.heap.size := World.block_lt_of_cell? wr _ ((hc 0 (by omega)).trans rfl)
          have hk9 : ∀ j, j < 9 → W.cell? ⟨g, k * 9 + j, none⟩ = (riCells x A c')[j]? := fun j hj => (hb.cell (p := ⟨g, k * 9 + j, none⟩) hgg).trans (hc j hj)
          exact ⟨c1, (hb.cell (p := ⟨b, o + i, none⟩) hbw).trans hcell, hk9 0 (by omega), hk9 1 (by omega), hk9 2 (by omega), hk9 3 (by omega), hk9 4 (by omega), hk9 5 (by omega), hk9 6 (by omega), hk9 7 (by omega), hk9 8 (by omega)⟩
        have HSS := Lib.hid hSS
        have HATW := Lib.hid fun (W : World) (hb : Below wr.heap.size wr W) => ref_at (h1.below hb) q[i]
        rw [hat] at HATW
        have hmeas : i + 1 ≤ q.length := hlt
        clear hSS h1 hc hR hat hget hx hA hid
        go_wp2_with fail
        go_cut [8] from 12 to 38 (fun v wy => ∃ gx, v = ptr gx ∧ Blk wy gx 98 (riCells x A c').toArray ∧ Below wr.heap.size wr wy)
        case first =>
          have hb0 : Below wr.heap.size wr wr.drew := (Below.refl wr.heap.size wr).drew
          have hS0 := Lib.hid (HSS.out wr.drew hb0)
          refine R_begin (fun (W : World) => W.cell? ⟨gr, 1, none⟩ = some (.slice (some ⟨g, 0, none⟩) s.L.length c) ∧ W.cell? ⟨b, o + i, none⟩ = some (u32v q[i]) ∧ W.cell? ⟨g, k * 9, none⟩ = some (.int .u8 x.page.kind) ∧ W.cell? ⟨g, k * 9 + 1, none⟩ = some (.int .u8 x.page.level) ∧ W.cell? ⟨g, k * 9 + 2, none⟩ = some (.int .u32 x.page.id) ∧ W.cell? ⟨g, k * 9 + 3, none⟩ = some (.int .u64 x.page.lsn) ∧ W.cell? ⟨g, k * 9 + 4, none⟩ = some (.int .u32 x.page.next) ∧ W.cell? ⟨g, k * 9 + 5, none⟩ = some (.slice A x.page.rows.length c') ∧ W.cell? ⟨g, k * 9 + 6, none⟩ = some (.int .i64 x.pins) ∧ W.cell? ⟨g, k * 9 + 7, none⟩ = some (.bool x.dirty) ∧ W.cell? ⟨g, k * 9 + 8, none⟩ = some (.int .u64 x.from_)) (fun j => decide (13 ≤ j)) rfl ?_
          refine R_tt 0 18 hS0.out ?_
          simp only [zSA, zSB, zSC]
          refine R_tt 1 19 hS0.out ?_
          simp only [zSA, zSB, zSC]
          refine R_tt 2 20 hS0.out ?_
          simp only [zSA, zSB, zSC]
          refine R_tt 3 21 hS0.out ?_
          simp only [zSA, zSB, zSC]
          refine R_tt 4 22 hS0.out ?_
          simp only [zSA, zSB, zSC]
          refine R_tt 5 23 hS0.out ?_
          simp only [zSA, zSB, zSC]
          refine R_tt 6 24 hS0.out ?_
          simp only [zSA, zSB, zSC]
          refine R_tt 7 25 hS0.out ?_
          simp only [zSA, zSB, zSC]
          refine R_tt 8 26 hS0.out ?_
          simp only [zSA, zSB, zSC]
          refine R_all (rs := [9, 12]) (by kernel_rfl) (by simp) (fun i hi => ?_)
          simp only [List.mem_cons, List.not_mem_nil, or_false] at hi
          rcases hi with rfl | rfl
          · skip
            refine op_call 27 (w' := wr.drew) rfl rfl (by rfl) ?_ (HATW.out wr.drew hb0) ?_
            · go_simp
            rintro e v1 ⟨rfl, hc1⟩
            have hb1 := hb0.trans (hc1.mono hb0.size)
            have hS1 := Lib.hid (HSS.out v1 hb1)
            refine ⟨_, rfl, fun _ => hS1.out, ?_⟩
            simp only [zSA, zSB, zSC]
            refine R_tt 10 28 hS1.out ?_
            simp only [zSA, zSB, zSC]
            refine R_tt 11 29 hS1.out ?_
            simp only [zSA, zSB, zSC]
            have hc2 := (Below.refl v1.heap.size v1).alloc (Nat.le_refl _) (.cells riZ 98)
            have hb2 := hb1.trans (hc2.mono hb1.size)
            have hn2 := Blk.new v1 98 riZ
            have hg2 : wr.heap.size ≤ v1.heap.size := hb1.size
            have hS2 := Lib.hid (HSS.out _ hb2)
            refine R_run 12 8 (v := ptr v1.heap.size) (w' := (v1.alloc (.cells riZ 98))) rfl rfl (by rfl) (by kernel_rfl) ?_ (fun _ => hS2.out) ?_
            · first | (go_simp; done) | (go_simp; rfl)
            simp only [zSA, zSB, zSC]
            refine R_store 13 (n := .skip) (w' := ((v1.alloc (.cells riZ 98)).setRow v1.heap.size (partRow riZ 0 (riCells x A c')))) rfl rfl (by rfl) (by kernel_rfl) (run_op_store _ _ _ ⟨v1.heap.size, 0, none⟩ _ rfl rfl rfl (run_storeVar_part _ _ 0 _ _ riZ (riCells x A c').toArray hn2 item_size (by show 0 + 9 ≤ 9; omega) (by simp [riCells, Value.oneCell']))) (.inl rfl) (fun h => nomatch h) ?_
            refine R_done (by kernel_rfl) ?_ _
            rename_i K9 hK9
            refine hK9 _ _ ?_
            clear hK9
            go_meet
            case rel => exact ⟨v1.heap.size, rfl, by rw [← riZ_part]; exact hn2.setRow _, below_setRow hb2 hg2 _⟩
          · skip
            have hc1 := (Below.refl wr.drew.heap.size wr.drew).alloc (Nat.le_refl _) (.cells riZ 98)
            have hb1 := hb0.trans (hc1.mono hb0.size)
            have hn1 := Blk.new wr.drew 98 riZ
            have hg1 : wr.heap.size ≤ wr.drew.heap.size := hb0.size
            have hS1 := Lib.hid (HSS.out _ hb1)
            refine op_run 8 (v := ptr wr.drew.heap.size) (w' := (wr.drew.alloc (.cells riZ 98))) rfl rfl (by rfl) ?_ ⟨fun _ => hS1.out, ?_⟩
            · first | (go_simp; done) | (go_simp; rfl)
            simp only [zSA, zSB, zSC]
            refine R_call 9 27 (w' := (wr.drew.alloc (.cells riZ 98))) rfl rfl (by rfl) (by kernel_rfl) ?_ (HATW.out (wr.drew.alloc (.cells riZ 98)) hb1) ?_
            · go_simp
            rintro e v2 ⟨rfl, hc2⟩
            have hb2 := hb1.trans (hc2.mono hb1.size)
            have hS2 := Lib.hid (HSS.out v2 hb2)
            refine ⟨_, rfl, fun _ => hS2.out, ?_⟩
            simp only [zSA, zSB, zSC]
            have hn2 := hn1.below hc2 hn1.lt
            refine R_tt 10 28 hS2.out ?_
            simp only [zSA, zSB, zSC]
            refine R_tt 11 29 hS2.out ?_
            simp only [zSA, zSB, zSC]
            refine R_store 13 (n := .skip) (w' := (v2.setRow wr.drew.heap.size (partRow riZ 0 (riCells x A c')))) rfl rfl (by rfl) (by kernel_rfl) (run_op_store _ _ _ ⟨wr.drew.heap.size, 0, none⟩ _ rfl rfl rfl (run_storeVar_part _ _ 0 _ _ riZ (riCells x A c').toArray hn2 item_size (by show 0 + 9 ≤ 9; omega) (by simp [riCells, Value.oneCell']))) (.inl rfl) (fun h => nomatch h) ?_
            refine R_done (by kernel_rfl) ?_ _
            rename_i K9 hK9
            refine hK9 _ _ ?_
            clear hK9
            go_meet
            case rel => exact ⟨wr.drew.heap.size, rfl, by rw [← riZ_part]; exact hn2.setRow _, below_setRow hb2 hg1 _⟩
        case rest =>
          rename_i K9 hK9
          refine hK9 _ _ ?_
          clear hK9 HSS HATW
          obtain ⟨gx, rfl, hX, hby⟩ := hcut
          have x7 := hX.cell 7
          have x3 := hX.cell 3
          simp only [riCells, zGA, zGB, zGC] at x7 x3
          have hbz := hbr.trans (hby.mono hbr.size)
          clear hX hby
          cases hd : x.dirty with
          | false =>
            rw [hd] at x7
            rw [hd, if_neg (by decide)] at hlsn hcnt
            go_wp2_with fail
            go_roundw
            case rel => exact ⟨i + 1, hmeas, by rw [hlsn], by rw [hcnt], by go_num, hbz⟩
            case measure => simp [intOf]; omega
          | true =>
            rw [hd] at x7
            rw [hd, if_pos rfl] at hlsn hcnt
            generalize hl0 : Sp.lsnOf s.L (q.take i) = l0 at *
            have hcb : Sp.cntD s.L (q.take i) ≤ 100000 := by
              have h1 : Sp.cntD s.L (q.take i) ≤ (q.take i).length := List.countP_le_length
              have h2 : (q.take i).length ≤ q.length := by rw [List.length_take]; omega
              omega
            generalize hc0 : Sp.cntD s.L (q.take i) = n0 at *
            generalize x.page.lsn = l1 at *
            go_wp2_with fail
            go_roundw
            case rel => exact ⟨i + 1, hmeas, by rw [hlsn]; congr 1; rw [Nat.max_def, Int.max_def]; split <;> split <;> omega, by rw [hcnt]; go_num, by go_num, hbz⟩
            case measure => simp [intOf]; omega
    · obtain rfl : i = q.length := by omega
      rw [List.take_length]
      have h1 := H.out.below hbr
      have c3 := h1.blk.cell 3
      have c4 := h1.blk.cell 4
      simp only [zGA, zGB, zGC] at c3 c4
      have H1 := Lib.hid h1
      clear h1 hlt hi
      by_cases h0 : Sp.cntD s.L q = 0
      · have e1 : s.write q = (0, s) := by unfold Sp.R15.write; rw [if_pos (Sp.cntD_zero.1 h0)]
        rw [h0]
        go_wp2_with fail
        go_ret
        rw [HE.out, e1]
        exact ⟨rfl, H1.out, Turns.of_below hbr _⟩
      · have hall : q.all (fun id => !Sp.isDirty s.L id) = false := by
          cases hh : q.all (fun id => !Sp.isDirty s.L id) with
          | false => rfl
          | true => exact absurd (Sp.cntD_zero.2 hh) h0
        generalize Sp.cntD s.L q = n0 at *
        have d0 : ((n0 : Int) == 0) = false := by rw [beq_eq_false_iff_ne]; omega
        have d1 : ¬ (n0 : Int) = 0 := by omega
        by_cases h2 : s.next < Sp.lsnOf s.L q
        · have e1 : s.write q = (2, s) := by unfold Sp.R15.write; rw [if_neg (by rw [hall]; decide), if_pos h2]
          generalize Sp.lsnOf s.L q = l0 at *
          have d2 : decide ((s.next : Int) < (l0 : Int)) = true := by rw [decide_eq_true_iff]; omega
          have d3 : (s.next : Int) < (l0 : Int) := by omega
          go_wp2_with fail
          go_ret
          rw [HE.out, e1]
          exact ⟨rfl, H1.out, Turns.of_below hbr _⟩
        · have hw := Sp.write_wrt hall (by omega)
          generalize Sp.lsnOf s.L q = l0 at *
          obtain ⟨F, hF⟩ : ∃ F, F = if s.forced ≤ l0 then s.next else s.forced := ⟨_, rfl⟩
          rw [← hF, ← HE.out] at hw
          have HW := Lib.hid hw
          have HFF := Lib.hid hF
          have d2 : decide ((s.next : Int) < (l0 : Int)) = false := by rw [decide_eq_false_iff_not]; omega
          have d3 : ¬ (s.next : Int) < (l0 : Int) := by omega
          clear HE hw hF h0 hall
          go_upto_if 52 with fail
          go_cut [5] (fun v wy => v = .int .u64 l0 ∧ RfAt B G wy gr vL (.slice (some ⟨gD, 0, none⟩) (s.top + 1) cD) (s.wrt F []) ∧ Turns (rfO gr vL (.slice (some ⟨gD, 0, none⟩) (s.top + 1) cD)) (rfO gr vL (.slice (some ⟨gD, 0, none⟩) (s.top + 1) cD)) w wy)
          case first =>
            by_cases hf : s.forced ≤ l0
            · have d4 : decide ((s.forced : Int) ≤ (l0 : Int)) = true := by rw [decide_eq_true_iff]; omega
              have d5 : (s.forced : Int) ≤ (l0 : Int) := by omega
              have f3 := H1.out.blk.frozen 3
              go_wp2_with fail
              go_meet
              case rel =>
                refine ⟨rfl, ?_, (Turns.of_below hbr _).setCell (p := ⟨gr, 3, none⟩) (.inl (.inl rfl)) _⟩
                rw [Sp.wrt_nil', HFF.out, if_pos hf]
                exact H1.out.setForced s.next
            · have d4 : decide ((s.forced : Int) ≤ (l0 : Int)) = false := by rw [decide_eq_false_iff_not]; omega
              have d5 : ¬ (s.forced : Int) ≤ (l0 : Int) := by omega
              go_wp2_with fail
              go_meet
              case rel =>
                refine ⟨rfl, ?_, Turns.of_below hbr _⟩
                rw [Sp.wrt_nil', HFF.out, if_neg hf]
                exact H1.out
          case rest =>
            rename_i K9 hK9
            refine hK9 _ _ ?_
            obtain ⟨rfl, h3, ht3⟩ := hcut
            clear hK9 H1 HFF c3 c4 d0 d1 d2 d3 h2 hbr
            have HS3 := Lib.hid (show RfAt B G _ gr vL _ (s.wrt F []) ∧ _ from ⟨h3, ht3⟩)
            clear h3 ht3
            go_wp2_with fail
            go_loopw [9] (fun v9 wr => ∃ i : Nat, i ≤ q.length ∧ v9 = .int .i64 i ∧ RfAt B G wr gr vL (.slice (some ⟨gD, 0, none⟩) (s.top + 1) cD) (s.wrt F (q.take i)) ∧ Turns (rfO gr vL (.slice (some ⟨gD, 0, none⟩) (s.top + 1) cD)) (rfO gr vL (.slice (some ⟨gD, 0, none⟩) (s.top + 1) cD)) w wr) (fun v9 _ => q.length - (intOf v9).toNat)
            case atStart => exact ⟨0, by omega, rfl, by rw [List.take_zero]; exact HS3.out.1, HS3.out.2⟩
            case round =>
              clear HS3
              obtain ⟨i, hi, rfl, h1, ht1⟩ := hrel
              by_cases hlt : i < q.length
              · obtain ⟨b, o, u, rfl, hGb, hbw, hu, hcell⟩ := (Reads.turns HR0.out ht1 HA1.out).at_ hlt
                have hu' : u = u32v q[i] := by
                  rw [List.getElem?_map, List.getElem?_eq_getElem hlt] at hu
                  injection hu with hu
                  exact hu.symm
                subst hu'
                have hsn := Sp.wrt_snoc (s := s) H.out.nd F (q.take i) q[i]
                rw [← List.take_succ_eq_append_getElem hlt] at hsn
                have hhas : Sp.hasR (s.wrt F (q.take i)).L q[i] = true := by rw [Sp.wrt_has]; exact HQ.out q[i] (List.getElem_mem hlt)
                have hin1 : ∀ x ∈ (s.wrt F (q.take i)).L, 1 ≤ x.page.id ∧ x.page.id ≤ s.top := fun x hx => by
                  obtain ⟨y, hy, rfl⟩ := List.mem_map.1 hx
                  rw [Sp.cleaned_id]
                  exact HIN.out y hy
                have htop : (s.wrt F (q.take i)).top = s.top := rfl
                have hmeas : i + 1 ≤ q.length := hlt
                obtain ⟨s1, hs1⟩ : ∃ s1, s1 = s.wrt F (q.take i) := ⟨_, rfl⟩
                rw [← hs1] at h1 hsn hhas hin1 htop
                rcases Sp.at_cases s1 q[i] with ⟨_, _, hno⟩ | ⟨k, hk, hat, hid, hget, _⟩
                · rw [hhas] at hno; cases hno
                · have HAT := Lib.hid (ref_at h1 q[i])
                  rw [hat] at HAT
                  have hw1 : s1.w1 q[i] = if s1.L[k].dirty = true then { s1 with L := s1.L.set k { s1.L[k] with dirty := false, from_ := 0 }, disk := fun m => if m = q[i] then s1.L[k].page else s1.disk m } else s1 := by
                    unfold Sp.R15.w1
                    rw [hget]
                    have hset := Sp.upR_set h1.nd hk (f := fun y => { y with dirty := false, from_ := 0 })
                    rw [hid] at hset
                    rw [hset]
                  rw [hw1] at hsn
                  have HSN := Lib.hid hsn
                  have H1 := Lib.hid h1
                  have HT1 := Lib.hid ht1
                  have hink := hin1 s1.L[k] (List.getElem_mem hk)
                  rw [hid] at hink
                  have hds : decide ((k : Int) < 0) = false := by rw [decide_eq_false_iff_not]; omega
                  clear hs1 h1 hsn hhas hin1 hat hget hw1 ht1 hi hu
                  go_wp2_with fail
                  refine HAT.out.mono ?_
                  rintro e w2 ⟨rfl, hb2⟩
                  have h2 := H1.out.below hb2
                  obtain ⟨g, c, A, c', rfl, hA, hR, hc⟩ := h2.item hk
                  have c1 := h2.blk.cell 1
                  have c2 := h2.blk.cell 2
                  simp only [zGA, zGB, zGC] at c1 c2
                  have HT2 := Lib.hid (HT1.out.trans (Turns.of_below hb2 _))
                  have HR := Lib.hid hR
                  have H2 := Lib.hid h2
                  have k0 := hc 0 (by omega)
                  have k1 := hc 1 (by omega)
                  have k2 := hc 2 (by omega)
                  have k3 := hc 3 (by omega)
                  have k4 := hc 4 (by omega)
                  have k5 := hc 5 (by omega)
                  have k6 := hc 6 (by omega)
                  have k7 := hc 7 (by omega)
                  have k8 := hc 8 (by omega)
                  simp only [riCells, List.getElem?_cons_succ, List.getElem?_cons_zero, Nat.add_zero] at k0 k1 k2 k3 k4 k5 k6 k7 k8
                  clear hc hR h2 HAT HT1 H1 hb2
                  cases hd : s1.L[k].dirty with
                  | false =>
                    rw [hd] at k7
                    have hsn2 := HSN.out
                    rw [hd, if_neg (by decide)] at hsn2
                    have HSN2 := Lib.hid hsn2
                    clear hsn2
                    go_wp2_with fail
                    go_roundw
                    case rel =>
                      refine ⟨i + 1, hmeas, by go_num, ?_, HT2.out.trans (Turns.of_below ((Below.refl _ _).alloc (Nat.le_refl _) _) _)⟩
                      rw [HSN2.out]
                      exact H2.out.below ((Below.refl _ _).alloc (Nat.le_refl _) _)
                    case measure => simp [intOf]; omega
                  | true =>
                    rw [hd] at k7
                    have hsn2 := HSN.out
                    rw [hd, if_pos rfl] at hsn2
                    have HSN2 := Lib.hid hsn2
                    clear hsn2 HSN
                    go_wp2_with fail
                    have hgx : ¬ (rfO gr (.slice (some ⟨g, 0, none⟩) s1.L.length c) (.slice (some ⟨gD, 0, none⟩) (s.top + 1) cD) w2.heap.size ∨ G w2.heap.size) := fun e => by have := H2.out.lt e; omega
                    have hgxw : w.heap.size ≤ w2.heap.size := HT2.out.size
                    obtain ⟨x, hxx⟩ : ∃ x, x = s1.L[k] := ⟨_, rfl⟩
                    rw [← hxx] at k0 k1 k2 k3 k4 k5 k6 k8 hd HSN2 HR hid ⊢
                    obtain ⟨x', hx'⟩ : ∃ x' : Sp.RI, x' = { x with dirty := false, from_ := 0 } := ⟨_, rfl⟩
                    rw [← hx'] at HSN2
                    have ecs : (riCells x A c').toArray = #[.int .u8 x.page.kind, .int .u8 x.page.level, .int .u32 q[i], .int .u64 x.page.lsn, .int .u32 x.page.next, .slice A x.page.rows.length c', .int .i64 x.pins, .bool true, .int .u64 x.from_] := by simp only [riCells, hd, hid]
                    generalize hw3 : World.alloc w2 _ = w3
                    have hb23 : Below w2.heap.size w2 w3 := by rw [← hw3]; exact (Below.refl _ _).alloc (Nat.le_refl _) _
                    have hX : Blk w3 w2.heap.size 98 (riCells x A c').toArray := by rw [ecs, ← hw3]; exact Blk.new _ _ _
                    have hbd : Below w2.heap.size w2 w3.drew := hb23.trans ((Below.refl w3.heap.size w3).drew.mono hb23.size)
                    have h3 := H2.out.below hbd
                    rw [show s.top = s1.top from htop.symm] at h3
                    have hRx : RowsAt G w3.drew A x.page.rows := Reads.below HR.out hbd
                    obtain ⟨curD, hBD, hszD, hsetD⟩ := h3.setD (q := q[i]) hink.1 (by rw [htop]; exact hink.2) (c' := c') hA hRx
                    have c2 := h3.blk.cell 2
                    simp only [zGA, zGB, zGC] at c2
                    have z0 := hX.drew.cell 0
                    have z1 := hX.drew.cell 1
                    have z2 := hX.drew.cell 2
                    have z3 := hX.drew.cell 3
                    have z4 := hX.drew.cell 4
                    have z5 := hX.drew.cell 5
                    simp only [riCells, zGA, zGB, zGC] at z0 z1 z2 z3 z4 z5
                    rw [hid] at z2
                    have hS : Hid (w3.drew.cell? ⟨gr, 2, none⟩ = some (.slice (some ⟨gD, 0, none⟩) (s1.top + 1) cD) ∧ w3.drew.cell? ⟨w2.heap.size, 0, none⟩ = some (.int .u8 x.page.kind) ∧ w3.drew.cell? ⟨w2.heap.size, 1, none⟩ = some (.int .u8 x.page.level) ∧ w3.drew.cell? ⟨w2.heap.size, 2, none⟩ = some (.int .u32 q[i]) ∧ w3.drew.cell? ⟨w2.heap.size, 3, none⟩ = some (.int .u64 x.page.lsn) ∧ w3.drew.cell? ⟨w2.heap.size, 4, none⟩ = some (.int .u32 x.page.next) ∧ w3.drew.cell? ⟨w2.heap.size, 5, none⟩ = some (.slice A x.page.rows.length c')) := ⟨c2, z0, z1, z2, z3, z4, z5⟩
                    have hne : w2.heap.size ≠ gD := fun e => hgx (.inl (.inr (.inr (by rw [e]; rfl))))
                    have epg : (pgCs x.page A c') = #[.int .u8 x.page.kind, .int .u8 x.page.level, .int .u32 q[i], .int .u64 x.page.lsn, .int .u32 x.page.next, .slice A x.page.rows.length c'] := by rw [← hid]
                    have HBD : Hid (Blk w3.drew gD 32 curD) := hBD
                    have H4 : Hid (RfAt B G (w3.drew.setRow gD (partRow curD (q[i] * 6) (pgCs x.page A c').toList)) gr (.slice (some ⟨g, 0, none⟩) s1.L.length c) (.slice (some ⟨gD, 0, none⟩) (s1.top + 1) cD) { s1 with disk := fun n => if n = q[i] then x.page else s1.disk n }) := hsetD
                    have HX4 : Hid (Blk (w3.drew.setRow gD (partRow curD (q[i] * 6) (pgCs x.page A c').toList)) w2.heap.size 98 (riCells x A c').toArray) := hX.drew.keep (heap_setRow_other _ _ _ _ hne)
                    have HT4 : Hid (Turns (rfO gr (.slice (some ⟨g, 0, none⟩) s1.L.length c) (.slice (some ⟨gD, 0, none⟩) (s.top + 1) cD)) (rfO gr (.slice (some ⟨g, 0, none⟩) s1.L.length c) (.slice (some ⟨gD, 0, none⟩) (s.top + 1) cD)) w (w3.drew.setRow gD (partRow curD (q[i] * 6) (pgCs x.page A c').toList))) := (HT2.out.trans (Turns.of_below hbd _)).setRow (g := gD) (.inl (.inr (.inr rfl))) _
                    have HR4 : Hid (RowsAt G (w3.drew.setRow gD (partRow curD (q[i] * 6) (pgCs x.page A c').toList)) A x.page.rows) := hRx.keep (Nat.le_of_eq (by simp [World.setRow])) (fun b hb => heap_setRow_other _ _ _ _ (fun e => (h3.g b hb).2.2.2 (by rw [e]; rfl)))
                    have hq7 : (q[i] : Int) < (s.top : Int) + 1 := by have := hink.2; omega
                    have HGX := Lib.hid hgx
                    clear k0 k1 k2 k3 k4 k5 k6 k7 k8 c1 c2 hw3 hX hb23 hbd h3 hsetD hBD z0 z1 z2 z3 z4 z5 HR H2 HT2 hgx hRx ecs
                    generalize w2.heap.size = gx at *
                    refine R_begin (fun (W : World) => W.cell? ⟨gr, 2, none⟩ = some (.slice (some ⟨gD, 0, none⟩) (s1.top + 1) cD) ∧ W.cell? ⟨gx, 0, none⟩ = some (.int .u8 x.page.kind) ∧ W.cell? ⟨gx, 1, none⟩ = some (.int .u8 x.page.level) ∧ W.cell? ⟨gx, 2, none⟩ = some (.int .u32 q[i]) ∧ W.cell? ⟨gx, 3, none⟩ = some (.int .u64 x.page.lsn) ∧ W.cell? ⟨gx, 4, none⟩ = some (.int .u32 x.page.next) ∧ W.cell? ⟨gx, 5, none⟩ = some (.slice A x.page.rows.length c')) (fun j => decide (10 ≤ j)) rfl ?_
                    refine R_tt 0 81 hS.out ?_
                    simp only [zSA, zSB, zSC]
                    refine R_tt 1 82 hS.out ?_
                    simp only [zSA, zSB, zSC]
                    refine R_tt 2 83 hS.out ?_
                    simp only [zSA, zSB, zSC]
                    refine R_tt 3 84 hS.out ?_
                    simp only [zSA, zSB, zSC]
                    refine R_tt 4 85 hS.out ?_
                    simp only [zSA, zSB, zSC]
                    refine R_tt 5 86 hS.out ?_
                    simp only [zSA, zSB, zSC]
                    refine R_tt 6 87 hS.out ?_
                    simp only [zSA, zSB, zSC]
                    refine R_tt 7 88 hS.out ?_
                    simp only [zSA, zSB, zSC]
                    refine R_tt (v := .agg #[.int .u8 x.page.kind, .int .u8 x.page.level, .int .u32 q[i], .int .u64 x.page.lsn, .int .u32 x.page.next, .slice A x.page.rows.length c']) 8 89 hS.out ?_
                    simp only [zSA, zSB, zSC]
                    refine R_tt 9 90 hS.out ?_
                    simp only [zSA, zSB, zSC]
                    refine R_store 10 (n := .skip) (w' := w3.drew.setRow gD (partRow curD (q[i] * 6) (pgCs x.page A c').toList)) rfl rfl (by rfl) (by kernel_rfl) (run_op_store _ _ _ ⟨gD, q[i] * 6, none⟩ (.agg (pgCs x.page A c')) rfl rfl (by rw [epg]; rfl) (run_storeVar_part w3.drew gD (q[i] * 6) _ _ curD (pgCs x.page A c') HBD.out pgr_size (by show q[i] * 6 + 6 ≤ _; omega) (by rw [epg]; simp [Value.oneCell']))) (.inl rfl) (fun h => nomatch h) ?_
                    clear hS HBD epg
                    generalize w3.drew.setRow gD (partRow curD (q[i] * 6) (pgCs x.page A c').toList) = w4 at *
                    refine R_done (by kernel_rfl) ?_ _
                    rename_i K9 hK9
                    refine hK9 _ _ ?_
                    clear hK9
                    have z7 := HX4.out.cell 7
                    have z8 := HX4.out.cell 8
                    simp only [riCells, zGA, zGB, zGC] at z7 z8
                    have f7 := HX4.out.frozen 7
                    have f8 := HX4.out.frozen 8
                    go_wp2_with fail
                    generalize hw5 : World.setCell (World.setCell w4 _ _) _ _ = w5
                    have h5 : RfAt B G w5 gr (.slice (some ⟨g, 0, none⟩) s1.L.length c) (.slice (some ⟨gD, 0, none⟩) (s1.top + 1) cD) { s1 with disk := fun n => if n = q[i] then x.page else s1.disk n } := by
                      have hgx' := HGX.out
                      rw [show s.top = s1.top from htop.symm] at hgx'
                      rw [← hw5]; exact (H4.out.far hgx' 7 _).far hgx' 8 _
                    have hX5 : Blk w5 gx 98 (riCells x' A c').toArray := by
                      have := (HX4.out.set_ 7 (.bool false)).set_ 8 (.int .u64 0)
                      rw [hw5] at this
                      rw [hx']
                      exact this
                    have hT5 := (HT4.out.setCell (p := ⟨gx, 7, none⟩) (.inr hgxw) (.bool false)).setCell (p := ⟨gx, 8, none⟩) (.inr hgxw) (.int .u64 0)
                    have hR5 : RowsAt G w5 A x'.page.rows := by
                      rw [hx', ← hw5]
                      have hGx : ∀ b, G b → b ≠ gx := fun b hb e => HGX.out (.inr (by rw [← e]; exact hb))
                      exact HR4.out.keep (Nat.le_of_eq (by simp [World.setCell])) (fun b hb => (Below.heap_setCell _ ⟨gx, 8, none⟩ _ b (hGx b hb)).trans (Below.heap_setCell _ ⟨gx, 7, none⟩ _ b (hGx b hb)))
                    rw [hw5] at hT5
                    have h6 : RfAt B G w5.drew gr (.slice (some ⟨g, 0, none⟩) s1.L.length c) (.slice (some ⟨gD, 0, none⟩) (s1.top + 1) cD) { s1 with disk := fun n => if n = q[i] then x.page else s1.disk n } := h5.below (Below.refl w5.heap.size w5).drew
                    obtain ⟨cur, hB, hsz, hset⟩ := h6.setL (k := k) (x' := x') (A' := A) (c' := c') rfl hk hA (Reads.below hR5 (Below.refl w5.heap.size w5).drew) (by rw [hx', hxx])
                    have c1 := h6.blk.cell 1
                    simp only [zGA, zGB, zGC] at c1
                    have hS : Hid (w5.drew.cell? ⟨gr, 1, none⟩ = some (.slice (some ⟨g, 0, none⟩) s1.L.length c) ∧ Blk w5.drew gx 98 (riCells x' A c').toArray) := ⟨c1, hX5.drew⟩
                    have HB : Hid (Blk w5.drew g 98 cur) := hB
                    have HSET : Hid (RfAt B G (w5.drew.setRow g (partRow cur (k * 9) (riCells x' A c'))) gr (.slice (some ⟨g, 0, none⟩) s1.L.length c) (.slice (some ⟨gD, 0, none⟩) (s.top + 1) cD) { s1 with L := s1.L.set k x', disk := fun m => if m = q[i] then x.page else s1.disk m }) := by rw [show s.top = s1.top from htop.symm]; exact hset
                    have HT6 : Hid (Turns (rfO gr (.slice (some ⟨g, 0, none⟩) s1.L.length c) (.slice (some ⟨gD, 0, none⟩) (s.top + 1) cD)) (rfO gr (.slice (some ⟨g, 0, none⟩) s1.L.length c) (.slice (some ⟨gD, 0, none⟩) (s.top + 1) cD)) w (w5.drew.setRow g (partRow cur (k * 9) (riCells x' A c')))) := hT5.drew.setRow (g := g) (.inl (.inr (.inl rfl))) _
                    clear z7 z8 f7 f8 hw5 h5 hX5 hT5 hR5 h6 hB hset c1 H4 HX4 HT4 HR4
                    refine R_begin (fun (W : World) => W.cell? ⟨gr, 1, none⟩ = some (.slice (some ⟨g, 0, none⟩) s1.L.length c) ∧ Blk W gx 98 (riCells x' A c').toArray) (fun j => decide (7 ≤ j)) rfl ?_
                    refine R_tt 0 93 hS.out ?_
                    simp only [zSA, zSB, zSC]
                    refine R_tt 1 94 hS.out ?_
                    simp only [zSA, zSB, zSC]
                    refine R_tt 2 95 hS.out ?_
                    simp only [zSA, zSB, zSC]
                    refine R_tt 3 96 hS.out ?_
                    simp only [zSA, zSB, zSC]
                    refine R_tt 4 97 hS.out ?_
                    simp only [zSA, zSB, zSC]
                    refine R_take 5 98 (v := .agg (riCells x' A c').toArray) rfl rfl (by rfl) (by kernel_rfl) (fun _ _ _ h => h) hS.out ?_ ?_
                    · intro w hSw
                      exact run_op_load _ _ _ rfl rfl (run_loadVar_row w gx _ _ _ _ _ hSw.2 Tryz.underlying98 rfl rfl)
                    simp only [zSA, zSB, zSC]
                    refine R_tt 6 99 hS.out ?_
                    simp only [zSA, zSB, zSC]
                    refine R_store 7 (n := .skip) (w' := w5.drew.setRow g (partRow cur (k * 9) (riCells x' A c'))) rfl rfl (by rfl) (by kernel_rfl) (run_op_store _ _ _ ⟨g, k * 9, none⟩ _ rfl rfl rfl (run_storeVar_part w5.drew g (k * 9) _ _ cur (riCells x' A c').toArray HB.out item_size (by show k * 9 + 9 ≤ _; omega) (by simp [riCells, Value.oneCell']))) (.inl rfl) (fun h => nomatch h) ?_
                    clear hS HB
                    generalize w5.drew.setRow g (partRow cur (k * 9) (riCells x' A c')) = w6 at *
                    refine R_done (by kernel_rfl) ?_ _
                    rename_i K9 hK9
                    refine hK9 _ _ ?_
                    clear hK9
                    go_wp2_with fail
                    go_roundw
                    case rel =>
                      refine ⟨i + 1, hmeas, by go_num, ?_, HT6.out⟩
                      rw [HSN2.out]
                      exact HSET.out
                    case measure => simp [intOf]; omega
              · obtain rfl : i = q.length := by omega
                rw [List.take_length] at h1
                have H1 := Lib.hid (And.intro h1 ht1)
                clear h1 ht1 hlt hi
                go_wp2_with fail
                go_ret
                rw [HW.out]
                exact ⟨rfl, H1.out.1, H1.out.2⟩
end
end Go.Proofs.YtndglfiepeefdaaGreat

/- append of one element to an owned row. No program is named here. -/
namespace Go.Proofs.YtndglfiepeefdaaGreat
open Go.RowKit

theorem grownBy_trans' {w w' w'' : World} {row : Option Nat} (h : w.grownBy w' row) (h' : w'.grownBy w'' row) : w.grownBy w'' row :=
  ⟨h'.os.trans h.os, h'.tape.trans h.tape, h'.output.trans h.output, Nat.le_trans h.size h'.size, fun b hb hne => (h'.block b (Nat.lt_of_lt_of_le hb h.size) hne).trans (h.block b hb hne)⟩

theorem wpList_app1 {P : Program} {w : World} {ops : Array Oper} {rest : List Oper} {o : Oper} {a : Act} {Q : Exit → Act → World → Prop} (hgd : o.guard = none) (s x : Operand) (t : TypeId)
    (ho : o.op = .call { callee := .builtin .append, args := #[s, x], argTypes := #[t, t] })
    (base : Nat) (e : TypeId) (i : TypeInfo) (z : Value) (bytes : Nat) (ht : P.underlying t = some (.slice e)) (hi : P.info? e = some i) (hz : i.zero = some z)
    (hsize : i.size = 1) (hby : i.bytes = bytes) (hzs : z.cells.size = 1)
    (v : Value) (n : Nat) (xs : List Value) (hs : a.eval s = v) (hown : w.ownsRow base e 1 v n xs)
    (y : Value) (hx : a.eval x = .slice (some ⟨w.heap.size, 0, none⟩) 1 1) (hy : y.oneCell' = true)
    (h63 : n + 1 ≤ maxLen) (hbytes : (n + 1) * bytes ≤ 140737488355328) (hbase : base ≤ w.heap.size)
    (h : ∀ v' w', w'.ownsRow base e 1 v' (n + 1) (xs ++ [y]) → w.grownBy w' v.ownBlock → (∀ k, v'.ownBlock = some k → v.ownBlock = some k ∨ w.heap.size ≤ k) → wpList P ops Q rest (a.put o.dst v') w') : wpList P ops Q (o :: rest) a (w.alloc (.cells #[y] e)) := by
  refine wpList_append_own2 _ hgd s x t ho base e i z 1 bytes ht hi hz hsize hby hzs (by omega) v n xs hs (hown.alloc _) ⟨w.heap.size, 0, none⟩ 1 1 [y] hx rfl ?_ (fun u hu => by rw [List.mem_singleton.1 hu]; exact hy) h63 hbytes (by simp; omega) fun v' w' h1 h2 h3 => h v' w' h1 (grownBy_trans' (World.grownBy_alloc w _ _) h2) fun k hk => ?_
  · exact blk_news (cs := [y]) (Blk.new w e #[y])
  · rcases h3 k hk with h3 | h3
    · exact .inl h3
    · simp at h3; exact .inr (by omega)
end Go.Proofs.YtndglfiepeefdaaGreat

/- The document's pool: a page is dropped. -/
namespace Go.Proofs.YtndglfiepeefdaaGreat
open Go.RowKit Go.Conc

theorem item_info : (Tryz.prog.info? 98).map (fun i => (i.zero, i.size, i.bytes)) = some (some (.agg riZ), 9, 72) := by kernel_rfl
theorem RiRow.one1 {G : Foot} {w : World} {L : List Sp.RI} {xs : List Value} (h : RiRow G w L xs) : ∀ u ∈ xs, u.oneCell' = true := by
  intro u hu
  obtain ⟨n, hn, rfl⟩ := List.mem_iff_getElem.1 hu
  have hl := h.1
  have hi : n / 9 < L.length := by omega
  obtain ⟨A, c, _, _, h3⟩ := h.2 (n / 9) _ (List.getElem?_eq_getElem hi)
  have h4 := h3 (n % 9) (Nat.mod_lt _ (by omega))
  rw [show n / 9 * 9 + n % 9 = n by omega, List.getElem?_eq_getElem hn] at h4
  have h5 : xs[n] ∈ riCells L[n / 9] A c := List.mem_of_getElem? h4.symm
  generalize xs[n] = u at *
  simp only [riCells, List.mem_cons, List.not_mem_nil, or_false] at h5
  rcases h5 with rfl | rfl | rfl | rfl | rfl | rfl | rfl | rfl | rfl <;> rfl

theorem own_slice {w : World} {base : Nat} {e : TypeId} {sz n : Nat} {v : Value} {xs : List Value} (h : w.ownsRow base e sz v n xs) : ∃ A m c, v = .slice A m c := by
  rcases h.2 with ⟨h0, _⟩ | ⟨g, cap, cur, h0, _⟩
  · exact ⟨_, _, _, h0⟩
  · exact ⟨_, _, _, h0⟩
theorem addr_addn (g o j : Nat) : (⟨g, o, none⟩ : Addr).add j = ⟨g, o + j, none⟩ := by unfold Addr.add; split <;> simp_all
theorem take_some {α : Type} {l : List α} {n j : Nat} {u : α} (h : (l.take n)[j]? = some u) : l[j]? = some u := by
  rw [List.getElem?_take] at h
  split at h
  · exact h
  · cases h

namespace Sp
/-- What the document's pool has to be for its words to hold. -/
structure R15.Ok (s : R15) : Prop where
  in_ : ∀ x ∈ s.L, 1 ≤ x.page.id ∧ x.page.id ≤ s.top
  lsn : ∀ x ∈ s.L, x.page.lsn < 18446744073709551616
  pins : ∀ x ∈ s.L, x.pins < 1000000000
  top : s.top < 1000000
  nd : (s.L.map (·.page.id)).Nodup
  len : s.L.length ≤ s.frames
  frames : s.frames ≤ 64
  disk : ∀ q, 1 ≤ q → q ≤ s.top → (s.disk q).id = q ∧ (s.disk q).lsn < 18446744073709551616
theorem write_ids (s : R15) (q : List Nat) : (s.write q).2.L.map (·.page) = s.L.map (·.page) := by
  unfold R15.write
  split
  · rfl
  · split
    · rfl
    · show (s.L.map (cleaned q)).map _ = _
      rw [List.map_map]
      apply List.map_congr_left
      intro x _
      simp only [Function.comp, cleaned_id]
theorem write_top (s : R15) (q : List Nat) : (s.write q).2.top = s.top ∧ (s.write q).2.frames = s.frames ∧ (s.write q).2.next = s.next := by
  unfold R15.write
  split
  · exact ⟨rfl, rfl, rfl⟩
  · split <;> exact ⟨rfl, rfl, rfl⟩
theorem write_mem {s : R15} {q : List Nat} {x : RI} (h : x ∈ (s.write q).2.L) : ∃ y ∈ s.L, x.page = y.page ∧ x.pins = y.pins := by
  unfold R15.write at h
  split at h
  · exact ⟨x, h, rfl, rfl⟩
  · split at h
    · exact ⟨x, h, rfl, rfl⟩
    · obtain ⟨y, hy, rfl⟩ := List.mem_map.1 h
      exact ⟨y, hy, cleaned_id q y, by unfold cleaned; split <;> rfl⟩
theorem write_len (s : R15) (q : List Nat) : (s.write q).2.L.length = s.L.length := by
  have := congrArg List.length (write_ids s q)
  simpa using this
theorem R15.Ok.write {s : R15} (h : s.Ok) (q : List Nat) : (s.write q).2.Ok := by
  obtain ⟨t1, t2, t3⟩ := write_top s q
  refine ⟨fun x hx => ?_, fun x hx => ?_, fun x hx => ?_, ?_, ?_, ?_, ?_, fun m h1 h2 => ?_⟩
  · obtain ⟨y, hy, e, _⟩ := write_mem hx
    rw [e, t1]; exact h.in_ y hy
  · obtain ⟨y, hy, e, _⟩ := write_mem hx
    rw [e]; exact h.lsn y hy
  · obtain ⟨y, hy, _, e⟩ := write_mem hx
    rw [e]; exact h.pins y hy
  · rw [t1]; exact h.top
  · have e : (s.write q).2.L.map (·.page.id) = s.L.map (·.page.id) := by
      have := congrArg (List.map (fun p : Pg => p.id)) (write_ids s q)
      rw [List.map_map, List.map_map] at this
      exact this
    rw [e]; exact h.nd
  · rw [write_len, t2]; exact h.len
  · rw [t2]; exact h.frames
  · rw [t1] at h2
    unfold R15.write
    split
    · exact h.disk m h1 h2
    · split
      · exact h.disk m h1 h2
      · dsimp only
        split
        · cases hg : getR? s.L m with
          | none => exact h.disk m h1 h2
          | some x =>
            obtain ⟨hx, e⟩ := getR_mem hg
            exact ⟨e, h.lsn x hx⟩
        · exact h.disk m h1 h2
theorem R15.Ok.sub {s : R15} (h : s.Ok) {L' : List RI} (hs : L'.Sublist s.L) : ({ s with L := L' } : R15).Ok :=
  ⟨fun x hx => h.in_ x (hs.subset hx), fun x hx => h.lsn x (hs.subset hx), fun x hx => h.pins x (hs.subset hx), h.top, List.Nodup.sublist (hs.map _) h.nd, Nat.le_trans hs.length_le h.len, h.frames, h.disk⟩
theorem R15.Ok.drop {s : R15} (h : s.Ok) (id : Nat) : (s.drop id).2.Ok := by
  unfold R15.drop
  dsimp only
  split
  · exact h.write [id]
  · exact (h.write [id]).sub List.filter_sublist
theorem R15.Ok.room {s : R15} (h : s.Ok) : s.room.2.Ok := by
  unfold R15.room
  split
  · exact h
  · split
    · exact h.drop _
    · exact h
theorem drop_len {s : R15} {id : Nat} (hh : hasR s.L id = true) (h0 : (s.drop id).1 = 0) : (s.drop id).2.L.length < s.L.length := by
  unfold R15.drop at h0 ⊢
  dsimp only at h0 ⊢
  by_cases hw : (s.write [id]).1 ≠ 0
  · rw [if_pos hw] at h0; exact absurd h0 hw
  · rw [if_neg hw]
    show (dropR (s.write [id]).2.L id).length < _
    unfold dropR
    rw [← write_len s [id]]
    obtain ⟨x, hx, he⟩ := List.any_eq_true.1 hh
    have : x.page ∈ (s.write [id]).2.L.map (·.page) := by rw [write_ids]; exact List.mem_map.2 ⟨x, hx, rfl⟩
    obtain ⟨y, hy, e⟩ := List.mem_map.1 this
    have h1 := List.length_filter_lt_length_iff_exists (l := (s.write [id]).2.L) (p := fun x => x.page.id != id)
    exact h1.2 ⟨y, hy, by rw [e]; simpa using he⟩
theorem drop_top (s : R15) (id : Nat) : (s.drop id).2.top = s.top ∧ (s.drop id).2.frames = s.frames ∧ (s.drop id).2.next = s.next := by
  unfold R15.drop
  dsimp only
  split
  · exact write_top s [id]
  · exact write_top s [id]
theorem room_top (s : R15) : s.room.2.top = s.top ∧ s.room.2.frames = s.frames ∧ s.room.2.next = s.next := by
  unfold R15.room
  split
  · exact ⟨rfl, rfl, rfl⟩
  · split
    · exact drop_top s _
    · exact ⟨rfl, rfl, rfl⟩
theorem room_len {s : R15} (ho : s.Ok) (h0 : s.room.1 = 0) : s.room.2.L.length < s.frames := by
  unfold R15.room at h0 ⊢
  by_cases hlt : s.L.length < s.frames
  · rw [if_pos hlt]; exact hlt
  · rw [if_neg hlt] at h0 ⊢
    cases hf : s.L.find? (fun x => x.pins == 0) with
    | none => rw [hf] at h0; cases h0
    | some x =>
      rw [hf] at h0
      have hx := List.mem_of_find?_eq_some hf
      have := drop_len (s := s) (id := x.page.id) (List.any_eq_true.2 ⟨x, hx, by simp⟩) h0
      exact Nat.lt_of_lt_of_le this ho.len
theorem room_not {s : R15} {id : Nat} (h : hasR s.L id = false) : hasR s.room.2.L id = false := by
  have hw : ∀ q, hasR (s.write q).2.L id = false := fun q => by
    have e : ∀ L : List RI, hasR L id = (L.map (·.page)).any (fun p => p.id == id) := fun L => by unfold hasR; rw [List.any_map]; rfl
    rw [e, write_ids, ← e]; exact h
  have hs : ∀ (L L' : List RI), L'.Sublist L → hasR L id = false → hasR L' id = false := fun L L' hsub hL => by
    unfold hasR at hL ⊢
    rw [List.any_eq_false] at hL ⊢
    exact fun x hx => hL x (hsub.subset hx)
  unfold R15.room
  split
  · exact h
  · split
    · unfold R15.drop
      dsimp only
      split
      · exact hw _
      · exact hs _ _ List.filter_sublist (hw _)
    · exact h
theorem R15.Ok.snoc {s : R15} (h : s.Ok) {x : RI} (h1 : 1 ≤ x.page.id ∧ x.page.id ≤ s.top) (h2 : x.page.lsn < 18446744073709551616) (h3 : x.pins < 1000000000) (hn : hasR s.L x.page.id = false) (hl : s.L.length < s.frames) : ({ s with L := s.L ++ [x] } : R15).Ok := by
  refine ⟨fun y hy => ?_, fun y hy => ?_, fun y hy => ?_, h.top, ?_, ?_, h.frames, h.disk⟩
  · rcases List.mem_append.1 hy with hy | hy
    · exact h.in_ y hy
    · rw [List.mem_singleton.1 hy]; exact h1
  · rcases List.mem_append.1 hy with hy | hy
    · exact h.lsn y hy
    · rw [List.mem_singleton.1 hy]; exact h2
  · rcases List.mem_append.1 hy with hy | hy
    · exact h.pins y hy
    · rw [List.mem_singleton.1 hy]; exact h3
  · show ((s.L ++ [x]).map _).Nodup
    rw [List.map_append, List.nodup_append]
    refine ⟨h.nd, by simp, fun a ha b hb => ?_⟩
    simp only [List.map_cons, List.map_nil, List.mem_singleton] at hb
    subst hb
    obtain ⟨y, hy, rfl⟩ := List.mem_map.1 ha
    unfold hasR at hn
    rw [List.any_eq_false] at hn
    have := hn y hy
    simpa using this
  · show (s.L ++ [x]).length ≤ s.frames
    rw [List.length_append]; exact hl
end Sp

section
variable {B gr : Nat} {G : Foot} {w : World} {vL vD : Value} {s : Sp.R15}
set_option maxRecDepth 100000 in
set_option maxHeartbeats 8000000 in
theorem ref_drop (h : RfAt B G w gr vL vD s) (ho : s.Ok) {k : Nat} (hk : k < s.L.length) {id : Nat} (hid : s.L[k].page.id = id) :
    Calls Tryz.prog 97 #[ptr gr, .int .i64 k] w fun e w' => e = .returned (.int .i64 (s.drop id).1) ∧ RfPost B G w gr vL vD (s.drop id).2 w' := by
  obtain ⟨r, hr⟩ : ∃ r, r = s.drop id := ⟨_, rfl⟩
  rw [← hr]
  have HE := Lib.hid hr
  have hids := Sp.write_ids s [id]
  have hlen : (s.write [id]).2.L.length = s.L.length := by have := congrArg List.length hids; simpa using this
  have hidk : ∀ (hk' : k < (s.write [id]).2.L.length), (s.write [id]).2.L[k].page.id = id := fun hk' => by
    have e : ((s.write [id]).2.L.map (·.page))[k]? = (s.L.map (·.page))[k]? := by rw [hids]
    rw [List.getElem?_map, List.getElem?_map, List.getElem?_eq_getElem hk', List.getElem?_eq_getElem hk] at e
    simp only [Option.map_some, Option.some.injEq] at e
    rw [e, hid]
  obtain ⟨g, c, A, c', rfl, hA, hR, hc⟩ := h.item hk
  have k2 := hc 2 (by omega)
  simp only [riCells, List.getElem?_cons_succ, List.getElem?_cons_zero] at k2
  rw [hid] at k2
  have c1 := h.blk.cell 1
  simp only [zGA, zGB, zGC] at c1
  have hba := (Below.refl w.heap.size w).alloc (Nat.le_refl _) (.cells #[u32v id] 28)
  have hN := Blk.new w 28 #[u32v id]
  have HW := Lib.hid (ref_write (h.below hba) (G1 := only w.heap.size) (A0 := some ⟨w.heap.size, 0, none⟩) (c0 := 1) (q := [id])
    ⟨rfl, fun _ => ⟨_, 0, rfl, rfl, by simp, fun j u hu => by
      match j, hu with
      | 0, hu => injection hu with hu; subst hu; exact hN.cell 0⟩⟩
    (fun b hb => ⟨by rw [hb]; simp, fun e => by have := h.lt (.inl e); rw [hb] at this; omega⟩)
    (fun n hn => by rw [List.mem_singleton.1 hn]; unfold Sp.hasR; rw [List.any_eq_true]; exact ⟨s.L[k], List.getElem_mem hk, by rw [hid]; simp⟩)
    (by simp) ho.lsn ho.in_)
  have H := Lib.hid h
  have HA := Lib.hid hba
  have HIK := Lib.hid hidk
  have hkc : (k : Int) < (s.L.length : Int) := by omega
  clear hr h hc hR hN hba hids hidk
  go_enter Tryz.func97, Tryz.ntmps97
  go_wp2_with fail
  refine HW.out.mono ?_
  rintro e w2 ⟨rfl, h2, ht2⟩
  have ht02 := (Turns.of_below HA.out (rfO gr (.slice (some ⟨g, 0, none⟩) s.L.length c) vD)).trans ht2
  clear HW c1 k2 ht2
  have hdrop : s.drop id = if (s.write [id]).1 ≠ 0 then s.write [id] else (0, { (s.write [id]).2 with L := Sp.dropR (s.write [id]).2.L id }) := rfl
  rw [hdrop] at HE
  clear hdrop
  generalize s.write [id] = sw at *
  obtain ⟨n, s2⟩ := sw
  dsimp only at h2 hlen HIK HE ⊢
  by_cases hn : n = 0
  · subst hn
    rw [if_neg (by decide)] at HE
    have hk2 : k < s2.L.length := by omega
    have hdr := Sp.dropR_erase h2.nd hk2
    rw [HIK.out hk2] at hdr
    rw [hdr] at HE
    obtain ⟨xs, hrow, hRi⟩ := h2.L
    have c1 := h2.blk.cell 1
    simp only [zGA, zGB, zGC] at c1
    have hcell := hrow.cells (g := g) rfl
    have hone := hRi.one1
    have hxl := hRi.1
    have hfew := h2.few
    have hcap : s2.L.length ≤ c := by
      rcases hrow.2 with ⟨h0, h1⟩ | ⟨g', cap, cur, h0, _, _, hnc, _⟩
      · omega
      · injection h0 with _ _ h3; omega
    have hBw : B ≤ w2.heap.size := Nat.le_trans h2.lo (by have := h2.blk.lt; omega)
    obtain ⟨iI, hiI, hy0, hy1, hy2⟩ := info_parts item_info
    rw [← hlen] at *
    have H2 := Lib.hid h2
    have HRI := Lib.hid hRi
    have HRW := Lib.hid hrow
    have HON := Lib.hid hone
    have HCE := Lib.hid hcell
    have HI := Lib.hid hiI
    have HY0 := Lib.hid hy0
    have HY1 := Lib.hid hy1
    have HY2 := Lib.hid hy2
    have HT02 := Lib.hid ht02
    clear h2 hRi hrow hone hcell hdr ht02 hiI hy0 hy1 hy2 hA H HA
    have d1 : ¬ ((c : Int) < (k : Int)) := by omega
    have d2 : (k : Int) ≤ (c : Int) := by omega
    have d3 : (k : Int) + 1 ≤ (s2.L.length : Int) := by omega
    go_wp2_with (at_builtin; refine wpList_append_own2 _ rfl _ _ 77 rfl B 98 iI _ 9 72 Tryz.underlying77 HI.out HY0.out HY1.out HY2.out rfl (by decide) _ 0 [] rfl (World.ownsRow_nil _ _ _ _) ⟨g, 0, none⟩ k c (xs.take (k * 9)) rfl (by rw [List.length_take]; omega) (fun j u hu => HCE.out j u (take_some hu)) (fun u hu => HON.out u (List.mem_of_mem_take hu)) (by unfold maxLen; omega) (by omega) hBw ?_)
    intro v3 w3 q1 q2 q3
    replace q2 : w2.grownBy w3 none := q2
    have c1 := (H2.out.blk.grown q2 (fun e => nomatch e)).cell 1
    simp only [zGA, zGB, zGC] at c1
    have hk3 : ∀ b, b < w2.heap.size → w3.heap[b]? = w2.heap[b]? := fun b hb => q2.block b hb (fun e => nomatch e)
    have hgl : g < w2.heap.size := H2.out.lt (.inl (.inr (.inl rfl)))
    have hce3 : ∀ j u, xs[j]? = some u → w3.cell? ⟨g, j, none⟩ = some u := fun j u hu => by
      have := HCE.out j u hu
      rw [addr_add0] at this
      exact (World.cell?_of_block (w := w2) (a := ⟨g, j, none⟩) (hk3 g hgl)).trans this
    have HC3 := Lib.hid hce3
    have HK3 := Lib.hid hk3
    have hs3 : w2.heap.size ≤ w3.heap.size := q2.size
    replace q1 : w3.ownsRow B 98 9 v3 k (xs.take (k * 9)) := by simpa using q1
    have Q1 := Lib.hid q1
    have Q3 := Lib.hid (show ∀ b, v3.ownBlock = some b → w2.heap.size ≤ b from fun b hb => (q3 b hb).resolve_left (fun e => nomatch e))
    have Q2 := Lib.hid q2
    clear q1 q2 q3 hk3 hce3
    have hgrl : gr < w2.heap.size := H2.out.blk.lt
    have HF : Hid (∀ v4 w4, w4.ownsRow B 98 9 v4 (k + (s2.L.length - (k + 1))) (xs.take (k * 9) ++ xs.drop ((k + 1) * 9)) → w3.grownBy w4 v3.ownBlock → (∀ k, v4.ownBlock = some k → v3.ownBlock = some k ∨ w3.heap.size ≤ k) →
        RfAt B G (w4.setCell ⟨gr, 1, none⟩ v4) gr v4 vD { s2 with L := s2.L.eraseIdx k } ∧ Turns (rfO gr (.slice (some ⟨g, 0, none⟩) s2.L.length c) vD) (rfO gr v4 vD) w (w4.setCell ⟨gr, 1, none⟩ v4)) := by
      intro v4 w4 r1 r2 r3
      have h2 := H2.out
      have hsz : w3.heap.size ≤ w4.heap.size := r2.size
      have hkk : ∀ b, b < w2.heap.size → w4.heap[b]? = w2.heap[b]? := fun b hb => (r2.block b (by omega) (fun e => by have := Q3.out b e.symm; omega)).trans (HK3.out b hb)
      have hown : ∀ b, v4.ownBlock = some b → w2.heap.size ≤ b := fun b hb => by
        rcases r3 b hb with e | e
        · exact Q3.out b e
        · omega
      have hlen' : (s2.L.eraseIdx k).length = k + (s2.L.length - (k + 1)) := by rw [List.length_eraseIdx_of_lt hk2]; omega
      refine ⟨h2.newL (by omega) (fun b hb => hkk b ?_) (by rw [hlen']; exact r1) ((HRI.out.erase hk2).keep (by omega) (fun b hb => hkk b (h2.g b hb).1)) (fun b hb => .inr (hown b hb)) (by rw [hlen']; omega) (fun x hx => h2.ids x (List.mem_of_mem_eraseIdx hx)) (Sp.nd_erase h2.nd k), ?_⟩
      · rcases hb with (e | e) | e
        · rw [e]; exact h2.blk.lt
        · exact h2.lt (.inl (.inr (.inr e)))
        · exact (h2.g b e).1
      · have hT := HT02.out
        refine ⟨r2.os.trans (Q2.out.os.trans hT.os), r2.tape.trans (Q2.out.tape.trans hT.tape), r2.output.trans (Q2.out.output.trans hT.output), ?_, fun b hb hn => ?_, fun b hb => ?_⟩
        · show w.heap.size ≤ (World.setCell _ _ _).heap.size
          have := hT.size
          simp only [World.setCell, Array.size_modify]
          omega
        · exact (Below.heap_setCell w4 ⟨gr, 1, none⟩ v4 b (fun e => hn (.inl e))).trans ((hkk b (by have := hT.size; omega)).trans (hT.block b hb hn))
        · rcases hb with e | e | e
          · exact .inl (.inl e)
          · exact .inr (by have := hown b e; have := hT.size; omega)
          · exact .inl (.inr (.inr e))
    have H3 := Lib.hid (H2.out.blk.grown Q2.out (fun e => nomatch e))
    by_cases hck : c = k + 1
    · go_wp2_with (at_builtin; refine wpList_append_own2 _ rfl _ _ 77 rfl B 98 iI _ 9 72 Tryz.underlying77 HI.out HY0.out HY1.out HY2.out rfl (by decide) _ k (xs.take (k * 9)) rfl Q1.out ⟨g, 0, none⟩ (s2.L.length - (k + 1)) _ (xs.drop ((k + 1) * 9)) rfl (by rw [List.length_drop]; omega) (fun j u hu => by rw [List.drop_of_length_le (by omega)] at hu; cases hu) (fun u hu => HON.out u (List.mem_of_mem_drop hu)) (by unfold maxLen; omega) (by omega) (by omega) ?_)
      intro v4 w4 r1 r2 r3
      have hf := HF.out v4 w4 r1 r2 r3
      obtain ⟨A4, n4, c4, rfl⟩ := own_slice r1
      have c1 := (H3.out.grown r2 (fun e => by have := Q3.out gr e.symm; omega)).cell 1
      have f1 := (H3.out.grown r2 (fun e => by have := Q3.out gr e.symm; omega)).frozen 1
      simp only [zGA, zGB, zGC] at c1
      have HFF := Lib.hid hf
      clear r1 r2 r3 hf
      go_wp2_with fail
      go_ret
      rw [HE.out]
      exact ⟨rfl, _, HFF.out.1, HFF.out.2⟩
    · go_wp2_with (at_builtin; refine wpList_append_own2 _ rfl _ _ 77 rfl B 98 iI _ 9 72 Tryz.underlying77 HI.out HY0.out HY1.out HY2.out rfl (by decide) _ k (xs.take (k * 9)) rfl Q1.out ⟨g, (k + 1) * 9, none⟩ (s2.L.length - (k + 1)) _ (xs.drop ((k + 1) * 9)) rfl (by rw [List.length_drop]; omega) (fun j u hu => by rw [addr_addn]; rw [List.getElem?_drop] at hu; exact HC3.out _ u hu) (fun u hu => HON.out u (List.mem_of_mem_drop hu)) (by unfold maxLen; omega) (by omega) (by omega) ?_)
      intro v4 w4 r1 r2 r3
      have hf := HF.out v4 w4 r1 r2 r3
      obtain ⟨A4, n4, c4, rfl⟩ := own_slice r1
      have c1 := (H3.out.grown r2 (fun e => by have := Q3.out gr e.symm; omega)).cell 1
      have f1 := (H3.out.grown r2 (fun e => by have := Q3.out gr e.symm; omega)).frozen 1
      simp only [zGA, zGB, zGC] at c1
      have HFF := Lib.hid hf
      clear r1 r2 r3 hf
      go_wp2_with fail
      go_ret
      rw [HE.out]
      exact ⟨rfl, _, HFF.out.1, HFF.out.2⟩
  · have e1 : r = (n, s2) := by rw [HE.out, if_pos hn]
    have hn1 : decide ((n : Int) = 0) = false := by rw [decide_eq_false_iff_not]; omega
    have hn2 : ((n : Int) == 0) = false := by rw [beq_eq_false_iff_ne]; omega
    have hn3 : ¬ (n : Int) = 0 := by omega
    go_wp2_with fail
    go_ret
    rw [e1]
    exact ⟨rfl, _, h2, ht02⟩
end
end Go.Proofs.YtndglfiepeefdaaGreat

/- The document's pool: room for one more; Evict. -/
namespace Go.Proofs.YtndglfiepeefdaaGreat
open Go.RowKit Go.Conc

section
variable {B gr : Nat} {G : Foot} {w : World} {vL vD : Value} {s : Sp.R15}
set_option maxRecDepth 100000 in
set_option maxHeartbeats 4000000 in
theorem ref_room (h : RfAt B G w gr vL vD s) (ho : s.Ok) :
    Calls Tryz.prog 93 #[ptr gr] w fun e w' => e = .returned (.int .i64 s.room.1) ∧ RfPost B G w gr vL vD s.room.2 w' := by
  obtain ⟨r, hr⟩ : ∃ r, r = s.room := ⟨_, rfl⟩
  rw [← hr]
  have HE := Lib.hid hr
  have H := Lib.hid h
  obtain ⟨A, c, hvL, hcell⟩ := h.slice
  have c0 := h.blk.cell 0
  have c1 := h.blk.cell 1
  simp only [zGA, zGB, zGC] at c0 c1
  rw [hvL] at c1
  have hfew := h.few
  clear hr h hcell
  go_enter Tryz.func93, Tryz.ntmps93
  by_cases hlt : s.L.length < s.frames
  · have e1 : s.room = (0, s) := by unfold Sp.R15.room; rw [if_pos hlt]
    have d1 : decide ((s.L.length : Int) < (s.frames : Int)) = true := by rw [decide_eq_true_iff]; omega
    have d2 : (s.L.length : Int) < (s.frames : Int) := by omega
    go_wp2_with fail
    go_quiet (fail)
    go_wp2_with fail
    go_ret
    rw [HE.out, e1]
    exact ⟨rfl, RfPost.same H.out (below_drewN' (Below.refl _ _) _)⟩
  · have d1 : decide ((s.L.length : Int) < (s.frames : Int)) = false := by rw [decide_eq_false_iff_not]; omega
    have d2 : ¬ (s.L.length : Int) < (s.frames : Int) := by omega
    go_wp2_with fail
    go_quiet (fail)
    clear d1 d2 c0 c1
    go_wp2_with fail
    go_loopw [3] (fun v wr => ∃ i : Nat, i ≤ s.L.length ∧ v = .int .i64 i ∧ (∀ x ∈ s.L.take i, x.pins ≠ 0) ∧ Below w.heap.size w wr) (fun v _ => s.L.length - (intOf v).toNat)
    case atStart => exact ⟨0, by omega, rfl, by simp, (below_drewN' (Below.refl _ _) _)⟩
    case round =>
      obtain ⟨i, hi, rfl, hno, hbr⟩ := hrel
      have h1 := H.out.below hbr
      have c1 := h1.blk.cell 1
      simp only [zGA, zGB, zGC] at c1
      rw [hvL] at c1
      by_cases hil : i < s.L.length
      · obtain ⟨g, c', A', c2, e, hA, hR, hc⟩ := h1.item hil
        rw [hvL] at e
        injection e with e _ _
        subst e
        have k6 := hc 6 (by omega)
        simp only [riCells, List.getElem?_cons_succ, List.getElem?_cons_zero] at k6
        have hmeas : i + 1 ≤ s.L.length := hil
        have HD := Lib.hid (ref_drop h1 ho hil rfl)
        clear h1 hR hc hi
        by_cases h0 : s.L[i].pins = 0
        · have e1 : s.room = s.drop s.L[i].page.id := by
            have hf : s.L.find? (fun x => x.pins == 0) = some s.L[i] := by
              rw [List.find?_eq_some_iff_getElem]
              refine ⟨by simpa using h0, i, hil, rfl, fun j hj => ?_⟩
              have := hno s.L[j] (List.mem_take_iff_getElem.2 ⟨j, by omega, rfl⟩)
              simpa using this
            unfold Sp.R15.room
            rw [if_neg hlt, hf]
          rw [h0] at k6
          clear hno h0
          go_wp2_with fail
          refine HD.out.mono ?_
          rintro e w2 ⟨rfl, v', h2, ht2⟩
          have HP := Lib.hid (And.intro h2 ((Turns.of_below hbr _).trans ht2))
          clear h2 ht2
          go_wp2_with fail
          go_ret
          rw [HE.out, e1]
          exact ⟨rfl, v', HP.out.1, HP.out.2⟩
        · have hno' : ∀ x ∈ s.L.take (i + 1), x.pins ≠ 0 := fun x hx => by
            rw [List.take_succ_eq_append_getElem hil] at hx
            rcases List.mem_append.1 hx with hx | hx
            · exact hno x hx
            · rw [List.mem_singleton.1 hx]; exact h0
          have HN := Lib.hid hno'
          have hq : ((s.L[i].pins : Int) == 0) = false := by rw [beq_eq_false_iff_ne]; omega
          have hq2 : ¬ (s.L[i].pins : Int) = 0 := by omega
          clear hno hno' HD
          go_wp2_with fail
          go_roundw
          case rel => exact ⟨i + 1, hmeas, by go_num, HN.out, hbr⟩
          case measure => simp [intOf]; omega
      · obtain rfl : i = s.L.length := by omega
        have e1 : s.room = (4, s) := by
          have hf : s.L.find? (fun x => x.pins == 0) = none := by
            rw [List.find?_eq_none]
            intro x hx
            have := hno x (by rw [List.take_length]; exact hx)
            simpa using this
          unfold Sp.R15.room
          rw [if_neg hlt, hf]
        clear hno h1
        go_wp2_with fail
        go_ret
        rw [HE.out, e1]
        exact ⟨rfl, RfPost.same H.out hbr⟩

set_option maxRecDepth 100000 in
set_option maxHeartbeats 4000000 in
theorem ref_evict (h : RfAt B G w gr vL vD s) (ho : s.Ok) (id : Nat) :
    Calls Tryz.prog 40 #[ptr gr, u32v id] w fun e w' => e = .returned (.int .i64 (s.evict id).1) ∧ RfPost B G w gr vL vD (s.evict id).2 w' := by
  have HAT := Lib.hid (ref_at h id)
  have H := Lib.hid h
  obtain ⟨r, hr⟩ : ∃ r, r = s.evict id := ⟨_, rfl⟩
  rw [← hr]
  have HE := Lib.hid hr
  clear hr h
  go_enter Tryz.func40, Tryz.ntmps40
  go_wp2_with fail
  refine HAT.out.mono ?_
  rintro e w1 ⟨rfl, hb1⟩
  clear HAT
  have h1 := H.out.below hb1
  rcases Sp.at_cases s id with ⟨hat, hget, _⟩ | ⟨k, hk, hat, hid, hget, _⟩
  · have e1 : s.evict id = (3, s) := by unfold Sp.R15.evict; rw [hget]
    rw [hat]
    clear hat hget h1
    go_wp2_with fail
    go_ret
    rw [HE.out, e1]
    exact ⟨rfl, RfPost.same H.out hb1⟩
  · rw [hat]
    have HD := Lib.hid (ref_drop h1 ho hk hid)
    obtain ⟨g, c, A, c', rfl, hA, hR, hc⟩ := h1.item hk
    have c1 := h1.blk.cell 1
    simp only [zGA, zGB, zGC] at c1
    have k6 := hc 6 (by omega)
    simp only [riCells, List.getElem?_cons_succ, List.getElem?_cons_zero] at k6
    have hds : decide ((k : Int) < 0) = false := by rw [decide_eq_false_iff_not]; omega
    clear hat hc h1 hR
    by_cases h0 : 0 < s.L[k].pins
    · have e1 : s.evict id = (9, s) := by unfold Sp.R15.evict; rw [hget]; simp only; rw [if_pos h0]
      have hq : decide ((0 : Int) < (s.L[k].pins : Int)) = true := by rw [decide_eq_true_iff]; omega
      have hq2 : (0 : Int) < (s.L[k].pins : Int) := by omega
      go_wp2_with fail
      go_ret
      rw [HE.out, e1]
      exact ⟨rfl, RfPost.same H.out hb1⟩
    · have e1 : s.evict id = s.drop id := by unfold Sp.R15.evict; rw [hget]; simp only; rw [if_neg h0]
      have hq : s.L[k].pins = 0 := by omega
      rw [hq] at k6
      clear hget h0 hq
      go_wp2_with fail
      refine HD.out.mono ?_
      rintro e w2 ⟨rfl, v', h2, ht2⟩
      have HP := Lib.hid (And.intro h2 ((Turns.of_below hb1 _).trans ht2))
      clear h2 ht2
      go_wp2_with fail
      go_ret
      rw [HE.out, e1]
      exact ⟨rfl, v', HP.out.1, HP.out.2⟩
end
end Go.Proofs.YtndglfiepeefdaaGreat

/- The document's pool: a page that is in, once more. -/
namespace Go.Proofs.YtndglfiepeefdaaGreat
open Go.RowKit Go.Conc

section
variable {B gr : Nat} {G : Foot} {w : World} {vL vD : Value} {s : Sp.R15}
set_option maxRecDepth 100000 in
set_option maxHeartbeats 8000000 in
theorem ref_pinS (h : RfAt B G w gr vL vD s) (ho : s.Ok) {k : Nat} (hk : k < s.L.length) {id : Nat} (hid : s.L[k].page.id = id) :
    Calls Tryz.prog 94 #[ptr gr, .int .i64 k] w fun e w' => e = .returned (.tuple #[]) ∧ RfPost B G w gr vL vD { s with L := Sp.pinR s.L id } w' := by
  have hpr : Sp.pinR s.L id = s.L.eraseIdx k ++ [{ s.L[k] with pins := s.L[k].pins + 1 }] := by rw [← hid]; exact Sp.pinR_erase h.nd hk
  rw [hpr]
  obtain ⟨g, c, A, c', rfl, hA, hR, hc⟩ := h.item hk
  obtain ⟨x', hx'⟩ : ∃ x' : Sp.RI, x' = { s.L[k] with pins := s.L[k].pins + 1 } := ⟨_, rfl⟩
  rw [← hx']
  have c1 := h.blk.cell 1
  simp only [zGA, zGB, zGC] at c1
  have k0 := hc 0 (by omega)
  have k1 := hc 1 (by omega)
  have k2 := hc 2 (by omega)
  have k3 := hc 3 (by omega)
  have k4 := hc 4 (by omega)
  have k5 := hc 5 (by omega)
  have k6 := hc 6 (by omega)
  have k7 := hc 7 (by omega)
  have k8 := hc 8 (by omega)
  simp only [riCells, List.getElem?_cons_succ, List.getElem?_cons_zero, Nat.add_zero] at k0 k1 k2 k3 k4 k5 k6 k7 k8
  have hpk := ho.pins s.L[k] (List.getElem_mem hk)
  obtain ⟨xs, hrow, hRi⟩ := h.L
  have hcell := hrow.cells (g := g) rfl
  have hone := hRi.one1
  have hxl := hRi.1
  have hfew := h.few
  have hcap : s.L.length ≤ c := by
    rcases hrow.2 with ⟨h0, h1⟩ | ⟨g', cap, cur, h0, _, _, hnc, _⟩
    · omega
    · injection h0 with _ _ h3; omega
  have hBw : B ≤ w.heap.size := Nat.le_trans h.lo (by have := h.blk.lt; omega)
  have hgl : g < w.heap.size := h.lt (.inl (.inr (.inl rfl)))
  have hgrl : gr < w.heap.size := h.blk.lt
  obtain ⟨iI, hiI, hy0, hy1, hy2⟩ := info_parts item_info
  have H := Lib.hid h
  have HRI := Lib.hid hRi
  have HON := Lib.hid hone
  have HCE := Lib.hid hcell
  have HI := Lib.hid hiI
  have HY0 := Lib.hid hy0
  have HY1 := Lib.hid hy1
  have HY2 := Lib.hid hy2
  have HRK : Hid (RowsAt G w A s.L[k].page.rows) := hR
  have hkc : (k : Int) < (s.L.length : Int) := by omega
  have d1 : ¬ ((c : Int) < (k : Int)) := by omega
  have d2 : (k : Int) ≤ (c : Int) := by omega
  have d3 : (k : Int) + 1 ≤ (s.L.length : Int) := by omega
  have hB1 := Blk.new w 98 (riCells s.L[k] A c').toArray
  have z6 := hB1.cell 6
  have f6 := hB1.frozen 6
  simp only [riCells, zGA, zGB, zGC] at z6 f6
  clear h hRi hone hcell hiI hy0 hy1 hy2 hR hc hrow hpr hB1
  go_enter Tryz.func94, Tryz.ntmps94
  go_upto_region 3 with fail
  have ecs : (riCells x' A c').toArray = #[.int .u8 s.L[k].page.kind, .int .u8 s.L[k].page.level, .int .u32 id, .int .u64 s.L[k].page.lsn, .int .u32 s.L[k].page.next, .slice A s.L[k].page.rows.length c', .int .i64 ((s.L[k].pins : Int) + 1), .bool s.L[k].dirty, .int .u64 s.L[k].from_] := by rw [hx']; simp only [riCells, hid]; rfl
  generalize hw1 : World.alloc w _ = w1
  have hb1 : Below w.heap.size w w1 := by rw [← hw1]; exact (Below.refl _ _).alloc (Nat.le_refl _) _
  have hB1 : Blk w1 w.heap.size 98 (riCells x' A c').toArray := by rw [ecs, ← hw1]; exact Blk.new _ _ _
  have hgx : ¬ (rfO gr (.slice (some ⟨g, 0, none⟩) s.L.length c) vD w.heap.size ∨ G w.heap.size) := fun e => by have := H.out.lt e; omega
  have h1 := H.out.below hb1
  have hs1 := hb1.size
  have hgx1 := hB1.lt
  have c1 := h1.blk.cell 1
  simp only [zGA, zGB, zGC] at c1
  have hce1 : ∀ j u, xs[j]? = some u → w1.cell? ⟨g, j, none⟩ = some u := fun j u hu => by
    have := HCE.out j u hu
    rw [addr_add0] at this
    exact (World.cell?_of_block (w := w) (a := ⟨g, j, none⟩) (hb1.block g hgl)).trans this
  have HC1 := Lib.hid hce1
  have H1 := Lib.hid h1
  have HB1 := Lib.hid hB1
  have HBW := Lib.hid hb1
  have HR1 : Hid (RowsAt G w1 A x'.page.rows) := by rw [hx']; exact Reads.below HRK.out hb1
  obtain ⟨gx, hgxe⟩ : ∃ gx, gx = w.heap.size := ⟨_, rfl⟩
  rw [← hgxe] at HB1 hgx hgx1 ⊢
  have hgx0 : w.heap.size ≤ gx := by omega
  clear z6 f6 k0 k1 k2 k3 k4 k5 k6 k7 k8 hw1 hgxe h1 hce1 hB1 hb1 HCE HRK
  go_wp2_with (at_builtin; refine wpList_append_own2 _ rfl _ _ 77 rfl B 98 iI _ 9 72 Tryz.underlying77 HI.out HY0.out HY1.out HY2.out rfl (by decide) _ 0 [] rfl (World.ownsRow_nil _ _ _ _) ⟨g, 0, none⟩ k c (xs.take (k * 9)) rfl (by rw [List.length_take]; omega) (fun j u hu => by rw [addr_add0]; exact HC1.out j u (take_some hu)) (fun u hu => HON.out u (List.mem_of_mem_take hu)) (by unfold maxLen; omega) (by omega) (by omega) ?_)
  intro v3 w3 q1 q2 q3
  replace q2 : w1.grownBy w3 none := q2
  replace q1 : w3.ownsRow B 98 9 v3 k (xs.take (k * 9)) := by simpa using q1
  have c1 := (H1.out.blk.grown q2 (fun e => nomatch e)).cell 1
  simp only [zGA, zGB, zGC] at c1
  have hb3 : Below w1.heap.size w1 w3 := ⟨q2.os, q2.tape, q2.output, q2.size, fun b hb => q2.block b hb (fun e => nomatch e)⟩
  have hgl1 : g < w1.heap.size := by omega
  have hce3 : ∀ j u, xs[j]? = some u → w3.cell? ⟨g, j, none⟩ = some u := fun j u hu => (World.cell?_of_block (w := w1) (a := ⟨g, j, none⟩) (hb3.block g hgl1)).trans (HC1.out j u hu)
  have HC3 := Lib.hid hce3
  have HB3 := Lib.hid hb3
  have hs3 : w1.heap.size ≤ w3.heap.size := q2.size
  have Q1 := Lib.hid q1
  have Q3 := Lib.hid (show ∀ b, v3.ownBlock = some b → w1.heap.size ≤ b from fun b hb => (q3 b hb).resolve_left (fun e => nomatch e))
  clear q1 q2 q3 hb3 hce3
  go_upto_region 4 with fail
  go_cut [5] (fun v wy => wy.ownsRow B 98 9 v (s.L.eraseIdx k).length (xs.take (k * 9) ++ xs.drop ((k + 1) * 9)) ∧ Below w1.heap.size w1 wy ∧ ∀ b, v.ownBlock = some b → w1.heap.size ≤ b)
  case first =>
    have HF : Hid (∀ v4 w4, w4.ownsRow B 98 9 v4 (k + (s.L.length - (k + 1))) (xs.take (k * 9) ++ xs.drop ((k + 1) * 9)) → w3.grownBy w4 v3.ownBlock → (∀ k, v4.ownBlock = some k → v3.ownBlock = some k ∨ w3.heap.size ≤ k) →
        w4.ownsRow B 98 9 v4 (s.L.eraseIdx k).length (xs.take (k * 9) ++ xs.drop ((k + 1) * 9)) ∧ Below w1.heap.size w1 w4 ∧ ∀ b, v4.ownBlock = some b → w1.heap.size ≤ b) := by
      intro v4 w4 r1 r2 r3
      have hb3 := HB3.out
      have hlen' : (s.L.eraseIdx k).length = k + (s.L.length - (k + 1)) := by rw [List.length_eraseIdx_of_lt hk]; omega
      refine ⟨by rw [hlen']; exact r1, ⟨r2.os.trans hb3.os, r2.tape.trans hb3.tape, r2.output.trans hb3.output, Nat.le_trans hs3 r2.size, fun b hb => (r2.block b (by omega) (fun e => by have := Q3.out b e.symm; omega)).trans (hb3.block b hb)⟩, fun b hb => ?_⟩
      rcases r3 b hb with e | e
      · exact Q3.out b e
      · omega
    by_cases hck : c = k + 1
    · go_wp2_with (at_builtin; refine wpList_append_own2 _ rfl _ _ 77 rfl B 98 iI _ 9 72 Tryz.underlying77 HI.out HY0.out HY1.out HY2.out rfl (by decide) _ k (xs.take (k * 9)) rfl Q1.out ⟨g, 0, none⟩ (s.L.length - (k + 1)) _ (xs.drop ((k + 1) * 9)) rfl (by rw [List.length_drop]; omega) (fun j u hu => by rw [List.drop_of_length_le (by omega)] at hu; cases hu) (fun u hu => HON.out u (List.mem_of_mem_drop hu)) (by unfold maxLen; omega) (by omega) (by omega) ?_)
      intro v4 w4 r1 r2 r3
      have HFF := Lib.hid (HF.out v4 w4 r1 r2 r3)
      clear r1 r2 r3
      go_wp2_with fail
      go_meet
      case rel => exact HFF.out
    · go_wp2_with (at_builtin; refine wpList_append_own2 _ rfl _ _ 77 rfl B 98 iI _ 9 72 Tryz.underlying77 HI.out HY0.out HY1.out HY2.out rfl (by decide) _ k (xs.take (k * 9)) rfl Q1.out ⟨g, (k + 1) * 9, none⟩ (s.L.length - (k + 1)) _ (xs.drop ((k + 1) * 9)) rfl (by rw [List.length_drop]; omega) (fun j u hu => by rw [addr_addn]; rw [List.getElem?_drop] at hu; exact HC3.out _ u hu) (fun u hu => HON.out u (List.mem_of_mem_drop hu)) (by unfold maxLen; omega) (by omega) (by omega) ?_)
      intro v4 w4 r1 r2 r3
      have HFF := Lib.hid (HF.out v4 w4 r1 r2 r3)
      clear r1 r2 r3
      go_wp2_with fail
      go_meet
      case rel => exact HFF.out
  case rest =>
    rename_i K9 hK9
    refine hK9 _ _ ?_
    clear hK9 Q1 Q3 HB3 HC3 HC1 c1
    obtain ⟨r1, r2, r3⟩ := hcut
    have hBc := HB1.out.below r2 hgx1
    rw [ecs] at hBc
    have z0 := hBc.cell 0
    have z1 := hBc.cell 1
    have z2 := hBc.cell 2
    have z3 := hBc.cell 3
    have z4 := hBc.cell 4
    have z5 := hBc.cell 5
    have z6 := hBc.cell 6
    have z7 := hBc.cell 7
    have z8 := hBc.cell 8
    simp only [zGA, zGB, zGC] at z0 z1 z2 z3 z4 z5 z6 z7 z8
    have hsc := r2.size
    have el : riCells x' A c' = [.int .u8 s.L[k].page.kind, .int .u8 s.L[k].page.level, .int .u32 id, .int .u64 s.L[k].page.lsn, .int .u32 s.L[k].page.next, .slice A s.L[k].page.rows.length c', .int .i64 ((s.L[k].pins : Int) + 1), .bool s.L[k].dirty, .int .u64 s.L[k].from_] := by rw [hx']; simp only [riCells, hid]; rfl
    have R1 := Lib.hid r1
    have R2 := Lib.hid r2
    have R3 := Lib.hid r3
    have EL := Lib.hid el
    clear r1 r2 r3 hBc ecs el
    have hle : (s.L.eraseIdx k).length + 1 = s.L.length := by rw [List.length_eraseIdx_of_lt hk]; omega
    go_wp2_with (at_builtin; refine wpList_append_own2 _ rfl _ _ 77 rfl B 98 iI _ 9 72 Tryz.underlying77 HI.out HY0.out HY1.out HY2.out rfl (by decide) _ (s.L.eraseIdx k).length _ rfl (R1.out.alloc _) ⟨wc.heap.size, 0, none⟩ 1 1 [.int .u8 s.L[k].page.kind, .int .u8 s.L[k].page.level, .int .u32 id, .int .u64 s.L[k].page.lsn, .int .u32 s.L[k].page.next, .slice A s.L[k].page.rows.length c', .int .i64 ((s.L[k].pins : Int) + 1), .bool s.L[k].dirty, .int .u64 s.L[k].from_] rfl rfl (blk_news (cs := [.int .u8 s.L[k].page.kind, .int .u8 s.L[k].page.level, .int .u32 id, .int .u64 s.L[k].page.lsn, .int .u32 s.L[k].page.next, .slice A s.L[k].page.rows.length c', .int .i64 ((s.L[k].pins : Int) + 1), .bool s.L[k].dirty, .int .u64 s.L[k].from_]) (Blk.new wc 98 [.int .u8 s.L[k].page.kind, .int .u8 s.L[k].page.level, .int .u32 id, .int .u64 s.L[k].page.lsn, .int .u32 s.L[k].page.next, .slice A s.L[k].page.rows.length c', .int .i64 ((s.L[k].pins : Int) + 1), .bool s.L[k].dirty, .int .u64 s.L[k].from_].toArray)) (fun x hx => by simp at hx; rcases hx with rfl | rfl | rfl | rfl | rfl | rfl | rfl | rfl | rfl <;> rfl) (by unfold maxLen; omega) (by omega) (by simp; omega) ?_)
    intro v5 w5 p1 p2 p3
    clear z0 z1 z2 z3 z4 z5 z6 z7 z8
    rw [← EL.out] at p1
    obtain ⟨A5, n5, c5, rfl⟩ := own_slice p1
    have hsa : wc.heap.size + 1 ≤ w5.heap.size := by have := p2.size; simp at this; omega
    have hkk : ∀ b, b < w1.heap.size → w5.heap[b]? = w1.heap[b]? := fun b hb =>
      (p2.block b (by simp; omega) (fun e => by have := R3.out b e.symm; omega)).trans ((Below.heap_alloc wc _ b (by omega)).trans (R2.out.block b hb))
    have hown : ∀ b, (Value.slice A5 n5 c5).ownBlock = some b → w1.heap.size ≤ b := fun b hb => by
      rcases p3 b hb with e | e
      · exact R3.out b e
      · omega
    have hkw : ∀ b, b < w.heap.size → w5.heap[b]? = w.heap[b]? := fun b hb => (hkk b (by omega)).trans (HBW.out.block b hb)
    have hF : RfAt B G (w5.setCell ⟨gr, 1, none⟩ (.slice A5 n5 c5)) gr (.slice A5 n5 c5) vD { s with L := s.L.eraseIdx k ++ [x'] } := by
      have hxid : x'.page.id = s.L[k].page.id := by rw [hx']
      refine H1.out.newL (by omega) (fun b hb => hkk b ?_) (by rw [List.length_append, show [x'].length = 1 from rfl, hle, List.append_assoc]; exact p1) (((HRI.out.erase hk).keep (by omega) (fun b hb => hkw b (H.out.g b hb).1)).append (RiRow.one hA (HR1.out.keep (by omega) (fun b hb => hkk b (H1.out.g b hb).1)))) (fun b hb => .inr (hown b hb)) (by rw [List.length_append]; show _ + 1 ≤ 64; omega) (fun x hx => ?_) (Sp.nd_pin H.out.nd hk hxid)
      · rcases hb with (e | e) | e
        · rw [e]; omega
        · exact H1.out.lt (.inl (.inr (.inr e)))
        · exact (H1.out.g b e).1
      · rcases List.mem_append.1 hx with h | h
        · exact H.out.ids x (List.mem_of_mem_eraseIdx h)
        · rw [List.mem_singleton.1 h, hxid]; exact H.out.ids _ (List.getElem_mem hk)
    have hT : Turns (rfO gr (.slice (some ⟨g, 0, none⟩) s.L.length c) vD) (rfO gr (.slice A5 n5 c5) vD) w (w5.setCell ⟨gr, 1, none⟩ (.slice A5 n5 c5)) := by
      refine ⟨p2.os.trans (R2.out.os.trans HBW.out.os), p2.tape.trans (R2.out.tape.trans HBW.out.tape), p2.output.trans (R2.out.output.trans HBW.out.output), ?_, fun b hb hn => ?_, fun b hb => ?_⟩
      · show w.heap.size ≤ (World.setCell _ _ _).heap.size
        simp only [World.setCell, Array.size_modify]
        omega
      · exact (Below.heap_setCell w5 ⟨gr, 1, none⟩ _ b (fun e => hn (.inl e))).trans (hkw b hb)
      · rcases hb with e | e | e
        · exact .inl (.inl e)
        · exact .inr (by have := hown b e; omega)
        · exact .inl (.inr (.inr e))
    have hgr5 : Blk w5 gr 80 _ := H1.out.blk.keep (hkk gr (by omega))
    have c1 := hgr5.cell 1
    have f1 := hgr5.frozen 1
    simp only [zGA, zGB, zGC] at c1
    have HFF := Lib.hid (And.intro hF hT)
    clear hF hT p1 p2 p3 hgr5 hkk hkw hown
    go_wp2_with fail
    exact bodyPost_end (results_none (by kernel_rfl) _ _ _) rfl ⟨rfl, _, HFF.out.1, HFF.out.2⟩
end
end Go.Proofs.YtndglfiepeefdaaGreat

/- The document's pool: Pin. -/
namespace Go.Proofs.YtndglfiepeefdaaGreat
open Go.RowKit Go.Conc

namespace Sp
theorem pin_in {s : R15} {id : Nat} (h : hasR s.L id = true) : s.pin id = (0, (getR? s.L id).map (·.page), { s with L := pinR s.L id }) := by
  unfold R15.pin; rw [if_pos h]
theorem pin_far {s : R15} {id : Nat} (h : hasR s.L id = false) (ht : s.top < id) : s.pin id = (2, none, s) := by
  unfold R15.pin; rw [if_neg (by rw [h]; decide), if_pos ht]
theorem pin_zero {s : R15} (h : hasR s.L 0 = false) : s.pin 0 = (60, none, s) := by
  unfold R15.pin; rw [if_neg (by rw [h]; decide), if_neg (by omega), if_pos rfl]
theorem pin_full {s : R15} {id : Nat} (h : hasR s.L id = false) (ht : id ≤ s.top) (h0 : id ≠ 0) (hr : s.room.1 ≠ 0) : s.pin id = (s.room.1, none, s.room.2) := by
  unfold R15.pin; rw [if_neg (by rw [h]; decide), if_neg (by omega), if_neg h0]; dsimp only; rw [if_pos hr]
/-- The page stands in the row now. -/
def PinIn (s : R15) (id : Nat) (s1 : R15) : Prop := s1.Ok ∧ hasR s1.L id = true ∧ ∀ x, getR? s1.L id = some x → s.pin id = (0, some x.page, { s1 with L := pinR s1.L id })
theorem PinIn.of_in {s : R15} {id : Nat} (ho : s.Ok) (h : hasR s.L id = true) : PinIn s id s := ⟨ho, h, fun x hx => by rw [pin_in h, hx]; rfl⟩
theorem PinIn.of_new {s : R15} {id : Nat} (ho : s.Ok) (h : hasR s.L id = false) (ht : id ≤ s.top) (h0 : 1 ≤ id) (hr : s.room.1 = 0) : PinIn s id { s.room.2 with L := s.room.2.L ++ [⟨s.home id, 0, false, 0⟩] } := by
  have hd : s.home id = s.disk id := by unfold R15.home; rw [if_neg (by omega)]
  obtain ⟨d1, d2⟩ := ho.disk id h0 ht
  have hn := room_not h
  refine ⟨ho.room.snoc (by rw [hd, d1, (room_top s).1]; exact ⟨h0, ht⟩) (by rw [hd]; exact d2) (by show 0 < _; omega) (by rw [hd, d1]; exact hn) (by rw [(room_top s).2.1]; exact room_len ho hr), ?_, fun x hx => ?_⟩
  · unfold hasR
    rw [List.any_append]
    simp [hd, d1]
  · have hx2 : getR? (s.room.2.L ++ [⟨s.home id, 0, false, 0⟩]) id = some ⟨s.home id, 0, false, 0⟩ := by
      unfold getR?
      rw [List.find?_append]
      have : s.room.2.L.find? (fun x => x.page.id == id) = none := by
        rw [List.find?_eq_none]
        unfold hasR at hn
        rw [List.any_eq_false] at hn
        exact hn
      rw [this]
      simp [hd, d1]
    rw [hx2] at hx
    injection hx with hx
    subst hx
    unfold R15.pin
    rw [if_neg (by rw [h]; decide), if_neg (by omega), if_neg (by omega)]
    dsimp only
    rw [if_neg (by rw [hr]; simp), hd]
end Sp

/-- An item more. -/
theorem RfAt.snoc {B gr : Nat} {G : Foot} {w w1 w' : World} {vL vD v : Value} {s : Sp.R15} {xs : List Value} (h : RfAt B G w gr vL vD s) {x : Sp.RI} {A : Option Addr} {c : Nat} (hA : OkR A) (hR : RowsAt G w A x.page.rows)
    (hRi : RiRow G w s.L xs) (hb : Below w.heap.size w w1) (hrow : w'.ownsRow B 98 9 v (s.L.length + 1) (xs ++ riCells x A c)) (hg : w1.grownBy w' vL.ownBlock) (hv : ∀ k, v.ownBlock = some k → vL.ownBlock = some k ∨ w1.heap.size ≤ k)
    (hf : s.L.length + 1 ≤ 64) (hid : ∀ y ∈ s.L ++ [x], y.page.id < 4294967296) (hn : ((s.L ++ [x]).map (·.page.id)).Nodup) :
    RfAt B G (w'.setCell ⟨gr, 1, none⟩ v) gr v vD { s with L := s.L ++ [x] } ∧ Turns (rfO gr vL vD) (rfO gr v vD) w (w'.setCell ⟨gr, 1, none⟩ v) := by
  have hs1 := hb.size
  have hs2 := hg.size
  have hk : ∀ b, b < w.heap.size → vL.ownBlock ≠ some b → w'.heap[b]? = w.heap[b]? := fun b hlt hne => (hg.block b (by omega) (fun e => hne e.symm)).trans (hb.block b hlt)
  have hkG : ∀ b, G b → w'.heap[b]? = w.heap[b]? := fun b hb => hk b (h.g b hb).1 (h.g b hb).2.2.1
  refine ⟨h.newL (by omega) (fun b hb => ?_) (by rw [List.length_append]; exact hrow) ((hRi.keep (by omega) hkG).append (RiRow.one hA (hR.keep (by omega) hkG))) (fun b hb => (hv b hb).imp id (fun e => by omega)) (by rw [List.length_append]; exact hf) hid hn, ?_⟩
  · rcases hb with (e | e) | e
    · exact hk b (by rw [e]; exact h.blk.lt) (by rw [e]; exact h.Lr)
    · exact hk b (h.lt (.inl (.inr (.inr e)))) (fun e2 => h.LD b e2 e)
    · exact hkG b e
  · refine ⟨hg.os.trans hb.os, hg.tape.trans hb.tape, hg.output.trans hb.output, ?_, fun b hlt hn => ?_, fun b hb => ?_⟩
    · show w.heap.size ≤ (World.setCell _ _ _).heap.size
      simp only [World.setCell, Array.size_modify]
      omega
    · exact (Below.heap_setCell w' ⟨gr, 1, none⟩ v b (fun e => hn (.inl e))).trans (hk b hlt (fun e => hn (.inr (.inl e))))
    · rcases hb with e | e | e
      · exact .inl (.inl e)
      · rcases hv b e with e | e
        · exact .inl (.inr (.inl e))
        · exact .inr (by omega)
      · exact .inl (.inr (.inr e))
/-- What Pin of the document's pool answers. -/
def PinRf (B : Nat) (G : Foot) (w : World) (gr : Nat) (vL vD : Value) (r : Nat × Option Sp.Pg × Sp.R15) (e : Ending) (w' : World) : Prop :=
  RfPost B G w gr vL vD r.2.2 w' ∧ ((r.2.1 = none ∧ r.1 ≠ 0 ∧ e = .returned (.tuple #[zeroPgV, .int .i64 r.1])) ∨
    ∃ x A cc, r.2.1 = some x ∧ r.1 = 0 ∧ e = .returned (.tuple #[pgV x A cc, .int .i64 0]) ∧ OkR A ∧ RowsAt G w' A x.rows)

section
variable {B gr : Nat} {G : Foot} {w : World} {vL vD : Value} {s : Sp.R15}
set_option maxRecDepth 100000 in
set_option maxHeartbeats 8000000 in
theorem ref_pin (h : RfAt B G w gr vL vD s) (ho : s.Ok) {id : Nat} (hid : id < 4294967296) :
    Calls Tryz.prog 33 #[ptr gr, u32v id] w (PinRf B G w gr vL vD (s.pin id)) := by
  obtain ⟨r, hr⟩ : ∃ r, r = s.pin id := ⟨_, rfl⟩
  rw [← hr]
  have HE := Lib.hid hr
  have H := Lib.hid h
  have hba := (Below.refl w.heap.size w).alloc (Nat.le_refl _) (.cells #[.int .u8 0, .int .u8 0, .int .u32 0, .int .u64 0, .int .u32 0, .slice none 0 0] 32)
  have hBq := Blk.new w 32 #[.int .u8 0, .int .u8 0, .int .u32 0, .int .u64 0, .int .u32 0, .slice none 0 0]
  have h1 := h.below hba
  have hgq : ¬ (rfO gr vL vD w.heap.size ∨ G w.heap.size) := fun e => by have := h.lt e; omega
  obtain ⟨gq, hgqe⟩ : ∃ gq, gq = w.heap.size := ⟨_, rfl⟩
  have hgq0 : w.heap.size ≤ gq := by omega
  clear hr h
  go_enter Tryz.func33, Tryz.ntmps33
  go_upto_region 1 with fail
  generalize hw1 : World.alloc w _ = w1 at *
  rw [← hgqe] at hBq hgq ⊢
  clear hgqe hw1
  have H1 := Lib.hid h1
  have HBA := Lib.hid hba
  have HBQ := Lib.hid hBq
  have HGQ := Lib.hid hgq
  have HAT := Lib.hid (ref_at h1 id)
  clear h1 hba hBq hgq
  go_wp2_with fail
  refine HAT.out.mono ?_
  rintro e w2 ⟨rfl, hb2⟩
  have H2 := Lib.hid (H1.out.below hb2)
  have HB2 := Lib.hid (HBQ.out.below hb2 HBQ.out.lt)
  have HB02 := Lib.hid (HBA.out.trans (hb2.mono HBA.out.size))
  have hgq2 : gq < w2.heap.size := HB2.out.lt
  clear HAT hb2 H1 HBQ HBA
  go_upto_if 14 with fail
  go_cut [5] (fun v wy => v = .int .i64 0 ∧ ∃ vL1 s1, RfAt B G wy gr vL1 vD s1 ∧ Sp.PinIn s id s1 ∧ Turns (rfO gr vL vD) (rfO gr vL1 vD) w2 wy)
  case first =>
    rcases Sp.at_cases s id with ⟨hat, hget, hno⟩ | ⟨k, hk, hat, hidk, hget, hyes⟩
    · rw [hat]
      clear hat hget
      by_cases htop : s.top < id
      · have HHO := Lib.hid (ref_home_out H2.out hid htop ho.top)
        have hpf := Sp.pin_far hno htop
        rw [← HE.out] at hpf
        subst hpf
        clear HE
        go_wp2_with fail
        refine HHO.out.mono ?_
        rintro e w3 ⟨rfl, hb3⟩
        have hB3 := HB2.out.below hb3 hgq2
        have hba := (Below.refl w3.heap.size w3).alloc (Nat.le_refl _) (.cells #[.int .u8 0, .int .u8 0, .int .u32 0, .int .u64 0, .int .u32 0, .slice none 0 0] 32)
        have HB4 := Lib.hid (hB3.below hba hB3.lt)
        have HR4 := Lib.hid ((H2.out.below hb3).below hba)
        have HT4 := Lib.hid ((Turns.of_below (HB02.out.trans (hb3.mono HB02.out.size)) (rfO gr vL vD)).trans (Turns.of_below hba _))
        clear HHO hb3 hB3 hba
        go_wp2_with (refine wpList_store_part rfl _ _ _ rfl gq 0 #[.int .u8 0, .int .u8 0, .int .u32 0, .int .u64 0, .int .u32 0, .slice none 0 0] rfl rfl _ _ HB4.out pgr_size (by show 0 + 6 ≤ 6; omega) (by simp [Value.oneCell']) ?_)
        generalize hw9 : World.setRow _ gq _ = w9
        have hw9B : Blk w9 gq 32 #[.int .u8 0, .int .u8 0, .int .u32 0, .int .u64 0, .int .u32 0, .slice none 0 0] := by rw [← hw9]; exact (HB4.out).setRow _
        have hw9R : RfAt B G w9 gr vL vD s := by rw [← hw9]; exact (HR4.out).farRow (g := gq) (HGQ.out) _
        have hw9T : Turns (rfO gr vL vD) (rfO gr vL vD) w w9 := by rw [← hw9]; exact (HT4.out).setRow (g := gq) (.inr hgq0) _
        have y0 := hw9B.cell 0
        have y1 := hw9B.cell 1
        have y2 := hw9B.cell 2
        have y3 := hw9B.cell 3
        have y4 := hw9B.cell 4
        have y5 := hw9B.cell 5
        simp only [zGA, zGB, zGC] at y0 y1 y2 y3 y4 y5
        clear hw9
        exact bodyPost_ret (v := .tuple #[zeroPgV, .int .i64 2]) (by rw [results_cell_tmp rfl]; go_simp) rfl ⟨⟨_, hw9R, hw9T⟩, .inl ⟨rfl, by simp, rfl⟩⟩
      · rename_i J9 K9 hJ9 hK9
        have htop' : id ≤ s.top := by omega
        have HHI := Lib.hid (ref_home_in H2.out hid htop' ho.top)
        go_wp2_with fail
        refine HHI.out.mono ?_
        rintro e w3 ⟨A, c, rfl, hA, hR, hb3⟩
        have hB3 := HB2.out.below hb3 hgq2
        have hba := (Below.refl w3.heap.size w3).alloc (Nat.le_refl _) (.cells (pgCs (s.home id) A c) 32)
        have HB4 := Lib.hid (hB3.below hba hB3.lt)
        have HR4 := Lib.hid ((H2.out.below hb3).below hba)
        have HT4 := Lib.hid ((Turns.of_below (HB02.out.trans (hb3.mono HB02.out.size)) (rfO gr vL vD)).trans (Turns.of_below hba _))
        have HX := Lib.hid (Blk.new w3 32 (pgCs (s.home id) A c))
        have HRR := Lib.hid (Reads.below hR hba)
        have HAA := Lib.hid hA
        have HT24 := Lib.hid ((Turns.of_below hb3 (rfO gr vL vD)).trans (Turns.of_below hba _))
        have hgX : gq < w3.heap.size := hB3.lt
        have hw23 : w2.heap.size ≤ w3.heap.size := hb3.size
        clear HHI hb3 hB3 hba hR hA
        by_cases h0 : id = 0
        · subst h0
          have hz : (s.home 0).id = 1048576 := rfl
          have hpf := Sp.pin_zero hno
          rw [← HE.out] at hpf
          subst hpf
          clear HE
          have z2 := HX.out.cell 2
          simp only [pgCs, zGA, zGB, zGC] at z2
          rw [hz] at z2
          go_wp2_with (refine wpList_store_part rfl _ _ _ rfl gq 0 #[.int .u8 0, .int .u8 0, .int .u32 0, .int .u64 0, .int .u32 0, .slice none 0 0] rfl rfl _ _ HB4.out pgr_size (by show 0 + 6 ≤ 6; omega) (by simp [Value.oneCell']) ?_)
          generalize hw9 : World.setRow _ gq _ = w9
          have hw9B : Blk w9 gq 32 #[.int .u8 0, .int .u8 0, .int .u32 0, .int .u64 0, .int .u32 0, .slice none 0 0] := by rw [← hw9]; exact (HB4.out).setRow _
          have hw9R : RfAt B G w9 gr vL vD s := by rw [← hw9]; exact (HR4.out).farRow (g := gq) (HGQ.out) _
          have hw9T : Turns (rfO gr vL vD) (rfO gr vL vD) w w9 := by rw [← hw9]; exact (HT4.out).setRow (g := gq) (.inr hgq0) _
          have y0 := hw9B.cell 0
          have y1 := hw9B.cell 1
          have y2 := hw9B.cell 2
          have y3 := hw9B.cell 3
          have y4 := hw9B.cell 4
          have y5 := hw9B.cell 5
          simp only [zGA, zGB, zGC] at y0 y1 y2 y3 y4 y5
          clear hw9
          exact bodyPost_ret (v := .tuple #[zeroPgV, .int .i64 60]) (by rw [results_cell_tmp rfl]; go_simp) rfl ⟨⟨_, hw9R, hw9T⟩, .inl ⟨rfl, by simp, rfl⟩⟩
        · have hidd := (ho.disk id (by omega) htop').1
          have hh : (s.home id).id = id := by
            unfold Sp.R15.home
            rw [if_neg h0]; exact hidd
          have z2 := HX.out.cell 2
          simp only [pgCs, zGA, zGB, zGC] at z2
          rw [hh] at z2
          have ecs : pgCs (s.home id) A c = #[.int .u8 (s.home id).kind, .int .u8 (s.home id).level, .int .u32 id, .int .u64 (s.home id).lsn, .int .u32 (s.home id).next, .slice A (s.home id).rows.length c] := by unfold pgCs; rw [hh]
          rw [ecs] at HR4 HB4 HX HRR HT4 HT24
          have HRM := Lib.hid (ref_room HR4.out ho)
          have HH := Lib.hid hh
          have hd0 : (((id : Int) == (id : Int))) = true := by simp
          clear hidd
          go_wp2_with fail
          clear hh
          refine HRM.out.mono ?_
          rintro e w5 ⟨rfl, vL5, h5, ht5⟩
          have hgq4 : gq < (w3.alloc (.cells #[.int .u8 (s.home id).kind, .int .u8 (s.home id).level, .int .u32 id, .int .u64 (s.home id).lsn, .int .u32 (s.home id).next, .slice A (s.home id).rows.length c] 32)).heap.size := HB4.out.lt
          have hgq5 : ¬ (rfO gr vL5 vD gq ∨ G gq) := fun e => by
            rcases e with e | e
            · rcases ht5.foot gq e with e | e
              · exact HGQ.out (.inl e)
              · omega
            · exact HGQ.out (.inr e)
          have HB5 := Lib.hid (HB4.out.turns ht5 (fun e => HGQ.out (.inl e)))
          have HT5 := Lib.hid (HT4.out.trans ht5)
          clear HRM
          by_cases hr : s.room.1 = 0
          · have HPI := Lib.hid (Sp.PinIn.of_new ho hno htop' (by omega) hr)
            have hrl := Sp.room_len ho hr
            rw [hr]
            clear z2
            go_wp2_with fail
            obtain ⟨A5, c5, rfl, hzz⟩ := h5.slice
            clear hzz
            obtain ⟨xs, hrow, hRi⟩ := h5.L
            have hX5 := HX.out.turns ht5 (fun e => by have := H2.out.lt (.inl e); omega)
            have hRR5 : RowsAt G w5 A (s.home id).rows := HRR.out.turns ht5 (fun b hb => ⟨(HR4.out.g b hb).1, fun e => by
              obtain ⟨_, q2, q3, q4⟩ := HR4.out.g b hb
              rcases e with e | e | e
              · exact q2 e
              · exact q3 e
              · exact q4 e⟩)
            obtain ⟨g6, hg6⟩ : ∃ g6, g6 = w3.heap.size := ⟨_, rfl⟩
            have hg6o : ¬ rfO gr (.slice A5 s.room.2.L.length c5) vD g6 := fun e => by
              rcases ht5.foot g6 e with e | e
              · have := H2.out.lt (.inl e); omega
              · simp only [World.size_alloc] at e; omega
            rw [← hg6] at hX5 ⊢
            clear hg6
            have hSof : ∀ (W : World), Blk W gr 80 #[.int .i64 s.room.2.frames, .slice A5 s.room.2.L.length c5, vD, .int .u64 s.room.2.forced, .int .u64 s.room.2.next] → Blk W g6 32 #[.int .u8 (s.home id).kind, .int .u8 (s.home id).level, .int .u32 id, .int .u64 (s.home id).lsn, .int .u32 (s.home id).next, .slice A (s.home id).rows.length c] → W.cell? ⟨gr, 1, none⟩ = some (.slice A5 s.room.2.L.length c5) ∧ W.cell? ⟨g6, 0, none⟩ = some (.int .u8 (s.home id).kind) ∧ W.cell? ⟨g6, 1, none⟩ = some (.int .u8 (s.home id).level) ∧ W.cell? ⟨g6, 2, none⟩ = some (.int .u32 id) ∧ W.cell? ⟨g6, 3, none⟩ = some (.int .u64 (s.home id).lsn) ∧ W.cell? ⟨g6, 4, none⟩ = some (.int .u32 (s.home id).next) ∧ W.cell? ⟨g6, 5, none⟩ = some (.slice A (s.home id).rows.length c) := fun W h1 h2 =>
              ⟨(h1.cell 1).trans rfl, (h2.cell 0).trans rfl, (h2.cell 1).trans rfl, (h2.cell 2).trans rfl, (h2.cell 3).trans rfl, (h2.cell 4).trans rfl, (h2.cell 5).trans rfl⟩
            have HSO := Lib.hid hSof
            have H5 := Lib.hid h5
            have HX5 := Lib.hid hX5
            have HROW := Lib.hid hrow
            have HRI := Lib.hid hRi
            have HRR5 := Lib.hid hRR5
            have HT25 := Lib.hid (HT24.out.trans ht5)
            have hS := Lib.hid (HSO.out w5.drew H5.out.blk.drew HX5.out.drew)
            obtain ⟨iI, hiI, hy0, hy1, hy2⟩ := info_parts item_info
            have hB5 : B ≤ w5.heap.size := Nat.le_trans h5.lo (by have := h5.blk.lt; omega)
            have hfr := (Sp.room_top s).2.1
            have hf64 := ho.frames
            have hn64 : s.room.2.L.length + 1 ≤ 64 := by omega
            have hgro : gr ≠ g6 := fun e => hg6o (.inl e.symm)
            clear h5 ht5 hX5 hrow hRi hRR5 hSof HT5 HB5 HB4 HR4 HT4 HX HRR ecs hfr
            refine R_begin (fun (W : World) => W.cell? ⟨gr, 1, none⟩ = some (.slice A5 s.room.2.L.length c5) ∧ W.cell? ⟨g6, 0, none⟩ = some (.int .u8 (s.home id).kind) ∧ W.cell? ⟨g6, 1, none⟩ = some (.int .u8 (s.home id).level) ∧ W.cell? ⟨g6, 2, none⟩ = some (.int .u32 id) ∧ W.cell? ⟨g6, 3, none⟩ = some (.int .u64 (s.home id).lsn) ∧ W.cell? ⟨g6, 4, none⟩ = some (.int .u32 (s.home id).next) ∧ W.cell? ⟨g6, 5, none⟩ = some (.slice A (s.home id).rows.length c)) (fun j => decide (11 ≤ j)) rfl ?_
            refine R_tt 0 35 hS.out ?_
            simp only [zSA, zSB, zSC]
            refine R_tt 1 36 hS.out ?_
            simp only [zSA, zSB, zSC]
            refine R_tt 2 37 hS.out ?_
            simp only [zSA, zSB, zSC]
            refine R_tt 3 38 hS.out ?_
            simp only [zSA, zSB, zSC]
            refine R_tt 4 39 hS.out ?_
            simp only [zSA, zSB, zSC]
            refine R_tt 5 40 hS.out ?_
            simp only [zSA, zSB, zSC]
            refine R_tt 6 41 hS.out ?_
            simp only [zSA, zSB, zSC]
            have hba := (Below.refl w5.heap.size w5).drew.alloc (Nat.le_refl _) (.cells #[.int .u8 (s.home id).kind, .int .u8 (s.home id).level, .int .u32 id, .int .u64 (s.home id).lsn, .int .u32 (s.home id).next, .slice A (s.home id).rows.length c, .int .i64 0, .bool false, .int .u64 0] 98)
            refine R_run 7 42 (v := .slice (some ⟨w5.heap.size, 0, none⟩) 1 1) (w' := w5.drew.alloc (.cells #[.int .u8 (s.home id).kind, .int .u8 (s.home id).level, .int .u32 id, .int .u64 (s.home id).lsn, .int .u32 (s.home id).next, .slice A (s.home id).rows.length c, .int .i64 0, .bool false, .int .u64 0] 98)) rfl rfl (by rfl) (by kernel_rfl) ?_ (fun _ => HSO.out _ (H5.out.blk.below hba H5.out.blk.lt) (HX5.out.below hba HX5.out.lt)) ?_
            · first | (go_simp; done) | (go_simp; rfl)
            simp only [zSA, zSB, zSC]
            refine R_step 8 rfl (by rfl) (by kernel_rfl) ?_
            refine wp_append_own2 _ _ _ _ rfl B 98 iI _ 9 72 Tryz.underlying77 hiI hy0 hy1 hy2 rfl (by decide) _ _ _ rfl (HROW.out.drew.alloc _) ⟨w5.heap.size, 0, none⟩ 1 1 [.int .u8 (s.home id).kind, .int .u8 (s.home id).level, .int .u32 id, .int .u64 (s.home id).lsn, .int .u32 (s.home id).next, .slice A (s.home id).rows.length c, .int .i64 0, .bool false, .int .u64 0] rfl rfl (blk_news (cs := [.int .u8 (s.home id).kind, .int .u8 (s.home id).level, .int .u32 id, .int .u64 (s.home id).lsn, .int .u32 (s.home id).next, .slice A (s.home id).rows.length c, .int .i64 0, .bool false, .int .u64 0]) (Blk.new w5.drew 98 #[.int .u8 (s.home id).kind, .int .u8 (s.home id).level, .int .u32 id, .int .u64 (s.home id).lsn, .int .u32 (s.home id).next, .slice A (s.home id).rows.length c, .int .i64 0, .bool false, .int .u64 0])) (fun x hx => by simp at hx; rcases hx with rfl | rfl | rfl | rfl | rfl | rfl | rfl | rfl | rfl <;> rfl) (by unfold maxLen; omega) (by omega) (by simp; omega) ?_
            intro v6 w6 q1 q2 q3
            obtain ⟨A6, n6, c6, rfl⟩ := own_slice q1
            have hgrv : some gr ≠ (Value.slice A5 s.room.2.L.length c5).ownBlock := fun e => H5.out.Lr e.symm
            have hg6v : some g6 ≠ (Value.slice A5 s.room.2.L.length c5).ownBlock := fun e => hg6o (.inr (.inl e.symm))
            have hG6 : Blk w6 gr 80 _ := (H5.out.blk.below hba H5.out.blk.lt).grown q2 hgrv
            have hX6 := (HX5.out.below hba HX5.out.lt).grown q2 hg6v
            refine ⟨fun _ => HSO.out w6 hG6 hX6, ?_⟩
            refine R_put 43 rfl ?_
            simp only [zSA, zSB, zSC]
            refine R_run 9 44 (v := ptr gr) (w' := w6) rfl rfl (by rfl) (by kernel_rfl) (by go_simp) (fun _ => HSO.out w6 hG6 hX6) ?_
            simp only [zSA, zSB, zSC]
            refine R_run 10 45 (v := .pointer (some ⟨gr, 1, none⟩)) (w' := w6) rfl rfl (by rfl) (by kernel_rfl) (by go_simp) (fun _ => HSO.out w6 hG6 hX6) ?_
            simp only [zSA, zSB, zSC]
            have c16 := hG6.cell 1
            have f16 := hG6.frozen 1
            simp only [zGA, zGB, zGC] at c16
            refine R_store 11 (n := .skip) (w' := w6.setCell ⟨gr, 1, none⟩ (.slice A6 n6 c6)) rfl rfl (by rfl) (by kernel_rfl) (by go_simp) (.inl rfl) (fun h => nomatch h) ?_
            have hnew : riCells ⟨s.home id, 0, false, 0⟩ A c = [.int .u8 (s.home id).kind, .int .u8 (s.home id).level, .int .u32 id, .int .u64 (s.home id).lsn, .int .u32 (s.home id).next, .slice A (s.home id).rows.length c, .int .i64 0, .bool false, .int .u64 0] := by simp only [riCells, HH.out]; rfl
            rw [← hnew] at q1
            have hfin := H5.out.snoc (x := ⟨s.home id, 0, false, 0⟩) HAA.out HRR5.out HRI.out hba q1 q2 q3 hn64 (fun y hy => by have := HPI.out.1.in_ y hy; have := HPI.out.1.top; omega) HPI.out.1.nd
            have HFIN := Lib.hid hfin
            clear hfin q1 q2 q3 hG6 hX6 c16 f16 hS hba
            refine R_done (by kernel_rfl) ?_ _
            refine hK9 _ _ ?_
            clear hK9
            go_meet
            case rel => exact ⟨rfl, _, _, HFIN.out.1, HPI.out, HT25.out.trans HFIN.out.2⟩
          · have hpf := Sp.pin_full hno htop' h0 hr
            rw [← HE.out] at hpf
            subst hpf
            clear HE
            generalize s.room = rm at *
            obtain ⟨n, s5⟩ := rm
            dsimp only at hr h5 HT5 ht5 ⊢
            have hn1 : decide ((n : Int) = 0) = false := by rw [decide_eq_false_iff_not]; omega
            have hn2 : ((n : Int) == 0) = false := by rw [beq_eq_false_iff_ne]; omega
            have hn3 : ¬ (n : Int) = 0 := by omega
            have H5 := Lib.hid h5
            clear h5 ht5 z2
            go_wp2_with (refine wpList_store_part rfl _ _ _ rfl gq 0 #[.int .u8 0, .int .u8 0, .int .u32 0, .int .u64 0, .int .u32 0, .slice none 0 0] rfl rfl _ _ HB5.out pgr_size (by show 0 + 6 ≤ 6; omega) (by simp [Value.oneCell']) ?_)
            generalize hw9 : World.setRow _ gq _ = w9
            have hw9B : Blk w9 gq 32 #[.int .u8 0, .int .u8 0, .int .u32 0, .int .u64 0, .int .u32 0, .slice none 0 0] := by rw [← hw9]; exact (HB5.out).setRow _
            have hw9R : RfAt B G w9 gr vL5 vD s5 := by rw [← hw9]; exact (H5.out).farRow (g := gq) (hgq5) _
            have hw9T : Turns (rfO gr vL vD) (rfO gr vL5 vD) w w9 := by rw [← hw9]; exact (HT5.out).setRow (g := gq) (.inr hgq0) _
            have y0 := hw9B.cell 0
            have y1 := hw9B.cell 1
            have y2 := hw9B.cell 2
            have y3 := hw9B.cell 3
            have y4 := hw9B.cell 4
            have y5 := hw9B.cell 5
            simp only [zGA, zGB, zGC] at y0 y1 y2 y3 y4 y5
            clear hw9
            exact bodyPost_ret (v := .tuple #[zeroPgV, .int .i64 n]) (by rw [results_cell_tmp rfl]; go_simp) rfl ⟨⟨_, hw9R, hw9T⟩, .inl ⟨rfl, hr, rfl⟩⟩
    · rw [hat]
      have hds : decide ((k : Int) < 0) = false := by rw [decide_eq_false_iff_not]; omega
      have hds2 : ¬ (k : Int) < 0 := by omega
      go_wp2_with fail
      go_meet
      case rel => exact ⟨rfl, vL, s, H2.out, Sp.PinIn.of_in ho hyes, Turns.refl _ _⟩
  case rest =>
    rename_i K9 hK9
    refine hK9 _ _ ?_
    clear hK9
    obtain ⟨rfl, vL1, s1, h3, hP, ht3⟩ := hcut
    rcases Sp.at_cases s1 id with ⟨_, _, hno⟩ | ⟨k, hk, hat, hidk, hget, _⟩
    · rw [hP.2.1] at hno; cases hno
    · have hpin := hP.2.2 _ hget
      rw [← HE.out] at hpin
      subst hpin
      have HAT := Lib.hid (ref_at h3 id)
      rw [hat] at HAT
      have H3 := Lib.hid h3
      have HT3 := Lib.hid ((Turns.of_below HB02.out (rfO gr vL vD)).trans ht3)
      have HBQ3 := Lib.hid (HB2.out.turns ht3 (fun e => HGQ.out (.inl e)))
      have hgqv : ¬ (rfO gr vL1 vD gq ∨ G gq) := fun e => by
        rcases e with e | e
        · rcases ht3.foot gq e with e | e
          · exact HGQ.out (.inl e)
          · omega
        · exact HGQ.out (.inr e)
      have HO := Lib.hid hP.1
      have HGV := Lib.hid hgqv
      clear h3 ht3 HE hat hP HB2 hgqv
      go_wp2_with fail
      refine HAT.out.mono ?_
      rintro e w5 ⟨rfl, hb5⟩
      have h5 := H3.out.below hb5
      obtain ⟨g, c, A, c', rfl, hA, hR, hc⟩ := h5.item hk
      obtain ⟨x, hx⟩ : ∃ x, x = s1.L[k] := ⟨_, rfl⟩
      rw [← hx] at hR hc hidk
      have HXX := Lib.hid hx
      clear hx
      have c1 := h5.blk.cell 1
      simp only [zGA, zGB, zGC] at c1
      have k0 := hc 0 (by omega)
      have k1 := hc 1 (by omega)
      have k2 := hc 2 (by omega)
      have k3 := hc 3 (by omega)
      have k4 := hc 4 (by omega)
      have k5 := hc 5 (by omega)
      simp only [riCells, List.getElem?_cons_succ, List.getElem?_cons_zero, Nat.add_zero] at k0 k1 k2 k3 k4 k5
      have hba := (Below.refl w5.heap.size w5).alloc (Nat.le_refl _) (.cells #[.int .u8 x.page.kind, .int .u8 x.page.level, .int .u32 id, .int .u64 x.page.lsn, .int .u32 x.page.next, .slice A x.page.rows.length c'] 32)
      have HB6 := Lib.hid (Blk.new w5 32 #[.int .u8 x.page.kind, .int .u8 x.page.level, .int .u32 id, .int .u64 x.page.lsn, .int .u32 x.page.next, .slice A x.page.rows.length c'])
      have HR6 := Lib.hid (Reads.below hR hba)
      have HPS := Lib.hid (ref_pinS (h5.below hba) HO.out hk (id := id) (by have := hidk; rw [HXX.out] at this; exact this))
      have HBQ6 := Lib.hid ((HBQ3.out.below hb5 HBQ3.out.lt).below hba (HBQ3.out.below hb5 HBQ3.out.lt).lt)
      have HT6 := Lib.hid (HT3.out.trans ((Turns.of_below hb5 _).trans (Turns.of_below hba _)))
      have H6 := Lib.hid (h5.below hba)
      have hg5 : ¬ (rfO gr (.slice (some ⟨g, 0, none⟩) s1.L.length c) vD w5.heap.size) := fun e => by have := h5.lt (.inl e); omega
      have hgq5 : gq < w5.heap.size := Nat.lt_of_lt_of_le HBQ3.out.lt hb5.size
      clear hR hc h5 hb5 hba HAT H3 HT3 HBQ3 HO
      go_wp2_with fail
      clear k0 k1 k2 k3 k4 k5 c1
      refine HPS.out.mono ?_
      rintro e w7 ⟨rfl, v', h7, ht7⟩
      have hB7 := HB6.out.turns ht7 hg5
      have hR7 : RowsAt G w7 A x.page.rows := HR6.out.turns ht7 (fun b hb => ⟨(H6.out.g b hb).1, fun e => by
        obtain ⟨_, q2, q3, q4⟩ := H6.out.g b hb
        rcases e with e | e | e
        · exact q2 e
        · exact q3 e
        · exact q4 e⟩)
      have hgqv7 : ¬ (rfO gr v' vD gq ∨ G gq) := fun e => by
        rcases e with e | e
        · rcases ht7.foot gq e with e | e
          · exact HGV.out (.inl e)
          · simp only [World.size_alloc] at e; omega
        · exact HGV.out (.inr e)
      have HBQ7 := Lib.hid (HBQ6.out.turns ht7 (fun e => HGV.out (.inl e)))
      have HT7 := Lib.hid (HT6.out.trans ht7)
      have H7 := Lib.hid h7
      have HR7 := Lib.hid hR7
      have HV7 := Lib.hid hgqv7
      have z0 := hB7.cell 0
      have z1 := hB7.cell 1
      have z2 := hB7.cell 2
      have z3 := hB7.cell 3
      have z4 := hB7.cell 4
      have z5 := hB7.cell 5
      simp only [zGA, zGB, zGC] at z0 z1 z2 z3 z4 z5
      clear h7 ht7 hB7 hR7 hgqv7 HPS HB6 HR6 HBQ6 HT6 H6
      have ecs : pgCs x.page A c' = #[.int .u8 x.page.kind, .int .u8 x.page.level, .int .u32 id, .int .u64 x.page.lsn, .int .u32 x.page.next, .slice A x.page.rows.length c'] := by unfold pgCs; rw [hidk]
      go_wp2_with (refine wpList_store_part rfl _ _ _ rfl gq 0 #[.int .u8 x.page.kind, .int .u8 x.page.level, .int .u32 id, .int .u64 x.page.lsn, .int .u32 x.page.next, .slice A x.page.rows.length c'] rfl rfl _ _ HBQ7.out pgr_size (by show 0 + 6 ≤ 6; omega) (by simp [Value.oneCell']) ?_)
      generalize hw9 : World.setRow _ gq _ = w9
      have hw9B : Blk w9 gq 32 #[.int .u8 x.page.kind, .int .u8 x.page.level, .int .u32 id, .int .u64 x.page.lsn, .int .u32 x.page.next, .slice A x.page.rows.length c'] := by rw [← hw9]; exact (HBQ7.out).setRow _
      have hw9R : RfAt B G w9 gr v' vD { s1 with L := Sp.pinR s1.L id } := by rw [← hw9]; exact (H7.out).farRow (g := gq) HV7.out _
      have hw9T : Turns (rfO gr vL vD) (rfO gr v' vD) w w9 := by rw [← hw9]; exact (HT7.out).setRow (g := gq) (.inr hgq0) _
      have hw9Q : RowsAt G w9 A x.page.rows := by rw [← hw9]; exact HR7.out.keep (Nat.le_of_eq (by simp [World.setRow])) (fun b hb => heap_setRow_other _ _ _ _ (fun e => HV7.out (.inr (by rw [← e]; exact hb))))
      have y0 := hw9B.cell 0
      have y1 := hw9B.cell 1
      have y2 := hw9B.cell 2
      have y3 := hw9B.cell 3
      have y4 := hw9B.cell 4
      have y5 := hw9B.cell 5
      simp only [zGA, zGB, zGC] at y0 y1 y2 y3 y4 y5
      clear hw9
      have evg : pgV x.page A c' = .agg #[.int .u8 x.page.kind, .int .u8 x.page.level, .int .u32 id, .int .u64 x.page.lsn, .int .u32 x.page.next, .slice A x.page.rows.length c'] := by show Value.agg (pgCs x.page A c') = _; rw [ecs]
      refine bodyPost_ret (v := .tuple #[pgV x.page A c', .int .i64 0]) (by rw [evg, results_cell_tmp rfl]; go_simp) rfl ⟨⟨_, hw9R, hw9T⟩, .inr ⟨x.page, A, c', by rw [HXX.out], rfl, rfl, hA, hw9Q⟩⟩
end
end Go.Proofs.YtndglfiepeefdaaGreat

/- The document's pool: Fresh. -/
namespace Go.Proofs.YtndglfiepeefdaaGreat
open Go.RowKit Go.Conc

section
variable {B gr : Nat} {G : Foot} {w : World} {vL vD : Value} {s : Sp.R15}
set_option maxRecDepth 100000 in
set_option maxHeartbeats 8000000 in
theorem ref_fresh (h : RfAt B G w gr vL vD s) (ho : s.Ok) {x : Sp.Pg} (hwf : x.wf) {A0 : Option Addr} {c0 : Nat} (hA0 : OkR A0) (hR0 : RowsAt G w A0 x.rows) (hn : x.rows.length ≤ 1000000000) (ht : Sp.total x.rows ≤ 1000000000000000000) :
    Calls Tryz.prog 42 #[ptr gr, pgV x A0 c0] w fun e w' => e = .returned (.int .i64 (s.fresh x (mayB x)).1) ∧ RfPost B G w gr vL vD (s.fresh x (mayB x)).2 w' := by
  obtain ⟨r, hr⟩ : ∃ r, r = s.fresh x (mayB x) := ⟨_, rfl⟩
  rw [← hr]
  have HE := Lib.hid hr
  have H := Lib.hid h
  have hba := (Below.refl w.heap.size w).alloc (Nat.le_refl _) (.cells (pgCs x A0 c0) 32)
  have hB1 := Blk.new w 32 (pgCs x A0 c0)
  have HMA := Lib.hid (ref06_may (w := w.alloc (.cells (pgCs x A0 c0) 32)) (c := c0) (Reads.below hR0 hba) hn ht)
  have HR0 := Lib.hid hR0
  have HA0 := Lib.hid hA0
  have HWF := Lib.hid hwf
  have hid32 : x.id < 4294967296 := hwf.2.2.1
  clear hr h hR0 hA0 hwf
  go_enter Tryz.func42, Tryz.ntmps42
  go_wp2_with fail
  obtain ⟨w1, hw1⟩ : ∃ w1, w1 = w.alloc (.cells (pgCs x A0 c0) 32) := ⟨_, rfl⟩
  rw [← hw1] at hB1 HMA hba ⊢
  obtain ⟨g3, hg3⟩ : ∃ g, g = w.heap.size := ⟨_, rfl⟩
  rw [← hg3] at hB1 ⊢
  have hg3l : w.heap.size ≤ g3 := by omega
  have hg3n : ¬ (rfO gr vL vD g3 ∨ G g3) := fun e => by have := H.out.lt e; omega
  clear hw1 hg3
  refine HMA.out.mono ?_
  rintro e w2 ⟨rfl, hb2⟩
  have hB2 := hB1.below hb2 hB1.lt
  have hb02 : Below w.heap.size w w2 := hba.trans (hb2.mono hba.size)
  clear HMA hB1 hb2 hba
  cases hm : mayB x with
  | false =>
    have e1 : s.fresh x false = (2, s) := by unfold Sp.R15.fresh; rw [if_pos rfl]
    rw [hm] at HE
    clear hB2
    go_wp2_with fail
    go_ret
    rw [HE.out, e1]
    exact ⟨rfl, RfPost.same H.out hb02⟩
  | true =>
    rw [hm] at HE
    have hmay := (mayB_iff x).1 hm
    have hx1 : 1 ≤ x.id := hmay.2.1
    have z0 := hB2.cell 0
    have z1 := hB2.cell 1
    have z2 := hB2.cell 2
    have z3 := hB2.cell 3
    have z4 := hB2.cell 4
    have z5 := hB2.cell 5
    simp only [zGA, zGB, zGC] at z0 z1 z2 z3 z4 z5
    have HAT := Lib.hid (ref_at (H.out.below hb02) x.id)
    have HB2 := Lib.hid hB2
    have HM := Lib.hid hmay
    clear hB2 hmay
    go_wp2_with fail
    refine HAT.out.mono ?_
    rintro e w3 ⟨rfl, hb3⟩
    have hb03 : Below w.heap.size w w3 := hb02.trans (hb3.mono hb02.size)
    have hB3 := HB2.out.below hb3 HB2.out.lt
    clear HAT z0 z1 z2 z3 z4 z5 HB2 hb3 hb02
    have h3 := H.out.below hb03
    rcases Sp.at_cases s x.id with ⟨hat, hget, hno⟩ | ⟨k, hk, hat, hid, hget, hyes⟩
    · rw [hat]
      have z2 := hB3.cell 2
      simp only [zGA, zGB, zGC] at z2
      have HB3 := Lib.hid hB3
      have H3 := Lib.hid h3
      have HB03 := Lib.hid hb03
      clear hat hget hB3 h3 hb03
      by_cases htop : s.top < x.id
      · have HHO := Lib.hid (ref_home_out H3.out hid32 htop ho.top)
        have e1 : s.fresh x true = (2, s) := by unfold Sp.R15.fresh; rw [if_neg (by decide), if_neg (by rw [hno]; decide), if_pos htop]
        go_wp2_with fail
        refine HHO.out.mono ?_
        rintro e w4 ⟨rfl, hb4⟩
        have HB4 := Lib.hid (HB03.out.trans (hb4.mono HB03.out.size))
        clear HHO z2 hb4
        go_wp2_with fail
        go_ret
        rw [HE.out, e1]
        exact ⟨rfl, RfPost.same H.out (HB4.out.alloc HB4.out.size _)⟩
      · have htop' : x.id ≤ s.top := by omega
        have HHI := Lib.hid (ref_home_in H3.out hid32 htop' ho.top)
        go_wp2_with fail
        refine HHI.out.mono ?_
        rintro e w4 ⟨A, c, rfl, hA, hR, hb4⟩
        have hb04 := HB03.out.trans (hb4.mono HB03.out.size)
        have hba := (Below.refl w4.heap.size w4).alloc (Nat.le_refl _) (.cells (pgCs (s.home x.id) A c) 32)
        have hB4 := HB3.out.below hb4 HB3.out.lt
        have HB5 := Lib.hid (hB4.below hba hB4.lt)
        have H5 := Lib.hid (H.out.below (hb04.trans (hba.mono hb04.size)))
        have HB05 := Lib.hid (hb04.trans (hba.mono hb04.size))
        have HRM := Lib.hid (ref_room H5.out ho)
        clear HHI z2 hb4 hb04 hba hB4 hA hR
        go_wp2_with fail
        refine HRM.out.mono ?_
        rintro e w5 ⟨rfl, vL5, h5, ht5⟩
        clear HRM
        have hfr : s.fresh x true = (if s.room.1 ≠ 0 then (s.room.1, s.room.2) else (0, { s.room.2 with L := s.room.2.L ++ [⟨x, 1, true, x.lsn⟩] })) := by
          unfold Sp.R15.fresh
          rw [if_neg (by decide), if_neg (by rw [hno]; decide), if_neg htop]
        by_cases hr : s.room.1 = 0
        · have hrl := Sp.room_len ho hr
          rw [if_neg (by rw [hr]; simp), ← HE.out] at hfr
          have hnn := Sp.room_not hno
          have hok : ({ s.room.2 with L := s.room.2.L ++ [⟨x, 1, true, x.lsn⟩] } : Sp.R15).Ok := ho.room.snoc (by rw [(Sp.room_top s).1]; exact ⟨hx1, htop'⟩) HWF.out.2.2.2.1 (by show 1 < _; omega) hnn (by rw [(Sp.room_top s).2.1]; exact hrl)
          rw [hr]
          obtain ⟨A5, c5, rfl, hzz⟩ := h5.slice
          clear hzz
          obtain ⟨xs, hrow, hRi⟩ := h5.L
          have hX5 : Blk w5 g3 32 (pgCs x A0 c0) := HB5.out.turns ht5 (fun e => hg3n (.inl e))
          have hRR5 : RowsAt G w5 A0 x.rows := (Reads.below HR0.out HB05.out).turns ht5 (fun b hb => ⟨(H5.out.g b hb).1, fun e => by
            obtain ⟨_, q2, q3, q4⟩ := H5.out.g b hb
            rcases e with e | e | e
            · exact q2 e
            · exact q3 e
            · exact q4 e⟩)
          have hg3o : ¬ rfO gr (.slice A5 s.room.2.L.length c5) vD g3 := fun e => by
            rcases ht5.foot g3 e with e | e
            · exact hg3n (.inl e)
            · have := HB5.out.lt; omega
          have hSof : ∀ (W : World), Blk W gr 80 #[.int .i64 s.room.2.frames, .slice A5 s.room.2.L.length c5, vD, .int .u64 s.room.2.forced, .int .u64 s.room.2.next] → Blk W g3 32 (pgCs x A0 c0) → W.cell? ⟨gr, 1, none⟩ = some (.slice A5 s.room.2.L.length c5) ∧ W.cell? ⟨g3, 0, none⟩ = some (.int .u8 x.kind) ∧ W.cell? ⟨g3, 1, none⟩ = some (.int .u8 x.level) ∧ W.cell? ⟨g3, 2, none⟩ = some (.int .u32 x.id) ∧ W.cell? ⟨g3, 3, none⟩ = some (.int .u64 x.lsn) ∧ W.cell? ⟨g3, 4, none⟩ = some (.int .u32 x.next) ∧ W.cell? ⟨g3, 5, none⟩ = some (.slice A0 x.rows.length c0) := fun W h1 h2 =>
            ⟨(h1.cell 1).trans rfl, (h2.cell 0).trans rfl, (h2.cell 1).trans rfl, (h2.cell 2).trans rfl, (h2.cell 3).trans rfl, (h2.cell 4).trans rfl, (h2.cell 5).trans rfl⟩
          have HSO := Lib.hid hSof
          have H6 := Lib.hid h5
          have HX5 := Lib.hid hX5
          have HROW := Lib.hid hrow
          have HRI := Lib.hid hRi
          have HRR5 := Lib.hid hRR5
          have HT5 := Lib.hid ((Turns.of_below HB05.out (rfO gr vL vD)).trans ht5)
          have HOK := Lib.hid hok
          have hS := Lib.hid (HSO.out w5.drew H6.out.blk.drew HX5.out.drew)
          obtain ⟨iI, hiI, hy0, hy1, hy2⟩ := info_parts item_info
          have hB5 : B ≤ w5.heap.size := Nat.le_trans h5.lo (by have := h5.blk.lt; omega)
          have hf64 := ho.frames
          have hn64 : s.room.2.L.length + 1 ≤ 64 := by omega
          have HFR := Lib.hid hfr
          clear h5 ht5 hX5 hrow hRi hRR5 hSof HB5 hfr hok HE hrl hf64
          go_wp2_with fail
          refine R_begin (fun (W : World) => W.cell? ⟨gr, 1, none⟩ = some (.slice A5 s.room.2.L.length c5) ∧ W.cell? ⟨g3, 0, none⟩ = some (.int .u8 x.kind) ∧ W.cell? ⟨g3, 1, none⟩ = some (.int .u8 x.level) ∧ W.cell? ⟨g3, 2, none⟩ = some (.int .u32 x.id) ∧ W.cell? ⟨g3, 3, none⟩ = some (.int .u64 x.lsn) ∧ W.cell? ⟨g3, 4, none⟩ = some (.int .u32 x.next) ∧ W.cell? ⟨g3, 5, none⟩ = some (.slice A0 x.rows.length c0)) (fun j => decide (13 ≤ j)) rfl ?_
          refine R_tt 0 30 hS.out ?_
          simp only [zSA, zSB, zSC]
          refine R_tt 1 31 hS.out ?_
          simp only [zSA, zSB, zSC]
          refine R_tt 2 32 hS.out ?_
          simp only [zSA, zSB, zSC]
          refine R_tt 3 33 hS.out ?_
          simp only [zSA, zSB, zSC]
          refine R_tt 4 34 hS.out ?_
          simp only [zSA, zSB, zSC]
          refine R_tt 5 35 hS.out ?_
          simp only [zSA, zSB, zSC]
          refine R_tt 6 36 hS.out ?_
          simp only [zSA, zSB, zSC]
          refine R_tt 7 37 hS.out ?_
          simp only [zSA, zSB, zSC]
          refine R_tt 8 38 hS.out ?_
          simp only [zSA, zSB, zSC]
          have hba := (Below.refl w5.heap.size w5).drew.alloc (Nat.le_refl _) (.cells #[.int .u8 x.kind, .int .u8 x.level, .int .u32 x.id, .int .u64 x.lsn, .int .u32 x.next, .slice A0 x.rows.length c0, .int .i64 1, .bool true, .int .u64 x.lsn] 98)
          refine R_run 9 39 (v := .slice (some ⟨w5.heap.size, 0, none⟩) 1 1) (w' := w5.drew.alloc (.cells #[.int .u8 x.kind, .int .u8 x.level, .int .u32 x.id, .int .u64 x.lsn, .int .u32 x.next, .slice A0 x.rows.length c0, .int .i64 1, .bool true, .int .u64 x.lsn] 98)) rfl rfl (by rfl) (by kernel_rfl) ?_ (fun _ => HSO.out _ (H6.out.blk.below hba H6.out.blk.lt) (HX5.out.below hba HX5.out.lt)) ?_
          · first | (go_simp; done) | (go_simp; rfl)
          simp only [zSA, zSB, zSC]
          refine R_step 10 rfl (by rfl) (by kernel_rfl) ?_
          refine wp_append_own2 _ _ _ _ rfl B 98 iI _ 9 72 Tryz.underlying77 hiI hy0 hy1 hy2 rfl (by decide) _ _ _ rfl (HROW.out.drew.alloc _) ⟨w5.heap.size, 0, none⟩ 1 1 [.int .u8 x.kind, .int .u8 x.level, .int .u32 x.id, .int .u64 x.lsn, .int .u32 x.next, .slice A0 x.rows.length c0, .int .i64 1, .bool true, .int .u64 x.lsn] rfl rfl (blk_news (cs := [.int .u8 x.kind, .int .u8 x.level, .int .u32 x.id, .int .u64 x.lsn, .int .u32 x.next, .slice A0 x.rows.length c0, .int .i64 1, .bool true, .int .u64 x.lsn]) (Blk.new w5.drew 98 #[.int .u8 x.kind, .int .u8 x.level, .int .u32 x.id, .int .u64 x.lsn, .int .u32 x.next, .slice A0 x.rows.length c0, .int .i64 1, .bool true, .int .u64 x.lsn])) (fun x hx => by simp at hx; rcases hx with rfl | rfl | rfl | rfl | rfl | rfl | rfl | rfl | rfl <;> rfl) (by unfold maxLen; omega) (by omega) (by simp; omega) ?_
          intro v6 w6 q1 q2 q3
          obtain ⟨A6, n6, c6, rfl⟩ := own_slice q1
          have hgrv : some gr ≠ (Value.slice A5 s.room.2.L.length c5).ownBlock := fun e => H6.out.Lr e.symm
          have hg6v : some g3 ≠ (Value.slice A5 s.room.2.L.length c5).ownBlock := fun e => hg3o (.inr (.inl e.symm))
          have hG6 : Blk w6 gr 80 _ := (H6.out.blk.below hba H6.out.blk.lt).grown q2 hgrv
          have hX6 := (HX5.out.below hba HX5.out.lt).grown q2 hg6v
          refine ⟨fun _ => HSO.out w6 hG6 hX6, ?_⟩
          refine R_put 40 rfl ?_
          simp only [zSA, zSB, zSC]
          refine R_run 11 41 (v := ptr gr) (w' := w6) rfl rfl (by rfl) (by kernel_rfl) (by go_simp) (fun _ => HSO.out w6 hG6 hX6) ?_
          simp only [zSA, zSB, zSC]
          refine R_run 12 42 (v := .pointer (some ⟨gr, 1, none⟩)) (w' := w6) rfl rfl (by rfl) (by kernel_rfl) (by go_simp) (fun _ => HSO.out w6 hG6 hX6) ?_
          simp only [zSA, zSB, zSC]
          have c16 := hG6.cell 1
          have f16 := hG6.frozen 1
          simp only [zGA, zGB, zGC] at c16
          refine R_store 13 (n := .skip) (w' := w6.setCell ⟨gr, 1, none⟩ (.slice A6 n6 c6)) rfl rfl (by rfl) (by kernel_rfl) (by go_simp) (.inl rfl) (fun h => nomatch h) ?_
          have hfin := H6.out.snoc (x := ⟨x, 1, true, x.lsn⟩) HA0.out HRR5.out HRI.out hba q1 q2 q3 hn64 (fun y hy => by have := HOK.out.in_ y hy; have := HOK.out.top; omega) HOK.out.nd
          have HFIN := Lib.hid hfin
          clear hfin q1 q2 q3 hG6 hX6 c16 f16 hS hba
          refine R_done (by kernel_rfl) ?_ _
          rename_i K9 hK9
          refine hK9 _ _ ?_
          clear hK9
          go_wp2_with fail
          go_ret
          rw [HFR.out]
          exact ⟨rfl, _, HFIN.out.1, HT5.out.trans HFIN.out.2⟩
        · rw [if_pos hr, ← HE.out] at hfr
          generalize s.room = rm at *
          obtain ⟨n, s5⟩ := rm
          dsimp only at hr h5 ht5 hfr ⊢
          have hn1 : decide ((n : Int) = 0) = false := by rw [decide_eq_false_iff_not]; omega
          have hn2 : ((n : Int) == 0) = false := by rw [beq_eq_false_iff_ne]; omega
          have hn3 : ¬ (n : Int) = 0 := by omega
          have HP := Lib.hid (And.intro h5 ((Turns.of_below HB05.out (rfO gr vL vD)).trans ht5))
          have HFR := Lib.hid hfr
          clear h5 ht5 hfr HE
          go_wp2_with fail
          go_ret
          rw [HFR.out]
          exact ⟨rfl, _, HP.out.1, HP.out.2⟩
    · have e1 : s.fresh x true = (8, s) := by unfold Sp.R15.fresh; rw [if_neg (by decide), if_pos hyes]
      rw [hat]
      have hds : decide ((0 : Int) ≤ (k : Int)) = true := by rw [decide_eq_true_iff]; omega
      have hds2 : (0 : Int) ≤ (k : Int) := by omega
      clear hat hget h3 hB3
      go_wp2_with fail
      go_ret
      rw [HE.out, e1]
      exact ⟨rfl, RfPost.same H.out hb03⟩
end
end Go.Proofs.YtndglfiepeefdaaGreat

/-
  DERIVED: the shelf's contract of slices.Clone at []uint32, in plain words (as the text Shelf, with other numbers).
-/
namespace Go.Proofs
open Go.Shelf
def Tryz.laysSlE041_f66_ren : Go.Shelf.Ren := ⟨fun | 41 => 66 | n => n, fun | 22 => 33 | 23 => 28 | 4 => 4 | n => n, fun | n => n⟩
theorem Tryz.laysSlE041_f66 : Go.Proofs.SlLaysE0.n41 Tryz.prog Tryz.laysSlE041_f66_ren := {
  mixed := by kernel_rfl
  f41 := ⟨Tryz.f66.name, by decide, Tryz.func66.trans (congrArg some (by kernel_rfl))⟩
  t4 := Tryz.underlying4
  a4 := Tryz.isAgg4
  z4 := Tryz.sizeOf4
  v4 := Tryz.zeroValue4
  t22 := Tryz.underlying33
  a22 := Tryz.isAgg33
  z22 := Tryz.sizeOf33
  v22 := Tryz.zeroValue33 }
open Go.RowKit Go.Lib in
/-- slices.Clone: "Clone returns a copy of the slice. The elements are copied using assignment, so this is a shallow clone. The result may have additional unused capacity. The result preserves the nilness of s.": OF A SLICE THAT IS NOT nil IT RETURNS A SLICE THAT IS NOT nil, OF THE SAME CELLS, IN MEMORY OF THE CALL's OWN ('ownsRow': the how-to's 6f); below the heap's size at the call all is as it was. (LAID AT THE INSTANCE 'slices.Clone[[]uint32,uint32]': no walk: one application.) -/
theorem Tryz.slices_Clone_f66 (i0 : TypeInfo) (z : Value) (size bytes : Nat) (hi : Tryz.prog.info? 28 = some i0) (hz0 : i0.zero = some z) (hz1 : i0.size = size) (hz2 : i0.bytes = bytes) (hzs : z.cells.size = size) (hsz : 0 < size) (z23 : ∀ w, (Go.sizeOf 28).run Tryz.prog w = .ok size w) (b off n c : Nat) (news : List Value) (w : World) (hl : news.length = n * size) (hn : n ≤ maxLen) (hbig : n * bytes ≤ 140737488355328) (hc : ∀ j u, news[j]? = some u → w.cell? ⟨b, off + j, none⟩ = some u) (h1 : ∀ u ∈ news, u.oneCell' = true) :
    Calls Tryz.prog 66 #[.slice (some ⟨b, off, none⟩) n c] w fun e w' => ∃ v', e = .returned v' ∧ w'.ownsRow w.heap.size 28 size v' n news ∧ v' ≠ .slice none 0 0 ∧ Below w.heap.size w w' := AnyE.slices_Clone Tryz.laysSlE041_f66 i0 z size bytes hi hz0 hz1 hz2 hzs hsz z23 b off n c news w hl hn hbig hc h1
open Go.RowKit Go.Lib in
/-- The same at nil: nil comes back; the world is as it was; nothing is asked of the element's type. (LAID AT THE INSTANCE 'slices.Clone[[]uint32,uint32]': no walk: one application.) -/
theorem Tryz.slices_Clone_nil_f66 (n c : Nat) (w : World) :
    Calls Tryz.prog 66 #[.slice none n c] w fun e w' => e = .returned (.slice none 0 0) ∧ w' = w := AnyE.slices_Clone_nil Tryz.laysSlE041_f66 n c w
end Go.Proofs

/- The walks of package pool: Flush. -/
namespace Go.Proofs.YtndglfiepeefdaaGreat
open Go.RowKit Go.Conc Go.Maps

section
variable {P : Program} {k e t : TypeId} {w : World} {b n : Nat} {l : List Nat}
theorem USet.atKey_in (z : DataW Unit) {p : Nat} (l : List Nat) (h : p ∈ l) : (setOf (H := Unit) (.lit (.bool true)) (l.map uKey)).atKey (uKey p) z = .lit (.bool true) := by
  have key : ∀ r : List Nat, p ∈ r.reverse → (setOf (H := Unit) (.lit (.bool true)) (r.reverse.map uKey)).atKey (uKey p) z = .lit (.bool true) := by
    intro r
    induction r with
    | nil => intro h; cases h
    | cons q r ih =>
      intro h
      rw [List.reverse_cons] at h ⊢
      rw [List.map_append, List.map_singleton, setOf_snoc]
      by_cases hq : p = q
      · subst hq
        exact atKey_put_same (tidy_setOf _ _ (fun x hx => by obtain ⟨y, _, rfl⟩ := List.mem_map.1 hx; exact uKey_lit y)).isMap (uKey_lit p) _ _
      · rw [atKey_put_other (fun e => hq (uKey_inj e))]
        refine ih ?_
        rcases List.mem_append.1 h with h | h
        · exact h
        · exact absurd (List.mem_singleton.1 h) hq
  have := key l.reverse (by simpa using h)
  simpa using this
theorem USet.look_in (h : USet P k e w b n l) (hk : P.underlying k = some (.int .u32)) (he : P.underlying e = some .bool) (ht : P.underlying t = some (.map k e)) (hz : (zeroValue e).run P w = .ok (.bool false) w) {p : Nat} (hp : p < 4294967296) (hn : p ∈ l) :
    (Instr.lookup t (.map (some b)) (.int .u32 (p : Int)) false).run P w = .ok (.bool true) w := by
  obtain ⟨v, ps, hrun, hv⟩ := World.ownsMap.lookup h (int_keyed hk) ht hz (plainElem_bool he false) (keyOf_int_mk hk (uKey_wf hp))
  rw [USet.atKey_in _ l hn] at hv
  rw [hrun, bool_inv he hv]
end

/-- slices.Clone of numbers. -/
theorem clone_u32 {G : Foot} {w : World} {A : Option Addr} {c : Nat} {q : List Nat} (hR : Reads G w 1 A q.length (q.map u32v)) (hA : OkAddr A) (hl : q.length ≤ 1000000) (hpos : 0 < q.length) :
    Calls Tryz.prog 66 #[.slice A q.length c] w fun e w' => ∃ g c', e = .returned (.slice (some ⟨g, 0, none⟩) q.length c') ∧ w.heap.size ≤ g ∧ w'.ownsRow w.heap.size 28 1 (.slice (some ⟨g, 0, none⟩) q.length c') q.length (q.map u32v) ∧ Below w.heap.size w w' := by
  obtain ⟨i0, hi, hz0, hz1, hz2⟩ := info_parts u32_info
  have hz23 : ∀ w, (Go.sizeOf 28).run Tryz.prog w = .ok 1 w := fun w => by kernel_rfl
  obtain ⟨b, o, rfl, _, _, hc⟩ := hR.2 hpos
  refine (Tryz.slices_Clone_f66 i0 _ 1 4 hi hz0 hz1 hz2 rfl (by decide) hz23 b o q.length c (q.map u32v) w (by simp) (by unfold maxLen; omega) (by omega) hc (fun u hu => by
    obtain ⟨x, _, rfl⟩ := List.mem_map.1 hu; rfl)).mono ?_
  rintro e w1 ⟨v, rfl, hO, hnn, hb⟩
  obtain ⟨g, c', rfl⟩ := own_form' hO hpos
  exact ⟨g, c', rfl, (hO.lt g rfl).1, hO, hb⟩

namespace Sp
/-- Pages of a row are written. -/
def R15.flush (s : R15) (q : List Nat) : Nat × R15 :=
  if ¬ q.Nodup then (2, s)
  else if 8 < (q.filter (isDirty s.L)).length then (2, s)
  else if q.all (hasR s.L) = false then (3, s)
  else s.write q
theorem nodup_take_bad {q : List Nat} {k : Nat} (hk : k < q.length) (h : q[k]! ∈ q.take k) : ¬ q.Nodup := fun hn => by
  have e : q = q.take k ++ q[k]! :: q.drop (k + 1) := by rw [getElem!_pos _ k hk, ← List.drop_eq_getElem_cons hk, List.take_append_drop]
  rw [e, List.nodup_append] at hn
  exact hn.2.2 _ h _ List.mem_cons_self rfl
theorem nodup_take_succ {q : List Nat} {k : Nat} (hk : k < q.length) (hn : (q.take k).Nodup) (h : q[k]! ∉ q.take k) : (q.take (k + 1)).Nodup := by
  rw [List.take_succ_eq_append_getElem hk, ← getElem!_pos q k hk, List.nodup_append]
  exact ⟨hn, by simp, fun a ha b hb e => h (by rw [← List.mem_singleton.1 hb, ← e]; exact ha)⟩
end Sp

/-- What Flush answers where writes is not reached. -/
def FluBad (p : Sp.Pl) (q : List Nat) (c : Nat) : Prop := (c = 2 ∧ (¬ q.Nodup ∨ 8 < (q.filter p.isD).length)) ∨ (c = 3 ∧ q.Nodup ∧ (q.filter p.isD).length ≤ 8 ∧ q.all (fun n => (p.find n).isSome) = false)

set_option maxRecDepth 100000 in
set_option maxHeartbeats 4000000 in
theorem pool_flush {F R G : Foot} {w : World} {gp gd gl at_ base fb cb mb s r : Nat} {v : Value} {cs : Array Value} {fl ids : List Nat} {p : Sp.Pl} (h : IsPlAt F R w gp gd gl at_ base fb cb mb v s r cs fl ids p)
    {A : Option Addr} {c : Nat} {q : List Nat} (hA : OkAddr A) (hA0 : q.length = 0 → A = none) (hR : Reads G w 1 A q.length (q.map u32v)) (hq : ∀ n ∈ q, n < 4294967296) (hl : q.length ≤ 100000) {X : Nat → World → Prop}
    (hX : q.Nodup → (q.filter p.isD).length ≤ 8 → (∀ n ∈ q, ∃ it, p.find n = some it) → 0 < q.length → ∀ W, Below w.heap.size w W → ∀ g c', w.heap.size ≤ g → W.ownsRow w.heap.size 28 1 (.slice (some ⟨g, 0, none⟩) q.length c') q.length (q.map u32v) →
      Calls Tryz.prog 65 #[ptr gp, .slice (some ⟨g, 0, none⟩) q.length c'] W fun e w' => ∃ c : Nat, e = .returned (.int .i64 c) ∧ X c w')
    (hX0 : q.length = 0 → ∀ W, Below w.heap.size w W → Calls Tryz.prog 65 #[ptr gp, .slice none 0 0] W fun e w' => ∃ c : Nat, e = .returned (.int .i64 c) ∧ X c w') :
    Calls Tryz.prog 18 #[ptr gp, .slice A q.length c] w fun e w' => ∃ c : Nat, e = .returned (.int .i64 c) ∧ ((FluBad p q c ∧ Below w.heap.size w w') ∨ X c w') := by
  have HM := Lib.hid (pool_made (w := w) h.cells.2.2.2.2.2.2.1)
  have HH := Lib.hid h
  have HRR := Lib.hid hR
  have HQ := Lib.hid hq
  have HX := Lib.hid hX
  have hmm := @run_makeMap Tryz.prog
  have hn64 := h.wf.n64
  clear h hR hq hX
  go_enter Tryz.func18, Tryz.ntmps18
  go_wp2_with fail
  refine HM.out.mono ?_
  rintro e w1 ⟨rfl, hw⟩
  subst w1
  go_wp2_with fail
  have hU0 : USet Tryz.prog 28 4 (w.alloc (.map #[] 0)) w.heap.size 0 [] := USet.made w
  have hb0 := (Below.refl _ w).alloc (Nat.le_refl _) (.map #[] 0)
  have HU0 := Lib.hid hU0
  clear hU0 hmm HM
  generalize w.alloc (.map #[] 0) = w1 at *
  have hmb : w.heap.size < w1.heap.size := HU0.out.lt
  obtain ⟨mbs, hmbs⟩ : ∃ g, g = w.heap.size := ⟨_, rfl⟩
  rw [← hmbs] at HU0 ⊢
  have hmbl : w.heap.size ≤ mbs := by omega
  clear hmbs
  go_loopw [6, 7, 18] (fun v6 v7 i wr => ∃ k : Nat, k ≤ q.length ∧ v6 = .int .i64 ((q.take k).filter p.isD).length ∧ v7 = .bool ((q.take k).all (fun n => (p.find n).isSome)) ∧ i = .int .i64 k ∧ USet Tryz.prog 28 4 wr mbs k (q.take k) ∧ (q.take k).Nodup ∧ Below w.heap.size w wr) (fun _ _ i _ => q.length - (intOf i).toNat)
  case atStart => exact ⟨0, by omega, rfl, rfl, rfl, HU0.out, by simp, hb0⟩
  case round =>
    obtain ⟨k, hk, rfl, rfl, rfl, hU, hnd, hbr⟩ := hrel
    have hflen : ((q.take k).filter p.isD).length ≤ k := Nat.le_trans (List.length_filter_le _ _) (by simp; omega)
    by_cases hlt : k < q.length
    · obtain ⟨b, o, u, rfl, _, _, hu, hcell⟩ := (Reads.below HRR.out hbr).at_ hlt
      have hqk : q[k]? = some q[k]! := by rw [getElem!_pos q k hlt]; exact List.getElem?_eq_getElem hlt
      rw [List.getElem?_map, hqk] at hu
      injection hu with hu
      subst hu
      have hid := HQ.out q[k]! (by rw [getElem!_pos q k hlt]; exact List.getElem_mem hlt)
      have hbad := Lib.hid (Sp.nodup_take_bad (q := q) (k := k) hlt)
      have hgood := Lib.hid (Sp.nodup_take_succ (q := q) (k := k) hlt hnd)
      have hfi : Hid ((q.take (k + 1)).filter p.isD = (q.take k).filter p.isD ++ (if p.isD q[k]! = true then [q[k]!] else [])) := by
        show _ = _
        rw [List.take_succ_eq_append_getElem hlt, ← getElem!_pos q k hlt, List.filter_append]
        congr 1
        by_cases h : p.isD q[k]! = true
        · rw [if_pos h, List.filter_cons_of_pos h, List.filter_nil]
        · rw [if_neg h, List.filter_cons_of_neg h, List.filter_nil]
      have hal : Hid ((q.take (k + 1)).all (fun n => (p.find n).isSome) = ((q.take k).all (fun n => (p.find n).isSome) && (p.find q[k]!).isSome)) := by
        show _ = _
        rw [List.take_succ_eq_append_getElem hlt, ← getElem!_pos q k hlt, List.all_append]
        simp
      have htk : Hid (q.take (k + 1) = q.take k ++ [q[k]!]) := by
        show _ = _
        rw [List.take_succ_eq_append_getElem hlt, ← getElem!_pos q k hlt]
      have hmeas : k + 1 ≤ q.length := hlt
      clear hqk
      generalize q[k]! = id at *
      have hr := HH.out.keep hbr.size (fun b hb => hbr.block b (HH.out.lt b hb))
      have c6 := hr.cells.2.2.2.2.2.2.1
      by_cases hin : id ∈ q.take k
      · have hlk := hU.look_in Tryz.underlying28 Tryz.underlying4 Tryz.underlying123 (Tryz.zb _) hid hin
        have HB := Lib.hid hbr
        cases hf : p.find id with
        | none =>
          have hlo := hr.look_out hid hf
          clear hU hr hbr
          go_wp2_with fail
          go_ret
          exact ⟨2, rfl, .inl ⟨.inl ⟨rfl, .inl (hbad.out hin)⟩, HB.out⟩⟩
        | some it =>
          have hlo := hr.look_in hid hf
          clear hU hr hbr
          go_wp2_with fail
          go_ret
          exact ⟨2, rfl, .inl ⟨.inl ⟨rfl, .inl (hbad.out hin)⟩, HB.out⟩⟩
      · have hlk := hU.look_not Tryz.underlying28 Tryz.underlying4 Tryz.underlying123 (Tryz.zb _) hid hin
        obtain ⟨w3, hrun3, hU3, hg3⟩ := hU.put Tryz.underlying28 Tryz.underlying4 Tryz.underlying123 (by unfold maxLen; omega) hid
        rw [← htk.out] at hU3
        have hb3 : Below w.heap.size w w3 := hbr.grown hg3 hbr.size (fun r e => by injection e with e; omega)
        have h3 := HH.out.keep hb3.size (fun b hb => hb3.block b (HH.out.lt b hb))
        have hnd3 := hgood.out hin
        have HU3 := Lib.hid hU3
        have HB3 := Lib.hid hb3
        cases hf : p.find id with
        | none =>
          have hlo := hr.look_out hid hf
          have hd : p.isD id = false := by unfold Sp.Pl.isD; rw [hf]
          rw [hd, if_neg (by decide), List.append_nil] at hfi
          rw [hf, Option.isSome_none, Bool.and_false] at hal
          clear hU hr hbr h3 hU3 hb3 hg3
          generalize hall : (q.take k).all (fun n => (p.find n).isSome) = bb
          cases bb with
          | true =>
            go_wp2_with fail
            go_roundw
            case rel => exact ⟨k + 1, hmeas, by rw [hfi.out], by rw [hal.out], by go_num, HU3.out, hnd3, HB3.out⟩
            case measure => simp [intOf]; omega
          | false =>
            go_wp2_with fail
            go_roundw
            case rel => exact ⟨k + 1, hmeas, by rw [hfi.out], by rw [hal.out], by go_num, HU3.out, hnd3, HB3.out⟩
            case measure => simp [intOf]; omega
        | some it =>
          have hlo := hr.look_in hid hf
          have hit := (Sp.Pl.find_mem hf).1
          have hd : p.isD id = it.dirty := by unfold Sp.Pl.isD; rw [hf]
          rw [hf, Option.isSome_some, Bool.and_true] at hal
          obtain ⟨A0, c0', _, _, hc0⟩ := h3.fr.item it hit
          have k7 := (h3.fr.blk.cell (it.idx * 9 + 7)).trans (hc0 7 (by omega))
          simp only [frCells, List.getElem?_cons_succ, List.getElem?_cons_zero] at k7
          have c4 := h3.cells.2.2.2.2.1
          have hlt9 := h3.wf.idx_lt hit
          clear hU hr hbr h3 hU3 hb3 hg3 hc0
          generalize hall : (q.take k).all (fun n => (p.find n).isSome) = bb at *
          cases hdd : it.dirty with
          | false =>
            rw [hdd] at k7 hd
            rw [hd, if_neg (by decide), List.append_nil] at hfi
            cases bb with
            | true =>
              go_wp2_with fail
              go_roundw
              case rel => exact ⟨k + 1, hmeas, by rw [hfi.out], by rw [hal.out], by go_num, HU3.out, hnd3, HB3.out⟩
              case measure => simp [intOf]; omega
            | false =>
              go_wp2_with fail
              go_roundw
              case rel => exact ⟨k + 1, hmeas, by rw [hfi.out], by rw [hal.out], by go_num, HU3.out, hnd3, HB3.out⟩
              case measure => simp [intOf]; omega
          | true =>
            rw [hdd] at k7 hd
            rw [hd, if_pos rfl] at hfi
            cases bb with
            | true =>
              go_wp2_with fail
              go_roundw
              case rel => exact ⟨k + 1, hmeas, by rw [hfi.out, List.length_append]; go_num, by rw [hal.out], by go_num, HU3.out, hnd3, HB3.out⟩
              case measure => simp [intOf]; omega
            | false =>
              go_wp2_with fail
              go_roundw
              case rel => exact ⟨k + 1, hmeas, by rw [hfi.out, List.length_append]; go_num, by rw [hal.out], by go_num, HU3.out, hnd3, HB3.out⟩
              case measure => simp [intOf]; omega
    · obtain rfl : k = q.length := by omega
      rw [List.take_length] at hnd hflen ⊢
      have HB := Lib.hid hbr
      have hsz := hbr.size
      by_cases h8 : 8 < (q.filter p.isD).length
      · have d8 : decide (8 < (q.filter p.isD).length) = true := by rw [decide_eq_true_iff]; exact h8
        clear hU hbr
        go_wp2_with fail
        go_ret
        exact ⟨2, rfl, .inl ⟨.inl ⟨rfl, .inr h8⟩, HB.out⟩⟩
      · have d8 : decide (8 < (q.filter p.isD).length) = false := by rw [decide_eq_false_iff_not]; exact h8
        generalize hall : q.all (fun n => (p.find n).isSome) = bb
        cases bb with
        | false =>
          clear hU hbr
          go_wp2_with fail
          go_ret
          exact ⟨3, rfl, .inl ⟨.inr ⟨rfl, hnd, by omega, hall⟩, HB.out⟩⟩
        | true =>
          have hAll : ∀ n ∈ q, ∃ it, p.find n = some it := fun n hn => Option.isSome_iff_exists.1 (by simpa using List.all_eq_true.1 hall n hn)
          clear hU
          rcases Nat.eq_zero_or_pos q.length with h0 | hpos
          · obtain rfl := hA0 h0
            have hcn := Lib.hid (Tryz.slices_Clone_nil_f66 0 c wr)
            have hw0 := Lib.hid (hX0 h0 wr hbr)
            clear hbr
            go_wp2_with fail
            refine hcn.out.mono ?_
            rintro e w5 ⟨rfl, hw5⟩
            subst w5
            go_wp2_with fail
            refine hw0.out.mono ?_
            rintro e w5 ⟨cc, rfl, hx⟩
            have hxh := Lib.hid hx
            clear hx
            go_wp2_with fail
            go_ret
            exact ⟨cc, rfl, .inr hxh.out⟩
          · have hcn := Lib.hid (clone_u32 (c := c) (Reads.below HRR.out hbr) hA (by omega) hpos)
            go_wp2_with fail
            refine hcn.out.mono ?_
            rintro e w5 ⟨g, c', rfl, hg, hO, hb5⟩
            have hb05 := hbr.trans (hb5.mono hbr.size)
            have hO' : w5.ownsRow w.heap.size 28 1 (.slice (some ⟨g, 0, none⟩) q.length c') q.length (q.map u32v) := by
              refine ⟨hO.1, ?_⟩
              rcases hO.2 with h | ⟨g', cap, cur, e, hb, rest⟩
              · exact .inl h
              · exact .inr ⟨g', cap, cur, e, Nat.le_trans hsz hb, rest⟩
            have hw0 := Lib.hid (HX.out hnd (by omega) hAll hpos w5 hb05 g c' (Nat.le_trans hsz hg) hO')
            clear hbr hO hO' hb5
            go_wp2_with fail
            refine hw0.out.mono ?_
            rintro e w6 ⟨cc, rfl, hx⟩
            have hxh := Lib.hid hx
            clear hx
            go_wp2_with fail
            go_ret
            exact ⟨cc, rfl, .inr hxh.out⟩
end Go.Proofs.YtndglfiepeefdaaGreat

/- The document's pool: Flush. -/
namespace Go.Proofs.YtndglfiepeefdaaGreat
open Go.RowKit Go.Conc

namespace Sp
theorem flush_dup {s : R15} {q : List Nat} (h : ¬ q.Nodup) : s.flush q = (2, s) := by unfold R15.flush; rw [if_pos h]
theorem filt_take {L : List RI} {q : List Nat} {i : Nat} (hi : i < q.length) : ((q.take (i + 1)).filter (isDirty L)).length = ((q.take i).filter (isDirty L)).length + (if isDirty L q[i] = true then 1 else 0) := by
  rw [List.take_succ_eq_append_getElem hi, List.filter_append, List.length_append]
  congr 1
  cases h : isDirty L q[i] with
  | true => rw [List.filter_cons_of_pos h]; rfl
  | false => rw [List.filter_cons_of_neg (by rw [h]; decide)]; rfl
theorem all_take {L : List RI} {q : List Nat} {i : Nat} (hi : i < q.length) : (q.take (i + 1)).all (hasR L) = ((q.take i).all (hasR L) && hasR L q[i]) := by
  rw [List.take_succ_eq_append_getElem hi, List.all_append]
  simp
end Sp

section
variable {B gr : Nat} {G : Foot} {w : World} {vL vD : Value} {s : Sp.R15}
set_option maxRecDepth 100000 in
set_option maxHeartbeats 8000000 in
theorem ref_flush (h : RfAt B G w gr vL vD s) (ho : s.Ok) {G1 : Foot} {A0 : Option Addr} {c0 : Nat} {q : List Nat} (hR0 : Reads G1 w 1 A0 q.length (q.map u32v)) (hG1 : Apart w (rfO gr vL vD) G1) (hql : q.length ≤ 100000) :
    Calls Tryz.prog 39 #[ptr gr, .slice A0 q.length c0] w fun e w' => e = .returned (.int .i64 (s.flush q).1) ∧ RfPost B G w gr vL vD (s.flush q).2 w' := by
  obtain ⟨r, hr⟩ : ∃ r, r = s.flush q := ⟨_, rfl⟩
  rw [← hr]
  have HE := Lib.hid hr
  have H := Lib.hid h
  have HR0 := Lib.hid hR0
  have HA1 := Lib.hid hG1
  clear hr h hR0 hG1
  go_enter Tryz.func39, Tryz.ntmps39
  go_wp2_with fail
  go_loopw [5, 6, 7] (fun v5 v6 v7 wr => ∃ i : Nat, i ≤ q.length ∧ v5 = .int .i64 (((q.take i).filter (Sp.isDirty s.L)).length : Nat) ∧ v6 = .bool ((q.take i).all (Sp.hasR s.L)) ∧ v7 = .int .i64 i ∧ (q.take i).Nodup ∧ Below w.heap.size w wr) (fun _ _ v7 _ => q.length - (intOf v7).toNat)
  case atStart => exact ⟨0, by omega, rfl, rfl, rfl, by simp, Below.refl _ _⟩
  case round =>
    obtain ⟨i, hi, rfl, rfl, rfl, hnd, hbr⟩ := hrel
    have hcnt : ((q.take i).filter (Sp.isDirty s.L)).length ≤ 100000 := by
      have h1 := List.length_filter_le (Sp.isDirty s.L) (q.take i)
      rw [List.length_take] at h1
      omega
    by_cases hlt : i < q.length
    · obtain ⟨b, o, hA, hGb, hbw, hcell⟩ := HR0.out.2 (by omega)
      subst hA
      have hcw : ∀ j (hj : j < q.length) (W : World), Below w.heap.size w W → W.cell? ⟨b, o + j, none⟩ = some (u32v q[j]) := fun j hj W hb => (hb.cell (p := ⟨b, o + j, none⟩) hbw).trans (hcell j _ (by rw [List.getElem?_map, List.getElem?_eq_getElem hj]; rfl))
      have HC := Lib.hid hcw
      have hft := Sp.filt_take (L := s.L) hlt
      have hat2 := Sp.all_take (L := s.L) hlt
      have hmeas : i + 1 ≤ q.length := hlt
      have HND := Lib.hid hnd
      have HFT := Lib.hid hft
      have HAL := Lib.hid hat2
      generalize ((q.take i).filter (Sp.isDirty s.L)).length = n0 at *
      generalize (q.take i).all (Sp.hasR s.L) = b0 at *
      clear hcell hcw hnd hft hat2 hGb
      go_wp2_with fail
      go_loopw [8] (fun v8 wq => ∃ k : Nat, k ≤ i ∧ v8 = .int .i64 k ∧ (∀ x ∈ q.take k, x ≠ q[i]) ∧ Below w.heap.size w wq) (fun v8 _ => i - (intOf v8).toNat)
      case atStart => exact ⟨0, by omega, rfl, by simp, hbr⟩
      case round =>
        obtain ⟨k, hk, rfl, hno, hbq⟩ := hrel
        by_cases hki : k < i
        · have ck := HC.out k (by omega) _ hbq
          have ci := HC.out i hlt _ hbq
          have hmk : k + 1 ≤ i := hki
          have hkq : (k : Int) < (q.length : Int) := by omega
          have hiq : (i : Int) < (q.length : Int) := by omega
          by_cases he : q[k] = q[i]
          · have hbad : ¬ q.Nodup := fun hn => by
              have hp := List.pairwise_iff_getElem.1 hn k i (by omega) hlt hki
              exact hp he
            have e1 := Sp.flush_dup (s := s) hbad
            rw [he] at ck
            clear hno he
            go_wp2_with fail
            go_quiet (fail)
            go_wp2_with fail
            go_ret
            rw [HE.out, e1]
            exact ⟨rfl, RfPost.same H.out (below_drewN' hbq _)⟩
          · have hno' : ∀ x ∈ q.take (k + 1), x ≠ q[i] := fun x hx => by
              rw [List.take_succ_eq_append_getElem (by omega)] at hx
              rcases List.mem_append.1 hx with hx | hx
              · exact hno x hx
              · rw [List.mem_singleton.1 hx]; exact he
            have HNO := Lib.hid hno'
            have hd : ((q[k] : Int) == (q[i] : Int)) = false := by rw [beq_eq_false_iff_ne]; omega
            have hd2 : ¬ (q[k] : Int) = (q[i] : Int) := by omega
            clear hno hno'
            generalize q[k] = qk at *
            generalize hqi : q[i] = qi at *
            go_wp2_with fail
            go_quiet (fail)
            go_wp2_with fail
            go_roundw
            case rel => exact ⟨k + 1, hmk, by go_num, HNO.out, below_drewN' hbq _⟩
            case measure => simp [intOf]; omega
        · obtain rfl : k = i := by omega
          have ci := HC.out k hlt _ hbq
          have hiq : (k : Int) < (q.length : Int) := by omega
          have hnd' : (q.take (k + 1)).Nodup := by
            rw [List.take_succ_eq_append_getElem hlt, List.nodup_append]
            refine ⟨HND.out, by simp, fun a ha b hb => ?_⟩
            rw [List.mem_singleton.1 hb]
            exact hno a ha
          have HND2 := Lib.hid hnd'
          have HAT := Lib.hid (ref_at (H.out.below hbq) q[k])
          clear hno hnd'
          go_wp2_with fail
          refine HAT.out.mono ?_
          rintro e w3 ⟨rfl, hb3⟩
          have hb03 := hbq.trans (hb3.mono hbq.size)
          clear HAT
          have h3 := H.out.below hb03
          rcases Sp.at_cases s q[k] with ⟨hat, hget, hhas⟩ | ⟨k2, hk2, hat, hid, hget, hhas⟩
          · have e1 := HFT.out
            have e2 := HAL.out
            rw [hhas, Bool.and_false] at e2
            have hdd : Sp.isDirty s.L q[k] = false := by unfold Sp.isDirty; rw [hget]
            rw [hdd, if_neg (by decide), Nat.add_zero] at e1
            have E1 := Lib.hid e1
            have E2 := Lib.hid e2
            rw [hat]
            clear hat hget hhas h3 e1 e2 hdd HFT HAL
            cases b0 with
            | true =>
              go_wp2_with fail
              go_roundw
              case rel => exact ⟨k + 1, hmeas, by rw [E1.out]; rfl, by rw [E2.out], by go_num, HND2.out, hb03⟩
              case measure => simp [intOf]; omega
            | false =>
              go_wp2_with fail
              go_roundw
              case rel => exact ⟨k + 1, hmeas, by rw [E1.out]; rfl, by rw [E2.out], by go_num, HND2.out, hb03⟩
              case measure => simp [intOf]; omega
          · obtain ⟨g, c, A, c', hvL, hA, hR, hc⟩ := h3.item hk2
            have c1 := h3.blk.cell 1
            simp only [zGA, zGB, zGC] at c1
            rw [hvL] at c1
            have k7 := hc 7 (by omega)
            simp only [riCells, List.getElem?_cons_succ, List.getElem?_cons_zero] at k7
            have e1 := HFT.out
            have e2 := HAL.out
            rw [hhas, Bool.and_true] at e2
            have hdd : Sp.isDirty s.L q[k] = s.L[k2].dirty := by unfold Sp.isDirty; rw [hget]
            rw [hdd] at e1
            rw [hat]
            have hds : decide ((0 : Int) ≤ (k2 : Int)) = true := by rw [decide_eq_true_iff]; omega
            have hds2 : (0 : Int) ≤ (k2 : Int) := by omega
            clear hat hget hhas h3 hdd HFT HAL hid hA hR hc hvL
            generalize s.L[k2].dirty = dd at *
            have E1 := Lib.hid e1
            have E2 := Lib.hid e2
            clear e1 e2
            cases dd with
            | true =>
              cases b0 with
              | true =>
                go_wp2_with fail
                go_roundw
                case rel => exact ⟨k + 1, hmeas, by rw [E1.out]; go_num, by rw [E2.out], by go_num, HND2.out, hb03⟩
                case measure => simp [intOf]; omega
              | false =>
                go_wp2_with fail
                go_roundw
                case rel => exact ⟨k + 1, hmeas, by rw [E1.out]; go_num, by rw [E2.out], by go_num, HND2.out, hb03⟩
                case measure => simp [intOf]; omega
            | false =>
              cases b0 with
              | true =>
                go_wp2_with fail
                go_roundw
                case rel => exact ⟨k + 1, hmeas, by rw [E1.out]; rfl, by rw [E2.out], by go_num, HND2.out, hb03⟩
                case measure => simp [intOf]; omega
              | false =>
                go_wp2_with fail
                go_roundw
                case rel => exact ⟨k + 1, hmeas, by rw [E1.out]; rfl, by rw [E2.out], by go_num, HND2.out, hb03⟩
                case measure => simp [intOf]; omega
    · obtain rfl : i = q.length := by omega
      rw [List.take_length] at hnd hcnt ⊢
      have hfl : s.flush q = if 8 < (q.filter (Sp.isDirty s.L)).length then (2, s) else if q.all (Sp.hasR s.L) = false then (3, s) else s.write q := by
        unfold Sp.R15.flush; rw [if_neg (by simpa using hnd)]
      by_cases h8 : 8 < (q.filter (Sp.isDirty s.L)).length
      · rw [if_pos h8, ← HE.out] at hfl
        have HFL := Lib.hid hfl
        generalize (q.filter (Sp.isDirty s.L)).length = n0 at *
        have d1 : decide ((8 : Int) < (n0 : Int)) = true := by rw [decide_eq_true_iff]; omega
        have d2 : (8 : Int) < (n0 : Int) := by omega
        clear hnd hfl hlt hi HE
        go_wp2_with fail
        go_ret
        rw [HFL.out]
        exact ⟨rfl, RfPost.same H.out hbr⟩
      · rw [if_neg h8, ← HE.out] at hfl
        have HNI : Hid (q.all (Sp.hasR s.L) = true → ∀ n ∈ q, Sp.hasR s.L n = true) := fun h => List.all_eq_true.1 h
        generalize (q.filter (Sp.isDirty s.L)).length = n0 at *
        have d1 : decide ((8 : Int) < (n0 : Int)) = false := by rw [decide_eq_false_iff_not]; omega
        have d2 : ¬ (8 : Int) < (n0 : Int) := by omega
        cases hal : q.all (Sp.hasR s.L) with
        | false =>
          rw [hal, if_pos rfl] at hfl
          have HFL := Lib.hid hfl
          clear hnd hfl hlt hi HE HNI hal
          go_wp2_with fail
          go_ret
          rw [HFL.out]
          exact ⟨rfl, RfPost.same H.out hbr⟩
        | true =>
          rw [hal, if_neg (by decide)] at hfl
          have HFL := Lib.hid hfl
          have HW := Lib.hid (ref_write (H.out.below hbr) (c0 := c0) (Reads.below HR0.out hbr) (HA1.out.below hbr.size) (HNI.out hal) hql ho.lsn ho.in_)
          clear hnd hfl hlt hi HE HNI hal
          go_wp2_with fail
          refine HW.out.mono ?_
          rintro e w2 ⟨rfl, h2, ht2⟩
          have HP := Lib.hid (And.intro h2 ((Turns.of_below hbr (rfO gr vL vD)).trans ht2))
          clear h2 ht2 HW
          go_wp2_with fail
          go_ret
          rw [HFL.out]
          exact ⟨rfl, _, HP.out.1, HP.out.2⟩
end
end Go.Proofs.YtndglfiepeefdaaGreat

/- The document's pool: Pages. -/
namespace Go.Proofs.YtndglfiepeefdaaGreat
open Go.RowKit Go.Conc

namespace Sp
theorem ins_sorted {l : List Nat} (hl : l.Pairwise (· ≤ ·)) {a n : Nat} (h1 : ∀ x ∈ l.take a, x < n) (h2 : a = l.length ∨ ∃ h : a < l.length, n ≤ l[a]) : (l.take a ++ n :: l.drop a).Pairwise (· ≤ ·) := by
  have hd : ∀ y ∈ l.drop a, n ≤ y := fun y hy => by
    rcases h2 with e | ⟨h, e⟩
    · rw [List.drop_of_length_le (by omega)] at hy; cases hy
    · obtain ⟨j, hj, rfl⟩ := List.mem_iff_getElem.1 hy
      rw [List.getElem_drop]
      rcases Nat.eq_zero_or_pos j with rfl | hp
      · exact e
      · exact Nat.le_trans e (List.pairwise_iff_getElem.1 hl a (a + j) h (by simp at hj; omega) (by omega))
  rw [List.pairwise_append, List.pairwise_cons]
  refine ⟨hl.sublist (List.take_sublist a l), ⟨hd, hl.sublist (List.drop_sublist a l)⟩, fun x hx y hy => ?_⟩
  have := h1 x hx
  rcases List.mem_cons.1 hy with rfl | hy
  · omega
  · have := hd y hy; omega
theorem ins_perm (l : List Nat) (a n : Nat) : (l.take a ++ n :: l.drop a).Perm (l ++ [n]) := by
  have h1 : (l.take a ++ n :: l.drop a).Perm (n :: (l.take a ++ l.drop a)) := List.perm_middle
  rw [List.take_append_drop] at h1
  exact h1.trans (List.perm_append_comm (l₁ := [n]) (l₂ := l))
end Sp

theorem own_readsB {w : World} {base e size n m c : Nat} {A : Option Addr} {xs : List Value} (h : w.ownsRow base e size (.slice A m c) n xs) : Reads (fun b => base ≤ b) w size A n xs := by
  rcases h.2 with ⟨h0, h1⟩ | ⟨g, cap, cur, h0, _⟩
  · injection h0 with h2 _ _
    subst h2 h1
    exact ⟨h.1, fun e => by omega⟩
  · injection h0 with h2 h3 h4
    subst h2 h3 h4
    exact own_reads h

section
variable {B gr : Nat} {G : Foot} {w : World} {vL vD : Value} {s : Sp.R15}
set_option maxRecDepth 100000 in
set_option maxHeartbeats 8000000 in
theorem ref_pages (h : RfAt B G w gr vL vD s) :
    Calls Tryz.prog 43 #[ptr gr] w fun e w' => ∃ A c, e = .returned (.slice A s.pages.length c) ∧ Reads (fun b => w.heap.size ≤ b) w' 1 A s.pages.length (s.pages.map u32v) ∧ Below w.heap.size w w' := by
  have H := Lib.hid h
  obtain ⟨A0, c0, hvL, hcell0⟩ := h.slice
  have HCL := Lib.hid hcell0
  have hfew := h.few
  obtain ⟨iu, hiu, hz0, hz1, hz2⟩ := info_parts u32_info
  have HI := Lib.hid hiu
  have HY0 := Lib.hid hz0
  have HY1 := Lib.hid hz1
  have HY2 := Lib.hid hz2
  clear h hcell0 hiu hz0 hz1 hz2
  go_enter Tryz.func43, Tryz.ntmps43
  go_wp2_with fail
  go_loopw [3, 4] (fun v3 v4 wr => ∃ (i : Nat) (l : List Nat), i ≤ s.L.length ∧ v4 = .int .i64 i ∧ l.length = i ∧ wr.ownsRow w.heap.size 28 1 v3 i (l.map u32v) ∧ l.Perm ((s.L.map (·.page.id)).take i) ∧ l.Pairwise (· ≤ ·) ∧ Below w.heap.size w wr) (fun _ v4 _ => s.L.length - (intOf v4).toNat)
  case atStart => exact ⟨0, [], by omega, rfl, rfl, World.ownsRow_nil _ _ _ _, by simp, by simp, Below.refl _ _⟩
  case round =>
    obtain ⟨i, l, hi, rfl, hll, hown, hpm, hpw, hbr⟩ := hrel
    have h1 := H.out.below hbr
    have c1 := h1.blk.cell 1
    simp only [zGA, zGB, zGC] at c1
    rw [hvL] at c1
    by_cases hlt : i < s.L.length
    · obtain ⟨gL, rfl, hcl⟩ := HCL.out (by omega)
      have cid := hcl i _ (List.getElem?_eq_getElem hlt)
      obtain ⟨n, hn⟩ : ∃ n, n = s.L[i].page.id := ⟨_, rfl⟩
      rw [← hn] at cid
      have hgLw : gL < w.heap.size := World.block_lt_of_cell? w _ cid
      have htk : (s.L.map (·.page.id)).take (i + 1) = (s.L.map (·.page.id)).take i ++ [n] := by
        rw [List.take_succ_eq_append_getElem (by simpa using hlt), List.getElem_map, hn]
      have hmeas : i + 1 ≤ s.L.length := hlt
      have HOWN := Lib.hid hown
      have HPM := Lib.hid hpm
      have HPW := Lib.hid hpw
      have HTK := Lib.hid htk
      have HN := Lib.hid hn
      have HCI := Lib.hid fun (W : World) (hb : Below w.heap.size w W) => (hb.cell (p := ⟨gL, i * 9 + 2, none⟩) hgLw).trans cid
      have HC1 := Lib.hid fun (W : World) (hb : Below w.heap.size w W) => show W.cell? ⟨gr, 1, none⟩ = some (.slice (some ⟨gL, 0, none⟩) s.L.length c0) from ((H.out.below hb).blk.cell 1).trans (by rw [hvL]; rfl)
      have hbw := hbr.size
      obtain ⟨A3, n3, c3, rfl⟩ := own_slice hown
      have hn3 : n3 = i := by
        rcases hown.2 with ⟨h0, h2⟩ | ⟨g, cap, cur, h0, _⟩
        · injection h0 with _ h3 _; omega
        · injection h0
      subst hn3
      have hsome : 0 < n3 → ∃ g, A3 = some ⟨g, 0, none⟩ ∧ n3 ≤ c3 ∧ w.heap.size ≤ g ∧ g < wr.heap.size := fun hp => by
        rcases hown.2 with ⟨h0, h2⟩ | ⟨g, cap, cur, h0, hbg, hg, hnc, _⟩
        · omega
        · injection h0 with h0 _ h3
          exact ⟨g, h0, by omega, hbg, (Array.getElem?_eq_some_iff.1 hg).1⟩
      have hnone : n3 = 0 → l = [] := fun h0 => List.eq_nil_of_length_eq_zero (by omega)
      have HSM := Lib.hid hsome
      have hcj : ∀ j (hj : j < l.length) (W : World), Below wr.heap.size wr W → ∃ g, A3 = some ⟨g, 0, none⟩ ∧ W.cell? ⟨g, j, none⟩ = some (u32v l[j]) := fun j hj W hb => by
        obtain ⟨g, e, _, _, hgl⟩ := hsome (by omega)
        subst e
        have := hown.cells (g := g) rfl j (u32v l[j]) (by rw [List.getElem?_map, List.getElem?_eq_getElem hj]; rfl)
        rw [addr_add0] at this
        exact ⟨g, rfl, (hb.cell (p := ⟨g, j, none⟩) hgl).trans this⟩
      have HCJ := Lib.hid hcj
      clear hown hpm hpw h1 c1 cid hcl hi htk hn hsome hcj
      rename World => w0
      have c1 := HC1.out _ hbr
      have hd0 : (n3 : Int) < (s.L.length : Int) := by omega
      go_wp2_with fail
      clear c1 hd0
      go_loopw [5] (fun v5 wq => ∃ a : Nat, a ≤ n3 ∧ v5 = .int .i64 a ∧ (∀ x ∈ l.take a, x < n) ∧ Below w0.heap.size w0 wq) (fun v5 _ => n3 - (intOf v5).toNat)
      case atStart => exact ⟨0, by omega, rfl, by simp, Below.refl _ _⟩
      case round =>
        obtain ⟨a, ha, rfl, hlo, hbq⟩ := hrel
        have hbq0 := hbr.trans (hbq.mono hbw)
        by_cases hcont : ∃ h : a < l.length, l[a] < n
        · obtain ⟨hal, hln⟩ := hcont
          obtain ⟨g, rfl, ca⟩ := HCJ.out a hal _ hbq
          have cid := HCI.out _ hbq0
          have c1 := HC1.out _ hbq0
          have hlo' : ∀ x ∈ l.take (a + 1), x < n := fun x hx => by
            rw [List.take_succ_eq_append_getElem hal] at hx
            rcases List.mem_append.1 hx with hx | hx
            · exact hlo x hx
            · rw [List.mem_singleton.1 hx]; exact hln
          have HLO := Lib.hid hlo'
          have hma : a + 1 ≤ n3 := by omega
          have d1 : decide ((a : Int) < (n3 : Int)) = true := by rw [decide_eq_true_iff]; omega
          have d2 : (a : Int) < (n3 : Int) := by omega
          have d3 : decide ((l[a] : Int) < (n : Int)) = true := by rw [decide_eq_true_iff]; omega
          have d4 : (l[a] : Int) < (n : Int) := by omega
          have d5 : (n3 : Int) < (s.L.length : Int) := by omega
          generalize l[a] = la at *
          clear hlo hlo'
          go_wp2_with fail
          go_quiet (fail)
          go_wp2_with fail
          go_roundw
          case rel => exact ⟨a + 1, hma, by go_num, HLO.out, below_drewN' hbq _⟩
          case measure => simp [intOf]; omega
        · have hst : a = l.length ∨ ∃ h : a < l.length, n ≤ l[a] := by
            by_cases hal : a < l.length
            · exact .inr ⟨hal, by
                have : ¬ l[a] < n := fun h => hcont ⟨hal, h⟩
                omega⟩
            · exact .inl (by omega)
          have hins := Sp.ins_sorted HPW.out hlo hst
          have hinp := (Sp.ins_perm l a n).trans ((HPM.out.append_right [n]).trans (by rw [← HTK.out]))
          have HINS := Lib.hid (And.intro hins hinp)
          clear hins hinp hlo hcont
          have d5 : (n3 : Int) < (s.L.length : Int) := by omega
          have ha3 : (a : Int) ≤ (n3 : Int) := by omega
          go_upto_region 6 with fail
          go_cut [35] from 16 to 37 (fun v wy => v = .bool false ∧ Below w0.heap.size w0 wy)
          case first =>
            rename_i J9 K9 hJ9 hK9
            rcases hst with he | ⟨hal, hln⟩
            · have d1 : decide ((a : Int) < (n3 : Int)) = false := by rw [decide_eq_false_iff_not]; omega
              have d2 : ¬ (a : Int) < (n3 : Int) := by omega
              go_quiet (fail)
              refine hK9 _ _ ?_
              clear hK9
              go_meet
              case rel => exact ⟨rfl, below_drewN' hbq _⟩
            · obtain ⟨g, rfl, ca⟩ := HCJ.out a hal _ hbq
              have cid := HCI.out _ hbq0
              have c1 := HC1.out _ hbq0
              have d1 : decide ((a : Int) < (n3 : Int)) = true := by rw [decide_eq_true_iff]; omega
              have d2 : (a : Int) < (n3 : Int) := by omega
              have d3 : decide ((l[a] : Int) < (n : Int)) = false := by rw [decide_eq_false_iff_not]; omega
              have d4 : ¬ (l[a] : Int) < (n : Int) := by omega
              generalize l[a] = la at *
              go_quiet (fail)
              refine hK9 _ _ ?_
              clear hK9
              go_meet
              case rel => exact ⟨rfl, below_drewN' hbq _⟩
          case rest =>
            rename_i K9 hK9
            refine hK9 _ _ ?_
            clear hK9 hbq hbq0 hst
            obtain ⟨rfl, hbq⟩ := hcut
            have hbq0 := hbr.trans (hbq.mono hbw)
            have hsz := hbq0.size
            rcases HOWN.out.2 with ⟨h0, h2⟩ | ⟨g, cap, cur, h0, hbg, hg, hnc, hcm, _⟩
            · injection h0 with hA3 _ hc3
              subst hA3 hc3 h2
              obtain rfl : a = 0 := by omega
              obtain rfl : l = [] := List.eq_nil_of_length_eq_zero hll
              clear d5 ha3
              have c1 := HC1.out _ hbq0
              have cid := HCI.out _ hbq0
              have hd0 : (0 : Int) < (s.L.length : Int) := by omega
              go_upto_region 10 with (at_builtin; refine wpList_append_own_none rfl _ _ 33 rfl w.heap.size 28 iu 1 Tryz.underlying33 HI.out _ 0 [] rfl (World.ownsRow_nil _ _ _ _) rfl ?_)
              go_wp2_with (at_builtin; refine wpList_app1 rfl _ _ 33 rfl w.heap.size 28 iu _ 4 Tryz.underlying33 HI.out HY0.out HY1.out HY2.out rfl _ _ _ rfl (World.ownsRow_nil wc w.heap.size 28 1) (u32v n) rfl rfl (by unfold maxLen; omega) (by omega) (by omega) ?_)
              intro v8 w8 r1 r2 r3
              have hb8 : Below wc.heap.size wc w8 := (Below.refl _ _).grown r2 (Nat.le_refl _) (fun k e => nomatch e)
              obtain ⟨A8, n8, c8, rfl⟩ := own_slice r1
              have R1 := Lib.hid r1
              clear r1 r2 r3 c1 cid
              go_wp2_with (at_builtin; refine wpList_append_own_none rfl _ _ 33 rfl w.heap.size 28 iu 1 Tryz.underlying33 HI.out _ _ _ rfl R1.out rfl ?_)
              go_roundw
              case rel =>
                refine ⟨1, [n], hmeas, rfl, rfl, by simpa using R1.out, ?_, by simp, hbq0.trans (hb8.mono hbq0.size)⟩
                rw [HTK.out]; simp
              case measure => simp [intOf]; omega
            · injection h0 with hA3 _ hc3
              subst hA3 hc3
              have hRow := own_below HOWN.out hbq
              have hce := hRow.cells (g := g) rfl
              have HCE := Lib.hid hce
              have d6 : (a : Int) ≤ (c3 : Int) := by omega
              have hkl : (l.map u32v).length = n3 := by rw [List.length_map]; exact hll
              clear hce hRow hg
              go_wp2_with (at_builtin; refine wpList_append_own2 _ rfl _ _ 33 rfl w.heap.size 28 iu _ 1 4 Tryz.underlying33 HI.out HY0.out HY1.out HY2.out rfl (by decide) _ 0 [] rfl (World.ownsRow_nil _ _ _ _) ⟨g, 0, none⟩ a c3 ((l.map u32v).take a) rfl (by rw [List.length_take]; omega) (fun j u hu => HCE.out j u (take_some hu)) (fun u hu => by obtain ⟨z, _, rfl⟩ := List.mem_map.1 (List.mem_of_mem_take hu); rfl) (by unfold maxLen; omega) (by omega) (by omega) ?_)
              intro v7 w7 q1 q2 q3
              replace q1 : w7.ownsRow w.heap.size 28 1 v7 a ((l.map u32v).take a) := by simpa using q1
              replace q2 : wc.grownBy w7 none := q2
              have hb7 : Below wc.heap.size wc w7 := (Below.refl _ _).grown q2 (Nat.le_refl _) (fun k e => nomatch e)
              have hb07 := hbq0.trans (hb7.mono hbq0.size)
              have hs7 := hb7.size
              have c1 := HC1.out _ hb07
              have cid := HCI.out _ hb07
              have hgw : g < wc.heap.size := (own_below HOWN.out hbq).lt g rfl |>.2
              have hc7 : ∀ j u, (l.map u32v)[j]? = some u → w7.cell? ⟨g, j, none⟩ = some u := fun j u hu => by
                have := HCE.out j u hu
                rw [addr_add0] at this
                exact (hb7.cell (p := ⟨g, j, none⟩) hgw).trans this
              have Q1 := Lib.hid q1
              have Q3 := Lib.hid (show ∀ b, v7.ownBlock = some b → wc.heap.size ≤ b from fun b hb => (q3 b hb).resolve_left (fun e => nomatch e))
              have HC7 := Lib.hid hc7
              clear q1 q2 q3 hc7
              go_wp2_with (at_builtin; refine wpList_app1 rfl _ _ 33 rfl w.heap.size 28 iu _ 4 Tryz.underlying33 HI.out HY0.out HY1.out HY2.out rfl _ _ _ rfl Q1.out (u32v n) rfl rfl (by unfold maxLen; omega) (by omega) (by omega) ?_)
              intro v8 w8 r1 r2 r3
              have hb8 : Below wc.heap.size wc w8 := hb7.grown r2 hs7 (fun k e => Q3.out k e)
              have hc8 : ∀ j u, (l.map u32v)[j]? = some u → w8.cell? ⟨g, j, none⟩ = some u := fun j u hu =>
                (World.cell?_of_block (w := w7) (a := ⟨g, j, none⟩) (r2.block g (by omega) (fun e => by have := Q3.out g e.symm; omega))).trans (HC7.out j u hu)
              obtain ⟨A8, n8, c8, rfl⟩ := own_slice r1
              have R1 := Lib.hid r1
              have R3 := Lib.hid (show ∀ b, (Value.slice A8 n8 c8).ownBlock = some b → wc.heap.size ≤ b from fun b hb => (r3 b hb).elim (Q3.out b) (fun h => by omega))
              have HC8 := Lib.hid hc8
              have hs8 := hb8.size
              have HFIN : Hid (∀ v9 w9, w9.ownsRow w.heap.size 28 1 v9 (a + 1 + (n3 - a)) ((l.map u32v).take a ++ u32v n :: (l.map u32v).drop a) → w8.grownBy w9 (Value.slice A8 n8 c8).ownBlock → w9.ownsRow w.heap.size 28 1 v9 (n3 + 1) ((l.take a ++ n :: l.drop a).map u32v) ∧ Below w.heap.size w w9) := fun v9 w9 p1 p2 =>
                ⟨by
                  have e1 : a + 1 + (n3 - a) = n3 + 1 := by omega
                  rw [e1] at p1
                  simpa [List.map_take, List.map_drop] using p1, hbq0.trans ((hb8.grown p2 hs8 (fun k e => R3.out k e)).mono hbq0.size)⟩
              clear r1 r2 r3 hc8 c1 cid
              by_cases hca : c3 = a
              · go_wp2_with (at_builtin; refine wpList_append_own2 _ rfl _ _ 33 rfl w.heap.size 28 iu _ 1 4 Tryz.underlying33 HI.out HY0.out HY1.out HY2.out rfl (by decide) _ _ _ rfl R1.out ⟨g, 0, none⟩ (n3 - a) _ ((l.map u32v).drop a) rfl (by rw [List.length_drop]; omega) (fun j u hu => by rw [List.drop_of_length_le (by omega)] at hu; cases hu) (fun u hu => by obtain ⟨z, _, rfl⟩ := List.mem_map.1 (List.mem_of_mem_drop hu); rfl) (by unfold maxLen; omega) (by omega) (by omega) ?_)
                intro v9 w9 p1 p2 p3
                obtain ⟨A9, n9, c9, rfl⟩ := own_slice p1
                have HF := Lib.hid (HFIN.out _ w9 p1 p2)
                clear p1 p2 p3
                go_wp2_with fail
                go_roundw
                case rel => exact ⟨n3 + 1, l.take a ++ n :: l.drop a, hmeas, by go_num, by simp; omega, HF.out.1, HINS.out.2, HINS.out.1, HF.out.2⟩
                case measure => simp [intOf]; omega
              · go_wp2_with (at_builtin; refine wpList_append_own2 _ rfl _ _ 33 rfl w.heap.size 28 iu _ 1 4 Tryz.underlying33 HI.out HY0.out HY1.out HY2.out rfl (by decide) _ _ _ rfl R1.out ⟨g, a, none⟩ (n3 - a) _ ((l.map u32v).drop a) rfl (by rw [List.length_drop]; omega) (fun j u hu => by rw [addr_addn]; rw [List.getElem?_drop] at hu; exact HC8.out _ u hu) (fun u hu => by obtain ⟨z, _, rfl⟩ := List.mem_map.1 (List.mem_of_mem_drop hu); rfl) (by unfold maxLen; omega) (by omega) (by omega) ?_)
                intro v9 w9 p1 p2 p3
                obtain ⟨A9, n9, c9, rfl⟩ := own_slice p1
                have HF := Lib.hid (HFIN.out _ w9 p1 p2)
                clear p1 p2 p3
                go_wp2_with fail
                go_roundw
                case rel => exact ⟨n3 + 1, l.take a ++ n :: l.drop a, hmeas, by go_num, by simp; omega, HF.out.1, HINS.out.2, HINS.out.1, HF.out.2⟩
                case measure => simp [intOf]; omega
    · obtain rfl : i = s.L.length := by omega
      have hpg : l = s.pages := by
        rw [List.take_of_length_le (by simp)] at hpm
        exact List.Perm.eq_of_pairwise (le := fun a b => a ≤ b) (fun _ _ _ _ h1 h2 => Nat.le_antisymm h1 h2) hpw (Sp.sorted_spec _).2 (hpm.trans (Sp.sorted_spec _).1.symm)
      subst hpg
      rw [← hll] at hown
      obtain ⟨A3, n3, c3, rfl⟩ := own_slice hown
      have hR := own_readsB hown
      obtain rfl : n3 = s.pages.length := by
        rcases hown.2 with ⟨h0, h2⟩ | ⟨g, cap, cur, h0, _⟩
        · injection h0 with _ h3 _; omega
        · injection h0
      have HR := Lib.hid hR
      clear hown hpm hpw h1
      go_wp2_with fail
      go_ret
      exact ⟨A3, c3, rfl, HR.out, hbr⟩
end
end Go.Proofs.YtndglfiepeefdaaGreat

/- The document's pool: Dirty. -/
namespace Go.Proofs.YtndglfiepeefdaaGreat
open Go.RowKit Go.Conc

namespace Sp
/-- The dirty ones among some pages, with their LSNs. -/
def dirtOf (L : List RI) (ns : List Nat) : List (Nat × Nat) := (ns.filter (isDirty L)).map fun n => (n, ((getR? L n).map (·.from_)).getD 0)
theorem dirtOf_take {L : List RI} {q : List Nat} {i : Nat} (hi : i < q.length) {x : RI} (hx : getR? L q[i] = some x) : dirtOf L (q.take (i + 1)) = dirtOf L (q.take i) ++ (if x.dirty = true then [(q[i], x.from_)] else []) := by
  unfold dirtOf
  rw [List.take_succ_eq_append_getElem hi, List.filter_append, List.map_append]
  congr 1
  have e : isDirty L q[i] = x.dirty := by unfold isDirty; rw [hx]
  cases hd : x.dirty with
  | true => rw [List.filter_cons_of_pos (by rw [e, hd]), if_pos rfl]; simp [hx]
  | false => rw [List.filter_cons_of_neg (by rw [e, hd]; decide), if_neg (by decide)]; rfl
theorem dirtOf_len (L : List RI) (ns : List Nat) : (dirtOf L ns).length ≤ ns.length := by
  unfold dirtOf
  rw [List.length_map]
  exact List.length_filter_le _ _
theorem pages_has {s : R15} {n : Nat} (h : n ∈ s.pages) : hasR s.L n = true := by
  have := (sorted_spec (s.L.map (·.page.id))).1.mem_iff.1 h
  obtain ⟨x, hx, rfl⟩ := List.mem_map.1 this
  exact List.any_eq_true.2 ⟨x, hx, by simp⟩
theorem pages_len (s : R15) : s.pages.length = s.L.length := by
  have := (sorted_spec (s.L.map (·.page.id))).1.length_eq
  simpa [R15.pages] using this
end Sp

section
variable {B gr : Nat} {G : Foot} {w : World} {vL vD : Value} {s : Sp.R15}
set_option maxRecDepth 100000 in
set_option maxHeartbeats 8000000 in
theorem ref_dirty (h : RfAt B G w gr vL vD s) :
    Calls Tryz.prog 45 #[ptr gr] w fun e w' => ∃ A c, e = .returned (.slice A s.dirt.length c) ∧ Reads (fun b => w.heap.size ≤ b) w' 2 A s.dirt.length (drs s.dirt) ∧ Below w.heap.size w w' := by
  have H := Lib.hid h
  have HPG := Lib.hid (ref_pages h)
  have hfew := h.few
  have hpl := Sp.pages_len s
  obtain ⟨q, hq⟩ : ∃ q, q = s.pages := ⟨_, rfl⟩
  have HQ : Hid (∀ n ∈ q, Sp.hasR s.L n = true) := fun n hn => Sp.pages_has (by rw [← hq]; exact hn)
  have hdt : s.dirt = Sp.dirtOf s.L q := by rw [hq]; rfl
  rw [hdt]
  rw [← hq] at HPG hpl
  obtain ⟨iH, hiH, hy0, hy1, hy2⟩ := info_parts dirty_info
  have HI := Lib.hid hiH
  have HY0 := Lib.hid hy0
  have HY1 := Lib.hid hy1
  have HY2 := Lib.hid hy2
  clear h hq hdt hiH hy0 hy1 hy2
  go_enter Tryz.func45, Tryz.ntmps45
  go_wp2_with fail
  refine HPG.out.mono ?_
  rintro e w1 ⟨A0, c0, rfl, hR0, hb1⟩
  have HR0 := Lib.hid hR0
  have HB1 := Lib.hid hb1
  clear hR0 hb1 HPG
  go_wp2_with fail
  go_loopw [3, 5] (fun v3 v5 wr => ∃ i : Nat, i ≤ q.length ∧ v5 = .int .i64 i ∧ wr.ownsRow w1.heap.size 100 2 v3 (Sp.dirtOf s.L (q.take i)).length (drs (Sp.dirtOf s.L (q.take i))) ∧ Below w1.heap.size w1 wr) (fun _ v5 _ => q.length - (intOf v5).toNat)
  case atStart => exact ⟨0, by omega, rfl, World.ownsRow_nil _ _ _ _, Below.refl _ _⟩
  case round =>
    obtain ⟨i, hi, rfl, hown, hbr1⟩ := hrel
    have hbr : Below w.heap.size w wr := HB1.out.trans (hbr1.mono HB1.out.size)
    have hdl := Sp.dirtOf_len s.L (q.take i)
    have hdl2 : (q.take i).length ≤ 64 := by rw [List.length_take]; omega
    by_cases hlt : i < q.length
    · obtain ⟨b, o, u, rfl, hGb, hbw, hu, hcell⟩ := HR0.out.at_ hlt
      have hu' : u = u32v q[i] := by
        rw [List.getElem?_map, List.getElem?_eq_getElem hlt] at hu
        injection hu with hu
        exact hu.symm
      subst hu'
      have h1 := H.out.below hbr
      rcases Sp.at_cases s q[i] with ⟨_, _, hno⟩ | ⟨k, hk, hat, hid, hget, _⟩
      · rw [HQ.out q[i] (List.getElem_mem hlt)] at hno; cases hno
      · obtain ⟨g, c, A, c', hvL, hA, hR, hc⟩ := h1.item hk
        have hdt := Sp.dirtOf_take hlt hget
        obtain ⟨x, hx⟩ : ∃ x, x = s.L[k] := ⟨_, rfl⟩
        rw [← hx] at hdt hc hR hid hget
        have hSS : ∀ W, Below wr.heap.size wr W → W.cell? ⟨gr, 1, none⟩ = some (.slice (some ⟨g, 0, none⟩) s.L.length c) ∧ W.cell? ⟨b, o + i, none⟩ = some (u32v q[i]) ∧ W.cell? ⟨g, k * 9, none⟩ = some (.int .u8 x.page.kind) ∧ W.cell? ⟨g, k * 9 + 1, none⟩ = some (.int .u8 x.page.level) ∧ W.cell? ⟨g, k * 9 + 2, none⟩ = some (.int .u32 x.page.id) ∧ W.cell? ⟨g, k * 9 + 3, none⟩ = some (.int .u64 x.page.lsn) ∧ W.cell? ⟨g, k * 9 + 4, none⟩ = some (.int .u32 x.page.next) ∧ W.cell? ⟨g, k * 9 + 5, none⟩ = some (.slice A x.page.rows.length c') ∧ W.cell? ⟨g, k * 9 + 6, none⟩ = some (.int .i64 x.pins) ∧ W.cell? ⟨g, k * 9 + 7, none⟩ = some (.bool x.dirty) ∧ W.cell? ⟨g, k * 9 + 8, none⟩ = some (.int .u64 x.from_) := fun W hb => by
          have hw := (h1.below hb)
          have c1 := hw.blk.cell 1
          rw [hvL] at c1
          have hgg : g < wr.heap.size := World.block_lt_of_cell? wr _ ((hc 0 (by omega)).trans rfl)
          have hk9 : ∀ j, j < 9 → W.cell? ⟨g, k * 9 + j, none⟩ = (riCells x A c')[j]? := fun j hj => (hb.cell (p := ⟨g, k * 9 + j, none⟩) hgg).trans (hc j hj)
          exact ⟨c1, ((hbr1.trans (hb.mono hbr1.size)).cell (p := ⟨b, o + i, none⟩) hbw).trans hcell, hk9 0 (by omega), hk9 1 (by omega), hk9 2 (by omega), hk9 3 (by omega), hk9 4 (by omega), hk9 5 (by omega), hk9 6 (by omega), hk9 7 (by omega), hk9 8 (by omega)⟩
        have HSS := Lib.hid hSS
        have HATW := Lib.hid fun (W : World) (hb : Below wr.heap.size wr W) => ref_at (h1.below hb) q[i]
        rw [hat] at HATW
        have hmeas : i + 1 ≤ q.length := hlt
        have HOWN := Lib.hid hown
        have HDT := Lib.hid hdt
        obtain ⟨A3, n3, c3, rfl⟩ := own_slice hown
        have hcb : Hid (∀ W, Below w1.heap.size w1 W → W.cell? ⟨b, o + i, none⟩ = some (u32v q[i])) := fun W hb => (hb.cell (p := ⟨b, o + i, none⟩) hbw).trans hcell
        clear hSS h1 hc hR hat hget hx hA hid hown hdt hu hGb
        go_wp2_with fail
        go_cut [6] from 9 to 38 (fun v wy => ∃ gx, v = ptr gx ∧ Blk wy gx 98 (riCells x A c').toArray ∧ Below wr.heap.size wr wy ∧ wr.heap.size ≤ gx)
        case first =>
          have hb0 : Below wr.heap.size wr wr.drew := (Below.refl wr.heap.size wr).drew
          have hS0 := Lib.hid (HSS.out wr.drew hb0)
          refine R_begin (fun (W : World) => W.cell? ⟨gr, 1, none⟩ = some (.slice (some ⟨g, 0, none⟩) s.L.length c) ∧ W.cell? ⟨b, o + i, none⟩ = some (u32v q[i]) ∧ W.cell? ⟨g, k * 9, none⟩ = some (.int .u8 x.page.kind) ∧ W.cell? ⟨g, k * 9 + 1, none⟩ = some (.int .u8 x.page.level) ∧ W.cell? ⟨g, k * 9 + 2, none⟩ = some (.int .u32 x.page.id) ∧ W.cell? ⟨g, k * 9 + 3, none⟩ = some (.int .u64 x.page.lsn) ∧ W.cell? ⟨g, k * 9 + 4, none⟩ = some (.int .u32 x.page.next) ∧ W.cell? ⟨g, k * 9 + 5, none⟩ = some (.slice A x.page.rows.length c') ∧ W.cell? ⟨g, k * 9 + 6, none⟩ = some (.int .i64 x.pins) ∧ W.cell? ⟨g, k * 9 + 7, none⟩ = some (.bool x.dirty) ∧ W.cell? ⟨g, k * 9 + 8, none⟩ = some (.int .u64 x.from_)) (fun j => decide (13 ≤ j)) rfl ?_
          refine R_tt 0 15 hS0.out ?_
          simp only [zSA, zSB, zSC]
          refine R_tt 1 16 hS0.out ?_
          simp only [zSA, zSB, zSC]
          refine R_tt 2 17 hS0.out ?_
          simp only [zSA, zSB, zSC]
          refine R_tt 3 18 hS0.out ?_
          simp only [zSA, zSB, zSC]
          refine R_tt 4 19 hS0.out ?_
          simp only [zSA, zSB, zSC]
          refine R_tt 5 20 hS0.out ?_
          simp only [zSA, zSB, zSC]
          refine R_tt 6 21 hS0.out ?_
          simp only [zSA, zSB, zSC]
          refine R_tt 7 22 hS0.out ?_
          simp only [zSA, zSB, zSC]
          refine R_tt 8 23 hS0.out ?_
          simp only [zSA, zSB, zSC]
          refine R_all (rs := [9, 12]) (by kernel_rfl) (by simp) (fun i hi => ?_)
          simp only [List.mem_cons, List.not_mem_nil, or_false] at hi
          rcases hi with rfl | rfl
          · skip
            refine op_call 24 (w' := wr.drew) rfl rfl (by rfl) ?_ (HATW.out wr.drew hb0) ?_
            · go_simp
            rintro e v1 ⟨rfl, hc1⟩
            have hb1 := hb0.trans (hc1.mono hb0.size)
            have hS1 := Lib.hid (HSS.out v1 hb1)
            refine ⟨_, rfl, fun _ => hS1.out, ?_⟩
            simp only [zSA, zSB, zSC]
            refine R_tt 10 25 hS1.out ?_
            simp only [zSA, zSB, zSC]
            refine R_tt 11 26 hS1.out ?_
            simp only [zSA, zSB, zSC]
            have hc2 := (Below.refl v1.heap.size v1).alloc (Nat.le_refl _) (.cells riZ 98)
            have hb2 := hb1.trans (hc2.mono hb1.size)
            have hn2 := Blk.new v1 98 riZ
            have hg2 : wr.heap.size ≤ v1.heap.size := hb1.size
            have hS2 := Lib.hid (HSS.out _ hb2)
            refine R_run 12 6 (v := ptr v1.heap.size) (w' := (v1.alloc (.cells riZ 98))) rfl rfl (by rfl) (by kernel_rfl) ?_ (fun _ => hS2.out) ?_
            · first | (go_simp; done) | (go_simp; rfl)
            simp only [zSA, zSB, zSC]
            refine R_store 13 (n := .skip) (w' := ((v1.alloc (.cells riZ 98)).setRow v1.heap.size (partRow riZ 0 (riCells x A c')))) rfl rfl (by rfl) (by kernel_rfl) (run_op_store _ _ _ ⟨v1.heap.size, 0, none⟩ _ rfl rfl rfl (run_storeVar_part _ _ 0 _ _ riZ (riCells x A c').toArray hn2 item_size (by show 0 + 9 ≤ 9; omega) (by simp [riCells, Value.oneCell']))) (.inl rfl) (fun h => nomatch h) ?_
            refine R_done (by kernel_rfl) ?_ _
            rename_i K9 hK9
            refine hK9 _ _ ?_
            clear hK9
            go_meet
            case rel => exact ⟨v1.heap.size, rfl, by rw [← riZ_part]; exact hn2.setRow _, below_setRow hb2 hg2 _, hg2⟩
          · skip
            have hc1 := (Below.refl wr.drew.heap.size wr.drew).alloc (Nat.le_refl _) (.cells riZ 98)
            have hb1 := hb0.trans (hc1.mono hb0.size)
            have hn1 := Blk.new wr.drew 98 riZ
            have hg1 : wr.heap.size ≤ wr.drew.heap.size := hb0.size
            have hS1 := Lib.hid (HSS.out _ hb1)
            refine op_run 6 (v := ptr wr.drew.heap.size) (w' := (wr.drew.alloc (.cells riZ 98))) rfl rfl (by rfl) ?_ ⟨fun _ => hS1.out, ?_⟩
            · first | (go_simp; done) | (go_simp; rfl)
            simp only [zSA, zSB, zSC]
            refine R_call 9 24 (w' := (wr.drew.alloc (.cells riZ 98))) rfl rfl (by rfl) (by kernel_rfl) ?_ (HATW.out (wr.drew.alloc (.cells riZ 98)) hb1) ?_
            · go_simp
            rintro e v2 ⟨rfl, hc2⟩
            have hb2 := hb1.trans (hc2.mono hb1.size)
            have hS2 := Lib.hid (HSS.out v2 hb2)
            refine ⟨_, rfl, fun _ => hS2.out, ?_⟩
            simp only [zSA, zSB, zSC]
            have hn2 := hn1.below hc2 hn1.lt
            refine R_tt 10 25 hS2.out ?_
            simp only [zSA, zSB, zSC]
            refine R_tt 11 26 hS2.out ?_
            simp only [zSA, zSB, zSC]
            refine R_store 13 (n := .skip) (w' := (v2.setRow wr.drew.heap.size (partRow riZ 0 (riCells x A c')))) rfl rfl (by rfl) (by kernel_rfl) (run_op_store _ _ _ ⟨wr.drew.heap.size, 0, none⟩ _ rfl rfl rfl (run_storeVar_part _ _ 0 _ _ riZ (riCells x A c').toArray hn2 item_size (by show 0 + 9 ≤ 9; omega) (by simp [riCells, Value.oneCell']))) (.inl rfl) (fun h => nomatch h) ?_
            refine R_done (by kernel_rfl) ?_ _
            rename_i K9 hK9
            refine hK9 _ _ ?_
            clear hK9
            go_meet
            case rel => exact ⟨wr.drew.heap.size, rfl, by rw [← riZ_part]; exact hn2.setRow _, below_setRow hb2 hg1 _, hg1⟩
        case rest =>
          rename_i K9 hK9
          refine hK9 _ _ ?_
          clear hK9 HSS HATW
          obtain ⟨gx, rfl, hX, hby, hgxr⟩ := hcut
          have x7 := hX.cell 7
          simp only [riCells, zGA, zGB, zGC] at x7
          have hbz := hbr1.trans (hby.mono hbr1.size)
          have hOw := own_below HOWN.out hby
          have HX := Lib.hid hX
          have HBY := Lib.hid hby
          have HOW := Lib.hid hOw
          clear hX hby hOw
          cases hd : x.dirty with
          | false =>
            rw [hd] at x7
            have hd2 := HDT.out
            rw [hd, if_neg (by decide), List.append_nil] at hd2
            have HD2 := Lib.hid hd2
            clear hd2
            go_wp2_with fail
            go_roundw
            case rel => exact ⟨i + 1, hmeas, by go_num, by rw [HD2.out]; exact HOW.out, hbz⟩
            case measure => simp [intOf]; omega
          | true =>
            rw [hd] at x7
            have hd2 := HDT.out
            rw [hd, if_pos rfl] at hd2
            have HD2 := Lib.hid hd2
            have hws : w1.heap.size ≤ wr.heap.size := hbr1.size
            have hsy : wr.heap.size ≤ wc.heap.size := HBY.out.size
            have hn13 : (Sp.dirtOf s.L (q.take i)).length ≤ 64 := by omega
            clear hd2
            go_wp2_with fail
            have hSof : ∀ (W : World), Below w1.heap.size w1 W → Blk W gx 98 (riCells x A c').toArray → W.cell? ⟨b, o + i, none⟩ = some (u32v q[i]) ∧ W.cell? ⟨gx, 8, none⟩ = some (.int .u64 x.from_) := fun W hb h2 => ⟨hcb.out W hb, (h2.cell 8).trans rfl⟩
            have HSO := Lib.hid hSof
            have hbd : Below wc.heap.size wc wc.drew := (Below.refl wc.heap.size wc).drew
            have hba := hbd.alloc (Nat.le_refl _) (.cells #[u32v q[i], .int .u64 x.from_] 100)
            have hS := Lib.hid (HSO.out wc.drew (hbz.trans (hbd.mono hbz.size)) HX.out.drew)
            have hSa := Lib.hid (HSO.out _ (hbz.trans (hba.mono hbz.size)) (HX.out.below hba HX.out.lt))
            refine R_begin (fun (W : World) => W.cell? ⟨b, o + i, none⟩ = some (u32v q[i]) ∧ W.cell? ⟨gx, 8, none⟩ = some (.int .u64 x.from_)) (fun _ => false) rfl ?_
            refine R_tt 0 29 hS.out ?_
            simp only [zSA, zSB, zSC]
            refine R_tt 1 30 hS.out ?_
            simp only [zSA, zSB, zSC]
            refine R_tt 2 31 hS.out ?_
            simp only [zSA, zSB, zSC]
            refine R_tt 3 32 hS.out ?_
            simp only [zSA, zSB, zSC]
            refine R_tt 4 33 hS.out ?_
            simp only [zSA, zSB, zSC]
            refine R_tt 5 34 hS.out ?_
            simp only [zSA, zSB, zSC]
            refine R_tt 6 35 hS.out ?_
            simp only [zSA, zSB, zSC]
            refine R_tt 7 36 hS.out ?_
            simp only [zSA, zSB, zSC]
            refine R_run 8 37 (v := .slice (some ⟨wc.heap.size, 0, none⟩) 1 1) (w' := wc.drew.alloc (.cells #[u32v q[i], .int .u64 x.from_] 100)) rfl rfl (by rfl) (by kernel_rfl) ?_ (fun _ => hSa.out) ?_
            · first | (go_simp; done) | (go_simp; rfl)
            simp only [zSA, zSB, zSC]
            refine R_step 9 rfl (by rfl) (by kernel_rfl) ?_
            refine wp_append_own2 _ _ _ _ rfl w1.heap.size 100 iH _ 2 16 Tryz.underlying66 HI.out HY0.out HY1.out HY2.out rfl (by decide) _ _ _ rfl (HOW.out.drew.alloc _) ⟨wc.heap.size, 0, none⟩ 1 1 [u32v q[i], .int .u64 x.from_] rfl rfl (blk_news (cs := [u32v q[i], .int .u64 x.from_]) (Blk.new wc.drew 100 #[u32v q[i], .int .u64 x.from_])) (fun x hx => by simp at hx; rcases hx with rfl | rfl <;> rfl) (by unfold maxLen; omega) (by omega) (by simp; omega) ?_
            intro v6 w6 q1 q2 q3
            obtain ⟨A6, n6, c6, rfl⟩ := own_slice q1
            have hba1 := hbz.trans (hba.mono hbz.size)
            have hb6 : Below w1.heap.size w1 w6 := hba1.grown q2 (by simp; omega) (fun k e => (HOW.out.lt k e).1)
            have hX6 := (HX.out.below hba HX.out.lt).grown q2 (fun e => by have := (HOWN.out.lt gx e.symm).2; omega)
            have hS6 := Lib.hid (HSO.out w6 hb6 hX6)
            refine ⟨fun _ => hS6.out, ?_⟩
            refine R_put 38 rfl ?_
            simp only [zSA, zSB, zSC]
            refine R_run 10 3 (v := .slice A6 n6 c6) (w' := w6) rfl rfl (by rfl) (by kernel_rfl) (by go_simp) (fun _ => hS6.out) ?_
            simp only [zSA, zSB, zSC]
            have hfin : w6.ownsRow w1.heap.size 100 2 (.slice A6 n6 c6) (Sp.dirtOf s.L (q.take (i + 1))).length (drs (Sp.dirtOf s.L (q.take (i + 1)))) := by
              rw [HD2.out, List.length_append, drs_app]
              exact q1
            have HFI := Lib.hid hfin
            clear hfin q1 q2 q3 hX6 hba hba1 hbd hS hSa
            refine R_done (by kernel_rfl) ?_ _
            go_wp2_with fail
            go_roundw
            case rel => exact ⟨i + 1, hmeas, by go_num, HFI.out, hb6⟩
            case measure => simp [intOf]; omega
    · obtain rfl : i = q.length := by omega
      rw [List.take_length] at hown
      obtain ⟨A3, n3, c3, rfl⟩ := own_slice hown
      have hR := own_readsB hown
      have hn3 : n3 = (Sp.dirtOf s.L q).length := by
        rcases hown.2 with ⟨h0, h2⟩ | ⟨g, cap, cur, h0, _⟩
        · injection h0 with _ h3 _; omega
        · injection h0
      rw [hn3]
      have HR := Lib.hid hR
      clear hown hdl hdl2
      go_wp2_with fail
      go_ret
      exact ⟨A3, c3, rfl, HR.out.mono (fun b hb => Nat.le_trans HB1.out.size hb), hbr⟩
end
end Go.Proofs.YtndglfiepeefdaaGreat

/- The document's layer 6: two pages that are the same. -/
namespace Go.Proofs.YtndglfiepeefdaaGreat
open Go.RowKit

set_option maxRecDepth 100000 in
set_option maxHeartbeats 4000000 in
theorem ref06_same {w : World} {G G' : Foot} {p : Sp.Pg} {A A' : Option Addr} {c c' : Nat} (hR : RowsAt G w A p.rows) (hR' : RowsAt G' w A' p.rows) (hn : p.rows.length ≤ 1000000000) :
    Calls Tryz.prog 34 #[pgV p A c, pgV p A' c'] w fun e w' => e = .returned (.bool true) ∧ Below w.heap.size w w' := by
  have hb1 := (Below.refl w.heap.size w).alloc (Nat.le_refl _) (.cells (pgCs p A c) 32)
  have hb2 := hb1.alloc hb1.size (.cells (pgCs p A' c') 32)
  have hB1 := (Blk.new w 32 (pgCs p A c)).alloc (.cells (pgCs p A' c') 32)
  have hB2 := Blk.new (w.alloc (.cells (pgCs p A c) 32)) 32 (pgCs p A' c')
  have HR := Lib.hid (Reads.below hR hb2)
  have HR' := Lib.hid (Reads.below hR' hb2)
  have hsz : (w.alloc (.cells (pgCs p A c) 32)).heap.size = w.heap.size + 1 := by simp
  rw [hsz] at hB2
  clear hR hR' hsz hb1
  go_enter Tryz.func34, Tryz.ntmps34
  go_upto_region 1 with fail
  change Code.wp _ _ _ _ ((w.alloc (.cells (pgCs p A c) 32)).alloc (.cells (pgCs p A' c') 32))
  generalize hw1 : World.alloc (World.alloc w _) _ = w1 at hb2 hB1 hB2 HR HR' ⊢
  clear hw1
  have a0 := hB1.cell 0
  have a1 := hB1.cell 1
  have a2 := hB1.cell 2
  have a3 := hB1.cell 3
  have a4 := hB1.cell 4
  have a5 := hB1.cell 5
  have z0 := hB2.cell 0
  have z1 := hB2.cell 1
  have z2 := hB2.cell 2
  have z3 := hB2.cell 3
  have z4 := hB2.cell 4
  have z5 := hB2.cell 5
  simp only [zGA, zGB, zGC] at a0 a1 a2 a3 a4 a5 z0 z1 z2 z3 z4 z5
  have HB := Lib.hid hb2
  have HB1 := Lib.hid hB1
  have HB2 := Lib.hid hB2
  clear hb2 hB1 hB2
  go_wp2_with fail
  clear a0 a1 a2 a3 a4 z0 z1 z2 z3 z4
  go_loopw [5] (fun i wr => ∃ k : Nat, k ≤ p.rows.length ∧ i = .int .i64 k ∧ Below w1.heap.size w1 wr) (fun i _ => p.rows.length - (intOf i).toNat)
  case atStart => exact ⟨0, by omega, rfl, Below.refl _ _⟩
  case round =>
    clear a5 z5
    obtain ⟨k, hk, rfl, hbr⟩ := hrel
    have a5 := (HB1.out.below hbr HB1.out.lt).cell 5
    have z5 := (HB2.out.below hbr HB2.out.lt).cell 5
    simp only [zGA, zGB, zGC] at a5 z5
    by_cases hlt : k < p.rows.length
    · obtain ⟨b, o, rfl, _, hb, hc⟩ := RowsAt.row (Reads.below HR.out hbr) hlt
      obtain ⟨b', o', rfl, _, hb', hc'⟩ := RowsAt.row (Reads.below HR'.out hbr) hlt
      have hmeas : k + 1 ≤ p.rows.length := hlt
      generalize p.rows[k] = r at *
      go_wp2_with fail
      go_quiet (fail)
      go_wp2_with fail
      go_roundw
      case rel => exact ⟨k + 1, hmeas, by go_num, below_drewN' hbr _⟩
      case measure => simp [intOf]; omega
    · obtain rfl : k = p.rows.length := by omega
      go_wp2_with fail
      go_ret
      exact ⟨rfl, HB.out.trans (hbr.mono HB.out.size)⟩
end Go.Proofs.YtndglfiepeefdaaGreat

/- Where the law's log, area and homes are. No program is named here. -/
namespace Go.Proofs.YtndglfiepeefdaaGreat

/-- How the law's disk is laid out: 8 sectors of the log, the area, homes of the pages 0 to 6. -/
def ly15 : Ly := ⟨8, 44, 6, 72, by omega, by omega⟩
end Go.Proofs.YtndglfiepeefdaaGreat

/- The log's calls, as a law sees them beside a pool. -/
namespace Go.Proofs.YtndglfiepeefdaaGreat
open Go.RowKit Go.Conc

section
variable {F : Foot} {w : World} {gl gd : Nat} {l : Sp.Lg}
set_option maxRecDepth 100000 in
set_option maxHeartbeats 2000000 in
theorem log_append_bad (h : IsLg F w gl gd l) (s : Sp.Bs) (hs : s.length = 0 ∨ 4096 < s.length) (hs9 : s.length < 1000000000) :
    Calls Tryz.prog 12 #[ptr gl, str s] w fun e w' => e = .returned (.tuple #[.int .u64 0, .int .i64 2]) ∧ Below w.heap.size w w' := by
  obtain ⟨h1, bv, sv, h3, h4, h5, h6⟩ := h
  obtain ⟨c0, c1, c2, c3, c4, c5, c6, c7, c8, c9⟩ := h3.lg
  have HM := Lib.hid (log_made (w := w) c0)
  have HE := Lib.hid fun (W : World) => frame_encode_bad l.next s W hs hs9
  clear c0 c1 c2 c3 c4 c5 c6 c8 c9 h3 h4 h5 h6
  go_enter Tryz.func12, Tryz.ntmps12
  go_wp2_with fail
  refine HM.out.mono ?_
  rintro e w1 ⟨rfl, hw⟩
  subst w1
  go_wp2_with fail
  refine (HE.out _).mono ?_
  rintro e w1 ⟨rfl, hw⟩
  subst w1
  go_wp2_with fail
  go_ret2
  exact ⟨rfl, Below.refl _ _⟩
set_option maxRecDepth 100000 in
set_option maxHeartbeats 2000000 in
theorem log_append_full (h : IsLg F w gl gd l) (hn : l.next < 4611686018427387904) (hr : l.reserved < 1000000000) (s : Sp.Bs) (hs1 : 1 ≤ s.length) (hs2 : s.length ≤ 4096) (hfit : l.left < 14 + s.length) :
    Calls Tryz.prog 12 #[ptr gl, str s] w fun e w' => e = .returned (.tuple #[.int .u64 0, .int .i64 4]) ∧ Below w.heap.size w w' := by
  have HR := Lib.hid fun (W : World) (h : IsLg F W gl gd l) => log_room h hn hr
  have HI := Lib.hid h
  obtain ⟨h1, bv, sv, h3, h4, h5, h6⟩ := h
  obtain ⟨c0, c1, c2, c3, c4, c5, c6, c7, c8, c9⟩ := h3.lg
  have HM := Lib.hid (log_made (w := w) c0)
  have hlo := h1.lo
  have hff := h1.ff
  have hfn := h1.fn
  have HE := Lib.hid fun (W : World) => frame_encode l.next s W hs1 hs2 (by omega) (by omega)
  have hfl := Sp.frame_length l.next s
  generalize Sp.frame l.next s = f at *
  have df : decide (l.left < f.length) = true := by rw [decide_eq_true_iff]; omega
  have HFL := Lib.hid hfl
  clear hfl
  clear c1 c2 c3 c4 c5 c6 c8 c9 c0 h3 h4 h5 h6
  go_enter Tryz.func12, Tryz.ntmps12
  go_wp2_with fail
  refine HM.out.mono ?_
  rintro e w1 ⟨rfl, hw⟩
  subst w1
  go_wp2_with fail
  refine (HE.out _).mono ?_
  rintro e w1 ⟨rfl, hb1⟩
  go_wp2_with fail
  refine (HR.out _ (HI.out.below hb1)).mono ?_
  rintro e w2 ⟨rfl, hb2'⟩
  have HB := Lib.hid (hb1.trans (hb2'.mono hb1.size))
  clear hb1 hb2'
  go_wp2_with fail
  go_ret2
  exact ⟨rfl, HB.out⟩
end

/-- The log alone has turned. -/
theorem pk_log {ly : Ly} {K : Foot} {w w' : World} {gd gl gp : Nat} {l' : Sp.Lg} {s' : Sp.R15} {p : Sp.Pl} {D F G G' : Foot} {dk : Sp.Dk} (hpl : IsPl F w gp gd gl ly.at_ ly.base p) (hd : IsDk D w gd dk) (hFD : ∀ b, F b → ¬ D b) (hFG : ∀ b, F b → ¬ G b) (hDG : ∀ b, D b → ¬ G b) (hK : ∀ b, allF F D G b → ¬ K b) (hKl : ∀ b, K b → b < w.heap.size)
    (hg' : IsLg G' w' gl gd l') (ht : Turns G G' w w') (hr' : Rep ly p dk l' s') : Kept K w w' ∧ PkAt ly K w' gd gl gp l' s' := by
  have ht' : Turns (allF F D G) (allF F D G') w w' := ht.wider (fun b hb => .inr (.inr hb)) (fun b hb => hb.elim (fun h => .inl (.inl h)) (fun h => h.elim (fun h => .inl (.inr (.inl h))) .inr))
  refine ⟨Kept.of_turns ht' (fun b hk => ⟨hKl b hk, fun hF => hK b hF hk⟩), ?_⟩
  refine pk_make (hpl.keep ht.size (fun b hb => ht.block b (hpl.lt b hb) (hFG b hb))) (hd.keep (fun b hb => ht.block b (hd.in_ b hb) (hDG b hb))) hg' hFD (fun b h1 h2 => ?_) (fun b h1 h2 => ?_) hr' hK hKl ht' (fun b hb => .inl hb)
  · rcases ht.foot b h2 with e | e
    · exact hFG b h1 e
    · have := hpl.lt b h1; omega
  · rcases ht.foot b h2 with e | e
    · exact hDG b h1 e
    · have := hd.in_ b h1; omega

/-- What Append answers, and leaves. -/
def AppPk (ly : Ly) (K : Foot) (w : World) (gd gl gp : Nat) (l : Sp.Lg) (s : Sp.R15) (t : Sp.Bs) (e : Ending) (w' : World) : Prop :=
  Kept K w w' ∧
  ((1 ≤ t.length ∧ t.length ≤ 4096 ∧ 14 + t.length ≤ l.left ∧ e = .returned (.tuple #[.int .u64 l.next, .int .i64 0]) ∧ PkAt ly K w' gd gl gp (l.append t) { s with next := l.next + (14 + t.length) }) ∨
   (1 ≤ t.length ∧ t.length ≤ 4096 ∧ l.left < 14 + t.length ∧ e = .returned (.tuple #[.int .u64 0, .int .i64 4]) ∧ PkAt ly K w' gd gl gp l s) ∨
   ((t.length = 0 ∨ 4096 < t.length) ∧ e = .returned (.tuple #[.int .u64 0, .int .i64 2]) ∧ PkAt ly K w' gd gl gp l s))

theorem pk_append {ly : Ly} {K : Foot} {w : World} {gd gl gp : Nat} {l : Sp.Lg} {s : Sp.R15} (h : PkAt ly K w gd gl gp l s) (hn : l.next < 1000000000000) (hr : l.reserved < 1000000000) (t : Sp.Bs) (ht : t.length < 1000000000) :
    Calls Tryz.prog 12 #[ptr gl, str t] w (AppPk ly K w gd gl gp l s t) := by
  have H := h
  obtain ⟨p, D, F, G, dk, hpl, hd, hg, hFD, hFG, hDG, hrep, hK, hKl⟩ := h
  by_cases h1 : 1 ≤ t.length ∧ t.length ≤ 4096
  · by_cases h2 : 14 + t.length ≤ l.left
    · refine (log_append hg (by omega) hr t h1.1 h1.2 h2).mono ?_
      rintro e w' ⟨G', rfl, hg', ht'⟩
      have hwf := Sp.Lg.append_wf hrep.lwf h2
      have hr' : Rep ly p dk (l.append t) { s with next := l.next + (14 + t.length) } :=
        ⟨hrep.wf, hwf, hrep.frames, hrep.L, hrep.top, hrep.forced, rfl, hrep.ok, hrep.dkt, ⟨hrep.dl.loose, hrep.dl.fuse, hrep.dl.fit, hrep.dl.area, hrep.dl.homes, by show l.next + (14 + t.length) < _; omega⟩, hrep.lo, hrep.area, hrep.tight, hrep.zero, hrep.in_⟩
      obtain ⟨k1, k2⟩ := pk_log hpl hd hFD hFG hDG hK hKl hg' ht' hr'
      exact ⟨k1, .inl ⟨h1.1, h1.2, h2, rfl, k2⟩⟩
    · refine (log_append_full hg (by omega) hr t h1.1 h1.2 (by omega)).mono ?_
      rintro e w' ⟨rfl, hb⟩
      exact ⟨Kept.of_below hb hKl, .inr (.inl ⟨h1.1, h1.2, by omega, rfl, H.below hb⟩)⟩
  · refine (log_append_bad hg t (by omega) ht).mono ?_
    rintro e w' ⟨rfl, hb⟩
    exact ⟨Kept.of_below hb hKl, .inr (.inr ⟨by omega, rfl, H.below hb⟩)⟩

theorem pk_next {ly : Ly} {K : Foot} {w : World} {gd gl gp : Nat} {l : Sp.Lg} {s : Sp.R15} (h : PkAt ly K w gd gl gp l s) :
    Calls Tryz.prog 13 #[ptr gl] w fun e w' => e = .returned (.int .u64 l.next) ∧ w' = w := by
  obtain ⟨p, D, F, G, dk, hpl, hd, hg, hFD, hFG, hDG, hrep, hK, hKl⟩ := h
  exact log_next hg
theorem pk_forced {ly : Ly} {K : Foot} {w : World} {gd gl gp : Nat} {l : Sp.Lg} {s : Sp.R15} (h : PkAt ly K w gd gl gp l s) :
    Calls Tryz.prog 47 #[ptr gl] w fun e w' => e = .returned (.int .u64 s.forced) ∧ w' = w := by
  obtain ⟨p, D, F, G, dk, hpl, hd, hg, hFD, hFG, hDG, hrep, hK, hKl⟩ := h
  rw [hrep.forced]
  exact log_forced hg
end Go.Proofs.YtndglfiepeefdaaGreat

/- Flush of a pool with its disk and its log. -/
namespace Go.Proofs.YtndglfiepeefdaaGreat
open Go.RowKit Go.Conc

namespace Sp
theorem nodup_sub_len : ∀ (q l : List Nat), q.Nodup → (∀ x ∈ q, x ∈ l) → q.length ≤ l.length
  | [], _, _, _ => Nat.zero_le _
  | a :: q, l, hn, hs => by
    rw [List.nodup_cons] at hn
    have ha := hs a (by simp)
    have h := nodup_sub_len q (l.erase a) hn.2 (fun x hx => by
      have hne : x ≠ a := fun e => hn.1 (e ▸ hx)
      exact (List.mem_erase_of_ne hne).2 (hs x (by simp [hx])))
    rw [List.length_erase_of_mem ha] at h
    have : 0 < l.length := List.length_pos_of_mem ha
    simp only [List.length_cons]; omega
theorem foldl_max_le {α : Type} (f : α → Nat) : ∀ (l : List α) (a b : Nat), l.foldl (fun m x => max m (f x)) a ≤ b ↔ a ≤ b ∧ ∀ x ∈ l, f x ≤ b
  | [], a, b => by simp
  | x :: l, a, b => by
    rw [List.foldl_cons, foldl_max_le f l]
    simp only [List.mem_cons, forall_eq_or_imp]
    constructor
    · rintro ⟨h1, h2⟩; exact ⟨by omega, by omega, h2⟩
    · rintro ⟨h1, h2, h3⟩; exact ⟨by omega, h3⟩
theorem foldl_max_perm {α : Type} (f : α → Nat) {l l' : List α} (h : l.Perm l') (a : Nat) : l.foldl (fun m x => max m (f x)) a = l'.foldl (fun m x => max m (f x)) a := by
  refine Nat.le_antisymm ?_ ?_
  · rw [foldl_max_le]
    have := (foldl_max_le f l' a _).1 (Nat.le_refl _)
    exact ⟨this.1, fun x hx => this.2 x (h.mem_iff.1 hx)⟩
  · rw [foldl_max_le]
    have := (foldl_max_le f l a _).1 (Nat.le_refl _)
    exact ⟨this.1, fun x hx => this.2 x (h.mem_iff.2 hx)⟩
theorem Pl.topOf_perm (p : Pl) {q q' : List Nat} (h : q.Perm q') : p.topOf q = p.topOf q' := foldl_max_perm _ (h.filter _) 0
end Sp

theorem Rep.write_perm {ly : Ly} {p : Sp.Pl} {dk : Sp.Dk} {l : Sp.Lg} {s : Sp.R15} (h : Rep ly p dk l s) {q q' : List Nat} (hp : q.Perm q') : s.write q = s.write q' := by
  have e1 : Sp.lsnOf s.L q = Sp.lsnOf s.L q' := by rw [h.L, Sp.lsnOf_eq, Sp.lsnOf_eq, Sp.Pl.topOf_perm p hp]
  have e2 : (q.all (fun id => !Sp.isDirty s.L id) = true) ↔ (q'.all (fun id => !Sp.isDirty s.L id) = true) := by
    rw [List.all_eq_true, List.all_eq_true]
    exact ⟨fun h x hx => h x (hp.mem_iff.2 hx), fun h x hx => h x (hp.mem_iff.1 hx)⟩
  have e3 : Sp.cleaned q = Sp.cleaned q' := by
    funext x
    unfold Sp.cleaned
    simp only [hp.mem_iff]
  unfold Sp.R15.write
  rw [e1, e3]
  simp only [e2, hp.mem_iff]

theorem own_block {w : World} {g c : Nat} {q : List Nat} {base : Nat} (hO : w.ownsRow base 28 1 (.slice (some ⟨g, 0, none⟩) q.length c) q.length (q.map u32v)) : ∃ cur, Blk w g 28 cur ∧ ∀ j, j < q.length → cur[j]? = some (u32v q[j]!) := by
  rcases hO.2 with ⟨h0, _⟩ | ⟨g', cap, cur, h0, _, hh, h1, h2, h3, h4⟩
  · cases h0
  · injection h0 with a1 a2 a3
    injection a1 with a1
    injection a1 with a1
    subst a1
    refine ⟨cur, hh, fun j hj => ?_⟩
    have := congrArg (fun l => l[j]?) h4
    simp only [Nat.mul_one, List.getElem?_take, hj, if_true] at this
    rw [Array.getElem?_toList] at this
    rw [this]
    simp [hj]

theorem pk_flush {ly : Ly} {K G : Foot} {w : World} {gd gl gp : Nat} {l : Sp.Lg} {s : Sp.R15} (h : PkAt ly K w gd gl gp l s) (h12 : s.frames ≤ 12) {A : Option Addr} {c : Nat} {q : List Nat} (hA : OkAddr A) (hA0 : q.length = 0 → A = none) (hR : Reads G w 1 A q.length (q.map u32v)) (hq : ∀ n ∈ q, n < 4294967296) (hl : q.length ≤ 100000)
    (hnil : q.length = 0 → ∀ W, Below w.heap.size w W → Calls Tryz.prog 65 #[ptr gp, .slice none 0 0] W fun e w' => e = .returned (.int .i64 0) ∧ Below W.heap.size W w') :
    Calls Tryz.prog 18 #[ptr gp, .slice A q.length c] w (CallPk ly K w gd gl gp l (s.flush q)) := by
  have H := h
  obtain ⟨p, D, F, G1, dk, hpl, hd, hg, hFD, hFG, hDG, hr, hK, hKl⟩ := h
  obtain ⟨R, fb, cb, mb, v, s0, r, cs, hat⟩ := hpl
  have hM : Mem F D G1 R w gp gd gl ly.at_ ly.base fb cb mb v s0 r cs p.free (p.items.map (·.page.id)) p dk l := ⟨hat, hd, hg, hFD, hFG, hDG⟩
  have hdf : q.filter (Sp.isDirty s.L) = q.filter p.isD := by
    congr 1
    funext n
    rw [hr.L, Sp.isDirty_eq]
  have hhf : q.all (Sp.hasR s.L) = q.all (fun n => (p.find n).isSome) := by
    congr 1
    funext n
    rw [hr.L, Sp.hasR_eq]
  have hgood : q.Nodup → (q.filter p.isD).length ≤ 8 → q.all (fun n => (p.find n).isSome) = true → s.flush q = s.write q := fun h1 h2 h3 => by
    unfold Sp.R15.flush
    rw [if_neg (fun e => e h1), if_neg (by rw [hdf]; omega), if_neg (by rw [hhf, h3]; decide)]
  refine (pool_flush (X := fun c w' => CallPk ly K w gd gl gp l (s.flush q) (.returned (.int .i64 c)) w') hat hA hA0 hR hq hl (fun hnd h8 hAll hpos W hb g c' hgl hO => ?_) (fun h0 W hb => ?_)).mono ?_
  · have hMW := hM.below hb
    obtain ⟨cur, hB, hcur⟩ := own_block hO
    have hlen : q.length ≤ 12 := by
      have h1 := Sp.nodup_sub_len q (p.items.map (·.page.id)) hnd (fun n hn => by
        obtain ⟨it, hf⟩ := hAll n hn
        obtain ⟨hit, hide⟩ := Sp.Pl.find_mem hf
        exact List.mem_map.2 ⟨it, hit, hide⟩)
      have h2 := hr.wf.len
      have h3 := hr.frames
      rw [List.length_map] at h1
      omega
    have hperm := (Sp.sorted_spec q).1
    have hd8 : (p.dirt (Sp.sorted q)).length ≤ 8 := by
      have e : (p.dirt (Sp.sorted q)).length = ((Sp.sorted q).filter p.isD).length := by rw [← Sp.Pl.dirt_ids, List.length_map]
      rw [e, (hperm.filter _).length_eq]
      exact h8
    refine (pool_writes (cap := c') hMW hr.dl hB (fun e => by have := hM.lt g e; omega) hlen hcur (fun n hn => ?_) hnd hd8).mono ?_
    · obtain ⟨it, hf⟩ := hAll n hn
      obtain ⟨hit, hide⟩ := Sp.Pl.find_mem hf
      refine ⟨hq n hn, ?_, it, hf⟩
      rw [← hide]
      exact hr.inside (hr.in_ it hit).1 (hr.in_ it hit).2
    · rintro e w' ⟨c2, D', cs', p', d', l', rfl, hW, _, hM', ht⟩
      obtain ⟨e1, hr'⟩ := hr.wrote hW (fun n hn => hAll n (hperm.mem_iff.1 hn)) (hperm.nodup_iff.2 hnd) hd8
      rw [hr.write_perm hperm] at e1 hr'
      have hall : q.all (fun n => (p.find n).isSome) = true := by
        rw [List.all_eq_true]
        intro n hn
        obtain ⟨it, hf⟩ := hAll n hn
        rw [hf]; rfl
      rw [hgood hnd h8 hall]
      have htt : Turns (allF F D G1) (allF F D' G1) w w' := by
        refine ⟨ht.os.trans hb.os, ht.tape.trans hb.tape, ht.output.trans hb.output, Nat.le_trans hb.size ht.size, fun b hb1 hn => ?_, fun b hb1 => ?_⟩
        · have := hb.size
          rw [ht.block b (by omega) (fun e => e.elim hn (fun e => by omega))]
          exact hb.block b hb1
        · rcases ht.foot b (.inl hb1) with (e | e) | e
          · exact .inl e
          · exact .inr (by omega)
          · exact .inr (Nat.le_trans hb.size e)
      obtain ⟨k1, k2, k3, _, _⟩ := hW.keep
      refine ⟨c2, rfl, Kept.of_turns htt (fun b hk => ⟨hKl b hk, fun hF => hK b hF hk⟩), by rw [e1], ?_⟩
      have elg : l' = { l with forced := (s.write q).2.forced } := hr'.lg hW.lg
      rw [← elg]
      have hpl' := hM'.pl
      rw [← k1, ← k3] at hpl'
      exact pk_make ⟨R, fb, cb, mb, v, s0, r, cs', hpl'⟩ hM'.dk hM'.lg hM'.FD hM'.FG hM'.DG hr' hK hKl htt (fun b hb => .inl hb)
  · obtain rfl := List.eq_nil_of_length_eq_zero h0
    refine (hnil h0 W hb).mono ?_
    rintro e w' ⟨rfl, hb2⟩
    have e1 : s.flush [] = (0, s) := by
      rw [hgood (by simp) (by simp) (by simp)]
      unfold Sp.R15.write
      rw [if_pos (by simp)]
    refine ⟨0, rfl, ?_⟩
    rw [e1]
    exact pk_same H (hb.trans (hb2.mono hb.size)) 0
  · rintro e w' ⟨c2, rfl, ⟨hbad, hb⟩ | hx⟩
    · have e1 : s.flush q = (c2, s) := by
        unfold Sp.R15.flush
        rcases hbad with ⟨rfl, h1 | h1⟩ | ⟨rfl, h1, h2, h3⟩
        · rw [if_pos h1]
        · split
          · rfl
          · rw [if_pos (by rw [hdf]; exact h1)]
        · rw [if_neg (fun e => e h1), if_neg (by rw [hdf]; omega), if_pos (by rw [hhf, h3])]
      rw [e1]
      exact pk_same H hb c2
    · exact hx
end Go.Proofs.YtndglfiepeefdaaGreat

/- slices.Sort of no row, pool.writes of no pages; Flush of whatever pages. -/
namespace Go.Proofs.YtndglfiepeefdaaGreat
open Go.RowKit Go.Sort

set_option maxRecDepth 100000 in
theorem insertion_nilN (w : World) : Calls Tryz.prog 174 #[.slice none 0 0, .int .i64 0, .int .i64 0] w fun e w' => e = .returned (.tuple #[]) ∧ Below w.heap.size w w' := by
  go_enter Tryz.func174, Tryz.ntmps174
  go_wp2_with fail
  go_loopw [6] (fun vi wr => vi = .int .i64 1 ∧ w = wr) (fun _ _ => 0)
  case atStart => exact ⟨rfl, rfl⟩
  case round =>
    obtain ⟨rfl, rfl⟩ := hrel
    go_wp2_with fail
    go_end0
    exact ⟨rfl, Below.refl _ _⟩
set_option maxRecDepth 100000 in
theorem pdq_nilN (w : World) : Calls Tryz.prog 156 #[.slice none 0 0, .int .i64 0, .int .i64 0, .int .i64 0] w fun e w' => e = .returned (.tuple #[]) ∧ Below w.heap.size w w' := by
  have HI := Lib.hid fun (W : World) => insertion_nilN W
  go_enter Tryz.func156, Tryz.ntmps156
  go_wp2_with fail
  refine wp_loop_rounds 1 ?_
  rw [rounds_succ]
  go_wp2_with fail
  refine (HI.out _).mono ?_
  rintro e w1 ⟨rfl, hb⟩
  go_wp2_with fail
  refine bodyPost_ret (results_none rfl _ _ _) rfl ?_
  exact ⟨rfl, hb⟩
set_option maxRecDepth 100000 in
theorem sort_nilN (w : World) : Calls Tryz.prog 118 #[.slice none 0 0] w fun e w' => e = .returned (.tuple #[]) ∧ Below w.heap.size w w' := by
  have HP := Lib.hid fun (W : World) => pdq_nilN W
  have HL := Lib.hid fun (x : Int) (W : World) (h0 : 0 ≤ x) (h1 : x ≤ 18446744073709551615) => Tryz.bits_Len x W h0 h1
  go_enter Tryz.func118, Tryz.ntmps118
  go_wp2_with fail
  refine (HL.out _ _ (by omega) (by omega)).mono ?_
  rintro e w1 ⟨rfl, hw⟩
  subst w1
  go_wp2_with fail
  refine (HP.out _).mono ?_
  rintro e w1 ⟨rfl, hb⟩
  go_wp2_with fail
  go_end0
  exact ⟨rfl, hb⟩
set_option maxRecDepth 100000 in
theorem writes_nil (gp : Nat) (w : World) : Calls Tryz.prog 65 #[ptr gp, .slice none 0 0] w fun e w' => e = .returned (.int .i64 0) ∧ Below w.heap.size w w' := by
  have HS := Lib.hid (sort_nilN w)
  go_enter Tryz.func65, Tryz.ntmps65
  go_wp2_with fail
  refine HS.out.mono ?_
  rintro e w1 ⟨rfl, hb⟩
  go_wp2_with fail
  go_loopw [5, 6, 21] (fun v5 v6 i wr => v5 = .slice none 0 0 ∧ v6 = .int .u64 0 ∧ i = .int .i64 0 ∧ w1 = wr) (fun _ _ _ _ => 0)
  case atStart => exact ⟨rfl, rfl, rfl, rfl⟩
  case round =>
    obtain ⟨rfl, rfl, rfl, rfl⟩ := hrel
    go_wp2_with fail
    go_ret
    exact ⟨rfl, hb⟩

theorem pk_flush_any {ly : Ly} {K G : Foot} {w : World} {gd gl gp : Nat} {l : Sp.Lg} {s : Sp.R15} (h : PkAt ly K w gd gl gp l s) (h12 : s.frames ≤ 12) {A : Option Addr} {c : Nat} {q : List Nat} (hA : OkAddr A) (hA0 : q.length = 0 → A = none) (hR : Reads G w 1 A q.length (q.map u32v)) (hq : ∀ n ∈ q, n < 4294967296) (hl : q.length ≤ 100000) :
    Calls Tryz.prog 18 #[ptr gp, .slice A q.length c] w (CallPk ly K w gd gl gp l (s.flush q)) :=
  pk_flush h h12 hA hA0 hR hq hl (fun _ W _ => writes_nil gp W)
end Go.Proofs.YtndglfiepeefdaaGreat

/- PoolPlays: the pool and the document's pool side by side in memory; each call turns its own side. No walk. -/
namespace Go.Proofs.YtndglfiepeefdaaGreat
open Go.RowKit Go.Conc

theorem PkAt.turnsAll {ly : Ly} {K X X' : Foot} {w w' : World} {gd gl gp : Nat} {l : Sp.Lg} {s : Sp.R15} (h : PkAt ly K w gd gl gp l s) (ht : Turns X X' w w') (hX : ∀ b, X b → K b) : PkAt ly (fun b => K b ∨ (w.heap.size ≤ b ∧ b < w'.heap.size)) w' gd gl gp l s := by
  obtain ⟨p, D, F, G, dk, hpl, hd, hg, h1, h2, h3, hr, h4, h5⟩ := h
  have hlt : ∀ b, allF F D G b → b < w.heap.size := fun b hb => by
    rcases hb with e | e | e
    · exact hpl.lt b e
    · exact hd.in_ b e
    · exact hg.in_ b e
  have hk : ∀ b, allF F D G b → w'.heap[b]? = w.heap[b]? := fun b hA => ht.block b (hlt b hA) (fun e => h4 b hA (hX b e))
  exact ⟨p, D, F, G, dk, hpl.keep ht.size (fun b hb => hk b (.inl hb)), hd.keep (fun b hb => hk b (.inr (.inl hb))), hg.keep (fun b hb => hk b (.inr (.inr hb))), h1, h2, h3, hr, fun b hb e => by
    rcases e with e | e
    · exact h4 b hb e
    · have := hlt b hb; omega, fun b hb => by
    rcases hb with e | e
    · exact Nat.lt_of_lt_of_le (h5 b e) ht.size
    · exact e.2⟩

/-- The pool (block gp, disk gd, log gl) with sp, the document's pool (gr) with sr; O: the law's own blocks, G: blocks of pages' rows, that nobody writes. -/
def PyS (B gP gd gl gp gr : Nat) (O G : Foot) (l : Sp.Lg) (sp sr : Sp.R15) (w : World) : Prop :=
  ∃ (K : Foot) (vL vD : Value), PkAt ly15 K w gd gl gp l sp ∧ RfAt B G w gr vL vD sr ∧ (∀ b, O b ∨ G b ∨ rfO gr vL vD b ∨ b = gP → K b) ∧ (∀ b, O b → ¬ rfO gr vL vD b ∧ ¬ G b ∧ b ≠ gP) ∧ ¬ rfO gr vL vD gP ∧ Blk w gP 44 #[ptr gd, ptr gl, ptr gp, ptr gr]
/-- What each call leaves as it was. -/
def pyK (gP : Nat) (O G : Foot) : Foot := fun b => O b ∨ G b ∨ b = gP

section
variable {B gP gd gl gp gr : Nat} {O G : Foot} {l l' : Sp.Lg} {sp sp' sr sr' : Sp.R15} {w w' : World}
theorem PyS.lt (h : PyS B gP gd gl gp gr O G l sp sr w) {b : Nat} (hb : pyK gP O G b) : b < w.heap.size := by
  obtain ⟨K, vL, vD, hpk, hrf, hK, hO, hgP, hP⟩ := h
  refine hpk.lt b (hK b ?_)
  rcases hb with e | e | e
  · exact .inl e
  · exact .inr (.inl e)
  · exact .inr (.inr (.inr e))
theorem PyS.play (h : PyS B gP gd gl gp gr O G l sp sr w) : Blk w gP 44 #[ptr gd, ptr gl, ptr gp, ptr gr] := by
  obtain ⟨K, vL, vD, hpk, hrf, hK, hO, hgP, hP⟩ := h
  exact hP
theorem PyS.rep (h : PyS B gP gd gl gp gr O G l sp sr w) : ∃ p dk, Rep ly15 p dk l sp := by
  obtain ⟨K, vL, vD, hpk, _⟩ := h
  exact hpk.rep
/-- The pool's side has turned. -/
theorem PyS.pool {K K' : Foot} {vL vD : Value} (hrf : RfAt B G w gr vL vD sr) (hK : ∀ b, O b ∨ G b ∨ rfO gr vL vD b ∨ b = gP → K b) (hO : ∀ b, O b → ¬ rfO gr vL vD b ∧ ¬ G b ∧ b ≠ gP) (hgP : ¬ rfO gr vL vD gP) (hP : Blk w gP 44 #[ptr gd, ptr gl, ptr gp, ptr gr])
    (hk : Kept K w w') (hp : PkAt ly15 K' w' gd gl gp l' sp') (hKK : ∀ b, K b → K' b) : PyS B gP gd gl gp gr O G l' sp' sr w' ∧ Kept (pyK gP O G) w w' := by
  refine ⟨⟨K', vL, vD, hp, hrf.keep hk.size (fun b hb => hk.block b (hK b ?_)), fun b hb => hKK b (hK b hb), hO, hgP, hP.keep (hk.block gP (hK gP (.inr (.inr (.inr rfl)))))⟩, hk.os, hk.tape, hk.output, hk.size, fun b hb => hk.block b (hK b ?_)⟩
  · rcases hb with e | e
    · exact .inr (.inr (.inl e))
    · exact .inr (.inl e)
  · rcases hb with e | e | e
    · exact .inl e
    · exact .inr (.inl e)
    · exact .inr (.inr (.inr e))
/-- The document's side has turned. -/
theorem PyS.ref {K : Foot} {vL vL' vD : Value} (hrf : RfAt B G w gr vL vD sr) (hpk : PkAt ly15 K w gd gl gp l sp) (hK : ∀ b, O b ∨ G b ∨ rfO gr vL vD b ∨ b = gP → K b) (hO : ∀ b, O b → ¬ rfO gr vL vD b ∧ ¬ G b ∧ b ≠ gP) (hgP : ¬ rfO gr vL vD gP) (hP : Blk w gP 44 #[ptr gd, ptr gl, ptr gp, ptr gr])
    (hr : RfAt B G w' gr vL' vD sr') (ht : Turns (rfO gr vL vD) (rfO gr vL' vD) w w') : PyS B gP gd gl gp gr O G l sp sr' w' ∧ Kept (pyK gP O G) w w' := by
  have hlt := hpk.lt
  have hnew : ∀ b, b < w.heap.size → ¬ rfO gr vL vD b → ¬ rfO gr vL' vD b := fun b hb hn e => by
    rcases ht.foot b e with e | e
    · exact hn e
    · omega
  have hOl : ∀ b, O b → b < w.heap.size := fun b hb => hlt b (hK b (.inl hb))
  refine ⟨⟨_, vL', vD, hpk.turnsAll ht (fun b hb => hK b (.inr (.inr (.inl hb)))), hr, fun b hb => ?_, fun b hb => ⟨hnew b (hOl b hb) (hO b hb).1, (hO b hb).2⟩, hnew gP hP.lt hgP, hP.turns ht hgP⟩, ht.os, ht.tape, ht.output, ht.size, fun b hb => ?_⟩
  · rcases hb with e | e | e | e
    · exact .inl (hK b (.inl e))
    · exact .inl (hK b (.inr (.inl e)))
    · rcases ht.foot b e with e2 | e2
      · exact .inl (hK b (.inr (.inr (.inl e2))))
      · exact .inr ⟨e2, hr.lt (.inl e)⟩
    · exact .inl (hK b (.inr (.inr (.inr e))))
  · rcases hb with e | e | e
    · exact ht.block b (hOl b e) (hO b e).1
    · refine ht.block b (hlt b (hK b (.inr (.inl e)))) (fun e2 => ?_)
      obtain ⟨_, q2, q3, q4⟩ := hrf.g b e
      rcases e2 with e2 | e2 | e2
      · exact q2 e2
      · exact q3 e2
      · exact q4 e2
    · rw [e]; exact ht.block gP hP.lt hgP

/-- What a call of either side that answers a number leaves. -/
def PyCall (B gP gd gl gp gr : Nat) (O G : Foot) (l : Sp.Lg) (r : Nat) (sp sr : Sp.R15) (w : World) (e : Ending) (w' : World) : Prop :=
  e = .returned (.int .i64 r) ∧ PyS B gP gd gl gp gr O G l sp sr w' ∧ Kept (pyK gP O G) w w'
theorem PyS.pcall {f : FuncId} {args : Array Value} {r : Nat × Sp.R15} (h : PyS B gP gd gl gp gr O G l sp sr w) (hc : ∀ K, PkAt ly15 K w gd gl gp l sp → Calls Tryz.prog f args w (CallPk ly15 K w gd gl gp l r)) :
    Calls Tryz.prog f args w (PyCall B gP gd gl gp gr O G { l with forced := r.2.forced } r.1 r.2 sr w) := by
  obtain ⟨K, vL, vD, hpk, hrf, hK, hO, hgP, hP⟩ := h
  refine (hc K hpk).mono ?_
  rintro e w' ⟨hk, rfl, hp⟩
  obtain ⟨q1, q2⟩ := PyS.pool hrf hK hO hgP hP hk hp (fun b hb => hb)
  exact ⟨rfl, q1, q2⟩
theorem PyS.rcall {f : FuncId} {args : Array Value} {r : Nat × Sp.R15} (h : PyS B gP gd gl gp gr O G l sp sr w) (hc : ∀ vL vD, RfAt B G w gr vL vD sr → (∀ b, O b → ¬ rfO gr vL vD b) → Calls Tryz.prog f args w fun e w' => e = .returned (.int .i64 r.1) ∧ RfPost B G w gr vL vD r.2 w') :
    Calls Tryz.prog f args w (PyCall B gP gd gl gp gr O G l r.1 sp r.2 w) := by
  obtain ⟨K, vL, vD, hpk, hrf, hK, hO, hgP, hP⟩ := h
  refine (hc vL vD hrf (fun b hb => (hO b hb).1)).mono ?_
  rintro e w' ⟨rfl, vL', hr, ht⟩
  obtain ⟨q1, q2⟩ := PyS.ref hrf hpk hK hO hgP hP hr ht
  exact ⟨rfl, q1, q2⟩

theorem py_unpinP (h : PyS B gP gd gl gp gr O G l sp sr w) {id : Nat} (hid : id < 4294967296) : Calls Tryz.prog 17 #[ptr gp, u32v id] w (PyCall B gP gd gl gp gr O G { l with forced := (sp.unpin id).2.forced } (sp.unpin id).1 (sp.unpin id).2 sr w) :=
  h.pcall fun _ hp => pk_unpin hp hid
theorem py_unpinR (h : PyS B gP gd gl gp gr O G l sp sr w) (ho : sr.Ok) (id : Nat) : Calls Tryz.prog 38 #[ptr gr, u32v id] w (PyCall B gP gd gl gp gr O G l (sr.unpin id).1 sp (sr.unpin id).2 w) :=
  h.rcall fun _ _ hr _ => ref_unpin hr ho.pins
theorem py_evictP (h : PyS B gP gd gl gp gr O G l sp sr w) {id : Nat} (hid : id < 4294967296) : Calls Tryz.prog 19 #[ptr gp, u32v id] w (PyCall B gP gd gl gp gr O G { l with forced := (sp.evict id).2.forced } (sp.evict id).1 (sp.evict id).2 sr w) :=
  h.pcall fun _ hp => pk_evict hp hid
theorem py_evictR (h : PyS B gP gd gl gp gr O G l sp sr w) (ho : sr.Ok) (id : Nat) : Calls Tryz.prog 40 #[ptr gr, u32v id] w (PyCall B gP gd gl gp gr O G l (sr.evict id).1 sp (sr.evict id).2 w) :=
  h.rcall fun _ _ hr _ => ref_evict hr ho id
theorem py_putP (h : PyS B gP gd gl gp gr O G l sp sr w) {x : Sp.Pg} (hwf : x.wf) {G0 : Foot} {A : Option Addr} {c : Nat} (hA : OkAddr A) (hR : RowsAt G0 w A x.rows) (hn : x.rows.length ≤ 1000000000) (ht : Sp.total x.rows ≤ 1000000000000000000) : Calls Tryz.prog 16 #[ptr gp, pgV x A c] w (PyCall B gP gd gl gp gr O G { l with forced := (sp.put x (mayB x)).2.forced } (sp.put x (mayB x)).1 (sp.put x (mayB x)).2 sr w) :=
  h.pcall fun _ hp => pk_put hp hwf hA hR hn ht
theorem py_putR (h : PyS B gP gd gl gp gr O G l sp sr w) {x : Sp.Pg} {A : Option Addr} {c : Nat} (hR : RowsAt G w A x.rows) (hn : x.rows.length ≤ 1000000000) (ht : Sp.total x.rows ≤ 1000000000000000000) : Calls Tryz.prog 37 #[ptr gr, pgV x A c] w (PyCall B gP gd gl gp gr O G l (sr.put x (mayB x)).1 sp (sr.put x (mayB x)).2 w) :=
  h.rcall fun _ _ hr _ => ref_put hr trivial hR hn ht
theorem py_freshP (h : PyS B gP gd gl gp gr O G l sp sr w) {x : Sp.Pg} (hwf : x.wf) {G0 : Foot} {A : Option Addr} {c : Nat} (hA : OkAddr A) (hR : RowsAt G0 w A x.rows) (hn : x.rows.length ≤ 1000000000) (ht : Sp.total x.rows ≤ 1000000000000000000) : Calls Tryz.prog 41 #[ptr gp, pgV x A c] w (PyCall B gP gd gl gp gr O G { l with forced := (sp.fresh x (mayB x)).2.forced } (sp.fresh x (mayB x)).1 (sp.fresh x (mayB x)).2 sr w) :=
  h.pcall fun _ hp => pk_fresh hp hwf hA hR hn ht
theorem py_freshR (h : PyS B gP gd gl gp gr O G l sp sr w) (ho : sr.Ok) {x : Sp.Pg} (hwf : x.wf) {A : Option Addr} {c : Nat} (hR : RowsAt G w A x.rows) (hn : x.rows.length ≤ 1000000000) (ht : Sp.total x.rows ≤ 1000000000000000000) : Calls Tryz.prog 42 #[ptr gr, pgV x A c] w (PyCall B gP gd gl gp gr O G l (sr.fresh x (mayB x)).1 sp (sr.fresh x (mayB x)).2 w) :=
  h.rcall fun _ _ hr _ => ref_fresh hr ho hwf trivial hR hn ht
theorem py_flushP (h : PyS B gP gd gl gp gr O G l sp sr w) (h12 : sp.frames ≤ 12) {G0 : Foot} {A : Option Addr} {c : Nat} {q : List Nat} (hA : OkAddr A) (hA0 : q.length = 0 → A = none) (hR : Reads G0 w 1 A q.length (q.map u32v)) (hq : ∀ n ∈ q, n < 4294967296) (hl : q.length ≤ 100000) : Calls Tryz.prog 18 #[ptr gp, .slice A q.length c] w (PyCall B gP gd gl gp gr O G { l with forced := (sp.flush q).2.forced } (sp.flush q).1 (sp.flush q).2 sr w) :=
  h.pcall fun _ hp => pk_flush_any hp h12 hA hA0 hR hq hl
theorem py_flushR (h : PyS B gP gd gl gp gr O G l sp sr w) (ho : sr.Ok) {A : Option Addr} {c : Nat} {q : List Nat} (hR : Reads G w 1 A q.length (q.map u32v)) (hl : q.length ≤ 100000) : Calls Tryz.prog 39 #[ptr gr, .slice A q.length c] w (PyCall B gP gd gl gp gr O G l (sr.flush q).1 sp (sr.flush q).2 w) :=
  h.rcall fun vL vD hr _ => ref_flush hr ho hR (fun b hb => ⟨(hr.g b hb).1, fun e => by
    obtain ⟨_, q2, q3, q4⟩ := hr.g b hb
    rcases e with e | e | e
    · exact q2 e
    · exact q3 e
    · exact q4 e⟩) hl

/-- New blocks: the law's own. -/
theorem PyS.below (h : PyS B gP gd gl gp gr O G l sp sr w) (hb : Below w.heap.size w w') : PyS B gP gd gl gp gr (fun b => O b ∨ (w.heap.size ≤ b ∧ b < w'.heap.size)) G l sp sr w' := by
  obtain ⟨K, vL, vD, hpk, hrf, hK, hO, hgP, hP⟩ := h
  refine ⟨fun b => K b ∨ (w.heap.size ≤ b ∧ b < w'.heap.size), vL, vD, hpk.more hb (fun b hb => hb), hrf.below hb, fun b hb => ?_, fun b hb => ?_, hgP, hP.below hb hP.lt⟩
  · rcases hb with (e | e) | e | e | e
    · exact .inl (hK b (.inl e))
    · exact .inr e
    · exact .inl (hK b (.inr (.inl e)))
    · exact .inl (hK b (.inr (.inr (.inl e))))
    · exact .inl (hK b (.inr (.inr (.inr e))))
  · rcases hb with e | e
    · exact hO b e
    · exact ⟨fun e2 => by have := hrf.lt (.inl e2); omega, fun e2 => by have := hrf.lt (.inr e2); omega, fun e2 => by have := hP.lt; omega⟩
theorem PyS.less (h : PyS B gP gd gl gp gr O G l sp sr w) {O' : Foot} (hO' : ∀ b, O' b → O b) : PyS B gP gd gl gp gr O' G l sp sr w := by
  obtain ⟨K, vL, vD, hpk, hrf, hK, hO, hgP, hP⟩ := h
  exact ⟨K, vL, vD, hpk, hrf, fun b hb => hK b (hb.elim (fun e => .inl (hO' b e)) .inr), fun b hb => hO b (hO' b hb), hgP, hP⟩
/-- Own blocks are written. -/
theorem PyS.own {X X' : Foot} (h : PyS B gP gd gl gp gr O G l sp sr w) (ht : Turns X X' w w') (hX : ∀ b, X b → O b) : PyS B gP gd gl gp gr O G l sp sr w' := by
  obtain ⟨K, vL, vD, hpk, hrf, hK, hO, hgP, hP⟩ := h
  refine ⟨K, vL, vD, hpk.turns ht (fun b hb => .inl (hK b (.inl (hX b hb)))), hrf.keep ht.size (fun b hb => ht.block b (hrf.lt hb) (fun e => ?_)), hK, hO, hgP, hP.turns ht (fun e => (hO gP (hX gP e)).2.2 rfl)⟩
  have := hO b (hX b e)
  rcases hb with hb | hb
  · exact this.1 hb
  · exact this.2.1 hb
/-- Own blocks that nobody writes any more: pages' rows. -/
theorem PyS.rows (h : PyS B gP gd gl gp gr O G l sp sr w) {O' G' : Foot} (hO' : ∀ b, O' b → O b ∧ ¬ G' b) (hG : ∀ b, G b → G' b) (hG' : ∀ b, G' b → G b ∨ O b) : PyS B gP gd gl gp gr O' G' l sp sr w := by
  obtain ⟨K, vL, vD, hpk, hrf, hK, hO, hgP, hP⟩ := h
  have hOl : ∀ b, O b → b < w.heap.size := fun b hb => hpk.lt b (hK b (.inl hb))
  obtain ⟨xs, hrow, hRi⟩ := hrf.L
  obtain ⟨ys, hD, hPg⟩ := hrf.D
  refine ⟨K, vL, vD, hpk, ?_, fun b hb => ?_, fun b hb => ⟨(hO b (hO' b hb).1).1, (hO' b hb).2, (hO b (hO' b hb).1).2.2⟩, hgP, hP⟩
  · exact {
      blk := hrf.blk
      L := ⟨xs, hrow, hRi.1, fun i x hx => by
        obtain ⟨A, c, h1, h2, h3⟩ := hRi.2 i x hx
        exact ⟨A, c, h1, h2.mono hG, h3⟩⟩
      D := ⟨ys, hD, hPg.1, fun q hq => by
        obtain ⟨A, c, h1, h2, h3⟩ := hPg.2 q hq
        exact ⟨A, c, h1, h2.mono hG, h3⟩⟩
      few := hrf.few, ids := hrf.ids, nd := hrf.nd, Lr := hrf.Lr, Dr := hrf.Dr, LD := hrf.LD, lo := hrf.lo
      g := fun b hb => by
        rcases hG' b hb with e | e
        · exact hrf.g b e
        · have := hO b e
          exact ⟨hOl b e, fun e2 => this.1 (.inl e2), fun e2 => this.1 (.inr (.inl e2)), fun e2 => this.1 (.inr (.inr e2))⟩ }
  · rcases hb with e | e | e | e
    · exact hK b (.inl (hO' b e).1)
    · rcases hG' b e with e | e
      · exact hK b (.inr (.inl e))
      · exact hK b (.inl e)
    · exact hK b (.inr (.inr (.inl e)))
    · exact hK b (.inr (.inr (.inr e)))
end
end Go.Proofs.YtndglfiepeefdaaGreat
