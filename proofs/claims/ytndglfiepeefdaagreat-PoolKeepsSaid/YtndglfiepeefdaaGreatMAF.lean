/- The walk of the law package pentimentolaw15: PoolKeeps. -/
import Derived.Test.YtndglfiepeefdaaGreatMAE
import Derived.Deep.DeepCutAuto
import Derived.BigQuiet

namespace Go.Proofs.YtndglfiepeefdaaGreat
open Go.RowKit Go.Conc

/-- An act, as far as PoolKeeps and Heavy look. -/
structure KAct where
  do_ : Nat
  page : Nat
  row : ByteArray
  np : Nat
  rows : List ByteArray
def KAct.hv (a : KAct) : HvA := ⟨a.row, a.np, a.rows⟩
def KAct.bs (a : KAct) : Sp.Bs := a.row.data.toList
def KActAt (w : World) (A : Option Addr) (l : List KAct) : Prop :=
  0 < l.length → ∃ b o, A = some ⟨b, o, none⟩ ∧ b < w.heap.size ∧ ∀ i a, l[i]? = some a → w.cell? ⟨b, o + i * 11, none⟩ = some (.int .u8 a.do_) ∧ w.cell? ⟨b, o + i * 11 + 1, none⟩ = some (.int .u32 a.page) ∧ w.cell? ⟨b, o + i * 11 + 9, none⟩ = some (str a.bs)

theorem make7 (W : World) : (Instr.makeSlice 30 (.int .i64 7) (.int .i64 7)).run Tryz.prog W = .ok (.slice (some ⟨W.heap.size, 0, none⟩) 7 7) (W.alloc (.cells (nowA (fun _ => [])) 9)) := by
  obtain ⟨i0, hi, hz0, hz1, hz2⟩ := info_parts str_info
  have := run_make_rowN (P := Tryz.prog) 30 9 i0 (.string .empty) Tryz.underlying30 hi hz0 .i64 .i64 7 7 (Nat.le_refl _) (by rw [hz2]; omega) (by omega) W
  have e : madeCells (Value.string ByteArray.empty).cells (7 * 1) = nowA (fun _ => []) := madeCells_one (.string .empty) 7
  rw [hz1, e] at this
  exact this
/-- The law's strings while they are laid. -/
def nowF (k : Nat) : Nat → Sp.Bs := fun j => if j < k then Sp.firstRow else []
theorem nowF_up (k : Nat) : updB (nowF k) k Sp.firstRow = nowF (k + 1) := by
  funext j
  unfold updB nowF
  by_cases h : j = k
  · subst h; rw [if_pos rfl, if_pos (Nat.lt_succ_self j)]
  · rw [if_neg h]
    by_cases h2 : j < k
    · rw [if_pos h2, if_pos (by omega)]
    · rw [if_neg h2, if_neg (by omega)]
theorem nowF_7 : nowA (nowF 7) = nowA (fun _ => Sp.firstRow) := rfl

set_option maxRecDepth 100000 in
set_option maxHeartbeats 40000000 in
theorem law_keeps (f : Nat) (hf : f < 256) (A : Option Addr) (cap : Nat) (ls : List KAct) (hl : ls.length ≤ 140737488355328) (hok : ∀ a ∈ ls, a.hv.ok) (hb : ∀ a ∈ ls, a.do_ < 256 ∧ a.page < 4294967296) (w : World) (hv : HvAt w A (ls.map KAct.hv)) (ha : KActAt w A ls) :
    Calls Tryz.prog 4 #[.int .u8 f, .slice A ls.length cap] w fun e w' => e = .returned (.bool true) ∧ Below w.heap.size w w' := by
  have HHV := Lib.hid (law_heavy A cap (ls.map KAct.hv) (by rw [List.length_map]; exact hl) (fun x hx => by
    obtain ⟨a, ha, rfl⟩ := List.mem_map.1 hx
    exact hok a ha) w hv)
  rw [List.length_map] at HHV
  have hfew : hvB (ls.map KAct.hv) = false → ls.length ≤ 60 := fun h => by
    unfold hvB at h
    rw [Bool.or_eq_false_iff, decide_eq_false_iff_not, List.length_map] at h
    omega
  have HA := Lib.hid ha
  have HOK := Lib.hid hb
  have HW := Lib.hid fun (W : World) => law_works W
  obtain ⟨n, hn⟩ : ∃ n, n = 1 + f % 6 := ⟨_, rfl⟩
  have hn1 : 1 ≤ n := by omega
  have hn6 : n ≤ 6 := by omega
  have HB := Lib.hid fun (W : World) => law_begun_new n hn1 (by omega) W
  have e1 := Lib.hid (show (1 : Int) + (f : Int) % 6 = (n : Int) by omega)
  clear hn hv ha hok hb
  generalize hvB (ls.map KAct.hv) = hz at *
  go_enter Tryz.func4, Tryz.ntmps4
  go_wp2_with fail
  refine HHV.out.mono ?_
  rintro e w1 ⟨rfl, hb1⟩
  clear HHV
  cases hz with
  | true =>
    clear hfew HB HA HOK e1
    go_wp2_with fail
    refine (HW.out w1).mono ?_
    rintro e w2 ⟨rfl, hb2⟩
    clear HW
    go_wp2_with fail
    go_ret
    exact ⟨rfl, hb1.trans (hb2.mono hb1.size)⟩
  | false =>
    have h60 := hfew rfl
    clear hfew
    go_wp2_with fail
    rw [e1.out]
    refine (HB.out w1).mono ?_
    rintro e w2 hpost
    obtain ⟨gP, gr, gd, gl, gp, rfl, hP, hb2, hgP, hpk⟩ := pk_begun hpost
    clear hpost HB e1
    have HPK := Lib.hid hpk
    have HP := Lib.hid hP
    clear hpk hP
    have hmk := make7
    go_wp2_with fail
    have hbN := (Below.refl w2.heap.size w2).alloc (Nat.le_refl _) (.cells (nowA (fun _ => [])) 9)
    have hN := Blk.new w2 9 (nowA (fun _ => []))
    have hgPl := HP.out.lt
    have hs12 := hb1.size
    have hs2 := hb2.size
    have hKP : KpAt w1.heap.size gP w2.heap.size gd gl gp (fun _ => Sp.firstRow) (nowF 0) 0 0 110 (fun b => (b < w1.heap.size ∨ b = gP) ∨ b = w2.heap.size) (Sp.newLg 0 8 1) (Sp.begR n) (w2.alloc (.cells (nowA (fun _ => [])) 9)) :=
      ⟨HPK.out.more hbN (fun b hb => hb.elim .inl (fun e => .inr ⟨by omega, by rw [World.size_alloc]; omega⟩)), fun b hb => hb.elim (fun h => .inl (.inl h)) (fun h => h.elim (fun h => .inl (.inr h)) .inr), Sp.begR_KI hn1, hn6, rfl, rfl, Nat.le_refl _, ⟨gr, HP.out.alloc _⟩, hN, hgP, hs2, by omega, fun e => absurd rfl e⟩
    have hbw3 : Below w.heap.size w (w2.alloc (.cells (nowA (fun _ => [])) 9)) := hb1.trans ((hb2.trans (hbN.mono hs2)).mono hs12)
    have HKP := Lib.hid hKP
    clear hKP hN hbN hmk HP HPK hb2
    generalize hw3 : World.alloc w2 _ = w3 at HKP hbw3 ⊢
    clear hw3 hgPl
    generalize w2.heap.size = gN at *
    go_loopw [7] (fun v7 wr => ∃ k : Nat, k ≤ 7 ∧ v7 = .int .i64 k ∧ KpAt w1.heap.size gP gN gd gl gp (fun _ => Sp.firstRow) (nowF k) 0 0 110 (fun b => (b < w1.heap.size ∨ b = gP) ∨ b = gN) (Sp.newLg 0 8 1) (Sp.begR n) wr ∧ Below w.heap.size w wr) (fun v7 _ => 7 - (intOf v7).toNat)
    case atStart => exact ⟨0, by omega, rfl, HKP.out, hbw3⟩
    case round =>
      obtain ⟨k, hk7, rfl, hkp, hbr⟩ := hrel
      clear HKP hbw3
      by_cases hlt : k < 7
      · have cN := hkp.nowb.cell k
        have fN := hkp.nowb.frozen k
        rw [nowA_at _ hlt] at cN
        have hset := hkp.setn hlt Sp.firstRow
        rw [nowF_up] at hset
        have hb' := hbr.setCell (p := ⟨gN, k, none⟩) (show w.heap.size ≤ gN by omega) (str Sp.firstRow)
        have HS := Lib.hid hset
        have HB' := Lib.hid hb'
        clear hset hb' hkp hbr
        go_wp2_with fail
        go_roundw
        case rel => exact ⟨k + 1, hlt, by go_num, HS.out, HB'.out⟩
        case measure => simp [intOf]; omega
      · obtain rfl : k = 7 := by omega
        have HKP : Hid (KpAt w1.heap.size gP gN gd gl gp (fun _ => Sp.firstRow) (fun _ => Sp.firstRow) 0 0 110 (fun b => (b < w1.heap.size ∨ b = gP) ∨ b = gN) (Sp.newLg 0 8 1) (Sp.begR n) wr) := ⟨hkp.pk, hkp.kk, hkp.ki, hkp.f6, hkp.n8, hkp.r0, hkp.nx, hkp.play, hkp.nowb, hkp.gP0, hkp.gN0, hkp.ne, hkp.inn⟩
        clear hkp
        go_wp2_with fail
        go_loopw [8] (fun v8 wx => ∃ (k : Nat) (now : Nat → Sp.Bs) (l : Sp.Lg) (s : Sp.R15), k ≤ ls.length ∧ v8 = .int .i64 k ∧ KpAt w1.heap.size gP gN gd gl gp now now 0 0 (110 + k * 1000) (fun b => (b < w1.heap.size ∨ b = gP) ∨ b = gN) l s wx ∧ Below w.heap.size w wx) (fun v8 _ => ls.length - (intOf v8).toNat)
        case atStart => exact ⟨0, _, _, _, by omega, rfl, HKP.out, hbr⟩
        case round =>
          obtain ⟨k, now, l, s, hk, rfl, hkp, hbx⟩ := hrel
          clear HKP hbr
          have HKP := Lib.hid hkp
          clear hkp
          by_cases hlt : k < ls.length
          · obtain ⟨b, o, rfl, hbw, hcs⟩ := HA.out (by omega)
            obtain ⟨a, ha⟩ : ∃ a, ls[k]? = some a := ⟨ls[k], List.getElem?_eq_getElem hlt⟩
            obtain ⟨c0, c1, c9⟩ := hcs k a ha
            obtain ⟨ha1, ha2⟩ := HOK.out a (List.mem_of_getElem? ha)
            clear hcs ha
            obtain ⟨p, hp⟩ : ∃ p, p = 1 + a.page % 6 := ⟨_, rfl⟩
            have hp1 : 1 ≤ p := by omega
            have hp6 : p ≤ 6 := by omega
            have ep := Lib.hid (show (1 : Int) + (a.page : Int) % 6 = (p : Int) by omega)
            clear hp
            have c1x := (hbx.cell (p := ⟨b, o + k * 11 + 1, none⟩) hbw).trans c1
            obtain ⟨gr, hP⟩ := HKP.out.play
            have cp2 := hP.cell 2
            simp only [List.getElem?_toArray, List.getElem?_cons_succ, List.getElem?_cons_zero] at cp2
            have HPIN := Lib.hid (kp_pin HKP.out hp1 hp6)
            clear hP
            go_wp2_with fail
            rw [ep.out]
            refine HPIN.out.mono ?_
            rintro e w4 ⟨x, bx, ox, cc, l1, s1, rfl, hwf, hmay, hid, hrow, hcx, hbx1, hbx2, hk1, hkp1⟩
            clear HPIN cp2 c1x ep HKP
            have HKP1 := Lib.hid hkp1
            have hb4 : Below w.heap.size w w4 := hbx.trans ((hk1.below (B := w1.heap.size) (fun b hb => .inl (.inl hb))).mono (by omega))
            clear hkp1 hk1 hbx
            go_wp2_with fail
            generalize hw5 : World.alloc w4 _ = w5
            have hb45 : Below w4.heap.size w4 w5 := by rw [← hw5]; exact (Below.refl _ _).alloc (Nat.le_refl _) _
            have hBx : Blk w5 w4.heap.size 32 #[.int .u8 x.kind, .int .u8 x.level, .int .u32 p, .int .u64 x.lsn, .int .u32 x.next, .slice (some ⟨bx, ox, none⟩) 1 cc] := by rw [← hw5]; exact Blk.new _ _ _
            have hs4 := hb4.size
            have hgx : w4.heap.size < w5.heap.size := hBx.lt
            have hgP4 : gP < w4.heap.size := by obtain ⟨gr, hP⟩ := HKP1.out.play; exact hP.lt
            have hgN4 := HKP1.out.nowb.lt
            have hB4 : w1.heap.size ≤ w4.heap.size := by have := HKP1.out.gP0; omega
            have HKP2 := Lib.hid (HKP1.out.more (K' := fun b => ((b < w1.heap.size ∨ b = gP) ∨ b = gN) ∨ b = w4.heap.size) hb45 (fun b hb => .inl hb) (fun b hb => hb.elim .inl (fun e => .inr ⟨by omega, by omega⟩)))
            have hb5 : Below w.heap.size w w5 := hb4.trans (hb45.mono hs4)
            have c5 := hBx.cell 5
            have cb := (hb45.cell (p := ⟨bx, ox, none⟩) hbx2).trans hcx
            have cn := HKP2.out.nowb.cell p
            rw [nowA_at _ (by omega)] at cn
            simp only [List.getElem?_toArray, List.getElem?_cons_succ, List.getElem?_cons_zero] at c5
            have HBX := Lib.hid hBx
            have hgxP : w4.heap.size ≠ gP := by omega
            have hgxN : w4.heap.size ≠ gN := by omega
            clear HKP1 hcx hbx1 hbx2 hBx hb45 hw5 hb4
            generalize w4.heap.size = gx at *
            have hmq := hrow
            clear hrow
            generalize hr0 : now p = r0 at c5 cb cn
            have hss : (r0 != r0) = false := by simp
            have i1 : (p : Int) < 7 := by omega
            have i2 : (0 : Int) ≤ p := by omega
            have i3 : ¬ (7 : Int) ≤ p := by omega
            have i4 : ¬ (p : Int) < 0 := by omega
            have i5 : (0 : Int) ≤ p ∧ (p : Int) < 7 := ⟨i2, i1⟩
            go_quiet (fail)
            have hb56 : Below w5.heap.size w5 (w5.drewN nq) := ((Turns.refl noFoot w5).drewN nq).below_none
            have HKP3 := Lib.hid (HKP2.out.more (K' := fun b => ((b < w1.heap.size ∨ b = gP) ∨ b = gN) ∨ b = gx) hb56 (fun b hb => hb) (fun b hb => .inl hb))
            have HBX3 := Lib.hid (HBX.out.drewN nq)
            have hb6 : Below w.heap.size w (w5.drewN nq) := hb5.trans (hb56.mono hb5.size)
            clear HKP2 HBX c5 cb cn hb56 hb5 hss hr0 hgx
            generalize w5.drewN nq = w6 at *
            have c0x := (hb6.cell (p := ⟨b, o + k * 11, none⟩) hbw).trans c0
            have c9x := (hb6.cell (p := ⟨b, o + k * 11 + 9, none⟩) hbw).trans c9
            have HC := Lib.hid (And.intro c0x c9x)
            go_upto_region 18 with fail
            go_cut [97] from 32 to 211 (fun u wy => u = .bool (decide (0 < a.bs.length ∧ a.bs.length < 100 ∧ a.do_ % 2 = 0)) ∧ w6 = wy)
            case first =>
              as_aux_lemma => --A0
                by_cases h0 : 0 < a.bs.length
                · by_cases h1 : a.bs.length < 100
                  · go_wp2_with fail
                    go_meet
                    case rel =>
                      refine ⟨?_, rfl⟩
                      congr 1; rw [Bool.eq_iff_iff]; simp; omega
                  · go_wp2_with fail
                    go_meet
                    case rel =>
                      refine ⟨?_, rfl⟩
                      congr 1; rw [Bool.eq_iff_iff]; simp; omega
                · go_wp2_with fail
                  go_meet
                  case rel =>
                    refine ⟨?_, rfl⟩
                    congr 1; rw [Bool.eq_iff_iff]; simp; omega
                --A1
            case rest =>
              rename_i K8 hK8
              refine hK8 _ _ ?_
              obtain ⟨rfl, rfl⟩ := hcut
              have hact : decide (0 < a.bs.length ∧ a.bs.length < 100 ∧ a.do_ % 2 = 0) = true → 0 < a.bs.length ∧ a.bs.length < 100 := fun h => by
                have := of_decide_eq_true h
                exact ⟨this.1, this.2.1⟩
              generalize decide (0 < a.bs.length ∧ a.bs.length < 100 ∧ a.do_ % 2 = 0) = act at *
              clear c0x c9x
              go_upto_if 97 with fail
              go_cut [12, 13] from 32 to 211 (fun _ _ wy => ∃ now' l' s', KpAt w1.heap.size gP gN gd gl gp now' now' p p (110 + (k + 1) * 1000) (fun b => (b < w1.heap.size ∨ b = gP) ∨ b = gN) l' s' wy ∧ Below w.heap.size w wy)
              case first =>
                cases act with
                | false =>
                  go_wp2_with fail
                  go_meet
                  case rel => exact ⟨now, l1, s1, (HKP3.out.mono (fun b hb => .inl hb) (fun b hb => by rcases hb with h | h | h <;> simp [h])).lim_le (by omega), hb6⟩
                | true =>
                  obtain ⟨hl0, hl99⟩ := hact rfl
                  clear hact
                  obtain ⟨gr2, hP⟩ := HKP3.out.play
                  have cp1 := hP.cell 1
                  simp only [List.getElem?_toArray, List.getElem?_cons_succ, List.getElem?_cons_zero] at cp1
                  have hS0 := Lib.hid (show w6.drew.cell? ⟨gP, 1, none⟩ = some (ptr gl) ∧ w6.drew.cell? ⟨b, o + k * 11 + 9, none⟩ = some (str a.bs) from ⟨cp1, HC.out.2⟩)
                  have hbd : Below w6.heap.size w6 w6.drew := (Below.refl w6.heap.size w6).drew
                  have HKP4 := Lib.hid (HKP3.out.more hbd (fun _ hb => hb) (fun _ hb => .inl hb))
                  have HBX4 := Lib.hid (HBX3.out.drew)
                  have hb7 : Below w.heap.size w w6.drew := hb6.trans (hbd.mono hb6.size)
                  have HAP := Lib.hid (kp_append HKP4.out (by omega) (t := a.bs) hl0 (by omega))
                  have hlx := HKP4.out.nx
                  clear hP cp1 hbd hb6 HC HKP3 HBX3
                  go_wp2_with fail
                  go_cut [12, 13] from 32 to 211 (fun u v wy => ∃ (z c : Nat), u = .int .u64 z ∧ v = .int .i64 c ∧ ((c = 0 ∧ ∃ l2 s2, z < l2.next ∧ KpAt w1.heap.size gP gN gd gl gp now now p p (l1.next + 113) (fun b => ((b < w1.heap.size ∨ b = gP) ∨ b = gN) ∨ b = gx) l2 s2 wy) ∨ (c = 4 ∧ l1.left < 113 ∧ KpAt w1.heap.size gP gN gd gl gp now now p p (110 + k * 1000) (fun b => ((b < w1.heap.size ∨ b = gP) ∨ b = gN) ∨ b = gx) l1 s1 wy)) ∧ Blk wy gx 32 #[.int .u8 x.kind, .int .u8 x.level, .int .u32 p, .int .u64 x.lsn, .int .u32 x.next, .slice (some ⟨bx, ox, none⟩) 1 cc] ∧ Below w.heap.size w wy)
                  case first =>
                    as_aux_lemma => --B0
                      refine R_begin (fun (W : World) => W.cell? ⟨gP, 1, none⟩ = some (ptr gl) ∧ W.cell? ⟨b, o + k * 11 + 9, none⟩ = some (str a.bs)) (fun _ => false) rfl ?_
                      refine R_tk 0 99 hS0.out ?_
                      simp only [List.setIfInBounds_toArray, List.set_cons_zero, List.set_cons_succ]
                      refine R_tk 1 100 hS0.out ?_
                      simp only [List.setIfInBounds_toArray, List.set_cons_zero, List.set_cons_succ]
                      refine R_tk 2 101 hS0.out ?_
                      simp only [List.setIfInBounds_toArray, List.set_cons_zero, List.set_cons_succ]
                      refine R_tk 3 102 hS0.out ?_
                      simp only [List.setIfInBounds_toArray, List.set_cons_zero, List.set_cons_succ]
                      refine R_tk 4 103 hS0.out ?_
                      simp only [List.setIfInBounds_toArray, List.set_cons_zero, List.set_cons_succ]
                      refine R_tk 5 104 hS0.out ?_
                      simp only [List.setIfInBounds_toArray, List.set_cons_zero, List.set_cons_succ]
                      refine R_tk 6 105 hS0.out ?_
                      simp only [List.setIfInBounds_toArray, List.set_cons_zero, List.set_cons_succ]
                      refine R_tk 7 106 hS0.out ?_
                      simp only [List.setIfInBounds_toArray, List.set_cons_zero, List.set_cons_succ]
                      refine R_tk 8 107 hS0.out ?_
                      simp only [List.setIfInBounds_toArray, List.set_cons_zero, List.set_cons_succ]
                      refine R_call 9 108 (w' := w6.drew) rfl rfl (by rfl) (by kernel_rfl) ?_ HAP.out ?_
                      · go_simp
                      rintro e v1 ⟨hk1, hh⟩
                      have hb8 : Below w.heap.size w v1 := hb7.trans ((hk1.below (B := w1.heap.size) (fun b hb => .inl (.inl (.inl hb)))).mono (by omega))
                      have HBX5 := Lib.hid (HBX4.out.keep (hk1.block gx (.inr rfl)))
                      rcases hh with ⟨l2, s2, hfit, rfl, hlt2, hkp2⟩ | ⟨hleft, rfl, hkp2⟩
                      · obtain ⟨gr3, hP⟩ := hkp2.play
                        have hS1 : v1.cell? ⟨gP, 1, none⟩ = some (ptr gl) ∧ v1.cell? ⟨b, o + k * 11 + 9, none⟩ = some (str a.bs) := ⟨hP.cell 1, (hb8.cell (p := ⟨b, o + k * 11 + 9, none⟩) hbw).trans c9⟩
                        have HS1 := Lib.hid hS1
                        have HKP5 := Lib.hid hkp2
                        clear hP hS1 hkp2 hk1 hb7 HKP4 HBX4 HAP hS0
                        refine ⟨_, rfl, fun _ => HS1.out, ?_⟩
                        simp only [List.setIfInBounds_toArray, List.set_cons_zero, List.set_cons_succ]
                        refine R_tk 10 98 HS1.out ?_
                        simp only [List.setIfInBounds_toArray, List.set_cons_zero, List.set_cons_succ]
                        refine R_tk 11 109 HS1.out ?_
                        simp only [List.setIfInBounds_toArray, List.set_cons_zero, List.set_cons_succ]
                        refine R_tk 12 110 HS1.out ?_
                        simp only [List.setIfInBounds_toArray, List.set_cons_zero, List.set_cons_succ]
                        refine R_tk 13 12 HS1.out ?_
                        simp only [List.setIfInBounds_toArray, List.set_cons_zero, List.set_cons_succ]
                        refine R_tk 14 13 HS1.out ?_
                        simp only [List.setIfInBounds_toArray, List.set_cons_zero, List.set_cons_succ]
                        refine R_done (by kernel_rfl) ?_ _
                        rename_i K9 hK9
                        refine hK9 _ _ ?_
                        go_meet
                        case rel => exact ⟨l1.next, 0, rfl, rfl, .inl ⟨rfl, l2, s2, hlt2, HKP5.out⟩, HBX5.out, hb8⟩
                      · obtain ⟨gr3, hP⟩ := hkp2.play
                        have hS1 : v1.cell? ⟨gP, 1, none⟩ = some (ptr gl) ∧ v1.cell? ⟨b, o + k * 11 + 9, none⟩ = some (str a.bs) := ⟨hP.cell 1, (hb8.cell (p := ⟨b, o + k * 11 + 9, none⟩) hbw).trans c9⟩
                        have HS1 := Lib.hid hS1
                        have HKP5 := Lib.hid hkp2
                        clear hP hS1 hkp2 hk1 hb7 HKP4 HBX4 HAP hS0
                        refine ⟨_, rfl, fun _ => HS1.out, ?_⟩
                        simp only [List.setIfInBounds_toArray, List.set_cons_zero, List.set_cons_succ]
                        refine R_tk 10 98 HS1.out ?_
                        simp only [List.setIfInBounds_toArray, List.set_cons_zero, List.set_cons_succ]
                        refine R_tk 11 109 HS1.out ?_
                        simp only [List.setIfInBounds_toArray, List.set_cons_zero, List.set_cons_succ]
                        refine R_tk 12 110 HS1.out ?_
                        simp only [List.setIfInBounds_toArray, List.set_cons_zero, List.set_cons_succ]
                        refine R_tk 13 12 HS1.out ?_
                        simp only [List.setIfInBounds_toArray, List.set_cons_zero, List.set_cons_succ]
                        refine R_tk 14 13 HS1.out ?_
                        simp only [List.setIfInBounds_toArray, List.set_cons_zero, List.set_cons_succ]
                        refine R_done (by kernel_rfl) ?_ _
                        rename_i K9 hK9
                        refine hK9 _ _ ?_
                        go_meet
                        case rel => exact ⟨0, 4, rfl, rfl, .inr ⟨rfl, by omega, HKP5.out⟩, HBX5.out, hb8⟩
                      --B1
                  case rest =>
                    rename_i K9 hK9
                    refine hK9 _ _ ?_
                    clear HAP hS0 HKP4 HBX4
                    obtain ⟨z, c, rfl, rfl, hh, hBXc, hbc⟩ := hcut
                    have HBXc := Lib.hid hBXc
                    have HH := Lib.hid hh
                    clear hBXc hh hb7
                    go_upto_if 112 with fail
                    go_cut [12, 13] from 32 to 211 (fun u v wy => ∃ (z : Nat) (l2 : Sp.Lg) (s2 : Sp.R15), u = .int .u64 z ∧ v = .int .i64 0 ∧ z < l2.next ∧ KpAt w1.heap.size gP gN gd gl gp now now p p (110 + (k + 1) * 1000) (fun b => ((b < w1.heap.size ∨ b = gP) ∨ b = gN) ∨ b = gx) l2 s2 wy ∧ Blk wy gx 32 #[.int .u8 x.kind, .int .u8 x.level, .int .u32 p, .int .u64 x.lsn, .int .u32 x.next, .slice (some ⟨bx, ox, none⟩) 1 cc] ∧ Below w.heap.size w wy)
                    case first =>
                      as_aux_lemma => --C0
                        rcases HH.out with ⟨rfl, l2, s2, hz, hkp⟩ | ⟨rfl, hleft, hkp⟩
                        · have HK := Lib.hid hkp
                          clear hkp HH
                          go_wp2_with fail
                          go_meet
                          case rel => exact ⟨z, l2, s2, rfl, rfl, hz, HK.out.lim_le (by omega), HBXc.out, hbc⟩
                        · have HK := Lib.hid hkp
                          clear hkp HH
                          obtain ⟨gr2, hP⟩ := HK.out.play
                          have cp1 := hP.cell 1
                          simp only [List.getElem?_toArray, List.getElem?_cons_succ, List.getElem?_cons_zero] at cp1
                          have HNX := Lib.hid (pk_next HK.out.pk)
                          clear hP
                          go_wp2_with fail
                          refine HNX.out.mono ?_
                          rintro e v0 ⟨rfl, hv0⟩
                          subst v0
                          have HFO := Lib.hid (kp_force HK.out)
                          clear HNX
                          go_wp2_with fail
                          refine HFO.out.mono ?_
                          rintro e v1 ⟨rfl, hk1, hkp1⟩
                          have hb1' : Below w.heap.size w v1 := hbc.trans ((hk1.below (B := w1.heap.size) (fun b hb => .inl (.inl (.inl hb)))).mono (by omega))
                          have HB1 := Lib.hid (HBXc.out.keep (hk1.block gx (.inr rfl)))
                          have HKE := Lib.hid (kp_keep hkp1 rfl (show Sp.Lg.left { l1 with forced := l1.next } < 113 from hleft))
                          obtain ⟨gr3, hP⟩ := hkp1.play
                          have cp1 := hP.cell 1
                          simp only [List.getElem?_toArray, List.getElem?_cons_succ, List.getElem?_cons_zero] at cp1
                          clear hP hkp1 hk1 HFO HK HBXc hbc
                          go_wp2_with fail
                          refine HKE.out.mono ?_
                          rintro e v2 ⟨rfl, hk2, hkp2⟩
                          have hb2' : Below w.heap.size w v2 := hb1'.trans ((hk2.below (B := w1.heap.size) (fun b hb => .inl (.inl (.inl hb)))).mono (by omega))
                          have HB2 := Lib.hid (HB1.out.keep (hk2.block gx (.inr rfl)))
                          have hroom := kp_room hkp2
                          have hx3 : (Sp.Lg.keep { l1 with forced := l1.next } l1.next).next = l1.next := rfl
                          have HK2 := Lib.hid hkp2
                          clear hkp2 hk2 HKE HB1 hb1' cp1
                          go_wp2_with fail
                          rename_i K9 hK9 hx9
                          have hbd : Below v2.heap.size v2 v2.drew := (Below.refl v2.heap.size v2).drew
                          have HK3 := Lib.hid (HK2.out.more hbd (fun _ hb => hb) (fun _ hb => .inl hb))
                          have HB3 := Lib.hid (HB2.out.drew)
                          have hb3 : Below w.heap.size w v2.drew := hb2'.trans (hbd.mono hb2'.size)
                          obtain ⟨gr4, hP⟩ := HK3.out.play
                          have hS2 := Lib.hid (show v2.drew.cell? ⟨gP, 1, none⟩ = some (ptr gl) ∧ v2.drew.cell? ⟨b, o + k * 11 + 9, none⟩ = some (str a.bs) from ⟨hP.cell 1, (hb3.cell (p := ⟨b, o + k * 11 + 9, none⟩) hbw).trans c9⟩)
                          have HAP2 := Lib.hid (kp_append HK3.out (by omega) (t := a.bs) hl0 (by omega))
                          clear hP hbd hb2' HK2 HB2
                          refine R_begin (fun (W : World) => W.cell? ⟨gP, 1, none⟩ = some (ptr gl) ∧ W.cell? ⟨b, o + k * 11 + 9, none⟩ = some (str a.bs)) (fun _ => false) rfl ?_
                          refine R_tk 0 135 hS2.out ?_
                          simp only [List.setIfInBounds_toArray, List.set_cons_zero, List.set_cons_succ]
                          refine R_tk 1 136 hS2.out ?_
                          simp only [List.setIfInBounds_toArray, List.set_cons_zero, List.set_cons_succ]
                          refine R_tk 2 137 hS2.out ?_
                          simp only [List.setIfInBounds_toArray, List.set_cons_zero, List.set_cons_succ]
                          refine R_tk 3 138 hS2.out ?_
                          simp only [List.setIfInBounds_toArray, List.set_cons_zero, List.set_cons_succ]
                          refine R_tk 4 139 hS2.out ?_
                          simp only [List.setIfInBounds_toArray, List.set_cons_zero, List.set_cons_succ]
                          refine R_tk 5 140 hS2.out ?_
                          simp only [List.setIfInBounds_toArray, List.set_cons_zero, List.set_cons_succ]
                          refine R_tk 6 141 hS2.out ?_
                          simp only [List.setIfInBounds_toArray, List.set_cons_zero, List.set_cons_succ]
                          refine R_tk 7 142 hS2.out ?_
                          simp only [List.setIfInBounds_toArray, List.set_cons_zero, List.set_cons_succ]
                          refine R_tk 8 143 hS2.out ?_
                          simp only [List.setIfInBounds_toArray, List.set_cons_zero, List.set_cons_succ]
                          refine R_call 9 144 (w' := v2.drew) rfl rfl (by rfl) (by kernel_rfl) ?_ HAP2.out ?_
                          · go_simp
                          rintro e v3 ⟨hk3, hh⟩
                          have hb4 : Below w.heap.size w v3 := hb3.trans ((hk3.below (B := w1.heap.size) (fun b hb => .inl (.inl (.inl hb)))).mono (by omega))
                          have HB4 := Lib.hid (HB3.out.keep (hk3.block gx (.inr rfl)))
                          rcases hh with ⟨l2, s2, hfit, rfl, hlt2, hkp2⟩ | ⟨hleft2, _⟩
                          · obtain ⟨gr5, hP⟩ := hkp2.play
                            have hS1 : v3.cell? ⟨gP, 1, none⟩ = some (ptr gl) ∧ v3.cell? ⟨b, o + k * 11 + 9, none⟩ = some (str a.bs) := ⟨hP.cell 1, (hb4.cell (p := ⟨b, o + k * 11 + 9, none⟩) hbw).trans c9⟩
                            have HS1 := Lib.hid hS1
                            have HKP5 := Lib.hid hkp2
                            clear hP hS1 hkp2 hk3 hb3 HK3 HB3 HAP2 hS2
                            refine ⟨_, rfl, fun _ => HS1.out, ?_⟩
                            simp only [List.setIfInBounds_toArray, List.set_cons_zero, List.set_cons_succ]
                            refine R_tk 10 134 HS1.out ?_
                            simp only [List.setIfInBounds_toArray, List.set_cons_zero, List.set_cons_succ]
                            refine R_tk 11 145 HS1.out ?_
                            simp only [List.setIfInBounds_toArray, List.set_cons_zero, List.set_cons_succ]
                            refine R_tk 12 146 HS1.out ?_
                            simp only [List.setIfInBounds_toArray, List.set_cons_zero, List.set_cons_succ]
                            refine R_tk 13 12 HS1.out ?_
                            simp only [List.setIfInBounds_toArray, List.set_cons_zero, List.set_cons_succ]
                            refine R_tk 14 13 HS1.out ?_
                            simp only [List.setIfInBounds_toArray, List.set_cons_zero, List.set_cons_succ]
                            refine R_done (by kernel_rfl) ?_ _
                            refine hK9 _ _ ?_
                            go_meet
                            case rel => exact ⟨l1.next, l2, s2, rfl, rfl, hlt2, HKP5.out.lim_le (by rw [hx3]; omega), HB4.out, hb4⟩
                          · omega
                        --C1
                    case rest =>
                      as_aux_lemma => --D0
                        rename_i K9 hK9
                        refine hK9 _ _ ?_
                        clear HH HBXc hbc
                        obtain ⟨z2, l2, s2, rfl, rfl, hz, hkp, hBXd, hbd⟩ := hcut
                        have c3 := hBXd.cell 3
                        have f3 := hBXd.frozen 3
                        simp only [List.getElem?_toArray, List.getElem?_cons_succ, List.getElem?_cons_zero] at c3
                        have HK1 := Lib.hid (hkp.own (g := gx) (.inr rfl) hgxP hgxN 3 (.int .u64 z2))
                        have HB1 := Lib.hid (hBXd.set_ 3 (.int .u64 z2))
                        have hlim2 := hkp.nx
                        have hbe : Below w.heap.size w (wc.setCell ⟨gx, 3, none⟩ (.int .u64 z2)) := hbd.setCell (p := ⟨gx, 3, none⟩) hs4 _
                        clear hkp hBXd hbd
                        go_upto_region 28 with fail
                        have HZ := Lib.hid (And.intro hz hlim2)
                        clear c3 f3
                        generalize hwd : World.setCell wc _ _ = wd at *
                        clear hwd
                        have c9d := (hbe.cell (p := ⟨b, o + k * 11 + 9, none⟩) hbw).trans c9
                        have hgxd : gx < wd.heap.size := HB1.out.lt
                        have hgPd : gP < wd.heap.size := by omega
                        have hgNd : gN < wd.heap.size := by omega
                        have hsz : (wd.setCell ⟨gx, 5, none⟩ (.slice (some ⟨wd.heap.size, 0, none⟩) 1 1)).heap.size = wd.heap.size := by simp
                        have hK2 := HK1.out.own (g := gx) (.inr rfl) hgxP hgxN 5 (.slice (some ⟨wd.heap.size, 0, none⟩) 1 1)
                        have hX2 := HB1.out.set_ 5 (.slice (some ⟨wd.heap.size, 0, none⟩) 1 1)
                        have hbf := hbe.setCell (p := ⟨gx, 5, none⟩) hs4 (.slice (some ⟨wd.heap.size, 0, none⟩) 1 1)
                        have hK3 := hK2.more (K' := fun b => (((b < w1.heap.size ∨ b = gP) ∨ b = gN) ∨ b = gx) ∨ b = wd.heap.size) ((Below.refl _ _).alloc (Nat.le_refl _) (.cells #[str a.bs] 9)) (fun b hb => .inl hb) (fun b hb => hb.elim .inl (fun e => .inr ⟨by omega, by rw [World.size_alloc]; omega⟩))
                        have hG2 := Blk.new (wd.setCell ⟨gx, 5, none⟩ (.slice (some ⟨wd.heap.size, 0, none⟩) 1 1)) 9 #[str a.bs]
                        rw [hsz] at hG2
                        have hX3 := hX2.alloc (.cells #[str a.bs] 9)
                        have hbg := hbf.alloc hbf.size (.cells #[str a.bs] 9)
                        have c5 := HB1.out.cell 5
                        have f5 := HB1.out.frozen 5
                        simp only [List.setIfInBounds_toArray, List.set_cons_zero, List.set_cons_succ, List.getElem?_toArray, List.getElem?_cons_succ, List.getElem?_cons_zero] at c5
                        have HG2 := Lib.hid hG2
                        have HX3 := Lib.hid hX3
                        have HK3 := Lib.hid hK3
                        have HBG := Lib.hid hbg
                        clear hG2 hX3 hK3 hbg hbf hX2 hK2 HB1 HK1 hbe hsz
                        go_upto_region 29 with fail
                        rename_i K9 hK9
                        generalize hwe : World.alloc (World.setCell wd _ _) _ = we at *
                        clear hwe c5 f5 c9d
                        generalize wd.heap.size = g0 at *
                        have hxw : Sp.Pg.wf ⟨x.kind, x.level, p, z2, x.next, [a.bs]⟩ := ⟨hwf.1, hwf.2.1, by show p < _; omega, by show z2 < _; have := HZ.out; omega, hwf.2.2.2.2⟩
                        have hxm : Sp.Pg.may ⟨x.kind, x.level, p, z2, x.next, [a.bs]⟩ := ⟨hmay.1, hp1, by show p ≤ _; omega, hmay.2.2.2.1, by show 4 * 1 + Sp.total [a.bs] ≤ 484; simp [Sp.total]; omega⟩
                        have HX4 := Lib.hid HX3.out.drew
                        have HG4 := Lib.hid HG2.out.drew
                        have hbd : Below we.heap.size we we.drew := (Below.refl we.heap.size we).drew
                        have HK4 := Lib.hid (HK3.out.more hbd (fun _ hb => hb) (fun _ hb => .inl hb))
                        have hb4 : Below w.heap.size w we.drew := HBG.out.trans (hbd.mono HBG.out.size)
                        obtain ⟨gr4, hP⟩ := HK4.out.play
                        have HPUT := Lib.hid (kp_put HK4.out hp1 hxw hxm rfl rfl HZ.out.1 (c := 1) HG4.out.lt (HG4.out.cell 0))
                        have hS2 := Lib.hid (show we.drew.cell? ⟨gP, 2, none⟩ = some (ptr gp) ∧ Blk we.drew gx 32 (pgCs ⟨x.kind, x.level, p, z2, x.next, [a.bs]⟩ (some ⟨g0, 0, none⟩) 1) from ⟨hP.cell 2, HX4.out⟩)
                        clear hP hbd HBG HK3 HX3 HG2
                        refine R_begin (fun (W : World) => W.cell? ⟨gP, 2, none⟩ = some (ptr gp) ∧ Blk W gx 32 (pgCs ⟨x.kind, x.level, p, z2, x.next, [a.bs]⟩ (some ⟨g0, 0, none⟩) 1)) (fun _ => false) rfl ?_
                        refine R_tk 0 158 hS2.out ?_
                        simp only [List.setIfInBounds_toArray, List.set_cons_zero, List.set_cons_succ]
                        refine R_tk 1 159 hS2.out ?_
                        simp only [List.setIfInBounds_toArray, List.set_cons_zero, List.set_cons_succ]
                        refine R_tk 2 160 hS2.out ?_
                        simp only [List.setIfInBounds_toArray, List.set_cons_zero, List.set_cons_succ]
                        refine R_tk 3 161 hS2.out ?_
                        simp only [List.setIfInBounds_toArray, List.set_cons_zero, List.set_cons_succ]
                        refine R_take 4 162 (v := pgV ⟨x.kind, x.level, p, z2, x.next, [a.bs]⟩ (some ⟨g0, 0, none⟩) 1) rfl rfl (by rfl) (by kernel_rfl) (fun _ _ _ h => h) hS2.out ?_ ?_
                        · intro w hSw
                          exact run_op_load _ _ _ rfl rfl (run_loadVar_row w gx _ _ _ _ _ hSw.2 Tryz.underlying32 rfl rfl)
                        simp only [List.setIfInBounds_toArray, List.set_cons_zero, List.set_cons_succ]
                        refine R_call 5 163 (w' := we.drew) rfl rfl (by rfl) (by kernel_rfl) ?_ HPUT.out ?_
                        · go_simp
                        rintro e v1 ⟨l3, s3, rfl, hk1, hkp1⟩
                        have hb5 : Below w.heap.size w v1 := hb4.trans ((hk1.below (B := w1.heap.size) (fun b hb => .inl (.inl (.inl (.inl hb))))).mono (by omega))
                        have HX5 := Lib.hid (HX4.out.keep (hk1.block gx (.inl (.inr rfl))))
                        have HG5 := Lib.hid (HG4.out.keep (hk1.block g0 (.inr rfl)))
                        have HK5 := Lib.hid hkp1
                        obtain ⟨gr5, hP5⟩ := HK5.out.play
                        have hS3 := Lib.hid (show v1.cell? ⟨gP, 2, none⟩ = some (ptr gp) ∧ Blk v1 gx 32 (pgCs ⟨x.kind, x.level, p, z2, x.next, [a.bs]⟩ (some ⟨g0, 0, none⟩) 1) from ⟨hP5.cell 2, HX5.out⟩)
                        clear hP5
                        refine ⟨_, rfl, (fun _ => hS3.out), ?_⟩
                        simp only [List.setIfInBounds_toArray, List.set_cons_zero, List.set_cons_succ]
                        clear hkp1 hk1 hb4 HX4 HG4 HK4 HPUT hS2
                        refine R_tk 6 164 hS3.out ?_
                        simp only [List.setIfInBounds_toArray, List.set_cons_zero, List.set_cons_succ]
                        refine R_done (by kernel_rfl) ?_ _
                        refine hK9 _ _ ?_
                        clear hK9
                        have c5b := HX5.out.cell 5
                        have cg0 := HG5.out.cell 0
                        have fg0 := HG5.out.frozen 0
                        simp only [List.setIfInBounds_toArray, List.set_cons_zero, List.set_cons_succ, List.getElem?_toArray, List.getElem?_cons_succ, List.getElem?_cons_zero] at c5b cg0
                        have hgP0 := HK5.out.gP0
                        have hg0P : g0 ≠ gP := by omega
                        have hg0N : g0 ≠ gN := by omega
                        have HK6 := Lib.hid (HK5.out.own (g := g0) (.inr rfl) hg0P hg0N 0 (.string ⟨#[97, 110, 111, 116, 104, 101, 114, 32, 111, 110, 101]⟩))
                        have hb6 := hb5.setCell (p := ⟨g0, 0, none⟩) (show w.heap.size ≤ g0 by omega) (.string ⟨#[97, 110, 111, 116, 104, 101, 114, 32, 111, 110, 101]⟩)
                        clear HX5 HG5 HK5 hb5
                        go_upto_region 32 with fail
                        generalize hwf6 : World.setCell v1 _ _ = v6 at *
                        clear hwf6 c5b cg0 fg0
                        have c9f := (hb6.cell (p := ⟨b, o + k * 11 + 9, none⟩) hbw).trans c9
                        have cnf := HK6.out.nowb.cell p
                        have fnf := HK6.out.nowb.frozen p
                        rw [nowA_at _ (by omega)] at cnf
                        have hK7 := HK6.out.setn (n := p) (by omega) a.bs
                        have hb7' := hb6.setCell (p := ⟨gN, p, none⟩) (show w.heap.size ≤ gN by omega) (str a.bs)
                        have HK7 := Lib.hid (hK7.mono (K' := fun b => (b < w1.heap.size ∨ b = gP) ∨ b = gN) (fun b hb => .inl (.inl hb)) (fun b hb => by rcases hb with h | h | h <;> simp [h]))
                        have HB7 := Lib.hid hb7'
                        clear hK7 hb7' HK6 hb6
                        go_wp2_with fail
                        go_meet
                        case rel => exact ⟨_, l3, s3, HK7.out, HB7.out⟩
                        --D1
              case rest =>
                clear HKP3 HBX3 HC hb6 hact
                obtain ⟨now', l2, s2, hkp, hbc⟩ := hcut
                obtain ⟨gr2, hP⟩ := hkp.play
                have cp2 := hP.cell 2
                simp only [List.getElem?_toArray, List.getElem?_cons_succ, List.getElem?_cons_zero] at cp2
                have HU := Lib.hid (kp_unpin hkp (by omega) hp6)
                clear hkp hP
                go_wp2_with fail
                refine HU.out.mono ?_
                rintro e v0 ⟨l3, s3, rfl, hk0, hkp0⟩
                have hb0 : Below w.heap.size w v0 := hbc.trans ((hk0.below (B := w1.heap.size) (fun b hb => .inl (.inl hb))).mono (by omega))
                have HK0 := Lib.hid hkp0
                obtain ⟨gr3, hP⟩ := HK0.out.play
                have cp2 := hP.cell 2
                simp only [List.getElem?_toArray, List.getElem?_cons_succ, List.getElem?_cons_zero] at cp2
                have c0v := (hb0.cell (p := ⟨b, o + k * 11, none⟩) hbw).trans c0
                clear HU hkp0 hk0 hbc hP
                by_cases h3 : a.do_ % 5 = 3
                · have d3a : decide ((a.do_ : Int) % 5 = 3) = true := by rw [decide_eq_true_iff]; omega
                  have d3b : (a.do_ : Int) % 5 = 3 := by omega
                  have hbn := (Below.refl v0.heap.size v0).alloc (Nat.le_refl _) (.cells #[.int .u32 p] 28)
                  have hnb := Blk.new v0 28 #[.int .u32 p]
                  have HK1 := Lib.hid (HK0.out.more (K' := (fun b => (b < w1.heap.size ∨ b = gP) ∨ b = gN)) hbn (fun _ hb => hb) (fun _ hb => .inl hb))
                  have HF := Lib.hid (kp_flush (c := 1) HK1.out (by omega) hp6 hnb.lt (hnb.cell 0))
                  have hb1' : Below w.heap.size w (v0.alloc (.cells #[.int .u32 p] 28)) := hb0.trans (hbn.mono hb0.size)
                  clear hbn hnb
                  go_wp2_with fail
                  refine HF.out.mono ?_
                  rintro e v1 ⟨l4, s4, rfl, hk1, hkp1⟩
                  have hb2' : Below w.heap.size w v1 := hb1'.trans ((hk1.below (B := w1.heap.size) (fun b hb => .inl (.inl hb))).mono (by omega))
                  have HK2 := Lib.hid hkp1
                  clear HF hk1 hkp1 hb1' HK1 HK0 cp2 c0v hb0
                  obtain ⟨gr4, hP⟩ := HK2.out.play
                  have HCL := Lib.hid (law_clean (gN := gN) HK2.out.pk HK2.out.ki (by have := HK2.out.f6; omega) hP (fun j hj => by rw [HK2.out.nowb.cell j, nowA_at _ hj]) HK2.out.nowb.lt)
                  clear hP
                  go_wp2_with fail
                  refine HCL.out.mono ?_
                  rintro e v9 ⟨rfl, hb9⟩
                  have HK9 := Lib.hid ((HK2.out.more (K' := (fun b => (b < w1.heap.size ∨ b = gP) ∨ b = gN)) hb9 (fun _ hb => hb) (fun _ hb => .inl hb)).q0)
                  have HB9 : Hid (Below w.heap.size w v9) := hb2'.trans (hb9.mono hb2'.size)
                  clear HCL hb9
                  go_wp2_with fail
                  go_roundw
                  case rel => exact ⟨k + 1, now', _, _, hlt, by go_num, HK9.out, HB9.out⟩
                  case measure => simp [intOf]; omega
                · by_cases h4 : a.do_ % 5 = 4
                  · have d3a : decide ((a.do_ : Int) % 5 = 3) = false := by rw [decide_eq_false_iff_not]; omega
                    have d3b : ¬ (a.do_ : Int) % 5 = 3 := by omega
                    have d4a : decide ((a.do_ : Int) % 5 = 4) = true := by rw [decide_eq_true_iff]; omega
                    have d4b : (a.do_ : Int) % 5 = 4 := by omega
                    have HF := Lib.hid (kp_evict HK0.out (by omega) hp6)
                    go_wp2_with fail
                    refine HF.out.mono ?_
                    rintro e v1 ⟨l4, s4, rfl, hk1, hkp1⟩
                    have hb2' : Below w.heap.size w v1 := hb0.trans ((hk1.below (B := w1.heap.size) (fun b hb => .inl (.inl hb))).mono (by omega))
                    have HK2 := Lib.hid hkp1
                    clear HF hk1 hkp1 HK0 cp2 c0v hb0
                    obtain ⟨gr4, hP⟩ := HK2.out.play
                    have HCL := Lib.hid (law_clean (gN := gN) HK2.out.pk HK2.out.ki (by have := HK2.out.f6; omega) hP (fun j hj => by rw [HK2.out.nowb.cell j, nowA_at _ hj]) HK2.out.nowb.lt)
                    clear hP
                    go_wp2_with fail
                    refine HCL.out.mono ?_
                    rintro e v9 ⟨rfl, hb9⟩
                    have HK9 := Lib.hid ((HK2.out.more (K' := (fun b => (b < w1.heap.size ∨ b = gP) ∨ b = gN)) hb9 (fun _ hb => hb) (fun _ hb => .inl hb)).q0)
                    have HB9 : Hid (Below w.heap.size w v9) := hb2'.trans (hb9.mono hb2'.size)
                    clear HCL hb9
                    go_wp2_with fail
                    go_roundw
                    case rel => exact ⟨k + 1, now', _, _, hlt, by go_num, HK9.out, HB9.out⟩
                    case measure => simp [intOf]; omega
                  · have d3a : decide ((a.do_ : Int) % 5 = 3) = false := by rw [decide_eq_false_iff_not]; omega
                    have d3b : ¬ (a.do_ : Int) % 5 = 3 := by omega
                    have d4a : decide ((a.do_ : Int) % 5 = 4) = false := by rw [decide_eq_false_iff_not]; omega
                    have d4b : ¬ (a.do_ : Int) % 5 = 4 := by omega
                    obtain ⟨gr4, hP⟩ := HK0.out.play
                    have HCL := Lib.hid (law_clean (gN := gN) HK0.out.pk HK0.out.ki (by have := HK0.out.f6; omega) hP (fun j hj => by rw [HK0.out.nowb.cell j, nowA_at _ hj]) HK0.out.nowb.lt)
                    clear hP
                    go_wp2_with fail
                    refine HCL.out.mono ?_
                    rintro e v9 ⟨rfl, hb9⟩
                    have HK9 := Lib.hid ((HK0.out.more (K' := (fun b => (b < w1.heap.size ∨ b = gP) ∨ b = gN)) hb9 (fun _ hb => hb) (fun _ hb => .inl hb)).q0)
                    have HB9 : Hid (Below w.heap.size w v9) := hb0.trans (hb9.mono hb0.size)
                    clear HCL hb9
                    go_wp2_with fail
                    go_roundw
                    case rel => exact ⟨k + 1, now', _, _, hlt, by go_num, HK9.out, HB9.out⟩
                    case measure => simp [intOf]; omega
          · obtain rfl : k = ls.length := by omega
            clear HKP
            go_wp2_with fail
            refine (HW.out wr).mono ?_
            rintro e w9 ⟨rfl, hb9⟩
            have hbz : Below w.heap.size w w9 := hbx.trans (hb9.mono hbx.size)
            go_wp2_with fail
            go_ret
            exact ⟨rfl, hbz⟩
end Go.Proofs.YtndglfiepeefdaaGreat
