/- The walks of the law package pentimentolaw17: begin, MadeOf, Made: an act on a pool, a disk and a log in memory. -/
import Derived.Test.YtclpmkinjjhncaaGreatMQD
import Derived.Test.YtclpmkinjjhncaaGreatMQC
import Derived.Test.YtclpmkinjjhncaaGreatMQB
import Derived.Test.YtclpmkinjjhncaaGreatMQA
import Derived.Test.YtclpmkinjjhncaaGreatMQF
import Derived.LaidEqlPtr

namespace Go.Proofs.YtclpmkinjjhncaaGreat
open Go.RowKit Go.Conc

def Sp.zeroPg (q : Nat) : Sp.Pg := ⟨0, 0, q, 0, 0, []⟩
set_option maxRecDepth 100000 in
theorem law17_zero (n : Nat) (w : World) : Calls Tryz.prog 95 #[u32v n] w fun e w' => e = .returned (pgV (Sp.zeroPg n) none 0) ∧ Below w.heap.size w w' := by
  have hb1 := (Below.refl w.heap.size w).alloc (Nat.le_refl _) (.cells (pgCs (Sp.zeroPg 0) none 0) 50)
  go_enter Tryz.func95, Tryz.ntmps95
  go_wp2_with fail
  have hB := Blk.new w 50 (pgCs (Sp.zeroPg n) none 0)
  have hb := (Below.refl w.heap.size w).alloc (Nat.le_refl _) (.cells (pgCs (Sp.zeroPg n) none 0) 50)
  exact bodyPost_ret (v := pgV (Sp.zeroPg n) none 0) (results_cell_row rfl _ _ w.heap.size 50 _ (0, 0) _ rfl hB Tryz.underlying50 rfl rfl) rfl ⟨rfl, hb⟩
theorem page_cells {W : World} {g : Nat} {t : TypeId} {c0 c1 c2 c3 c4 c5 : Value} (h : Blk W g t #[c0, c1, c2, c3, c4, c5]) : W.cell? ⟨g, 0, none⟩ = some c0 ∧ W.cell? ⟨g, 1, none⟩ = some c1 ∧ W.cell? ⟨g, 2, none⟩ = some c2 ∧ W.cell? ⟨g, 3, none⟩ = some c3 ∧ W.cell? ⟨g, 4, none⟩ = some c4 ∧ W.cell? ⟨g, 5, none⟩ = some c5 :=
  ⟨h.cell 0, h.cell 1, h.cell 2, h.cell 3, h.cell 4, h.cell 5⟩

namespace Sp
/-- The last of the pages that has a number; or a free one. -/
def pick (l : List Pg) (n : Nat) : Pg := l.foldl (fun x p => if p.id = n then p else x) (zeroPg n)
theorem pick_snoc (l : List Pg) (p : Pg) (n : Nat) : pick (l ++ [p]) n = if p.id = n then p else pick l n := by simp [pick]
theorem pick_take {l : List Pg} {i : Nat} (h : i < l.length) (n : Nat) : pick (l.take (i + 1)) n = if l[i].id = n then l[i] else pick (l.take i) n := by rw [List.take_succ_eq_append_getElem h, pick_snoc]
theorem pick_id (l : List Pg) (n : Nat) : (pick l n).id = n := by
  have : ∀ (l : List Pg) (x : Pg), x.id = n → (l.foldl (fun x p => if p.id = n then p else x) x).id = n := by
    intro l
    induction l with
    | nil => exact fun _ h => h
    | cons p l ih =>
      intro x hx
      simp only [List.foldl_cons]
      split
      · rename_i h; exact ih _ h
      · exact ih _ hx
  exact this l _ rfl
end Sp

/-- How the desk's disk is laid out: 64 sectors of the log, the area, homes of 12 pages. -/
def ly17 : Ly := ⟨64, 97, 12, 149, by omega, by omega⟩

/-- Pages in memory, one behind the other. -/
def PgsL (G : Foot) (w : World) (b o : Nat) (l : List Sp.Pg) : Prop :=
  ∀ q (h : q < l.length), ∃ A c, RowsAt G w A l[q].rows ∧ w.cell? ⟨b, o + q * 6, none⟩ = some (.int .u8 l[q].kind) ∧ w.cell? ⟨b, o + q * 6 + 1, none⟩ = some (.int .u8 l[q].level) ∧ w.cell? ⟨b, o + q * 6 + 2, none⟩ = some (.int .u32 l[q].id) ∧
    w.cell? ⟨b, o + q * 6 + 3, none⟩ = some (.int .u64 l[q].lsn) ∧ w.cell? ⟨b, o + q * 6 + 4, none⟩ = some (.int .u32 l[q].next) ∧ w.cell? ⟨b, o + q * 6 + 5, none⟩ = some (.slice A l[q].rows.length c)
theorem PgsL.below {G : Foot} {w w' : World} {b o n : Nat} {l : List Sp.Pg} (h : PgsL G w b o l) (hb : Below n w w') (hl : b < n) (hG : ∀ x, G x → x < n) : PgsL G w' b o l := fun q hq => by
  obtain ⟨A, c, hR, c0, c1, c2, c3, c4, c5⟩ := h q hq
  exact ⟨A, c, hR.keep hb.size (fun x hx => hb.block x (hG x hx)), (hb.cell (p := ⟨b, _, none⟩) hl).trans c0, (hb.cell (p := ⟨b, _, none⟩) hl).trans c1, (hb.cell (p := ⟨b, _, none⟩) hl).trans c2, (hb.cell (p := ⟨b, _, none⟩) hl).trans c3, (hb.cell (p := ⟨b, _, none⟩) hl).trans c4, (hb.cell (p := ⟨b, _, none⟩) hl).trans c5⟩

/-- The desk that has begun. -/
abbrev deskCs (gd gl gp ga : Nat) : Array Value := #[ptr gd, ptr gl, ptr gp, ptr ga, .int .i64 64]
def DeskPost (w : World) (gk gd gl n : Nat) (e : Ending) (w' : World) : Prop :=
  ∃ (gp ga : Nat) (F : Foot), e = .returned (.bool true) ∧ Blk w' gk 35 (deskCs gd gl gp ga) ∧ Blk w' ga 111 #[ptr gp, ptr gl] ∧ IsPl F w' gp gd gl 64 97 ⟨n, [], List.range n⟩ ∧
    (∀ b, F b → w.heap.size ≤ b ∧ b ≠ ga) ∧ w.heap.size ≤ ga ∧ Turns (only gk) (only gk) w w'

set_option maxRecDepth 100000 in
set_option maxHeartbeats 4000000 in
theorem desk_begin {w : World} {gk gd gl : Nat} (n : Nat) (h1 : 1 ≤ n) (h64 : n ≤ 64) (hK : Blk w gk 35 #[ptr gd, ptr gl, .pointer none, .pointer none, .int .i64 64]) :
    Calls Tryz.prog 99 #[ptr gk, .int .i64 n] w (DeskPost w gk gd gl n) := by
  have HPN := Lib.hid (pool_new gd gl 64 97 n h1 h64 w.drew)
  have HAN := Lib.hid fun (gp : Nat) (W : World) => act_new gp gl W
  have c0 := hK.cell 0
  have c1 := hK.cell 1
  have c4 := hK.cell 4
  simp only [List.getElem?_toArray, List.getElem?_cons_succ, List.getElem?_cons_zero] at c0 c1 c4
  have hkl := hK.lt
  have hS := Lib.hid (show w.drew.cell? ⟨gk, 0, none⟩ = some (ptr gd) ∧ w.drew.cell? ⟨gk, 1, none⟩ = some (ptr gl) ∧ w.drew.cell? ⟨gk, 4, none⟩ = some (.int .i64 64) from ⟨c0, c1, c4⟩)
  have HK := Lib.hid hK
  clear hK c0 c1 c4
  go_enter Tryz.func99, Tryz.ntmps99
  go_wp2_with fail
  refine R_begin (fun W => W.cell? ⟨gk, 0, none⟩ = some (ptr gd) ∧ W.cell? ⟨gk, 1, none⟩ = some (ptr gl) ∧ W.cell? ⟨gk, 4, none⟩ = some (.int .i64 64)) (fun _ => false) rfl ?_
  refine R_tk 0 10 hS.out ?_
  refine R_tk 1 11 hS.out ?_
  refine R_tk 2 12 hS.out ?_
  refine R_tk 3 13 hS.out ?_
  refine R_tk 4 14 hS.out ?_
  refine R_tk 5 15 hS.out ?_
  refine R_tk 6 16 hS.out ?_
  refine R_tk 7 17 hS.out ?_
  refine R_tk 8 18 hS.out ?_
  refine R_tk 9 19 hS.out ?_
  refine R_tk 10 20 hS.out ?_
  refine R_tk 11 21 hS.out ?_
  refine R_tk 12 22 hS.out ?_
  refine R_tk 13 23 hS.out ?_
  refine R_tk 14 24 hS.out ?_
  refine R_tk 15 25 hS.out ?_
  refine R_tk 16 26 hS.out ?_
  refine R_tk 17 27 hS.out ?_
  simp only [List.setIfInBounds_toArray, List.set_cons_zero, List.set_cons_succ]
  refine R_call 18 28 (w' := w.drew) rfl rfl (by rfl) (by kernel_rfl) ?_ HPN.out ?_
  · go_simp; rfl
  rintro e w2 ⟨gp, F, rfl, hpl, hb2, hF⟩
  have hK2 := HK.out.drew.below hb2 hkl
  have d0 := hK2.cell 0
  have d1 := hK2.cell 1
  have d4 := hK2.cell 4
  simp only [List.getElem?_toArray, List.getElem?_cons_succ, List.getElem?_cons_zero] at d0 d1 d4
  have hS2 := Lib.hid (show w2.cell? ⟨gk, 0, none⟩ = some (ptr gd) ∧ w2.cell? ⟨gk, 1, none⟩ = some (ptr gl) ∧ w2.cell? ⟨gk, 4, none⟩ = some (.int .i64 64) from ⟨d0, d1, d4⟩)
  refine ⟨_, rfl, fun _ => hS2.out, ?_⟩
  simp only [List.setIfInBounds_toArray, List.set_cons_zero, List.set_cons_succ]
  refine R_tk 19 9 hS2.out ?_
  refine R_tk 20 29 hS2.out ?_
  refine R_tk 21 30 hS2.out ?_
  refine R_tk 22 5 hS2.out ?_
  refine R_tk 23 6 hS2.out ?_
  simp only [List.setIfInBounds_toArray, List.set_cons_zero, List.set_cons_succ]
  refine R_done (by kernel_rfl) ?_ _
  rename_i K9 hK9
  refine hK9 _ _ ?_
  clear hK9 d0 d4 hS2 hS HPN
  go_wp2_with fail
  have hw2 : w.heap.size ≤ w2.heap.size := hb2.size
  have hpll := hpl.lt
  have hPL := Lib.hid hpl
  have HF := Lib.hid hF
  refine (HAN.out gp w2).mono ?_
  rintro e w3 ⟨rfl, hw3⟩
  have hK3 := hK2.alloc (.cells #[ptr gp, ptr gl] 111)
  have hA3 := Blk.new w2 111 #[ptr gp, ptr gl]
  have hb3 := (Below.refl w2.heap.size w2).alloc (Nat.le_refl _) (.cells #[ptr gp, ptr gl] 111)
  rw [← hw3] at hK3 hA3 hb3
  obtain ⟨ga, hga⟩ : ∃ g, g = w2.heap.size := ⟨_, rfl⟩
  rw [← hga] at hA3 hw2 hpll ⊢
  have c2 := hK3.cell 2
  have f2 := hK3.frozen 2
  have hK4 := hK3.set_ 2 (ptr gp)
  have c3 := hK4.cell 3
  have f3 := hK4.frozen 3
  have hK5 := hK4.set_ 3 (ptr ga)
  simp only [List.getElem?_toArray, List.getElem?_cons_succ, List.getElem?_cons_zero, List.setIfInBounds_toArray, List.set_cons_zero, List.set_cons_succ] at c2 c3 hK5
  have hpl3 := hPL.out.below hb3
  have hgk : gk < w2.heap.size := hK2.lt
  have hb02 : Below w.heap.size w w2 := ⟨hb2.os, hb2.tape, hb2.output, hb2.size, hb2.block⟩
  have hnk : gk ≠ ga := by rw [hga]; exact Nat.ne_of_lt hgk
  have hT : Turns (only gk) (only gk) w ((w3.setCell ⟨gk, 2, none⟩ (ptr gp)).setCell ⟨gk, 3, none⟩ (ptr ga)) :=
    (((Turns.of_below (hb02.trans (hb3.mono hb02.size)) (only gk)).setCell (p := ⟨gk, 2, none⟩) (.inl rfl) _).setCell (p := ⟨gk, 3, none⟩) (.inl rfl) _)
  have hpl5 : IsPl F ((w3.setCell ⟨gk, 2, none⟩ (ptr gp)).setCell ⟨gk, 3, none⟩ (ptr ga)) gp gd gl 64 97 ⟨n, [], List.range n⟩ := hpl3.keep (by simp) (fun b hb => (Below.heap_setCell _ _ _ b (fun e => by have e : b = gk := e; have h9 : w.heap.size ≤ b := HF.out b hb; omega)).trans (Below.heap_setCell _ _ _ b (fun e => by have e : b = gk := e; have h9 : w.heap.size ≤ b := HF.out b hb; omega)))
  have hA5 := (hA3.far (p := ⟨gk, 2, none⟩) (Ne.symm hnk) (ptr gp)).far (p := ⟨gk, 3, none⟩) (Ne.symm hnk) (ptr ga)
  have HFIN : Hid (DeskPost w gk gd gl n (.returned (.bool true)) ((w3.setCell ⟨gk, 2, none⟩ (ptr gp)).setCell ⟨gk, 3, none⟩ (ptr ga))) := Lib.hid ⟨gp, ga, F, rfl, hK5, hA5, hpl5, fun b hb => ⟨HF.out b hb, fun e => by have := hpll b hb; omega⟩, hw2, hT⟩
  clear hK3 hA3 hb3 hw3 hK4 hK5 hpl3 hT hpl5 hA5 hK2 hb2 hb02 hpl hF d1 hga
  go_wp2_with fail
  go_ret
  exact HFIN.out

/-- A disk on which the pages below k are the given ones. -/
structure DkUp (pg : Nat → Sp.Pg) (k : Nat) (dk : Sp.Dk) : Prop where
  len : dk.sure.length = 149
  loose : dk.loose = []
  fuse : dk.fuse = -1
  page : ∀ q, 1 ≤ q → q < k → Sp.pageAt dk.sure (97 + q * 4) = pgBytes (pg q)
  zero : Sp.pageAt dk.sure (97 + 0 * 4) = Sp.zeros 512
theorem pageAt_new17 : Sp.pageAt (Sp.newDk 149).sure (97 + 0 * 4) = Sp.zeros 512 := by
  show ((List.drop 97 (List.replicate 149 (Sp.zeros 128))).take 4).flatten = _
  rw [List.drop_replicate, List.take_replicate]
  simp [Sp.zeros]
/-- What holds while they are laid. -/
def LayT (w : World) (pg : Nat → Sp.Pg) (gd k : Nat) (wr : World) : Prop :=
  ∃ (D : Foot) (dk : Sp.Dk), IsDk D wr gd dk ∧ DkUp pg k dk ∧ (∀ b, D b → w.heap.size ≤ b) ∧ Below w.heap.size w wr
/-- The page of a number, as far as it was looked for. -/
def PickAt (l : List Sp.Pg) (G : Foot) (k g m : Nat) (w5 wx : World) : Prop :=
  ∃ A c, RowsAt G wx A (Sp.pick (l.take m) k).rows ∧ Blk wx g 50 (pgCs (Sp.pick (l.take m) k) A c) ∧ Turns (only g) (only g) w5 wx
/-- What MadeOf leaves. -/
def MadePk (w : World) (pg : Nat → Sp.Pg) (n : Nat) (e : Ending) (w' : World) : Prop :=
  ∃ gk gd gl gp ga, e = .returned (ptr gk) ∧ Blk w' gk 35 (deskCs gd gl gp ga) ∧ Blk w' ga 111 #[ptr gp, ptr gl] ∧
    PkAt ly17 (fun b => b < w.heap.size ∨ b = gk ∨ b = ga) w' gd gl gp (Sp.newLg 0 64 1) ⟨n, [], pg, 110, 110, 12⟩ ∧ Below w.heap.size w w'

set_option maxRecDepth 100000 in
set_option maxHeartbeats 8000000 in
theorem law17_madeOf (n : Nat) (h1 : 1 ≤ n) (h64 : n ≤ 64) {w : World} {l : List Sp.Pg} (hl0 : l.length = 0) (hok : ∀ q, 1 ≤ q → q ≤ 12 → (Sp.pick l q).wf ∧ (Sp.pick l q).may) :
    Calls Tryz.prog 35 #[.int .i64 64, .int .i64 12, .int .i64 n, .slice none l.length 0] w (MadePk w (Sp.pick l) n) := by
  have HDN := Lib.hid fun (W : World) => disk_new 149 W (by omega) (by omega)
  have HL0 := Lib.hid hl0
  have HOK := Lib.hid hok
  clear hl0 hok
  go_enter Tryz.func35, Tryz.ntmps35
  go_wp2_with fail
  refine (HDN.out w).mono ?_
  rintro e w1 ⟨gd, D, rfl, hd, ht⟩
  have hD : ∀ b, D b → w.heap.size ≤ b := fun b hb => (ht.foot b hb).resolve_left (fun h => h)
  have HLA := Lib.hid (show LayT w (Sp.pick l) gd 1 w1 from ⟨D, _, hd, ⟨by simp [Sp.newDk], rfl, rfl, fun q h1 h2 => by omega, pageAt_new17⟩, hD, ht.below_none⟩)
  clear hd hD ht HDN
  go_wp2_with fail
  go_loopw [11] (fun i wr => ∃ k : Nat, 1 ≤ k ∧ k ≤ 13 ∧ i = .int .u32 k ∧ LayT w (Sp.pick l) gd k wr) (fun i _ => 13 - (intOf i).toNat)
  case atStart => exact ⟨1, by omega, by omega, rfl, HLA.out⟩
  case round =>
    obtain ⟨k, hk1, hk13, rfl, hL⟩ := hrel
    clear HLA
    have HLk := Lib.hid hL
    clear hL
    by_cases hlt : k < 13
    · have HZ := Lib.hid fun (W : World) => law17_zero k W
      have d7 : decide ((k : Int) ≤ 12) = true := by rw [decide_eq_true_eq]; omega
      have wr64 : IntKind.i64.wrap ((k : Nat) : Int) = k := by rw [IntKind.wrap_i64]; omega
      go_wp2_with fail
      refine (HZ.out wr).mono ?_
      rintro e w4 ⟨rfl, hb4⟩
      have hb5 := hb4.alloc hb4.size (.cells (pgCs (Sp.zeroPg k) none 0) 50)
      have hB5 := Blk.new w4 50 (pgCs (Sp.zeroPg k) none 0)
      have hs4 := hb4.size
      clear HZ hb4
      go_wp2_with fail
      change Code.wp _ _ _ _ (w4.alloc (.cells (pgCs (Sp.zeroPg k) none 0) 50))
      obtain ⟨g, hg⟩ : ∃ g, g = w4.heap.size := ⟨_, rfl⟩
      obtain ⟨w5, hw5⟩ : ∃ w5, w5 = w4.alloc (.cells (pgCs (Sp.zeroPg k) none 0) 50) := ⟨_, rfl⟩
      rw [← hw5] at hb5 hB5 ⊢
      rw [← hg] at hB5 hs4 ⊢
      clear hw5 hg
      have HP0 := Lib.hid (show PickAt l (fun _ => False) k g 0 w5 w5 from ⟨none, 0, ⟨rfl, fun h => absurd h (by simp [Sp.pick, Sp.zeroPg])⟩, hB5, Turns.refl _ _⟩)
      clear hB5
      go_loopw [13] (fun i wx => ∃ m : Nat, m ≤ l.length ∧ i = .int .i64 m ∧ PickAt l (fun _ => False) k g m w5 wx) (fun i _ => l.length - (intOf i).toNat)
      case atStart => exact ⟨0, by omega, rfl, HP0.out⟩
      case round =>
        clear HP0
        obtain ⟨m, hm, rfl, A, c, hR, hB, hT⟩ := hrel
        have hww : Below w.heap.size w w5 := by
          obtain ⟨_, _, _, _, _, h⟩ := HLk.out
          exact h.trans (hb5.mono h.size)
        have hgw : w.heap.size ≤ g := by
          obtain ⟨_, _, _, _, _, h⟩ := HLk.out
          have := h.size; omega
        have hbx : Below w.heap.size w wr := hww.trans (hT.below hww.size (fun b hb => by have e : b = g := hb; omega))
        by_cases hmt : m < l.length
        · exact absurd hmt (by have := HL0.out; omega)
        · obtain rfl : m = l.length := by omega
          rw [List.take_length] at hR hB
          obtain ⟨q0, q1, q2, q3, q4, q5⟩ := page_cells hB
          have hokk := HOK.out k hk1 (by omega)
          have HE := Lib.hid (page_encode (c := c) hR hokk.1 hokk.2)
          have HHT := Lib.hid hT
          have HOKK := Lib.hid hokk
          have HBX := Lib.hid hbx
          clear hR hB hT hokk hww hbx
          obtain ⟨wx, hwx⟩ : ∃ wx : World, wx = wr := ⟨_, rfl⟩
          subst hwx
          go_wp2_with fail
          refine HE.out.mono ?_
          rintro e w6 ⟨rfl, hb6⟩
          obtain ⟨D, dk, hd, hlk, hD, hbr⟩ := HLk.out
          have hTd := hb5.trans ((HHT.out.below hb5.size (fun b hb => by have e : b = g := hb; omega)))
          have hd6 := (hd.below hTd).below (hb6.mono HHT.out.size |> fun h => (⟨hb6.os, hb6.tape, hb6.output, hb6.size, hb6.block⟩ : Below _ _ _))
          have hlen := pgBytes_length HOKK.out.2
          have hb7 := (Below.refl w6.heap.size w6).alloc (Nat.le_refl _) (.cells #[.int .u32 k, str (pgBytes (Sp.pick l k))] 180)
          have hd7 := hd6.below hb7
          have hHm := Blk.new w6 180 #[.int .u32 k, str (pgBytes (Sp.pick l k))]
          have hRd : Reads (fun b => b = w6.heap.size) (w6.alloc (.cells #[.int .u32 k, str (pgBytes (Sp.pick l k))] 180)) 2 (some ⟨w6.heap.size, 0, none⟩) 1 (hcs [(k, pgBytes (Sp.pick l k))]) :=
            ⟨rfl, fun _ => ⟨w6.heap.size, 0, rfl, rfl, hHm.lt, fun j u hu => by
              rw [Nat.zero_add]
              exact (hHm.cell j).trans (by rw [List.getElem?_toArray]; exact hu)⟩⟩
          have hins : Sp.inside dk.sure.length 64 97 k := by rw [hlk.len]; unfold Sp.inside; omega
          have HTW := Lib.hid (twin_write hd7 hlk.fuse (by rw [hlk.loose]; simp) 64 97 (l := [(k, pgBytes (Sp.pick l k))]) (c := 1) hRd (by simp) (by simp) (fun x hx => by
            rw [List.mem_singleton.1 hx]
            exact ⟨by show k < _; omega, hlen, hins⟩) (by simp) (by rw [hlk.len]; omega) (by rw [hlk.len]; omega))
          have hone := Sp.twin_one dk hlk.loose hlk.fuse 64 97 k _ hlen hins
          have HONE := Lib.hid hone
          have HLK := Lib.hid hlk
          have HD7 := Lib.hid hD
          have hbw7 := HBX.out.trans ((hb6.mono HBX.out.size).trans (hb7.mono (Nat.le_trans HBX.out.size hb6.size)))
          have HBW7 := Lib.hid hbw7
          clear hRd hHm hd hlk hD hbr hTd hd6 hlen hb7 hd7 hins hone hbw7 hb6 HE q0 q1 q2 q3 q4 q5
          go_wp2_with fail
          refine HTW.out.mono ?_
          rintro e w7 ⟨D7, rfl, hd7, ht7⟩
          have hLA : LayT w (Sp.pick l) gd (k + 1) w7 := by
            refine ⟨D7, _, hd7, ⟨HONE.out.2.2.1.trans HLK.out.len, HONE.out.1, HONE.out.2.1, fun q hq1 hq2 => ?_, ?_⟩, fun b hb => ?_, HBW7.out.trans (ht7.below HBW7.out.size (fun b hb => HD7.out b hb))⟩
            · by_cases e : q = k
              · rw [e]; exact HONE.out.2.2.2.1
              · rw [HONE.out.2.2.2.2 q e (by omega) (by rw [HLK.out.len]; omega)]
                exact HLK.out.page q hq1 (by omega)
            · rw [HONE.out.2.2.2.2 0 (by omega) (by omega) (by rw [HLK.out.len]; omega)]
              exact HLK.out.zero
            · rcases ht7.foot b hb with h | h
              · exact HD7.out b h
              · have := HBW7.out.size; omega
          have HLA := Lib.hid hLA
          clear hLA hd7 ht7 HTW HONE HLK HD7 HBW7
          go_wp2_with fail
          go_roundw
          case rel => exact ⟨k + 1, by omega, by omega, by go_num, HLA.out⟩
          case measure => simp [intOf]; omega
    · obtain rfl : k = 13 := by omega
      obtain ⟨D, dk, hd, hlk, hD, hbr⟩ := HLk.out
      have HLN := Lib.hid (log_new hd 0 64 1 (by omega) (by omega) (by rw [hlk.len]; omega) (by omega))
      have HDB := Lib.hid fun (W : World) (gk gl : Nat) (hK : Blk W gk 35 #[ptr gd, ptr gl, .pointer none, .pointer none, .int .i64 64]) => desk_begin n h1 h64 hK
      have HD := Lib.hid hd
      have HLK := Lib.hid hlk
      have HDF := Lib.hid hD
      clear HLk hd hlk hD
      rw [show (((13 : Nat)) : Int) = 13 from rfl]
      go_wp2_with fail
      refine HLN.out.mono ?_
      rintro e w4 ⟨rfl, hw4⟩
      have hLb := Blk.new wr 105 (lgCells gd 0 64 1 (.slice none 0 0) (.slice none 0 0) 110 110 110 0)
      have hb4 := (Below.refl wr.heap.size wr).alloc (Nat.le_refl _) (.cells (lgCells gd 0 64 1 (.slice none 0 0) (.slice none 0 0) 110 110 110 0) 105)
      rw [← hw4] at hLb hb4
      obtain ⟨gl, hgl⟩ : ∃ gl, gl = wr.heap.size := ⟨_, rfl⟩
      rw [← hgl] at hLb ⊢
      have hgle : wr.heap.size ≤ gl := by omega
      have hb5 := hb4.alloc hb4.size (.cells #[ptr gd, ptr gl, .pointer none, .pointer none, .int .i64 64] 35)
      have hK5 := Blk.new w4 35 #[ptr gd, ptr gl, .pointer none, .pointer none, .int .i64 64]
      have hL5 := hLb.alloc (.cells #[ptr gd, ptr gl, .pointer none, .pointer none, .int .i64 64] 35)
      have HDB5 := Lib.hid (HDB.out _ _ _ hK5)
      have hg4 : wr.heap.size ≤ w4.heap.size := hb4.size
      have hgl4 : gl < w4.heap.size := hLb.lt
      clear HDB hw4 HLN hLb hb4 hgl
      go_wp2_with fail
      change Calls Tryz.prog _ _ (w4.alloc (.cells #[ptr gd, ptr gl, .pointer none, .pointer none, .int .i64 64] 35)) _
      obtain ⟨gk, hgk⟩ : ∃ gk, gk = w4.heap.size := ⟨_, rfl⟩
      obtain ⟨w5, hw5⟩ : ∃ w5, w5 = w4.alloc (.cells #[ptr gd, ptr gl, .pointer none, .pointer none, .int .i64 64] 35) := ⟨_, rfl⟩
      rw [← hw5] at hb5 hK5 hL5 HDB5 ⊢
      rw [← hgk] at hK5 HDB5 hg4 hgl4 ⊢
      have hgk5 : gk < w5.heap.size := hK5.lt
      clear hw5 hgk
      refine HDB5.out.mono ?_
      rintro e w6 ⟨gp, ga, F, rfl, hK6, hA6, hpl, hF, hga, hT6⟩
      have hd6 := (HD.out.below hb5).keep (w' := w6) (fun b hb => hT6.block b (by have := HD.out.in_ b hb; have := hb5.size; omega) (fun e => by have e : b = gk := e; have := HD.out.in_ b hb; omega))
      have hL6 := hL5.turns hT6 (fun e => by have e : gl = gk := e; omega)
      have hbw6 := hbr.trans ((hb5.mono hbr.size).trans (hT6.below (Nat.le_trans hbr.size hb5.size) (fun b hb => by have e : b = gk := hb; have := hbr.size; omega)))
      have hin := HD.out.in_
      have hsr := hbr.size
      have hs5 := hb5.size
      have hga6 := hA6.lt
      have hgk6 := hK6.lt
      have hgl6 := hL6.lt
      have hFIN : MadePk w (Sp.pick l) n (.returned (ptr gk)) w6 := by
        have hlg := newLg_mem (by omega) (by omega) (by omega) (by omega) hL6
        refine ⟨gk, gd, gl, gp, ga, rfl, hK6, hA6, ⟨_, D, F, _, dk, hpl, hd6, hlg, fun b h1 h2 => ?_, fun b h1 h2 => ?_, fun b h1 h2 => ?_, ?_, fun b h hk => ?_, fun b hk => ?_⟩, hbw6⟩
        · have := hin b h2; have := (hF b h1).1; omega
        · obtain rfl : b = gl := h2
          have := (hF b h1).1; omega
        · obtain rfl : b = gl := h2
          have := hin b h1; omega
        · exact {
            wf := hpl.wf
            lwf := Sp.newLg_wf (by omega) (by omega) (by omega) (by omega)
            frames := rfl
            L := rfl
            top := rfl
            forced := rfl
            next := rfl
            ok := fun q h1 h2 => ⟨(HOK.out q h1 h2).1, (HOK.out q h1 h2).2, Sp.pick_id l q⟩
            dkt := ⟨HLK.out.len, HLK.out.loose, HLK.out.fuse, fun q h1 h2 => HLK.out.page q h1 (by have h2 : q ≤ 12 := h2; omega)⟩
            dl := ⟨HLK.out.loose, HLK.out.fuse, by rw [HLK.out.len]; decide, by rw [HLK.out.len]; decide, by rw [HLK.out.len]; decide, by decide⟩
            lo := by decide
            area := by decide
            tight := by decide
            zero := HLK.out.zero
            in_ := fun it h => absurd h (by simp) }
        · rcases h with h | h | h
          · have h3 := hF b h
            rcases hk with hk | hk | hk <;> omega
          · have h3 := hin b h
            have h4 := HDF.out b h
            rcases hk with hk | hk | hk <;> omega
          · obtain rfl : b = gl := h
            rcases hk with hk | hk | hk <;> omega
        · rcases hk with hk | hk | hk <;> omega
      have HFIN := Lib.hid hFIN
      clear hFIN hd6 hL6 hbw6 hK6 hA6 hpl hF hT6
      go_wp2_with fail
      go_ret
      exact HFIN.out

set_option maxRecDepth 100000 in
theorem law17_made (n : Nat) (h1 : 1 ≤ n) (h64 : n ≤ 64) {w : World} {l : List Sp.Pg} (hl0 : l.length = 0) (hok : ∀ q, 1 ≤ q → q ≤ 12 → (Sp.pick l q).wf ∧ (Sp.pick l q).may) :
    Calls Tryz.prog 7 #[.int .i64 n, .slice none l.length 0] w (MadePk w (Sp.pick l) n) := by
  have H := Lib.hid (law17_madeOf (w := w) n h1 h64 hl0 hok)
  clear hl0 hok
  go_enter Tryz.func7, Tryz.ntmps7
  go_wp2_with fail
  refine H.out.mono ?_
  rintro e w' ⟨gk, gd, gl, gp, ga, rfl, h⟩
  have HH := Lib.hid h
  clear h H
  go_wp2_with fail
  go_ret
  exact ⟨gk, gd, gl, gp, ga, rfl, HH.out⟩
end Go.Proofs.YtclpmkinjjhncaaGreat

/- (*Act).Do of ActFrames' ops over a pool that is empty. -/
namespace Go.Proofs.YtclpmkinjjhncaaGreat
open Go.RowKit Go.Conc

def Sp.filled (q : Nat) : Sp.Pg := ⟨0, 0, q, 110, 0, [[120]]⟩
abbrev Sp.st17 (f : Nat) : Sp.R15 := ⟨f, [], Sp.pick [], 110, 110, 12⟩
abbrev Sp.ids (n : Nat) : List Nat := (List.range n).map (· + 1)

theorem filled_may {q : Nat} (h1 : 1 ≤ q) (h8 : q ≤ 8) : mayB (Sp.filled q) = true ∧ mayB (Sp.zeroPg q) = true ∧ (Sp.filled q).wf := by
  have : q = 1 ∨ q = 2 ∨ q = 3 ∨ q = 4 ∨ q = 5 ∨ q = 6 ∨ q = 7 ∨ q = 8 := by omega
  refine ⟨?_, ?_, ?_⟩
  · rcases this with rfl | rfl | rfl | rfl | rfl | rfl | rfl | rfl <;> (show _ = _; exact (by kernel_rfl))
  · rcases this with rfl | rfl | rfl | rfl | rfl | rfl | rfl | rfl <;> (show _ = _; exact (by kernel_rfl))
  · exact ⟨by show 0 < 256; omega, by show 0 < 256; omega, by show q < _; omega, by show 110 < _; omega, by show 0 < _; omega⟩
theorem ids_in {n k : Nat} (h : k ∈ Sp.ids n) : 1 ≤ k ∧ k ≤ n := by
  obtain ⟨i, hi, rfl⟩ := List.mem_map.1 h
  have := List.mem_range.1 hi
  omega
theorem act_fills {K G : Foot} {w : World} {ga gd gl gp f n cd ct cl : Nat} {D T L : Option Addr} (h1 : 1 ≤ n) (h8 : n ≤ 8) (h : PkAt ly17 K w gd gl gp (Sp.newLg 0 64 1) (Sp.st17 f)) (hA : Blk w ga 111 #[ptr gp, ptr gl]) (hKa : K ga) (hL : OpsAt G w L (Sp.fills n)) (hG : ∀ c, G c → K c) :
    Calls Tryz.prog 9 #[ptr ga, recV Sp.nest D T cd ct, .slice L (Sp.fills n).length cl] w
      (DoAns ly17 K w gd gl gp (Sp.newLg 0 64 1) (Sp.st17 f) (Sp.record Sp.nest (Sp.fills n)) (Sp.ids n) Sp.filled (fun k => some { Sp.zeroPg k with rows := [[120]] })) := by
  have hrl := Sp.record_len (Sp.fills_rec h1 h8)
  have hids : ∀ k ∈ Sp.ids n, 1 ≤ k ∧ k ≤ (Sp.st17 f).top := fun k hk => by have := ids_in hk; exact ⟨this.1, by show k ≤ 12; omega⟩
  have hlen : (Sp.ids n).length = (Sp.fills n).length := by simp [Sp.fills]
  refine act_do (X := Sp.zeroPg) h hA hKa Sp.nest_ok (by decide) hL hG (Sp.fills_ok h8) (by rw [Sp.fills_len]; omega) (fun _ => by rw [Sp.fills_len]; omega) (Sp.fills_sorted n) hlen (Sp.fills_step n) (fun k hk => by have := ids_in hk; omega) (Sp.fills_nodup n)
    (fun i hi => Sp.pins_few rfl (Sp.pick_id []) (Sp.fills_nodup n) hids hi) (fun j hj x hx => Sp.pins_page rfl (Sp.pick_id []) (Sp.fills_nodup n) hids hj hx) (fun k _ => by show 0 < 110; omega) (by show 110 < _; omega) (by show 0 < _; omega) (fun fo => by show _ ≤ 64 * 110 - 0 - 0; omega)
    (fun k hk y hy => ?_) (fun W A c G1 G2 k hk hO hR hAo => ?_)
  · injection hy with hy
    have hk' := ids_in hk
    refine ⟨by rw [← hy]; rfl, (filled_may hk'.1 (by omega)).2.2, by show 1 ≤ _; omega, by show 1 + 0 ≤ _; omega⟩
  · obtain ⟨j, hj, rfl⟩ := List.mem_map.1 hk
    have hj' := List.mem_range.1 hj
    have hjl : j < (Sp.fills n).length := by rw [Sp.fills_len]; exact hj'
    have hgl : (Sp.fills n)[j] = Sp.fillOp (j + 1) := by simp [Sp.fills]
    refine redo_did hO (Sp.fills_ok h8) (by rw [Sp.fills_len]; omega) (by rw [Sp.fills_pages]; exact Sp.fills_nodup n) hjl (Sp.fills_may (List.getElem_mem hjl) h8).1 hR hAo (filled_may (by omega) (by omega)).2.1 (by rw [hgl]; rfl) (by show 0 < 110; omega) ?_ (fun y hy => ?_)
    · rw [hgl]
      exact .inl ⟨rfl, by show 0 < 1; omega, by show 0 + 1 ≤ _; omega, rfl⟩
    · injection hy with hy
      rw [← hy]
      exact (filled_may (q := j + 1) (by omega) (by omega)).1
end Go.Proofs.YtclpmkinjjhncaaGreat

/- The ops of law17's alive: plain laws. No program is named here. -/
namespace Go.Proofs.YtclpmkinjjhncaaGreat

def Sp.putOp (q : Nat) (a : Int) : Sp.Op := ⟨2, q, a, 0, [120], [], 0, 0, 0⟩
theorem Sp.put_rec : (Sp.record Sp.nest [Sp.putOp 3 0]).2 = 0 ∧ (Sp.record Sp.nest [Sp.putOp 3 2]).2 = 0 ∧ (Sp.record Sp.nest []).2 = 2 := by
  refine ⟨?_, ?_, ?_⟩ <;> (show _ = _; exact (by kernel_rfl))
theorem Sp.put_may : Sp.opMay (Sp.putOp 3 0) = true ∧ Sp.opMay (Sp.putOp 3 2) = true := by
  refine ⟨?_, ?_⟩ <;> (show _ = _; exact (by kernel_rfl))
theorem Sp.put_sorted (q : Nat) (a : Int) : Sp.sorted ([Sp.putOp q a].map (·.page)) = [q] := by
  have h := (Sp.sorted_spec [q]).1
  exact List.perm_singleton.1 h
end Go.Proofs.YtclpmkinjjhncaaGreat

/- The walks of package pool: Pins. -/
namespace Go.Proofs.YtclpmkinjjhncaaGreat
open Go.RowKit Go.Conc

set_option maxRecDepth 100000 in
set_option maxHeartbeats 1000000 in
theorem pool_pins_in {F : Foot} {w : World} {gp gd gl at_ base : Nat} {p : Sp.Pl} (h : IsPl F w gp gd gl at_ base p) {id : Nat} (hid : id < 4294967296) {it : Sp.It} (hf : p.find id = some it) :
    Calls Tryz.prog 11 #[ptr gp, u32v id] w fun e w' => e = .returned (.int .i64 it.pins) ∧ w' = w := by
  obtain ⟨R, fb, cb, mb, v, s, r, cs, h⟩ := h
  obtain ⟨c0, c1, c2, c3, c4, c5, c6, c7⟩ := h.cells
  have HM := Lib.hid (pool_made c6)
  have hl := h.look_in hid hf
  have hit := (Sp.Pl.find_mem hf).1
  have hlt := h.wf.idx_lt hit
  have cp := h.pins hit
  have hn := h.wf.n64
  clear h c0 c1 c2 c3 c5 c7 hf hit
  go_enter Tryz.func11, Tryz.ntmps11
  go_wp2_with fail
  refine HM.out.mono ?_
  rintro e w1 ⟨rfl, hw⟩
  subst w1
  go_wp2_with fail
  go_ret
  exact ⟨rfl, rfl⟩

set_option maxRecDepth 100000 in
set_option maxHeartbeats 1000000 in
theorem pool_pins_out {F : Foot} {w : World} {gp gd gl at_ base : Nat} {p : Sp.Pl} (h : IsPl F w gp gd gl at_ base p) {id : Nat} (hid : id < 4294967296) (hf : p.find id = none) :
    Calls Tryz.prog 11 #[ptr gp, u32v id] w fun e w' => e = .returned (.int .i64 0) ∧ w' = w := by
  obtain ⟨R, fb, cb, mb, v, s, r, cs, h⟩ := h
  obtain ⟨c0, c1, c2, c3, c4, c5, c6, c7⟩ := h.cells
  have HM := Lib.hid (pool_made c6)
  have hl := h.look_out hid hf
  clear h c0 c1 c2 c3 c5 c7 hf
  go_enter Tryz.func11, Tryz.ntmps11
  go_wp2_with fail
  refine HM.out.mono ?_
  rintro e w1 ⟨rfl, hw⟩
  subst w1
  go_wp2_with fail
  go_ret
  exact ⟨rfl, rfl⟩
end Go.Proofs.YtclpmkinjjhncaaGreat

/- What a pool with its disk and its log answers that is asked for pins. No walk. -/
namespace Go.Proofs.YtclpmkinjjhncaaGreat
open Go.RowKit Go.Conc

namespace Sp
def R15.pinsOf (s : R15) (id : Nat) : Nat := ((getR? s.L id).map (·.pins)).getD 0
end Sp

section
variable {ly : Ly} {K : Foot} {w : World} {gd gl gp : Nat} {l : Sp.Lg} {s : Sp.R15}
theorem pk_pins (h : PkAt ly K w gd gl gp l s) {id : Nat} (hid : id < 4294967296) :
    Calls Tryz.prog 11 #[ptr gp, u32v id] w fun e w' => e = .returned (.int .i64 (s.pinsOf id : Nat)) ∧ w' = w := by
  obtain ⟨p, D, F, G, dk, hpl, hd, hg, hFD, hFG, hDG, hr, hK, hKl⟩ := h
  unfold Sp.R15.pinsOf
  rw [hr.L, Sp.getR_eq]
  cases hf : p.find id with
  | some it => exact pool_pins_in hpl hid hf
  | none => exact pool_pins_out hpl hid hf
end
end Go.Proofs.YtclpmkinjjhncaaGreat

/- Package act: Page, over a pool, a disk and a log in memory. -/
namespace Go.Proofs.YtclpmkinjjhncaaGreat
open Go.RowKit Go.Conc

set_option maxRecDepth 100000 in
set_option maxHeartbeats 4000000 in
theorem act_page_pk {ly : Ly} {K : Foot} {w : World} {ga gd gl gp : Nat} {l : Sp.Lg} {s : Sp.R15} (h : PkAt ly K w gd gl gp l s) (hact : Blk w ga 111 #[ptr gp, ptr gl]) (hkg : K ga) {q : Nat} (q32 : q < 4294967296) (hs : ∀ x ∈ s.L, x.pins < 1000000) {x : Sp.Pg} (hx : (s.pin q).2.1 = some x) :
    Calls Tryz.prog 10 #[ptr ga, u32v q] w fun e w' => ∃ A c, e = .returned (.tuple #[pgV x A c, .int .i64 ((s.pin q).2.2.unpin q).1]) ∧ OkAddr A ∧ RowsAt (fun b => w.heap.size ≤ b ∧ rowK A x.rows.length b) w' A x.rows ∧
      PkAt ly (fun b => K b ∨ rowK A x.rows.length b) w' gd gl gp { l with forced := ((s.pin q).2.2.unpin q).2.forced } ((s.pin q).2.2.unpin q).2 ∧ Kept K w w' := by
  have hlt := h.lt
  have hgl := hact.lt
  have hb1 := (Below.refl w.heap.size w).alloc (Nat.le_refl _) (.cells #[.int .u8 0, .int .u8 0, .int .u32 0, .int .u64 0, .int .u32 0, .slice none 0 0] 50)
  have hB1 := Blk.new w 50 #[.int .u8 0, .int .u8 0, .int .u32 0, .int .u64 0, .int .u32 0, .slice none 0 0]
  have h2 := h.more (K' := fun b => K b ∨ b = w.heap.size) hb1 (fun b hb => hb.imp id (fun e => by have e : b = w.heap.size := e; simp [e]))
  have hact2 := hact.below hb1 hact.lt
  have HN := Lib.hid (act_none hact2)
  have c0 := hact2.cell 0
  simp only [List.getElem?_toArray, List.getElem?_cons_zero] at c0
  have HP := Lib.hid (pk_pin h2 q32 hs)
  have HH := Lib.hid hact2
  have HX := Lib.hid hx
  clear h h2 hact hact2 hs hx
  go_enter Tryz.func10, Tryz.ntmps10
  go_wp2_with fail
  obtain ⟨g4, hg4⟩ : ∃ g, g = w.heap.size := ⟨_, rfl⟩
  obtain ⟨w1, hw1⟩ : ∃ w1, w1 = w.alloc (.cells #[.int .u8 0, .int .u8 0, .int .u32 0, .int .u64 0, .int .u32 0, .slice none 0 0] 50) := ⟨_, rfl⟩
  rw [← hw1, ← hg4] at HP hB1
  rw [← hw1] at HN c0 hb1 HH
  rw [← hw1, ← hg4]
  have hg4l : w.heap.size ≤ g4 := by omega
  have hne4 : ga ≠ g4 := by omega
  have hg4w1 := hB1.lt
  have hK4 : ∀ b, K b → b ≠ g4 := fun b hb => by have := hlt b hb; omega
  clear hw1
  refine HN.out.mono ?_
  rintro e w1' ⟨rfl, hw⟩
  subst w1'
  go_wp2_with fail
  refine HP.out.mono ?_
  rintro e w2 ⟨hk2, ⟨hno, -, -, -⟩ | ⟨x', A, c, hsm, -, -, -, rfl, hA, hR, hL2⟩⟩
  · rw [HX.out] at hno; cases hno
  obtain rfl : x = x' := by have h9 := HX.out; rw [hsm] at h9; injection h9 with h9; exact h9.symm
  have HACT := Lib.hid (HH.out.kept hk2 (.inl hkg))
  have hB2 := hB1.kept hk2 (.inr rfl)
  have hb3 := (Below.refl w2.heap.size w2).alloc (Nat.le_refl _) (.cells (pgCs x A c) 50)
  have hB6 := Blk.new w2 50 (pgCs x A c)
  have hL3 := hL2.more (K' := fun b => ((K b ∨ b = g4) ∨ rowK A x.rows.length b) ∨ b = w2.heap.size) hb3 (fun b hb => hb.imp id (fun e => by have e : b = w2.heap.size := e; simp [e]))
  have hk3 := Kept.of_below hb3 hL2.lt
  have hR3 := Reads.below hR hb3
  have hACT3 := HACT.out.below hb3 HACT.out.lt
  have hB3 := hB2.below hb3 hB2.lt
  have hs2 := hk2.size
  have hL2l := hL2.lt
  have hK13 : Kept K w1 (w2.alloc (.cells (pgCs x A c) 50)) := (hk2.mono (fun b hb => .inl hb)).trans (hk3.mono (fun b hb => .inl (.inl hb)))
  clear hk2 hsm HP HN HH hL2 hR hB1 hB2 hk3 HACT c0
  go_wp2_with fail
  obtain ⟨w3, hw3⟩ : ∃ w3, w3 = w2.alloc (.cells (pgCs x A c) 50) := ⟨_, rfl⟩
  obtain ⟨g6, hg6⟩ : ∃ g, g = w2.heap.size := ⟨_, rfl⟩
  rw [← hw3] at hb3 hK13 hR3 hACT3
  rw [← hw3, ← hg6] at hB6
  rw [← hw3] at hB3
  rw [← hw3, ← hg6] at hL3
  change Code.wp _ _ _ _ (w2.alloc (.cells (pgCs x A c) 50))
  rw [← hw3, ← hg6, ← hg4]
  have hg6l : w1.heap.size ≤ g6 := by omega
  have hne6 : g4 ≠ g6 := by have := hL2l g4 (.inl (.inr rfl)); omega
  have hnG6 : ga ≠ g6 := by have := hL2l ga (.inl (.inl hkg)); omega
  clear hw3 hg6
  have c0 := hACT3.cell 0
  simp only [List.getElem?_toArray, List.getElem?_cons_zero] at c0
  have hS := Lib.hid (show Blk w3.drew g6 50 (pgCs x A c) ∧ w3.drew.cell? ⟨ga, 0, none⟩ = some (ptr gp) from ⟨hB6, c0⟩)
  have HUN := Lib.hid (pk_unpin (hL3.below ((Below.refl w3.heap.size w3).drew)) q32)
  have HA := Lib.hid hA
  refine R_begin (fun W => Blk W g6 50 (pgCs x A c) ∧ W.cell? ⟨ga, 0, none⟩ = some (ptr gp)) (fun _ => false) rfl ?_
  refine R_tk 1 25 hS.out ?_
  refine R_tk 2 26 hS.out ?_
  refine R_tk 3 27 hS.out ?_
  refine R_tk 4 28 hS.out ?_
  refine R_tk 5 29 hS.out ?_
  refine R_take 0 24 (v := pgV x A c) rfl rfl (by rfl) (by kernel_rfl) (fun _ _ _ h => h) hS.out ?_ ?_
  · intro w hSw
    exact run_op_load _ _ _ rfl rfl (run_loadVar_row w g6 _ _ _ _ _ hSw.1 Tryz.underlying50 rfl rfl)
  simp only [List.setIfInBounds_toArray, List.set_cons_zero, List.set_cons_succ]
  refine R_call 6 30 (w' := w3.drew) rfl rfl (by rfl) (by kernel_rfl) ?_ HUN.out ?_
  · go_simp
  rintro e w4 ⟨hk4, rfl, hL4⟩
  generalize hun : ((s.pin q).2.2.unpin q) = un at hL4 ⊢
  have hB64 := hB6.drew.kept hk4 (.inr rfl)
  have hACT4 := hACT3.drew.kept hk4 (.inl (.inl (.inl hkg)))
  have hB4 := hB3.drew.kept hk4 (.inl (.inl (.inr rfl)))
  have c0' := hACT4.cell 0
  simp only [List.getElem?_toArray, List.getElem?_cons_zero] at c0'
  refine ⟨_, rfl, fun _ => ⟨hB64, c0'⟩, ?_⟩
  simp only [List.setIfInBounds_toArray, List.set_cons_zero, List.set_cons_succ]
  refine R_store 7 (n := .skip) (w' := w4.setRow g4 (pgCs x A c)) rfl rfl (by rfl) (by kernel_rfl) ?_ (.inl rfl) (fun _ => ⟨hB64.keep (heap_setRow_other _ _ _ _ (Ne.symm hne6)), (World.cell?_of_block (w := w4) (a := ⟨ga, 0, none⟩) (heap_setRow_other _ _ _ _ hne4)).trans c0'⟩) ?_
  · exact run_op_store _ _ _ _ _ rfl rfl rfl (page_store hB4)
  refine R_tk 8 5 (show Blk (w4.setRow g4 (pgCs x A c)) g6 50 (pgCs x A c) ∧ (w4.setRow g4 (pgCs x A c)).cell? ⟨ga, 0, none⟩ = some (ptr gp) from ⟨hB64.keep (heap_setRow_other _ _ _ _ (Ne.symm hne6)), (World.cell?_of_block (w := w4) (a := ⟨ga, 0, none⟩) (heap_setRow_other _ _ _ _ hne4)).trans c0'⟩) ?_
  simp only [List.setIfInBounds_toArray, List.set_cons_zero, List.set_cons_succ]
  refine R_done (by kernel_rfl) ?_ _
  rename_i K9 hK9
  refine hK9 _ _ ?_
  clear hK9
  have hB5 := hB4.setRow (pgCs x A c)
  have hT5 := (Turns.refl (only g4) w4).setRow (.inl rfl) (pgCs x A c)
  have hs34 : w3.heap.size ≤ w4.heap.size := hk4.size
  have hk34 : Kept (fun b => ((K b ∨ b = g4) ∨ rowK A x.rows.length b) ∨ b = g6) w3 w4 := ⟨hk4.os, hk4.tape, hk4.output, hk4.size, hk4.block⟩
  have hs13 := hK13.size
  have hR4 : Reads (fun b => w1.heap.size ≤ b ∧ rowK A x.rows.length b) w4 1 A x.rows.length (rcs x.rows) := hR3.keep hk4.size (fun b hb => hk4.block b (.inl (.inr hb.2)))
  have hR5 := hR4.turns hT5 (show Apart w4 (only g4) _ from fun b hb => ⟨(rowK_of hR4 hb.2).2, fun e => by have e : b = g4 := e; have := hb.1; omega⟩)
  have hL5 := (hL4.turns (X := only g4) (X' := only g4) hT5 (fun b hb => .inl (.inl (.inl (.inr hb))))).mono (K' := fun b => K b ∨ rowK A x.rows.length b) (fun b hb => hb.elim (fun h => .inl (.inl (.inl h))) (fun h => .inl (.inr h)))
  have hK5 : Kept K w (w4.setRow g4 (pgCs x A c)) := by
    refine ((Kept.of_below hb1 hlt).trans (hK13.trans (hk34.mono (fun b hb => .inl (.inl (.inl hb)))))).trans ⟨hT5.os, hT5.tape, hT5.output, hT5.size, fun b hb => hT5.block b ?_ (fun e => hK4 b hb e)⟩
    have := hlt b hb; have := hb1.size; omega
  have hACT5 : Blk (w4.setRow g4 (pgCs x A c)) ga 111 #[ptr gp, ptr gl] := hACT4.turns hT5 (fun e => hne4 e)
  generalize hw5 : World.setRow w4 g4 _ = w5 at hB5 hR5 hL5 hK5 hACT5 ⊢
  have z0 := hB5.cell 0
  have z1 := hB5.cell 1
  have z2 := hB5.cell 2
  have z3 := hB5.cell 3
  have z4 := hB5.cell 4
  have z5 := hB5.cell 5
  simp only [List.getElem?_toArray, List.getElem?_cons_succ, List.getElem?_cons_zero] at z0 z1 z2 z3 z4 z5
  have hs1 : w.heap.size ≤ w1.heap.size := hb1.size
  rw [hg4] at z0 z1 z2 z3 z4 z5
  clear hw5 hT5 hR4 hR3 hL4 hL3 hB4 hB64 c0' hACT4 hB5
  go_wp2_with fail
  exact bodyPost_ret (v := .tuple #[pgV x A c, .int .i64 un.1]) (by rw [results_cell_tmp rfl]; go_simp) rfl ⟨A, ⟨c, rfl⟩, HA.out, hR5.mono (fun b hb => ⟨by omega, hb.2⟩), hL5, hK5⟩
end Go.Proofs.YtclpmkinjjhncaaGreat

/- (*Act).Do and Page as law17's alive calls them. -/
namespace Go.Proofs.YtclpmkinjjhncaaGreat
open Go.RowKit Go.Conc

/-- What the first record leaves: page 3, put; the log with the record. -/
abbrev Sp.st3 (t : Sp.Bs) : Sp.R15 := ⟨4, [⟨Sp.filled 3, 0, true, 110⟩], Sp.pick [], 110, 110 + (14 + t.length), 12⟩
abbrev Sp.lg3 (t : Sp.Bs) : Sp.Lg := (Sp.newLg 0 64 1).append t
theorem Sp.put_ok (a : Int) (h0 : 0 ≤ a) (h1 : a < 3) : ∀ o ∈ [Sp.putOp 3 a], o.Ok ∧ o.Short := fun o h => by
  obtain rfl := List.mem_singleton.1 h
  exact ⟨⟨by show 2 < 256; omega, by show 3 < _; omega, by show _ ≤ a; omega, by show a < _; omega, by show _ ≤ (0 : Int); omega, by show (0 : Int) < _; omega, by show 0 < 256; omega, by show 0 < 256; omega, by show 0 < _; omega⟩, by show 1 + 2 * 0 + 0 ≤ 900000; omega⟩
theorem Sp.st3_pin (t : Sp.Bs) : (Sp.st3 t).pin 3 = (0, some (Sp.filled 3), { Sp.st3 t with L := [⟨Sp.filled 3, 1, true, 110⟩] }) := rfl
theorem Sp.st3_unpin (t : Sp.Bs) : ({ Sp.st3 t with L := [⟨Sp.filled 3, 1, true, 110⟩] } : Sp.R15).unpin 3 = (0, Sp.st3 t) := rfl
theorem Sp.st3_pins (t : Sp.Bs) : (Sp.st3 t).pinsOf 3 = 0 := rfl
theorem only_one {ks : List Nat} {q : Nat} (hn : ks.Nodup) (h : ∀ x, x ∈ ks ↔ x ∈ [q]) : ks = [q] := by
  have hp : ks.Perm [q] := (List.perm_ext_iff_of_nodup hn (by simp)).2 h
  exact List.perm_singleton.1 hp

section
variable {K G : Foot} {w : World} {ga gd gl gp cd ct cl : Nat} {D T L : Option Addr}
set_option maxHeartbeats 1000000 in
theorem act_alive1 {t : Sp.Bs} (ht : (Sp.record Sp.nest [Sp.putOp 3 0]).1 = t) (h : PkAt ly17 K w gd gl gp (Sp.newLg 0 64 1) (Sp.st17 4)) (hA : Blk w ga 111 #[ptr gp, ptr gl]) (hKa : K ga) (hL : OpsAt G w L [Sp.putOp 3 0]) (hG : ∀ c, G c → K c) :
    Calls Tryz.prog 9 #[ptr ga, recV Sp.nest D T cd ct, .slice L 1 cl] w fun e w' => e = .returned (.tuple #[.int .u64 110, .int .i64 0]) ∧ Kept K w w' ∧ PkAt ly17 K w' gd gl gp (Sp.lg3 t) (Sp.st3 t) := by
  subst ht
  have hrl := Sp.record_len Sp.put_rec.1
  have hids : ∀ k ∈ [3], 1 ≤ k ∧ k ≤ (Sp.st17 4).top := fun k hk => by
    obtain rfl := List.mem_singleton.1 hk
    exact ⟨by omega, by show 3 ≤ 12; omega⟩
  have hnd : [3].Nodup := by simp
  have H := act_do (D := D) (T := T) (cd := cd) (ct := ct) (cl := cl) (X := Sp.zeroPg) (Y := Sp.filled) (res := fun k => some { Sp.zeroPg k with rows := [[120]] }) h hA hKa Sp.nest_ok (by decide) hL hG (Sp.put_ok 0 (by omega) (by omega)) (by show 1 ≤ 12; omega) (fun _ => by show 0 < 1; omega) (Sp.put_sorted 3 0) rfl
    (fun j h1 h2 => by have h2 : j < 1 := h2; omega) (fun k hk => by obtain rfl := List.mem_singleton.1 hk; omega) hnd
    (fun i hi => Sp.pins_few rfl (Sp.pick_id []) hnd hids hi) (fun j hj x hx => Sp.pins_page rfl (Sp.pick_id []) hnd hids hj hx) (fun k _ => by show 0 < 110; omega) (by show 110 < _; omega) (by show 0 < _; omega) (fun fo => by show _ ≤ 64 * 110 - 0 - 0; omega)
    (fun k hk y hy => by
      obtain rfl := List.mem_singleton.1 hk
      injection hy with hy
      refine ⟨by rw [← hy]; rfl, (filled_may (q := 3) (by omega) (by omega)).2.2, by show 1 ≤ _; omega, by show 1 + 0 ≤ _; omega⟩)
    (fun W A c G1 G2 k hk hO hR hAo => by
      obtain rfl := List.mem_singleton.1 hk
      refine redo_did (k := 0) hO (Sp.put_ok 0 (by omega) (by omega)) (by show 1 ≤ _; omega) (by simp) (by show 0 < 1; omega) Sp.put_may.1 hR hAo (filled_may (q := 3) (by omega) (by omega)).2.1 rfl (by show 0 < 110; omega) ?_ (fun y hy => ?_)
      · exact .inr (.inl ⟨rfl, rfl, by show 0 ≤ _; omega, rfl⟩)
      · injection hy with hy
        rw [← hy]
        exact (filled_may (q := 3) (by omega) (by omega)).1)
  refine H.mono ?_
  rintro e w' ⟨hk, ⟨hq, -⟩ | ⟨-, i, ks, lg', s', v, c, hkn, hkm, rfl, hP, hs⟩⟩
  · exact absurd Sp.put_rec.1 hq
  · obtain ⟨rfl, rfl, rfl, hu⟩ := Sp.do_ok (ps := [3]) (Y := Sp.filled) rfl (Sp.pick_id []) hnd hids (by show 1 ≤ 4; omega) (fun k hk => ⟨_, rfl⟩) (fun _ => rfl) (fun k hk => by
      obtain rfl := List.mem_singleton.1 hk
      exact (filled_may (q := 3) (by omega) (by omega)).1) hkn hkm hs
    rw [hu] at hP
    exact ⟨rfl, hk, hP⟩

set_option maxHeartbeats 1000000 in
theorem act_alive2 {t : Sp.Bs} (ht : t.length ≤ 3097) (h : PkAt ly17 K w gd gl gp (Sp.lg3 t) (Sp.st3 t)) (hA : Blk w ga 111 #[ptr gp, ptr gl]) (hKa : K ga) (hL : OpsAt G w L [Sp.putOp 3 2]) (hG : ∀ c, G c → K c) :
    Calls Tryz.prog 9 #[ptr ga, recV Sp.nest D T cd ct, .slice L 1 cl] w fun e w' => e = .returned (.tuple #[.int .u64 0, .int .i64 3]) ∧ Kept K w w' ∧ PkAt ly17 K w' gd gl gp (Sp.lg3 t) (Sp.st3 t) := by
  have hrl := Sp.record_len Sp.put_rec.2.1
  have hnd : [3].Nodup := by simp
  have hbl : (Sp.frame 110 t).length = 14 + t.length := Sp.frame_length 110 t
  have H := act_do (D := D) (T := T) (cd := cd) (ct := ct) (cl := cl) (X := fun _ => Sp.filled 3) (Y := Sp.filled) (res := fun _ => none) h hA hKa Sp.nest_ok (by decide) hL hG (Sp.put_ok 2 (by omega) (by omega)) (by show 1 ≤ 12; omega) (fun _ => by show 0 < 1; omega) (Sp.put_sorted 3 2) rfl
    (fun j h1 h2 => by have h2 : j < 1 := h2; omega) (fun k hk => by obtain rfl := List.mem_singleton.1 hk; omega) hnd
    (fun i hi x hx => by
      have hi : i ≤ 1 := hi
      have : i = 0 ∨ i = 1 := by omega
      rcases this with rfl | rfl
      · obtain rfl := List.mem_singleton.1 hx
        show 0 < _; omega
      · obtain rfl := List.mem_singleton.1 hx
        show 1 < _; omega)
    (fun j hj x hx => by
      have hj : j < 1 := hj
      obtain rfl : j = 0 := by omega
      have hx : some (Sp.filled 3) = some x := hx
      injection hx with hx
      exact hx.symm) (fun k _ => by show 110 < 110 + _; omega) (by show 110 + _ < _; omega) (by show 0 < _; omega) (fun fo => by
        show _ ≤ 64 * 110 - ([] ++ Sp.frame 110 t).length - 0
        rw [List.nil_append, hbl]; omega)
    (fun k hk y hy => by cases hy)
    (fun W A c G1 G2 k hk hO hR hAo => by
      refine redo_did (k := 0) hO (Sp.put_ok 2 (by omega) (by omega)) (by show 1 ≤ _; omega) (by simp) (by show 0 < 1; omega) Sp.put_may.2 hR hAo (filled_may (q := 3) (by omega) (by omega)).1 rfl (by show 110 < 110 + _; omega) ?_ (fun y hy => ?_)
      · exact .inr (.inr ⟨rfl, by show (1 : Int) < 2; omega, rfl⟩)
      · cases hy)
  refine H.mono ?_
  rintro e w' ⟨hk, ⟨hq, -⟩ | ⟨-, i, ks, lg', s', v, c, hkn, hkm, rfl, hP, -, hs⟩⟩
  · exact absurd Sp.put_rec.2.1 hq
  · rcases hs with ⟨hi, h1, h2, -⟩ | ⟨rfl, rfl, rfl, rfl, rfl, -⟩ | ⟨-, -, hr, -⟩
    · have hi : i < 1 := hi
      obtain rfl : i = 0 := by omega
      have h1 : 0 = c := h1
      exact absurd h1.symm h2
    · obtain rfl := only_one hkn hkm
      exact ⟨rfl, hk, hP⟩
    · obtain ⟨y, hy⟩ := hr 3 (List.mem_singleton.2 rfl)
      cases hy

set_option maxHeartbeats 1000000 in
theorem act_alive3 {t : Sp.Bs} (ht : t.length ≤ 3097) (h : PkAt ly17 K w gd gl gp (Sp.lg3 t) (Sp.st3 t)) (hA : Blk w ga 111 #[ptr gp, ptr gl]) (hKa : K ga) :
    Calls Tryz.prog 9 #[ptr ga, recV Sp.nest D T cd ct, .slice none 0 0] w fun e w' => e = .returned (.tuple #[.int .u64 0, .int .i64 2]) ∧ Kept K w w' ∧ PkAt ly17 K w' gd gl gp (Sp.lg3 t) (Sp.st3 t) := by
  have hbl : (Sp.frame 110 t).length = 14 + t.length := Sp.frame_length 110 t
  have hrec := Sp.put_rec.2.2
  have hr0 : (Sp.record Sp.nest []).1.length = 0 := by
    show _ = _
    exact (by kernel_rfl)
  have H := act_do (D := D) (T := T) (cd := cd) (ct := ct) (cl := 0) (L := none) (l := []) (ps := []) (X := Sp.filled) (Y := Sp.filled) (res := fun _ => none) (G := K) h hA hKa Sp.nest_ok (by decide) (.inl rfl) (fun _ h => h) (fun o h => by cases h) (by show 0 ≤ 12; omega) (fun e => by rw [hrec] at e; cases e)
    (List.perm_nil.1 (Sp.sorted_spec []).1) rfl (fun j h1 h2 => by cases h2) (fun k hk => by cases hk) List.nodup_nil
    (fun i hi x hx => by
      have hi : i ≤ 0 := hi
      obtain rfl : i = 0 := by omega
      obtain rfl := List.mem_singleton.1 hx
      show 0 < _; omega) (fun j hj => by cases hj) (fun k hk => by cases hk) (by show 110 + _ < _; omega) (by show 0 < _; omega) (fun fo => by
        show _ ≤ 64 * 110 - ([] ++ Sp.frame 110 t).length - 0
        rw [List.nil_append, hbl, hr0]; omega)
    (fun k hk => by cases hk) (fun W A c G1 G2 k hk => by cases hk)
  refine H.mono ?_
  rintro e w' ⟨hk, ⟨hq, rfl, hP⟩ | ⟨hq, -⟩⟩
  · rw [hrec]
    exact ⟨rfl, hk, hP⟩
  · rw [hrec] at hq; cases hq

theorem act_aliveCost {t : Sp.Bs} (ht : (Sp.record Sp.nest [Sp.putOp 3 0]).1 = t) (hA : Blk w ga 111 #[ptr gp, ptr gl]) (hL : OpsAt G w L [Sp.putOp 3 0]) :
    Calls Tryz.prog 31 #[ptr ga, recV Sp.nest D T cd ct, .slice L 1 cl] w fun e w' => e = .returned (.tuple #[.int .i64 ((14 + t.length : Nat) : Int), .int .i64 0]) ∧ Below w.heap.size w w' := by
  have h := act_cost (D := D) (T := T) (cd := cd) (ct := ct) (cl := cl) hA Sp.nest_ok (by decide) hL (Sp.put_ok 0 (by omega) (by omega)) (by show 1 ≤ 1000000; omega)
  have e1 : Sp.cost Sp.nest [Sp.putOp 3 0] = (14 + t.length, 0) := by
    unfold Sp.cost
    rw [if_pos Sp.put_rec.1, ht]
  rw [e1] at h
  exact h
theorem first_zero {q : Nat} (h1 : 1 ≤ q) (h2 : q ≤ 12) : (Sp.pick [] q).wf ∧ (Sp.pick [] q).may := by
  have : q = 1 ∨ q = 2 ∨ q = 3 ∨ q = 4 ∨ q = 5 ∨ q = 6 ∨ q = 7 ∨ q = 8 ∨ q = 9 ∨ q = 10 ∨ q = 11 ∨ q = 12 := by omega
  refine ⟨⟨by show 0 < 256; omega, by show 0 < 256; omega, by show q < _; omega, by show 0 < _; omega, by show 0 < _; omega⟩, ?_⟩
  rcases this with rfl | rfl | rfl | rfl | rfl | rfl | rfl | rfl | rfl | rfl | rfl | rfl <;> exact (mayB_iff _).1 (by kernel_rfl)
theorem act_alivePage {t : Sp.Bs} (h : PkAt ly17 K w gd gl gp (Sp.lg3 t) (Sp.st3 t)) (hA : Blk w ga 111 #[ptr gp, ptr gl]) (hKa : K ga) :
    Calls Tryz.prog 10 #[ptr ga, u32v 3] w fun e w' => ∃ A c, e = .returned (.tuple #[pgV (Sp.filled 3) A c, .int .i64 0]) ∧ PkAt ly17 K w' gd gl gp (Sp.lg3 t) (Sp.st3 t) ∧ Kept K w w' := by
  refine (act_page_pk h hA hKa (q := 3) (by omega) (fun x hx => by obtain rfl := List.mem_singleton.1 hx; show 0 < _; omega) (x := Sp.filled 3) rfl).mono ?_
  rintro e w' ⟨A, c, rfl, -, -, hP, hk⟩
  refine ⟨A, c, rfl, ?_, hk⟩
  exact PkAt.mono hP (fun b hb => .inl hb)
end
end Go.Proofs.YtclpmkinjjhncaaGreat

/- The walk of the law package pentimentolaw17: alive. -/
namespace Go.Proofs.YtclpmkinjjhncaaGreat
open Go.RowKit Go.Conc

/-- What alive holds on its way. -/
structure AlAt (w0 : World) (K : Foot) (W : World) (gk gr gd gl gp ga : Nat) (lg : Sp.Lg) (s : Sp.R15) : Prop where
  pk : PkAt ly17 K W gd gl gp lg s
  desk : Blk W gk 35 (deskCs gd gl gp ga)
  act : Blk W ga 111 #[ptr gp, ptr gl]
  rc : Blk W gr 48 (recCs Sp.nest none none 0 0)
  kk : K gk
  ka : K ga
  kr : K gr
  bw : Below w0.heap.size w0 W
  k0 : ∀ b, b < w0.heap.size → K b
section
variable {w0 : World} {K : Foot} {W W' : World} {gk gr gd gl gp ga : Nat} {lg lg' : Sp.Lg} {s s' : Sp.R15}
theorem AlAt.new (h : AlAt w0 K W gk gr gd gl gp ga lg s) (hb : Below W.heap.size W W') : AlAt w0 (fun b => K b ∨ (W.heap.size ≤ b ∧ b < W'.heap.size)) W' gk gr gd gl gp ga lg s :=
  ⟨h.pk.more hb (fun _ h => h), h.desk.below hb h.desk.lt, h.act.below hb h.act.lt, h.rc.below hb h.rc.lt, .inl h.kk, .inl h.ka, .inl h.kr, h.bw.trans (hb.mono h.bw.size), fun b hb => .inl (h.k0 b hb)⟩
theorem AlAt.more (h : AlAt w0 K W gk gr gd gl gp ga lg s) (hb : Below W.heap.size W W') : ∃ K' : Foot, (∀ b, K b → K' b) ∧ (∀ b, W.heap.size ≤ b → b < W'.heap.size → K' b) ∧ AlAt w0 K' W' gk gr gd gl gp ga lg s :=
  ⟨_, fun _ h => .inl h, fun _ h1 h2 => .inr ⟨h1, h2⟩, h.new hb⟩
theorem AlAt.below (h : AlAt w0 K W gk gr gd gl gp ga lg s) (hb : Below W.heap.size W W') : AlAt w0 K W' gk gr gd gl gp ga lg s :=
  ⟨h.pk.below hb, h.desk.below hb h.desk.lt, h.act.below hb h.act.lt, h.rc.below hb h.rc.lt, h.kk, h.ka, h.kr, h.bw.trans (hb.mono h.bw.size), h.k0⟩
theorem AlAt.drew (h : AlAt w0 K W gk gr gd gl gp ga lg s) : AlAt w0 K W.drew gk gr gd gl gp ga lg s :=
  have hb := (Below.refl W.heap.size W).drew
  ⟨h.pk.below hb, h.desk.below hb h.desk.lt, h.act.below hb h.act.lt, h.rc.below hb h.rc.lt, h.kk, h.ka, h.kr, h.bw.drew, h.k0⟩
theorem AlAt.step (h : AlAt w0 K W gk gr gd gl gp ga lg s) (hk : Kept K W W') (hp : PkAt ly17 K W' gd gl gp lg' s') : AlAt w0 K W' gk gr gd gl gp ga lg' s' :=
  ⟨hp, h.desk.kept hk h.kk, h.act.kept hk h.ka, h.rc.kept hk h.kr, h.kk, h.ka, h.kr, h.bw.trans ⟨hk.os, hk.tape, hk.output, hk.size, fun b hb => hk.block b (h.k0 b hb)⟩, h.k0⟩
theorem AlAt.sat (h : AlAt w0 K W gk gr gd gl gp ga lg s) : W.cell? ⟨gk, 3, none⟩ = some (ptr ga) ∧ Blk W gr 48 (recCs Sp.nest none none 0 0) := ⟨h.desk.cell 3, h.rc⟩
end
theorem eql_pool {g : Nat} (w : World) : (binOp .eql 32 (ptr g) (ptr g)).run Tryz.prog w = .ok (.bool true) w := by
  obtain ⟨j, hj⟩ := Option.isSome_iff_exists.1 (show (Tryz.prog.info? 121).isSome = true by kernel_rfl)
  exact run_eql_ptr_same w _ Tryz.underlying32 hj
theorem eql_log {g : Nat} (w : World) : (binOp .eql 31 (ptr g) (ptr g)).run Tryz.prog w = .ok (.bool true) w := by
  obtain ⟨j, hj⟩ := Option.isSome_iff_exists.1 (show (Tryz.prog.info? 105).isSome = true by kernel_rfl)
  exact run_eql_ptr_same w _ Tryz.underlying31 hj
structure AlS (gk gr gx gl gp ga : Nat) (A : Option Addr) (c : Nat) (W : World) : Prop where
  l : W.cell? ⟨gk, 1, none⟩ = some (ptr gl)
  p : W.cell? ⟨gk, 2, none⟩ = some (ptr gp)
  a : W.cell? ⟨gk, 3, none⟩ = some (ptr ga)
  rc : Blk W gr 48 (recCs Sp.nest none none 0 0)
  x3 : W.cell? ⟨gx, 3, none⟩ = some (.int .u64 110)
  x5 : W.cell? ⟨gx, 5, none⟩ = some (.slice A 1 c)
theorem ops_one {W : World} {t : TypeId} {g : Nat} {o : Sp.Op} (h : Blk W g t (opCs o none 0)) (hr : o.rows = []) : OpsAt (fun b => b = g) W (some ⟨g, 0, none⟩) [o] := by
  refine .inr ⟨g, 0, rfl, rfl, h.lt, fun j hj => ?_⟩
  have hj : j < 1 := hj
  obtain rfl : j = 0 := by omega
  refine ⟨none, 0, .inl rfl, ?_, fun i u hu => ?_⟩
  · show RowsAt _ W none o.rows
    rw [hr]
    exact Reads.none_
  · rw [show 0 + 0 * 9 + i = i by omega]
    exact (h.cell i).trans hu

set_option maxRecDepth 100000 in
set_option maxHeartbeats 8000000 in
theorem law17_alive (w : World) : Calls Tryz.prog 12 #[] w fun e w' => e = .returned (.bool true) ∧ Below w.heap.size w w' := by
  have HM := Lib.hid (law17_made (w := w) (l := []) 4 (by omega) (by omega) rfl (fun q h1 h2 => first_zero h1 h2))
  obtain ⟨t, ht⟩ : ∃ t, (Sp.record Sp.nest [Sp.putOp 3 0]).1 = t := ⟨_, rfl⟩
  have ht17 : 17 ≤ t.length ∧ t.length ≤ 3097 := by rw [← ht]; exact Sp.record_len Sp.put_rec.1
  have HT := Lib.hid ht
  obtain ⟨nn, hnn⟩ : ∃ nn, nn = 14 + t.length := ⟨_, rfl⟩
  have hn1 : 31 ≤ nn := by omega
  have hn2 : nn ≤ 3111 := by omega
  replace hnn := Lib.hid hnn
  clear ht
  go_enter Tryz.func12, Tryz.ntmps12
  go_wp2_with fail
  refine HM.out.mono ?_
  rintro e w1 ⟨gk, gd, gl, gp, ga, rfl, hK, hA, hP, hb⟩
  clear HM
  have hb2 := (Below.refl w1.heap.size w1).alloc (Nat.le_refl _) (.cells (recCs Sp.nest none none 0 0) 48)
  have hR := Blk.new w1 48 (recCs Sp.nest none none 0 0)
  have hAL : AlAt w (fun b => (b < w.heap.size ∨ b = gk ∨ b = ga) ∨ b = w1.heap.size) (w1.alloc (.cells (recCs Sp.nest none none 0 0) 48)) gk w1.heap.size gd gl gp ga (Sp.newLg 0 64 1) (Sp.st17 4) :=
    ⟨hP.more hb2 (fun b hb => hb.imp id (fun e => by have e : b = w1.heap.size := e; simp [e])), hK.below hb2 hK.lt, hA.below hb2 hA.lt, hR, .inl (.inr (.inl rfl)), .inl (.inr (.inr rfl)), .inr rfl, hb.trans (hb2.mono hb.size), fun b hb => .inl (.inl hb)⟩
  have HAL := Lib.hid hAL
  have HN : Hid (Calls Tryz.prog 8 #[ptr gl] (w1.alloc (.cells (recCs Sp.nest none none 0 0) 48)) fun e w' => e = .returned (.int .u64 110) ∧ w' = w1.alloc (.cells (recCs Sp.nest none none 0 0) 48)) := pk_next hAL.pk
  have c1 := hK.cell 1
  simp only [List.getElem?_toArray, List.getElem?_cons_succ, List.getElem?_cons_zero] at c1
  have hgk := hK.lt
  clear hP hA hR hb hb2 hAL hK
  go_wp2_with fail
  refine HN.out.mono ?_
  rintro e w2 ⟨rfl, hw⟩
  clear HN c1
  obtain ⟨gr, hgr⟩ : ∃ g, g = w1.heap.size := ⟨_, rfl⟩
  obtain ⟨K0, hK0⟩ : ∃ K : Foot, K = (fun b => (b < w.heap.size ∨ b = gk ∨ b = ga) ∨ b = w1.heap.size) := ⟨_, rfl⟩
  rw [← hw, ← hgr] at HAL
  rw [← hgr] at hK0
  rw [← hgr]
  have HAL : Hid (AlAt w K0 w2 gk gr gd gl gp ga (Sp.newLg 0 64 1) (Sp.st17 4)) := by rw [hK0]; exact HAL
  clear hw hK0 hgk hgr
  go_wp2_with fail
  have HD6 := Lib.hid HAL.out.drew
  have HS6 := Lib.hid HD6.out.sat
  refine R_begin (fun W => W.cell? ⟨gk, 3, none⟩ = some (ptr ga) ∧ Blk W gr 48 (recCs Sp.nest none none 0 0)) (fun _ => false) rfl ?_
  refine R_tk 0 24 HS6.out ?_
  simp only [List.setIfInBounds_toArray, List.set_cons_zero, List.set_cons_succ]
  refine R_tk 1 25 HS6.out ?_
  simp only [List.setIfInBounds_toArray, List.set_cons_zero, List.set_cons_succ]
  refine R_tk 2 26 HS6.out ?_
  simp only [List.setIfInBounds_toArray, List.set_cons_zero, List.set_cons_succ]
  refine R_tk 3 27 HS6.out ?_
  simp only [List.setIfInBounds_toArray, List.set_cons_zero, List.set_cons_succ]
  refine R_take 4 28 (v := recV Sp.nest none none 0 0) rfl rfl (by rfl) (by kernel_rfl) (fun _ _ _ h => h) HS6.out ?_ ?_
  · intro w hSw
    exact run_op_load _ _ _ rfl rfl (rec_load hSw.2)
  simp only [List.setIfInBounds_toArray, List.set_cons_zero, List.set_cons_succ]
  refine R_tk 5 29 HS6.out ?_
  simp only [List.setIfInBounds_toArray, List.set_cons_zero, List.set_cons_succ]
  have hbA := (Below.refl w2.drew.heap.size w2.drew).alloc (Nat.le_refl _) (.cells (opCs (Sp.putOp 3 0) none 0) 28)
  have hO := Blk.new w2.drew 28 (opCs (Sp.putOp 3 0) none 0)
  obtain ⟨K6, hKK6, hKN6, hn6⟩ := HD6.out.more hbA
  refine R_run 6 30 (v := .slice (some ⟨w2.drew.heap.size, 0, none⟩) 1 1) (w' := (w2.drew.alloc (.cells (opCs (Sp.putOp 3 0) none 0) 28))) rfl rfl (by rfl) (by kernel_rfl) ?_ (fun _ => hn6.sat) ?_
  · first | (go_simp; done) | (go_simp; rfl)
  simp only [List.setIfInBounds_toArray, List.set_cons_zero, List.set_cons_succ]
  have hO1 := ops_one hO rfl
  have hgl := hKN6 _ (Nat.le_refl _) hO.lt
  obtain ⟨g6, hg⟩ : ∃ g, g = w2.drew.heap.size := ⟨_, rfl⟩
  rw [← hg] at hO1 hgl
  rw [← hg]
  obtain ⟨v6, hv⟩ : ∃ v, v = (w2.drew.alloc (.cells (opCs (Sp.putOp 3 0) none 0) 28)) := ⟨_, rfl⟩
  rw [← hv] at hn6 hO1 hbA
  rw [← hv]
  clear hv hO hg
  have HNN6 := Lib.hid hn6
  have HC := Lib.hid (act_aliveCost (D := none) (T := none) (cd := 0) (ct := 0) (cl := 1) HT.out hn6.act hO1)
  rw [← hnn.out] at HC
  refine R_call 7 31 (w' := v6) rfl rfl (by rfl) (by kernel_rfl) ?_ HC.out ?_
  · go_simp
  rintro e w3 ⟨rfl, hb3⟩
  have HAL6 := Lib.hid (HNN6.out.below hb3)
  have HS6b := Lib.hid HAL6.out.sat
  refine ⟨_, rfl, fun _ => HS6b.out, ?_⟩
  simp only [List.setIfInBounds_toArray, List.set_cons_zero, List.set_cons_succ]
  refine R_tk 8 23 HS6b.out ?_
  simp only [List.setIfInBounds_toArray, List.set_cons_zero, List.set_cons_succ]
  refine R_tk 9 32 HS6b.out ?_
  simp only [List.setIfInBounds_toArray, List.set_cons_zero, List.set_cons_succ]
  refine R_tk 10 33 HS6b.out ?_
  simp only [List.setIfInBounds_toArray, List.set_cons_zero, List.set_cons_succ]
  refine R_tk 11 4 HS6b.out ?_
  simp only [List.setIfInBounds_toArray, List.set_cons_zero, List.set_cons_succ]
  refine R_tk 12 5 HS6b.out ?_
  simp only [List.setIfInBounds_toArray, List.set_cons_zero, List.set_cons_succ]
  refine R_done (by kernel_rfl) ?_ _
  rename_i K9 hK9
  refine hK9 _ _ ?_
  clear hK9
  clear HC HNN6 HD6 HS6 HS6b hn6 hb3 hbA hO1 HAL
  have HAL := HAL6
  clear HAL6
  go_wp2_with fail
  have HD7 := Lib.hid HAL.out.drew
  have HS7 := Lib.hid HD7.out.sat
  refine R_begin (fun W => W.cell? ⟨gk, 3, none⟩ = some (ptr ga) ∧ Blk W gr 48 (recCs Sp.nest none none 0 0)) (fun _ => false) rfl ?_
  refine R_tk 0 35 HS7.out ?_
  simp only [List.setIfInBounds_toArray, List.set_cons_zero, List.set_cons_succ]
  refine R_tk 1 36 HS7.out ?_
  simp only [List.setIfInBounds_toArray, List.set_cons_zero, List.set_cons_succ]
  refine R_tk 2 37 HS7.out ?_
  simp only [List.setIfInBounds_toArray, List.set_cons_zero, List.set_cons_succ]
  refine R_tk 3 38 HS7.out ?_
  simp only [List.setIfInBounds_toArray, List.set_cons_zero, List.set_cons_succ]
  refine R_take 4 39 (v := recV Sp.nest none none 0 0) rfl rfl (by rfl) (by kernel_rfl) (fun _ _ _ h => h) HS7.out ?_ ?_
  · intro w hSw
    exact run_op_load _ _ _ rfl rfl (rec_load hSw.2)
  simp only [List.setIfInBounds_toArray, List.set_cons_zero, List.set_cons_succ]
  refine R_tk 5 40 HS7.out ?_
  simp only [List.setIfInBounds_toArray, List.set_cons_zero, List.set_cons_succ]
  have hbA := (Below.refl w3.drew.heap.size w3.drew).alloc (Nat.le_refl _) (.cells (opCs (Sp.putOp 3 0) none 0) 28)
  have hO := Blk.new w3.drew 28 (opCs (Sp.putOp 3 0) none 0)
  obtain ⟨K7, hKK7, hKN7, hn7⟩ := HD7.out.more hbA
  refine R_run 6 41 (v := .slice (some ⟨w3.drew.heap.size, 0, none⟩) 1 1) (w' := (w3.drew.alloc (.cells (opCs (Sp.putOp 3 0) none 0) 28))) rfl rfl (by rfl) (by kernel_rfl) ?_ (fun _ => hn7.sat) ?_
  · first | (go_simp; done) | (go_simp; rfl)
  simp only [List.setIfInBounds_toArray, List.set_cons_zero, List.set_cons_succ]
  have hO1 := ops_one hO rfl
  have hgl := hKN7 _ (Nat.le_refl _) hO.lt
  obtain ⟨g7, hg⟩ : ∃ g, g = w3.drew.heap.size := ⟨_, rfl⟩
  rw [← hg] at hO1 hgl
  rw [← hg]
  obtain ⟨v7, hv⟩ : ∃ v, v = (w3.drew.alloc (.cells (opCs (Sp.putOp 3 0) none 0) 28)) := ⟨_, rfl⟩
  rw [← hv] at hn7 hO1 hbA
  rw [← hv]
  clear hv hO hg
  have HNN7 := Lib.hid hn7
  have HC := Lib.hid (act_alive1 (D := none) (T := none) (cd := 0) (ct := 0) (cl := 1) HT.out hn7.pk hn7.act hn7.ka hO1 (fun c e => by have e : c = g7 := e; rw [e]; exact hgl))
  refine R_call 7 42 (w' := v7) rfl rfl (by rfl) (by kernel_rfl) ?_ HC.out ?_
  · go_simp
  rintro e w4 ⟨rfl, hk4, hp4⟩
  have HAL7 := Lib.hid (HNN7.out.step hk4 hp4)
  have HS7b := Lib.hid HAL7.out.sat
  refine ⟨_, rfl, fun _ => HS7b.out, ?_⟩
  simp only [List.setIfInBounds_toArray, List.set_cons_zero, List.set_cons_succ]
  refine R_tk 8 34 HS7b.out ?_
  simp only [List.setIfInBounds_toArray, List.set_cons_zero, List.set_cons_succ]
  refine R_tk 9 43 HS7b.out ?_
  simp only [List.setIfInBounds_toArray, List.set_cons_zero, List.set_cons_succ]
  refine R_tk 10 44 HS7b.out ?_
  simp only [List.setIfInBounds_toArray, List.set_cons_zero, List.set_cons_succ]
  refine R_tk 11 6 HS7b.out ?_
  simp only [List.setIfInBounds_toArray, List.set_cons_zero, List.set_cons_succ]
  refine R_tk 12 7 HS7b.out ?_
  simp only [List.setIfInBounds_toArray, List.set_cons_zero, List.set_cons_succ]
  refine R_done (by kernel_rfl) ?_ _
  rename_i K9 hK9
  refine hK9 _ _ ?_
  clear hK9
  clear HC HNN7 HD7 HS7 HS7b hn7 hk4 hp4 hbA hO1 HAL
  have hA7 := HAL7.out
  have HPG := Lib.hid (act_alivePage hA7.pk hA7.act hA7.ka)
  have c3 := hA7.desk.cell 3
  simp only [List.getElem?_toArray, List.getElem?_cons_succ, List.getElem?_cons_zero] at c3
  clear hA7
  go_wp2_with fail
  refine HPG.out.mono ?_
  rintro e w5 ⟨A, c, rfl, hp5, hk5⟩
  clear HPG c3
  have h5 := HAL7.out.step hk5 hp5
  have hb6 := (Below.refl w5.heap.size w5).alloc (Nat.le_refl _) (.cells (pgCs (Sp.filled 3) A c) 50)
  have hX := Blk.new w5 50 (pgCs (Sp.filled 3) A c)
  obtain ⟨K8, hKK8, hKN8, h6⟩ := h5.more hb6
  have hgx := hKN8 _ (Nat.le_refl _) hX.lt
  have HAL := Lib.hid h6
  clear h5 h6 hb6 HAL7 hk5 hp5
  go_wp2_with fail
  change Code.wp _ _ _ _ (w5.alloc (.cells (pgCs (Sp.filled 3) A c) 50))
  obtain ⟨gx, hgx0⟩ : ∃ g, g = w5.heap.size := ⟨_, rfl⟩
  obtain ⟨w6, hw6⟩ : ∃ v, v = w5.alloc (.cells (pgCs (Sp.filled 3) A c) 50) := ⟨_, rfl⟩
  rw [← hw6] at HAL hX hKN8
  rw [← hgx0] at hX hgx
  rw [← hw6, ← hgx0]
  clear hw6 hgx0 hKN8
  have HX := Lib.hid hX
  clear hX
  have HD9 := Lib.hid HAL.out.drew
  have HS9 := Lib.hid HD9.out.sat
  refine R_begin (fun W => W.cell? ⟨gk, 3, none⟩ = some (ptr ga) ∧ Blk W gr 48 (recCs Sp.nest none none 0 0)) (fun _ => false) rfl ?_
  refine R_tk 0 54 HS9.out ?_
  simp only [List.setIfInBounds_toArray, List.set_cons_zero, List.set_cons_succ]
  refine R_tk 1 55 HS9.out ?_
  simp only [List.setIfInBounds_toArray, List.set_cons_zero, List.set_cons_succ]
  refine R_tk 2 56 HS9.out ?_
  simp only [List.setIfInBounds_toArray, List.set_cons_zero, List.set_cons_succ]
  refine R_tk 3 57 HS9.out ?_
  simp only [List.setIfInBounds_toArray, List.set_cons_zero, List.set_cons_succ]
  refine R_take 4 58 (v := recV Sp.nest none none 0 0) rfl rfl (by rfl) (by kernel_rfl) (fun _ _ _ h => h) HS9.out ?_ ?_
  · intro w hSw
    exact run_op_load _ _ _ rfl rfl (rec_load hSw.2)
  simp only [List.setIfInBounds_toArray, List.set_cons_zero, List.set_cons_succ]
  refine R_tk 5 59 HS9.out ?_
  simp only [List.setIfInBounds_toArray, List.set_cons_zero, List.set_cons_succ]
  have hbA := (Below.refl w6.drew.heap.size w6.drew).alloc (Nat.le_refl _) (.cells (opCs (Sp.putOp 3 2) none 0) 28)
  have hO := Blk.new w6.drew 28 (opCs (Sp.putOp 3 2) none 0)
  obtain ⟨K9, hKK9, hKN9, hn9⟩ := HD9.out.more hbA
  refine R_run 6 60 (v := .slice (some ⟨w6.drew.heap.size, 0, none⟩) 1 1) (w' := (w6.drew.alloc (.cells (opCs (Sp.putOp 3 2) none 0) 28))) rfl rfl (by rfl) (by kernel_rfl) ?_ (fun _ => hn9.sat) ?_
  · first | (go_simp; done) | (go_simp; rfl)
  simp only [List.setIfInBounds_toArray, List.set_cons_zero, List.set_cons_succ]
  have hO1 := ops_one hO rfl
  have hgl := hKN9 _ (Nat.le_refl _) hO.lt
  obtain ⟨g9, hg⟩ : ∃ g, g = w6.drew.heap.size := ⟨_, rfl⟩
  rw [← hg] at hO1 hgl
  rw [← hg]
  obtain ⟨v9, hv⟩ : ∃ v, v = (w6.drew.alloc (.cells (opCs (Sp.putOp 3 2) none 0) 28)) := ⟨_, rfl⟩
  rw [← hv] at hn9 hO1 hbA
  rw [← hv]
  clear hv hO hg
  have HNN9 := Lib.hid hn9
  have HC := Lib.hid (act_alive2 (D := none) (T := none) (cd := 0) (ct := 0) (cl := 1) ht17.2 hn9.pk hn9.act hn9.ka hO1 (fun c e => by have e : c = g9 := e; rw [e]; exact hgl))
  refine R_call 7 61 (w' := v9) rfl rfl (by rfl) (by kernel_rfl) ?_ HC.out ?_
  · go_simp
  rintro e w7 ⟨rfl, hk7, hp7⟩
  have HAL9 := Lib.hid (HNN9.out.step hk7 hp7)
  have HX9 := Lib.hid ((HX.out.drew.below hbA HX.out.drew.lt).kept hk7 (hKK9 _ hgx))
  have hgx9 := hKK9 _ hgx
  have HS9b := Lib.hid HAL9.out.sat
  refine ⟨_, rfl, fun _ => HS9b.out, ?_⟩
  simp only [List.setIfInBounds_toArray, List.set_cons_zero, List.set_cons_succ]
  refine R_tk 8 53 HS9b.out ?_
  simp only [List.setIfInBounds_toArray, List.set_cons_zero, List.set_cons_succ]
  refine R_tk 9 62 HS9b.out ?_
  simp only [List.setIfInBounds_toArray, List.set_cons_zero, List.set_cons_succ]
  refine R_tk 10 63 HS9b.out ?_
  simp only [List.setIfInBounds_toArray, List.set_cons_zero, List.set_cons_succ]
  refine R_tk 11 10 HS9b.out ?_
  simp only [List.setIfInBounds_toArray, List.set_cons_zero, List.set_cons_succ]
  refine R_tk 12 11 HS9b.out ?_
  simp only [List.setIfInBounds_toArray, List.set_cons_zero, List.set_cons_succ]
  refine R_done (by kernel_rfl) ?_ _
  rename_i K9 hK9
  refine hK9 _ _ ?_
  clear hK9
  clear HC HNN9 HD9 HS9 HS9b hn9 hk7 hp7 hbA hO1 HAL HX hgx
  have HD := Lib.hid HAL9.out.drew
  have HX := Lib.hid HX9.out.drew
  have HS := Lib.hid HD.out.sat
  have HC := Lib.hid (act_alive3 (D := none) (T := none) (cd := 0) (ct := 0) ht17.2 HD.out.pk HD.out.act HD.out.ka)
  clear HAL9 HX9
  go_wp2_with fail
  refine R_begin (fun W => W.cell? ⟨gk, 3, none⟩ = some (ptr ga) ∧ Blk W gr 48 (recCs Sp.nest none none 0 0)) (fun _ => false) rfl ?_
  refine R_tk 0 65 HS.out ?_
  simp only [List.setIfInBounds_toArray, List.set_cons_zero, List.set_cons_succ]
  refine R_tk 1 66 HS.out ?_
  simp only [List.setIfInBounds_toArray, List.set_cons_zero, List.set_cons_succ]
  refine R_tk 2 67 HS.out ?_
  simp only [List.setIfInBounds_toArray, List.set_cons_zero, List.set_cons_succ]
  refine R_tk 3 68 HS.out ?_
  simp only [List.setIfInBounds_toArray, List.set_cons_zero, List.set_cons_succ]
  refine R_take 4 69 (v := recV Sp.nest none none 0 0) rfl rfl (by rfl) (by kernel_rfl) (fun _ _ _ h => h) HS.out ?_ ?_
  · intro w hSw
    exact run_op_load _ _ _ rfl rfl (rec_load hSw.2)
  simp only [List.setIfInBounds_toArray, List.set_cons_zero, List.set_cons_succ]
  refine R_call 5 70 (w' := w7.drew) rfl rfl (by rfl) (by kernel_rfl) ?_ HC.out ?_
  · go_simp
  rintro e w8 ⟨rfl, hk8, hp8⟩
  have HD8 := Lib.hid (HD.out.step hk8 hp8)
  have HX8 := Lib.hid (HX.out.kept hk8 hgx9)
  have HS8 := Lib.hid HD8.out.sat
  clear HC HD HX HS hk8 hp8
  refine ⟨_, rfl, fun _ => HS8.out, ?_⟩
  simp only [List.setIfInBounds_toArray, List.set_cons_zero, List.set_cons_succ]
  refine R_tk 6 64 HS8.out ?_
  simp only [List.setIfInBounds_toArray, List.set_cons_zero, List.set_cons_succ]
  refine R_tk 7 71 HS8.out ?_
  simp only [List.setIfInBounds_toArray, List.set_cons_zero, List.set_cons_succ]
  refine R_tk 8 72 HS8.out ?_
  simp only [List.setIfInBounds_toArray, List.set_cons_zero, List.set_cons_succ]
  refine R_tk 9 12 HS8.out ?_
  simp only [List.setIfInBounds_toArray, List.set_cons_zero, List.set_cons_succ]
  refine R_tk 10 13 HS8.out ?_
  simp only [List.setIfInBounds_toArray, List.set_cons_zero, List.set_cons_succ]
  refine R_done (by kernel_rfl) ?_ _
  rename_i K9 hK9
  refine hK9 _ _ ?_
  clear hK9
  clear HS8
  have HD := Lib.hid HD8.out.drew
  have HX := Lib.hid HX8.out.drew
  have HS := Lib.hid (show (fun W => W.cell? ⟨gk, 1, none⟩ = some (ptr gl) ∧ W.cell? ⟨gk, 2, none⟩ = some (ptr gp) ∧ W.cell? ⟨gk, 3, none⟩ = some (ptr ga) ∧ W.cell? ⟨gx, 3, none⟩ = some (.int .u64 110) ∧ W.cell? ⟨gx, 5, none⟩ = some (.slice A 1 c)) w8.drew from ⟨HD.out.desk.cell 1, HD.out.desk.cell 2, HD.out.desk.cell 3, HX.out.cell 3, HX.out.cell 5⟩)
  have HN : Hid (Calls Tryz.prog 8 #[ptr gl] w8.drew fun e w' => e = .returned (.int .u64 (110 + (nn : Int))) ∧ w' = w8.drew) := by rw [hnn.out]; exact pk_next HD.out.pk
  have HP : Hid (Calls Tryz.prog 11 #[ptr gp, u32v 3] w8.drew fun e w' => e = .returned (.int .i64 0) ∧ w' = w8.drew) := pk_pins HD.out.pk (id := 3) (by omega)
  have HPO := Lib.hid (act_pool HD.out.act)
  have HLO := Lib.hid (act_log HD.out.act)
  have HB := Lib.hid HD.out.bw
  clear HD HX HD8 HX8
  go_wp2_with fail
  refine R_begin (fun W => W.cell? ⟨gk, 1, none⟩ = some (ptr gl) ∧ W.cell? ⟨gk, 2, none⟩ = some (ptr gp) ∧ W.cell? ⟨gk, 3, none⟩ = some (ptr ga) ∧ W.cell? ⟨gx, 3, none⟩ = some (.int .u64 110) ∧ W.cell? ⟨gx, 5, none⟩ = some (.slice A 1 c)) (fun _ => false) rfl ?_
  refine R_tk 0 73 HS.out ?_
  simp only [List.setIfInBounds_toArray, List.set_cons_zero, List.set_cons_succ]
  refine R_tk 1 74 (v := .bool true) HS.out ?_
  simp only [List.setIfInBounds_toArray, List.set_cons_zero, List.set_cons_succ]
  refine R_tk 2 75 HS.out ?_
  simp only [List.setIfInBounds_toArray, List.set_cons_zero, List.set_cons_succ]
  refine R_tk 3 76 HS.out ?_
  simp only [List.setIfInBounds_toArray, List.set_cons_zero, List.set_cons_succ]
  refine R_tk 4 77 HS.out ?_
  simp only [List.setIfInBounds_toArray, List.set_cons_zero, List.set_cons_succ]
  refine R_tk 5 78 (v := .bool true) HS.out ?_
  simp only [List.setIfInBounds_toArray, List.set_cons_zero, List.set_cons_succ]
  refine R_tk 6 79 (v := .bool true) HS.out ?_
  simp only [List.setIfInBounds_toArray, List.set_cons_zero, List.set_cons_succ]
  refine R_tk 7 80 HS.out ?_
  simp only [List.setIfInBounds_toArray, List.set_cons_zero, List.set_cons_succ]
  refine R_tk 8 81 HS.out ?_
  simp only [List.setIfInBounds_toArray, List.set_cons_zero, List.set_cons_succ]
  refine R_tk 9 82 (v := .bool true) HS.out ?_
  simp only [List.setIfInBounds_toArray, List.set_cons_zero, List.set_cons_succ]
  refine R_tk 10 83 (v := .bool true) HS.out ?_
  simp only [List.setIfInBounds_toArray, List.set_cons_zero, List.set_cons_succ]
  refine R_tk 11 84 HS.out ?_
  simp only [List.setIfInBounds_toArray, List.set_cons_zero, List.set_cons_succ]
  refine R_tk 12 85 HS.out ?_
  simp only [List.setIfInBounds_toArray, List.set_cons_zero, List.set_cons_succ]
  refine R_tk 13 86 HS.out ?_
  simp only [List.setIfInBounds_toArray, List.set_cons_zero, List.set_cons_succ]
  refine R_tk 14 87 HS.out ?_
  simp only [List.setIfInBounds_toArray, List.set_cons_zero, List.set_cons_succ]
  refine R_tk 15 88 HS.out ?_
  simp only [List.setIfInBounds_toArray, List.set_cons_zero, List.set_cons_succ]
  refine R_tk 17 90 HS.out ?_
  simp only [List.setIfInBounds_toArray, List.set_cons_zero, List.set_cons_succ]
  refine R_tk 18 91 HS.out ?_
  simp only [List.setIfInBounds_toArray, List.set_cons_zero, List.set_cons_succ]
  refine R_tk 19 92 (v := .int .u64 (nn : Int)) HS.out ?_ (hy := by intro w hSw; go_simp; rw [IntKind.wrap_u64]; omega)
  simp only [List.setIfInBounds_toArray, List.set_cons_zero, List.set_cons_succ]
  refine R_tk 20 93 (v := .int .u64 (110 + (nn : Int))) HS.out ?_ (hy := by intro w hSw; go_simp; rw [IntKind.wrap_u64]; omega)
  simp only [List.setIfInBounds_toArray, List.set_cons_zero, List.set_cons_succ]
  refine R_call 16 89 (w' := w8.drew) rfl rfl (by rfl) (by kernel_rfl) ?_ HN.out ?_
  · go_simp
  rintro e w9 ⟨rfl, hw9⟩
  subst w9
  refine ⟨_, rfl, fun _ => HS.out, ?_⟩
  simp only [List.setIfInBounds_toArray, List.set_cons_zero, List.set_cons_succ]
  refine R_tk 21 94 (v := .bool true) HS.out ?_
  simp only [List.setIfInBounds_toArray, List.set_cons_zero, List.set_cons_succ]
  refine R_tk 22 95 (v := .bool true) HS.out ?_
  simp only [List.setIfInBounds_toArray, List.set_cons_zero, List.set_cons_succ]
  refine R_tk 23 96 HS.out ?_
  simp only [List.setIfInBounds_toArray, List.set_cons_zero, List.set_cons_succ]
  refine R_tk 24 97 HS.out ?_
  simp only [List.setIfInBounds_toArray, List.set_cons_zero, List.set_cons_succ]
  refine R_tk 25 98 HS.out ?_
  simp only [List.setIfInBounds_toArray, List.set_cons_zero, List.set_cons_succ]
  refine R_tk 26 99 HS.out ?_
  simp only [List.setIfInBounds_toArray, List.set_cons_zero, List.set_cons_succ]
  refine R_tk 27 100 (v := .bool true) HS.out ?_
  simp only [List.setIfInBounds_toArray, List.set_cons_zero, List.set_cons_succ]
  refine R_tk 28 101 (v := .bool true) HS.out ?_
  simp only [List.setIfInBounds_toArray, List.set_cons_zero, List.set_cons_succ]
  refine R_tk 29 102 HS.out ?_
  simp only [List.setIfInBounds_toArray, List.set_cons_zero, List.set_cons_succ]
  refine R_tk 30 103 HS.out ?_
  simp only [List.setIfInBounds_toArray, List.set_cons_zero, List.set_cons_succ]
  refine R_tk 31 104 HS.out ?_
  simp only [List.setIfInBounds_toArray, List.set_cons_zero, List.set_cons_succ]
  refine R_tk 32 105 HS.out ?_
  simp only [List.setIfInBounds_toArray, List.set_cons_zero, List.set_cons_succ]
  refine R_tk 33 106 (v := .bool true) HS.out ?_
  simp only [List.setIfInBounds_toArray, List.set_cons_zero, List.set_cons_succ]
  refine R_tk 34 107 (v := .bool true) HS.out ?_
  simp only [List.setIfInBounds_toArray, List.set_cons_zero, List.set_cons_succ]
  refine R_tk 35 108 HS.out ?_
  simp only [List.setIfInBounds_toArray, List.set_cons_zero, List.set_cons_succ]
  refine R_tk 36 109 HS.out ?_
  simp only [List.setIfInBounds_toArray, List.set_cons_zero, List.set_cons_succ]
  refine R_tk 37 110 (v := .bool true) HS.out ?_
  simp only [List.setIfInBounds_toArray, List.set_cons_zero, List.set_cons_succ]
  refine R_tk 38 111 (v := .bool true) HS.out ?_
  simp only [List.setIfInBounds_toArray, List.set_cons_zero, List.set_cons_succ]
  refine R_tk 39 112 HS.out ?_
  simp only [List.setIfInBounds_toArray, List.set_cons_zero, List.set_cons_succ]
  refine R_tk 40 113 HS.out ?_
  simp only [List.setIfInBounds_toArray, List.set_cons_zero, List.set_cons_succ]
  refine R_tk 41 114 (v := .bool true) HS.out ?_
  simp only [List.setIfInBounds_toArray, List.set_cons_zero, List.set_cons_succ]
  refine R_tk 42 115 (v := .bool true) HS.out ?_
  simp only [List.setIfInBounds_toArray, List.set_cons_zero, List.set_cons_succ]
  refine R_tk 43 116 HS.out ?_
  simp only [List.setIfInBounds_toArray, List.set_cons_zero, List.set_cons_succ]
  refine R_tk 44 117 HS.out ?_
  simp only [List.setIfInBounds_toArray, List.set_cons_zero, List.set_cons_succ]
  refine R_tk 45 118 (v := .bool true) HS.out ?_
  simp only [List.setIfInBounds_toArray, List.set_cons_zero, List.set_cons_succ]
  refine R_tk 46 119 (v := .bool true) HS.out ?_
  simp only [List.setIfInBounds_toArray, List.set_cons_zero, List.set_cons_succ]
  refine R_tk 47 120 HS.out ?_
  simp only [List.setIfInBounds_toArray, List.set_cons_zero, List.set_cons_succ]
  refine R_tk 48 121 HS.out ?_
  simp only [List.setIfInBounds_toArray, List.set_cons_zero, List.set_cons_succ]
  refine R_tk 49 122 HS.out ?_
  simp only [List.setIfInBounds_toArray, List.set_cons_zero, List.set_cons_succ]
  refine R_tk 50 123 HS.out ?_
  simp only [List.setIfInBounds_toArray, List.set_cons_zero, List.set_cons_succ]
  refine R_tk 51 124 HS.out ?_
  simp only [List.setIfInBounds_toArray, List.set_cons_zero, List.set_cons_succ]
  refine R_call 52 125 (w' := w8.drew) rfl rfl (by rfl) (by kernel_rfl) ?_ HP.out ?_
  · go_simp
  rintro e w9 ⟨rfl, hw9⟩
  subst w9
  refine ⟨_, rfl, fun _ => HS.out, ?_⟩
  simp only [List.setIfInBounds_toArray, List.set_cons_zero, List.set_cons_succ]
  refine R_tk 53 126 (v := .bool true) HS.out ?_
  simp only [List.setIfInBounds_toArray, List.set_cons_zero, List.set_cons_succ]
  refine R_tk 54 127 (v := .bool true) HS.out ?_
  simp only [List.setIfInBounds_toArray, List.set_cons_zero, List.set_cons_succ]
  refine R_tk 55 128 HS.out ?_
  simp only [List.setIfInBounds_toArray, List.set_cons_zero, List.set_cons_succ]
  refine R_tk 56 129 HS.out ?_
  simp only [List.setIfInBounds_toArray, List.set_cons_zero, List.set_cons_succ]
  refine R_tk 57 130 HS.out ?_
  simp only [List.setIfInBounds_toArray, List.set_cons_zero, List.set_cons_succ]
  refine R_tk 58 131 HS.out ?_
  simp only [List.setIfInBounds_toArray, List.set_cons_zero, List.set_cons_succ]
  refine R_tk 59 132 HS.out ?_
  simp only [List.setIfInBounds_toArray, List.set_cons_zero, List.set_cons_succ]
  refine R_tk 61 134 HS.out ?_
  simp only [List.setIfInBounds_toArray, List.set_cons_zero, List.set_cons_succ]
  refine R_tk 62 135 HS.out ?_
  simp only [List.setIfInBounds_toArray, List.set_cons_zero, List.set_cons_succ]
  refine R_tk 63 136 HS.out ?_
  simp only [List.setIfInBounds_toArray, List.set_cons_zero, List.set_cons_succ]
  refine R_tk 64 137 HS.out ?_
  simp only [List.setIfInBounds_toArray, List.set_cons_zero, List.set_cons_succ]
  refine R_call 60 133 (w' := w8.drew) rfl rfl (by rfl) (by kernel_rfl) ?_ HPO.out ?_
  · go_simp
  rintro e w9 ⟨rfl, hw9⟩
  subst w9
  refine ⟨_, rfl, fun _ => HS.out, ?_⟩
  simp only [List.setIfInBounds_toArray, List.set_cons_zero, List.set_cons_succ]
  refine R_tk 65 138 (v := .bool true) HS.out ?_ (hy := by intro w hSw; go_simp; rw [eql_pool]; rfl)
  simp only [List.setIfInBounds_toArray, List.set_cons_zero, List.set_cons_succ]
  refine R_tk 66 139 (v := .bool true) HS.out ?_
  simp only [List.setIfInBounds_toArray, List.set_cons_zero, List.set_cons_succ]
  refine R_tk 67 140 HS.out ?_
  simp only [List.setIfInBounds_toArray, List.set_cons_zero, List.set_cons_succ]
  refine R_tk 68 141 HS.out ?_
  simp only [List.setIfInBounds_toArray, List.set_cons_zero, List.set_cons_succ]
  refine R_tk 69 142 HS.out ?_
  simp only [List.setIfInBounds_toArray, List.set_cons_zero, List.set_cons_succ]
  refine R_tk 70 143 HS.out ?_
  simp only [List.setIfInBounds_toArray, List.set_cons_zero, List.set_cons_succ]
  refine R_tk 71 144 HS.out ?_
  simp only [List.setIfInBounds_toArray, List.set_cons_zero, List.set_cons_succ]
  refine R_tk 73 146 HS.out ?_
  simp only [List.setIfInBounds_toArray, List.set_cons_zero, List.set_cons_succ]
  refine R_tk 74 147 HS.out ?_
  simp only [List.setIfInBounds_toArray, List.set_cons_zero, List.set_cons_succ]
  refine R_tk 75 148 HS.out ?_
  simp only [List.setIfInBounds_toArray, List.set_cons_zero, List.set_cons_succ]
  refine R_tk 76 149 HS.out ?_
  simp only [List.setIfInBounds_toArray, List.set_cons_zero, List.set_cons_succ]
  refine R_call 72 145 (w' := w8.drew) rfl rfl (by rfl) (by kernel_rfl) ?_ HLO.out ?_
  · go_simp
  rintro e w9 ⟨rfl, hw9⟩
  subst w9
  refine ⟨_, rfl, fun _ => HS.out, ?_⟩
  simp only [List.setIfInBounds_toArray, List.set_cons_zero, List.set_cons_succ]
  refine R_tk 77 150 (v := .bool true) HS.out ?_ (hy := by intro w hSw; go_simp; rw [eql_log]; rfl)
  simp only [List.setIfInBounds_toArray, List.set_cons_zero, List.set_cons_succ]
  refine R_tk 78 151 (v := .bool true) HS.out ?_
  simp only [List.setIfInBounds_toArray, List.set_cons_zero, List.set_cons_succ]
  refine R_tk 79 0 (v := .bool true) HS.out ?_
  simp only [List.setIfInBounds_toArray, List.set_cons_zero]
  refine R_done (by kernel_rfl) ?_ _
  rename_i K9 hK9
  refine hK9 _ _ ?_
  clear hK9
  go_wp2_with fail
  go_ret
  exact ⟨rfl, HB.out⟩
end Go.Proofs.YtclpmkinjjhncaaGreat
