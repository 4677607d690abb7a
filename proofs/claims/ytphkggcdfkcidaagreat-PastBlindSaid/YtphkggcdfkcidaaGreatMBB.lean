/- The walk of the law package pentimentolaw26: PastBlind, of too much. -/
import Derived.Test.YtphkggcdfkcidaaGreatMAM
import Derived.Test.YtphkggcdfkcidaaGreatMAL
import Derived.Deep.CutBlock
import Derived.Test.YtphkggcdfkcidaaGreatRows
import Derived.Carry
import Derived.ChangeMaps5

namespace Go.Proofs.YtphkggcdfkcidaaGreat
open Go.RowKit Go.Conc

set_option maxRecDepth 100000 in
set_option maxHeartbeats 4000000 in
/-- What is too much is answered by works. -/
theorem law_blind_out (key : Sp.Bs) (l : List Sp.Stp) (fr wh own next cap vcap : Nat) (A VA : Option Addr) (xs : List Nat) (hl : l.length ≤ 140737488355328) (hsl : ∀ x ∈ l, x.s.length ≤ 140737488355328) (hkl : key.length ≤ 140737488355328) (hxl : xs.length ≤ 140737488355328) (G : Foot) (w : World) (hR : StpsAt G w A l)
    (hout : ¬ (hzB l = false ∧ 1 ≤ l.length ∧ 1 ≤ key.length ∧ key.length ≤ 48 ∧ xs.length ≤ 60)) :
    Calls Tryz.prog 5 #[str key, .slice A l.length cap, .int .u8 fr, viewV own next VA xs.length vcap, .int .u8 wh] w fun e w' => e = .returned (.bool true) ∧ Below w.heap.size w w' := by
  have HZ := Lib.hid fun (W : World) (h : StpsAt G W A l) => law26_heavy A cap l hl hsl G W h
  have HW := Lib.hid fun (W : World) => law26_works W
  have HR := Lib.hid hR
  clear hR hsl
  have hcs : hzB l = true ∨ (hzB l = false ∧ l.length = 0) ∨ (hzB l = false ∧ 1 ≤ l.length ∧ key.length = 0) ∨ (hzB l = false ∧ 1 ≤ l.length ∧ 1 ≤ key.length ∧ 48 < key.length) ∨ (hzB l = false ∧ 1 ≤ l.length ∧ 1 ≤ key.length ∧ key.length ≤ 48 ∧ 60 < xs.length) := by
    cases hz : hzB l with
    | true => exact .inl rfl
    | false =>
      by_cases h2 : l.length = 0
      · exact .inr (.inl ⟨rfl, h2⟩)
      · by_cases h3 : key.length = 0
        · exact .inr (.inr (.inl ⟨rfl, by omega, h3⟩))
        · by_cases h4 : 48 < key.length
          · exact .inr (.inr (.inr (.inl ⟨rfl, by omega, by omega, h4⟩)))
          · exact .inr (.inr (.inr (.inr ⟨rfl, by omega, by omega, by omega, by
              by_cases h5 : 60 < xs.length
              · exact h5
              · exact absurd ⟨hz, by omega, by omega, by omega, by omega⟩ hout⟩)))
  clear hout
  rcases hcs with hz | ⟨hz, h2⟩ | ⟨hz, h2, h3⟩ | ⟨hz, h2, h3, h4⟩ | ⟨hz, h2, h3, h4, h5⟩
  · rw [hz] at HZ
    clear hz
    go_enter Tryz.func5, Tryz.ntmps5
    go_wp2_with fail
    have hb0 := (Below.refl w.heap.size w).alloc (Nat.le_refl _) (.cells #[.int .u64 own, .int .u64 next, .slice VA xs.length vcap] 59)
    refine (HZ.out _ (HR.out.keep2 hb0)).mono ?_
    rintro e w1 ⟨rfl, rfl⟩
    go_wp2_with fail
    refine (HW.out _).mono ?_
    rintro e w2 ⟨rfl, hb2⟩
    go_wp2_with fail
    go_ret
    exact ⟨rfl, hb0.trans (hb2.mono hb0.size)⟩
  · rw [hz] at HZ
    have d2 : ((l.length : Int) == 0) = true := by rw [beq_iff_eq]; omega
    have d2b : decide ((l.length : Int) = 0) = true := by rw [decide_eq_true_eq]; omega
    clear hz h2
    go_enter Tryz.func5, Tryz.ntmps5
    go_wp2_with fail
    have hb0 := (Below.refl w.heap.size w).alloc (Nat.le_refl _) (.cells #[.int .u64 own, .int .u64 next, .slice VA xs.length vcap] 59)
    refine (HZ.out _ (HR.out.keep2 hb0)).mono ?_
    rintro e w1 ⟨rfl, rfl⟩
    go_wp2_with fail
    refine (HW.out _).mono ?_
    rintro e w2 ⟨rfl, hb2⟩
    go_wp2_with fail
    go_ret
    exact ⟨rfl, hb0.trans (hb2.mono hb0.size)⟩
  · rw [hz] at HZ
    have d2 : ((l.length : Int) == 0) = false := by rw [beq_eq_false_iff_ne]; omega
    have d2b : decide ((l.length : Int) = 0) = false := by rw [decide_eq_false_iff_not]; omega
    have d3 : decide ((key.length : Int) < 1) = true := by rw [decide_eq_true_eq]; omega
    clear hz h3
    go_enter Tryz.func5, Tryz.ntmps5
    go_wp2_with fail
    have hb0 := (Below.refl w.heap.size w).alloc (Nat.le_refl _) (.cells #[.int .u64 own, .int .u64 next, .slice VA xs.length vcap] 59)
    refine (HZ.out _ (HR.out.keep2 hb0)).mono ?_
    rintro e w1 ⟨rfl, rfl⟩
    go_wp2_with fail
    refine (HW.out _).mono ?_
    rintro e w2 ⟨rfl, hb2⟩
    go_wp2_with fail
    go_ret
    exact ⟨rfl, hb0.trans (hb2.mono hb0.size)⟩
  · rw [hz] at HZ
    have d2 : ((l.length : Int) == 0) = false := by rw [beq_eq_false_iff_ne]; omega
    have d2b : decide ((l.length : Int) = 0) = false := by rw [decide_eq_false_iff_not]; omega
    have d3 : decide ((key.length : Int) < 1) = false := by rw [decide_eq_false_iff_not]; omega
    have d4 : decide ((48 : Int) < (key.length : Int)) = true := by rw [decide_eq_true_eq]; omega
    clear hz
    go_enter Tryz.func5, Tryz.ntmps5
    go_wp2_with fail
    have hb0 := (Below.refl w.heap.size w).alloc (Nat.le_refl _) (.cells #[.int .u64 own, .int .u64 next, .slice VA xs.length vcap] 59)
    refine (HZ.out _ (HR.out.keep2 hb0)).mono ?_
    rintro e w1 ⟨rfl, rfl⟩
    go_wp2_with fail
    refine (HW.out _).mono ?_
    rintro e w2 ⟨rfl, hb2⟩
    go_wp2_with fail
    go_ret
    exact ⟨rfl, hb0.trans (hb2.mono hb0.size)⟩
  · rw [hz] at HZ
    have d2 : ((l.length : Int) == 0) = false := by rw [beq_eq_false_iff_ne]; omega
    have d2b : decide ((l.length : Int) = 0) = false := by rw [decide_eq_false_iff_not]; omega
    have d3 : decide ((key.length : Int) < 1) = false := by rw [decide_eq_false_iff_not]; omega
    have d4 : decide ((48 : Int) < (key.length : Int)) = false := by rw [decide_eq_false_iff_not]; omega
    have d5 : decide ((60 : Int) < (xs.length : Int)) = true := by rw [decide_eq_true_eq]; omega
    clear hz
    go_enter Tryz.func5, Tryz.ntmps5
    go_wp2_with fail
    have hb0 := (Below.refl w.heap.size w).alloc (Nat.le_refl _) (.cells #[.int .u64 own, .int .u64 next, .slice VA xs.length vcap] 59)
    refine (HZ.out _ (HR.out.keep2 hb0)).mono ?_
    rintro e w1 ⟨rfl, rfl⟩
    go_wp2_with fail
    refine (HW.out _).mono ?_
    rintro e w2 ⟨rfl, hb2⟩
    go_wp2_with fail
    go_ret
    exact ⟨rfl, hb0.trans (hb2.mono hb0.size)⟩
end Go.Proofs.YtphkggcdfkcidaaGreat

/- What PastBlind's law rests on: the pages of a story of which one has become free. -/
namespace Go.Proofs.YtphkggcdfkcidaaGreat
open Go.RowKit Go.Conc

/-- The pages, but the n-th is free. -/
def Sp.frPg (pg : Nat → Sp.Pg) (n : Nat) : Nat → Sp.Pg := fun q => if q = n + 1 then ⟨0, 0, n + 1, 0, 0, []⟩ else pg q
theorem frPg_ok {pg : Nat → Sp.Pg} {n : Nat} (h : PgOk pg) (hn : n < 6) : PgOk (Sp.frPg pg n) := fun q q1 q6 => by
  unfold Sp.frPg
  by_cases e : q = n + 1
  · rw [if_pos e]
    refine ⟨⟨by show 0 < _; omega, by show 0 < _; omega, by show n + 1 < _; omega, by show 0 < _; omega, by show 0 < _; omega⟩, ⟨by show 0 ≤ _; omega, by show 1 ≤ n + 1; omega, by show n + 1 ≤ _; omega, by show 0 ≤ _; omega, by show 4 * 0 + 0 ≤ 484; omega⟩, e.symm⟩
  · rw [if_neg e]; exact h q q1 q6
theorem frPg_ne {pg : Nat → Sp.Pg} {n q : Nat} (h : q ≠ n + 1) : Sp.frPg pg n q = pg q := by unfold Sp.frPg; rw [if_neg h]

/-- A free page's cells. -/
abbrev frCs (n : Nat) : List Value := [.int .u8 0, .int .u8 0, .int .u32 (n + 1 : Nat), .int .u64 0, .int .u32 0, .slice none 0 0]
theorem sto_free {base : Nat} {key : Sp.Bs} {l : List Sp.Stp} {bp : Nat} {vr : Value} {m : Nat} {w : World} (h : StoAt base key l bp vr m w) {n : Nat} (hn : n < 6) :
    ∃ cur, Blk w bp 53 cur ∧ n * 6 + 6 ≤ cur.size ∧ base ≤ bp ∧ PgsAt (w.setRow bp (partRow cur (n * 6) (frCs n))) bp 0 (Sp.frPg (Sp.stPg key l m) n) ∧
      ∀ gv cv, 1 ≤ m → vr = .slice (some ⟨gv, 0, none⟩) m cv → ∀ i, i < m → ∀ j, j < 7 → (w.setRow bp (partRow cur (n * 6) (frCs n))).cell? ⟨gv, i * 7 + j, none⟩ = (rwCs (Sp.stRow key l i))[j]? := by
  obtain ⟨A, c, h⟩ := h
  obtain ⟨cur, hb, hfit, g⟩ := h.setp hn (cs := frCs n) rfl
  refine ⟨cur, hb, hfit, h.bpl, ?_, ?_⟩
  · obtain ⟨cur2, hb2, hc2, hp2⟩ := g.pages
    intro q hq
    by_cases e : q = n
    · subst e
      have hx : Sp.frPg (Sp.stPg key l m) q (q + 1) = ⟨0, 0, q + 1, 0, 0, []⟩ := if_pos rfl
      have hcs : ∀ j, j < 6 → (w.setRow bp (partRow cur (q * 6) (frCs q))).cell? ⟨bp, q * 6 + j, none⟩ = (frCs q)[j]? := fun j hj => by
        have := hp2 q hq j hj
        rw [if_pos rfl] at this
        exact (hb2.cell _).trans this
      rw [hx]
      refine ⟨none, 0, ⟨rfl, fun h0 => absurd h0 (by simp)⟩, ?_, ?_, ?_, ?_, ?_, ?_⟩
      all_goals (rw [Nat.zero_add])
      · exact hcs 0 (by omega)
      · exact hcs 1 (by omega)
      · exact hcs 2 (by omega)
      · exact hcs 3 (by omega)
      · exact hcs 4 (by omega)
      · exact hcs 5 (by omega)
    · have hx : Sp.frPg (Sp.stPg key l m) n (q + 1) = Sp.stPg key l m (q + 1) := if_neg (by omega)
      have hcs : ∀ j, j < 6 → (w.setRow bp (partRow cur (n * 6) (frCs n))).cell? ⟨bp, q * 6 + j, none⟩ = (stPgC key l m A c q)[j]? := fun j hj => by
        have := hp2 q hq j hj
        rw [if_neg e] at this
        exact (hb2.cell _).trans this
      rw [hx]
      refine ⟨A q, c q, own_reads0 (g.own q hq), ?_, ?_, ?_, ?_, ?_, ?_⟩
      all_goals (rw [Nat.zero_add])
      · exact hcs 0 (by omega)
      · exact hcs 1 (by omega)
      · exact hcs 2 (by omega)
      · exact hcs 3 (by omega)
      · exact hcs 4 (by omega)
      · exact hcs 5 (by omega)
  · intro gv cv hm hv i hi j hj
    subst hv
    have hx : (rwCs (Sp.stRow key l i))[j]? = some ((rwCs (Sp.stRow key l i))[j]'(by simpa using hj)) := List.getElem?_eq_getElem _
    have := g.rows.cells (g := gv) rfl (i * 7 + j) _ (by rw [stC_get _ hi hj, hx])
    rw [add_lit] at this
    rw [this, hx]
theorem StoAt.keep' {base : Nat} {key : Sp.Bs} {l : List Sp.Stp} {bp : Nat} {vr : Value} {m : Nat} {w w' : World} (h : StoAt base key l bp vr m w) (hs : w.heap.size ≤ w'.heap.size) (hk : ∀ b, b < w.heap.size → w'.heap[b]? = w.heap[b]?) : StoAt base key l bp vr m w' := by
  obtain ⟨A, c, h⟩ := h
  exact ⟨A, c, h.keep hs hk⟩
end Go.Proofs.YtphkggcdfkcidaaGreat

/- The walk of the law package pentimentolaw26: PastBlind. -/
namespace Go.Proofs.YtphkggcdfkcidaaGreat
open Go.RowKit Go.Conc

set_option maxRecDepth 100000 in
set_option maxHeartbeats 8000000 in
theorem law_blind_in (key : Sp.Bs) (hkey : 1 ≤ key.length ∧ key.length ≤ 48) (l : List Sp.Stp) (h1 : 1 ≤ l.length) (hz : hzB l = false) (htx : ∀ x ∈ l, x.tx < 256) (fr wh own next cap vcap : Nat) (hfr : fr < 256) (hwh : wh < 256) (A VA : Option Addr) (xs : List Nat) (hx : xs.length ≤ 60) (w : World)
    (hR : StpsAt (fun b => b < w.heap.size) w A l) (hV : U64s (fun b => b < w.heap.size) w VA xs) :
    Calls Tryz.prog 5 #[str key, .slice A l.length cap, .int .u8 fr, viewV own next VA xs.length vcap, .int .u8 wh] w fun e w' => e = .returned (.bool true) ∧ Below w.heap.size w w' := by
  obtain ⟨h10, hs⟩ := hz_small hz
  have hb0 := (Below.refl w.heap.size w).alloc (Nat.le_refl _) (.cells #[.int .u64 own, .int .u64 next, .slice VA xs.length vcap] 59)
  have hR1 := StpsAt.keep2 hR hb0
  have HZ := Lib.hid (law26_heavy A cap l (by omega) (fun x hx => by have := hs x hx; omega) _ _ hR1)
  rw [hz] at HZ
  have HST := Lib.hid (law_story key hkey l h1 h10 htx hs _ A cap _ hR1)
  have HW := Lib.hid fun (W : World) => law26_works W
  have HKEY := Lib.hid hkey
  have HV0 := Lib.hid (Reads.below hV hb0)
  have HVW := Lib.hid hV
  have hVb := Blk.new w 59 #[.int .u64 own, .int .u64 next, .slice VA xs.length vcap]
  have d2 : ((l.length : Int) == 0) = false := by rw [beq_eq_false_iff_ne]; omega
  have d2b : decide ((l.length : Int) = 0) = false := by rw [decide_eq_false_iff_not]; omega
  have d3 : decide ((key.length : Int) < 1) = false := by rw [decide_eq_false_iff_not]; omega
  have d4 : decide ((48 : Int) < (key.length : Int)) = false := by rw [decide_eq_false_iff_not]; omega
  have d5 : decide ((60 : Int) < (xs.length : Int)) = false := by rw [decide_eq_false_iff_not]; omega
  clear hR hV hR1 hs htx hz hkey
  go_enter Tryz.func5, Tryz.ntmps5
  go_wp2_with fail
  generalize hw1 : World.alloc w _ = w1 at hb0 HZ HST HV0 hVb ⊢
  refine HZ.out.mono ?_
  rintro e w1' ⟨rfl, hw1'⟩
  subst w1'
  have v2c := hVb.cell 2
  simp only [List.getElem?_toArray, List.getElem?_cons_succ, List.getElem?_cons_zero] at v2c
  clear hw1
  go_wp2_with fail
  refine HST.out.mono ?_
  rintro e w2 ⟨vr, bp, cp, rfl, hsto, hb2⟩
  obtain ⟨hpgs, hbp⟩ := hsto.pgs
  obtain ⟨gv, cv, rfl, hgv, hrows⟩ := hsto.rows h1
  obtain ⟨pg, hpgE⟩ : ∃ pg, pg = Sp.stPg key l l.length := ⟨_, rfl⟩
  have hok : PgOk pg := fun q q1 q6 => by rw [hpgE]; exact Sp.stPg_ok HKEY.out h10 (Nat.le_refl _) q1 q6
  rw [← hpgE] at hpgs
  have HLD := Lib.hid (law_laid pg hok bp 0 cp w2 hbp hpgs)
  have HPE := Lib.hid hpgE
  have HOK := Lib.hid hok
  have HSTO := Lib.hid hsto
  have hbw2 : Below w.heap.size w w2 := hb0.trans (hb2.mono hb0.size)
  have hVb2 := hVb.below hb2 hVb.lt
  have hV2 := HV0.out.below hb2
  have HB1 := Lib.hid hb0.size
  clear HST HZ hsto hb2 hpgs hpgE hok HV0 hVb v2c
  go_wp2_with fail
  refine HLD.out.mono ?_
  rintro e w3 ⟨gP, gr, gd, gl, gp, rfl, hPl, hb3, hL⟩
  have hgVl := hVb2.lt
  have hszw := hbw2.size
  have HBK := Lib.hid fun (i : Nat) (hi : i < l.length) => sto_back (key := key) (l := l) HKEY.out h10 (pg := pg) hi (by rw [HPE.out]) gd gl gp
  have HI := Lib.hid (show LawV (fun b => b < w2.heap.size ∨ b = gP) w3 gP gd gl gp gr gv l.length (Sp.stRow key l) w.heap.size own next VA xs vcap from
    ⟨⟨hPl, fun i hi j hj => (World.cell?_of_block (a := ⟨gv, i * 7 + j, none⟩) (hb3.block gv hgv)).trans (hrows i hi j hj), .inr rfl, .inl hgv⟩, hVb2.below hb3 hgVl, (Reads.below hV2 hb3).mono (fun b hb => .inl (Nat.lt_of_lt_of_le hb hszw)), .inl hgVl⟩)
  have HP := Lib.hid (show LzAt pg (fun b => b < w2.heap.size ∨ b = gP) w3 gd gl gp from ⟨[], hL, by simp⟩)
  have hbw3 := hbw2.trans (hb3.mono hbw2.size)
  have HK0 := Lib.hid (show ∀ b, b < w.heap.size → (fun b => b < w2.heap.size ∨ b = gP) b from fun b hb => .inl (Nat.lt_of_lt_of_le hb hbw2.size))
  have HKV := Lib.hid (show ∀ b, b < w2.heap.size → (fun b => b < w2.heap.size ∨ b = gP) b from fun b hb => .inl hb)
  have HST3 := Lib.hid (show Below w2.heap.size w2 w3 from hb3)
  clear HLD hPl hb3 hL hrows hbw2 hVb2 hV2 hgVl
  have wr8 : IntKind.i64.wrap (fr : Int) = fr := by rw [IntKind.wrap_i64]; omega
  go_upto_region 8 with fail
  obtain ⟨k, hk⟩ : ∃ k, k = fr % l.length := ⟨_, rfl⟩
  have hkl : k < l.length := by rw [hk]; exact Nat.mod_lt _ (by omega)
  rw [show (fr : Int) % (l.length : Int) = (k : Int) by rw [hk]; simp]
  clear hk wr8 d2 d2b d3 d4 d5
  obtain ⟨gV, hgV⟩ : ∃ g, g = w.heap.size := ⟨_, rfl⟩
  rw [← hgV] at HI
  rw [show (Value.pointer (some ⟨w.heap.size, 0, none⟩)) = ptr gV by rw [hgV]]
  have HGV := Lib.hid hgV
  clear hgV
  have HSE := Lib.hid fun (K : Foot) (W : World) (hp : LzAt pg K W gd gl gp) (hv : U64s K W VA xs) => past_see hp (Sp.stRow key l) k (by omega) own next VA vcap xs (by omega) hv (fun i hi _ => HBK.out i (by omega))
  have HBW := Lib.hid hbw3
  clear hbw3
  go_cut [15, 16, 17] (fun va vb ve wx => CallAt pg (fun b => b < w2.heap.size ∨ b = gP) w3 gd gl gp (Sp.orZ (Sp.seeAt (Sp.stRow key l) (Sp.sees own next xs) k)) va wx ∧ vb = .bool (Sp.seeAt (Sp.stRow key l) (Sp.sees own next xs) k).isSome ∧ ve = .int .i64 0)
  case first =>
    go_wp2_with fail
    have hS0 := Lib.hid (LawV.s HI.out hkl)
    refine R_begin (fun (W : World) => W.cell? ⟨gP, 2, none⟩ = some (ptr gp) ∧ W.cell? ⟨gv, k * 7, none⟩ = some (str (Sp.stRow key l k).key) ∧ W.cell? ⟨gv, k * 7 + 1, none⟩ = some (.bool (Sp.stRow key l k).mark) ∧ W.cell? ⟨gv, k * 7 + 2, none⟩ = some (.int .u64 (Sp.stRow key l k).tx) ∧ W.cell? ⟨gv, k * 7 + 3, none⟩ = some (.int .u32 (Sp.stRow key l k).page) ∧ W.cell? ⟨gv, k * 7 + 4, none⟩ = some (.int .u16 (Sp.stRow key l k).slot) ∧ W.cell? ⟨gv, k * 7 + 5, none⟩ = some (str (Sp.stRow key l k).value) ∧ W.cell? ⟨gv, k * 7 + 6, none⟩ = some (.int .i64 (Sp.stRow key l k).pad) ∧ W.cell? ⟨gV, 0, none⟩ = some (.int .u64 own) ∧ W.cell? ⟨gV, 1, none⟩ = some (.int .u64 next) ∧ W.cell? ⟨gV, 2, none⟩ = some (.slice VA xs.length vcap)) (fun _ => false) rfl ?_
    refine R_tk 0 65 hS0.out ?_
    refine R_tk 1 66 hS0.out ?_
    refine R_tk 2 67 hS0.out ?_
    refine R_tk 3 68 hS0.out ?_
    refine R_tk 4 69 hS0.out ?_
    refine R_tk 5 70 hS0.out ?_
    refine R_tk 6 71 hS0.out ?_
    refine R_tk 7 72 hS0.out ?_
    refine R_tk 8 73 hS0.out ?_
    simp only [List.setIfInBounds_toArray, List.set_cons_zero, List.set_cons_succ]
    refine R_all (rs := [9, 14]) (by kernel_rfl) (by simp) (fun i hi => ?_)
    simp only [List.mem_cons, List.not_mem_nil, or_false] at hi
    rcases hi with rfl | rfl
    · skip
      have hc := HSE.out (fun b => b < w2.heap.size ∨ b = gP) _ HP.out.drew (HI.out.ls)
      refine op_call 74 (w' := w3.drew) rfl rfl (by rfl) ?_ hc ?_
      · go_simp
      rintro e v1 ⟨rfl, hk1, hp1⟩
      have hi1 := HI.out.kept (Kept.undrew hk1)
      have hS1 := Lib.hid (LawV.s hi1 hkl)
      refine ⟨_, rfl, fun _ => hS1.out, ?_⟩
      simp only [List.setIfInBounds_toArray, List.set_cons_zero, List.set_cons_succ]
      clear hc
      refine R_tk 10 64 hS1.out ?_
      refine R_tk 11 75 hS1.out ?_
      refine R_tk 12 76 hS1.out ?_
      refine R_tk 13 77 hS1.out ?_
      simp only [List.setIfInBounds_toArray, List.set_cons_zero, List.set_cons_succ]
      have hi2 := hi1.kept (Kept.of_below ((Below.refl v1.heap.size v1).alloc (Nat.le_refl _) (.cells rwZ 37)) hp1.lt)
      have hS2 := Lib.hid (LawV.s hi2 hkl)
      refine R_run 14 15 (v := ptr v1.heap.size) (w' := v1.alloc (.cells rwZ 37)) rfl rfl (by rfl) (by kernel_rfl) ?_ (fun _ => hS2.out) ?_
      · first | (go_simp; done) | (go_simp; rfl)
      simp only [List.setIfInBounds_toArray, List.set_cons_zero, List.set_cons_succ]
      have hn := Blk.new v1 37 rwZ
      have hca := callAt_1 (Kept.undrew hk1) hp1 (Sp.orZ (Sp.seeAt (Sp.stRow key l) (Sp.sees own next xs) k))
      have hS3 := Lib.hid (show (fun (W : World) => W.cell? ⟨gP, 2, none⟩ = some (ptr gp) ∧ W.cell? ⟨gv, k * 7, none⟩ = some (str (Sp.stRow key l k).key) ∧ W.cell? ⟨gv, k * 7 + 1, none⟩ = some (.bool (Sp.stRow key l k).mark) ∧ W.cell? ⟨gv, k * 7 + 2, none⟩ = some (.int .u64 (Sp.stRow key l k).tx) ∧ W.cell? ⟨gv, k * 7 + 3, none⟩ = some (.int .u32 (Sp.stRow key l k).page) ∧ W.cell? ⟨gv, k * 7 + 4, none⟩ = some (.int .u16 (Sp.stRow key l k).slot) ∧ W.cell? ⟨gv, k * 7 + 5, none⟩ = some (str (Sp.stRow key l k).value) ∧ W.cell? ⟨gv, k * 7 + 6, none⟩ = some (.int .i64 (Sp.stRow key l k).pad) ∧ W.cell? ⟨gV, 0, none⟩ = some (.int .u64 own) ∧ W.cell? ⟨gV, 1, none⟩ = some (.int .u64 next) ∧ W.cell? ⟨gV, 2, none⟩ = some (.slice VA xs.length vcap)) _ from LawV.s (HI.out.kept hca.choose_spec.2.2.2.1) hkl)
      (try simp only [List.setIfInBounds_toArray, List.set_cons_zero, List.set_cons_succ])
      refine R_store 15 (n := .skip) (w' := (v1.alloc (.cells rwZ 37)).setRow v1.heap.size (Sp.orZ (Sp.seeAt (Sp.stRow key l) (Sp.sees own next xs) k))) rfl rfl (by rfl) (by kernel_rfl) (run_op_store _ _ _ _ _ rfl rfl rfl (row_store7 hn (orZ_size _) (orZ_one _))) (.inl rfl) (fun _ => hS3.out) ?_
      refine R_tk 16 16 hS3.out ?_
      refine R_tk 17 17 hS3.out ?_
      simp only [List.setIfInBounds_toArray, List.set_cons_zero, List.set_cons_succ]
      refine R_done (by kernel_rfl) ?_ _
      rename_i K9 hK9
      refine hK9 _ _ ?_
      clear hK9
      go_meet
      case rel => exact ⟨hca, rfl, rfl⟩
    · skip
      obtain ⟨hp1, hk1, hn1⟩ := callAt_0 HP.out
      have hi1 := HI.out.kept hk1
      have hS1 := Lib.hid (LawV.s hi1 hkl)
      refine op_run 15 (v := ptr w3.heap.size) (w' := w3.drew.alloc (.cells rwZ 37)) rfl rfl (by rfl) ?_ ⟨fun _ => hS1.out, ?_⟩
      · first | (go_simp; done) | (go_simp; rfl)
      simp only [List.setIfInBounds_toArray, List.set_cons_zero, List.set_cons_succ]
      have hc := HSE.out (fun b => (fun b => b < w2.heap.size ∨ b = gP) b ∨ b = w3.heap.size) _ hp1 (((HI.out.ls).keep hk1.size (fun b hb => hk1.block b hb)).mono (fun b hb => .inl hb))
      refine R_call 9 74 (w' := w3.drew.alloc (.cells rwZ 37)) rfl rfl (by rfl) (by kernel_rfl) ?_ hc ?_
      · go_simp
      rintro e v2 ⟨rfl, hk2, hp2⟩
      have hi2 := hi1.kept (hk2.mono (fun b hb => .inl hb))
      have hS2 := Lib.hid (LawV.s hi2 hkl)
      refine ⟨_, rfl, fun _ => hS2.out, ?_⟩
      simp only [List.setIfInBounds_toArray, List.set_cons_zero, List.set_cons_succ]
      clear hc
      refine R_tk 10 64 hS2.out ?_
      refine R_tk 11 75 hS2.out ?_
      refine R_tk 12 76 hS2.out ?_
      refine R_tk 13 77 hS2.out ?_
      have hca := callAt_2 HP.out hk2 hp2 (Sp.orZ (Sp.seeAt (Sp.stRow key l) (Sp.sees own next xs) k))
      have hS3 := Lib.hid (show (fun (W : World) => W.cell? ⟨gP, 2, none⟩ = some (ptr gp) ∧ W.cell? ⟨gv, k * 7, none⟩ = some (str (Sp.stRow key l k).key) ∧ W.cell? ⟨gv, k * 7 + 1, none⟩ = some (.bool (Sp.stRow key l k).mark) ∧ W.cell? ⟨gv, k * 7 + 2, none⟩ = some (.int .u64 (Sp.stRow key l k).tx) ∧ W.cell? ⟨gv, k * 7 + 3, none⟩ = some (.int .u32 (Sp.stRow key l k).page) ∧ W.cell? ⟨gv, k * 7 + 4, none⟩ = some (.int .u16 (Sp.stRow key l k).slot) ∧ W.cell? ⟨gv, k * 7 + 5, none⟩ = some (str (Sp.stRow key l k).value) ∧ W.cell? ⟨gv, k * 7 + 6, none⟩ = some (.int .i64 (Sp.stRow key l k).pad) ∧ W.cell? ⟨gV, 0, none⟩ = some (.int .u64 own) ∧ W.cell? ⟨gV, 1, none⟩ = some (.int .u64 next) ∧ W.cell? ⟨gV, 2, none⟩ = some (.slice VA xs.length vcap)) _ from LawV.s (HI.out.kept hca.choose_spec.2.2.2.1) hkl)
      (try simp only [List.setIfInBounds_toArray, List.set_cons_zero, List.set_cons_succ])
      refine R_store 15 (n := .skip) (w' := v2.setRow w3.heap.size (Sp.orZ (Sp.seeAt (Sp.stRow key l) (Sp.sees own next xs) k))) rfl rfl (by rfl) (by kernel_rfl) (run_op_store _ _ _ _ _ rfl rfl rfl (row_store7 (hn1.kept hk2 (.inr rfl)) (orZ_size _) (orZ_one _))) (.inl rfl) (fun _ => hS3.out) ?_
      refine R_tk 16 16 hS3.out ?_
      refine R_tk 17 17 hS3.out ?_
      simp only [List.setIfInBounds_toArray, List.set_cons_zero, List.set_cons_succ]
      refine R_done (by kernel_rfl) ?_ _
      rename_i K9 hK9
      refine hK9 _ _ ?_
      clear hK9
      go_meet
      case rel => exact ⟨hca, rfl, rfl⟩
  case rest =>
  obtain ⟨⟨g15, rfl, h15, hp15, hk15, hge15⟩, rfl, rfl⟩ := hcut
  obtain ⟨w4, rfl⟩ : ∃ x : World, x = wc := ⟨_, rfl⟩
  replace HI := Lib.hid ((HI.out.kept hk15).mono (K' := fun b => (fun b => b < w2.heap.size ∨ b = gP) b ∨ b = g15) (fun b hb => .inl hb))
  replace HP := Lib.hid hp15
  replace HBW := Lib.hid (HBW.out.trans (hk15.below (fun b hb => HK0.out b hb)))
  replace HST3 := Lib.hid (HST3.out.trans (hk15.below (fun b hb => HKV.out b hb)))
  replace HK0 := Lib.hid (show ∀ b, b < w.heap.size → (fun b => (fun b => b < w2.heap.size ∨ b = gP) b ∨ b = g15) b from fun b hb => .inl (HK0.out b hb))
  have G15 := Lib.hid h15
  clear h15 hp15 hk15 hge15 HSE HKV
  go_upto_region 9 with fail
  go_wp2_with fail
  go_loopw [18] (fun v wr => ∃ j : Nat, j ≤ k + 1 ∧ v = .int .i64 ((j : Int) - 1) ∧ (∀ m, j ≤ m → m ≤ k → Sp.sees own next xs (Sp.stRow key l m).tx = false) ∧ Below w4.heap.size w4 wr) (fun v _ => (intOf v + 1).toNat)
  case atStart => exact ⟨k + 1, Nat.le_refl _, by go_num, fun m h1 h2 => by omega, Below.refl _ _⟩
  case round =>
  obtain ⟨j, hj, rfl, hun, hbr⟩ := hrel
  have HUN := Lib.hid hun
  clear hun
  rcases Nat.eq_zero_or_pos j with h0 | h0
  · subst h0
    have hn := Sp.seeAt_none (Sp.stRow key l) (Sp.sees own next xs) k (fun m h1 h2 => HUN.out m h1 h2)
    rw [show ((0 : Nat) : Int) - 1 = -1 from rfl]
    rw [hn]
    go_wp2_with fail
    go_quiet (fail)
    go_wp2_with fail
    refine (HW.out _).mono ?_
    rintro e w8 ⟨rfl, hb8⟩
    go_wp2_with fail
    go_ret
    have hz4 := HBW.out.size
    exact ⟨rfl, HBW.out.trans (((below_drewN hbr nq).trans (hb8.mono hbr.size)).mono hz4)⟩
  obtain ⟨i, rfl⟩ : ∃ i, j = i + 1 := ⟨j - 1, by omega⟩
  have hik : i ≤ k := by omega
  rw [show ((i + 1 : Nat) : Int) - 1 = (i : Int) by omega]
  have hir := HI.out.kept ((Kept.of_below hbr HP.out.lt).mono (fun b hb => hb))
  have hil : i < l.length := by omega
  have HRS := Lib.hid (ref24_sees own next VA vcap xs (Sp.stRow key l i).tx (by omega) _ wr.drew hir.ls)
  have hS := Lib.hid (show (wr.drew.cell? ⟨gV, 0, none⟩ = some (.int .u64 own) ∧ wr.drew.cell? ⟨gV, 1, none⟩ = some (.int .u64 next) ∧ wr.drew.cell? ⟨gV, 2, none⟩ = some (.slice VA xs.length vcap) ∧ wr.drew.cell? ⟨gv, i * 7 + 2, none⟩ = some (.int .u64 (Sp.stRow key l i).tx)) from ⟨hir.v.cell 0, hir.v.cell 1, hir.v.cell 2, hir.i.rows i hil 2 (by omega)⟩)
  go_wp2_with fail
  refine R_begin (fun W => (W.cell? ⟨gV, 0, none⟩ = some (.int .u64 own) ∧ W.cell? ⟨gV, 1, none⟩ = some (.int .u64 next) ∧ W.cell? ⟨gV, 2, none⟩ = some (.slice VA xs.length vcap) ∧ W.cell? ⟨gv, i * 7 + 2, none⟩ = some (.int .u64 (Sp.stRow key l i).tx))) (fun _ => false) rfl ?_
  refine R_tk 0 79 hS.out ?_
  refine R_tk (v := .bool true) 1 80 hS.out ?_ (hy := ?_)
  rotate_left
  · intro w hSw; (try dsimp only at hSw); (try simp only [List.setIfInBounds_toArray, List.set_cons_zero, List.set_cons_succ]); go_simp
  simp only [List.setIfInBounds_toArray, List.set_cons_zero, List.set_cons_succ]
  refine R_tk 2 81 hS.out ?_
  refine R_tk 3 82 hS.out ?_
  refine R_tk 4 83 hS.out ?_
  refine R_tk 5 84 hS.out ?_
  refine R_tk 6 85 hS.out ?_
  refine R_tk 7 86 hS.out ?_
  refine R_tk 8 87 hS.out ?_
  simp only [List.setIfInBounds_toArray, List.set_cons_zero, List.set_cons_succ]
  refine R_call 9 88 (w' := wr.drew) rfl rfl (by rfl) (by kernel_rfl) ?_ HRS.out ?_
  · go_simp
  rintro e v1 ⟨rfl, hbv1⟩
  have hb1 : Below w4.heap.size w4 v1 := hbr.trans ((show Below wr.heap.size wr v1 from ⟨hbv1.os, hbv1.tape, hbv1.output, hbv1.size, hbv1.block⟩).mono hbr.size)
  have hi1 := HI.out.kept ((Kept.of_below hb1 HP.out.lt).mono (fun b hb => hb))
  have hS1 : Hid ((v1.cell? ⟨gV, 0, none⟩ = some (.int .u64 own) ∧ v1.cell? ⟨gV, 1, none⟩ = some (.int .u64 next) ∧ v1.cell? ⟨gV, 2, none⟩ = some (.slice VA xs.length vcap) ∧ v1.cell? ⟨gv, i * 7 + 2, none⟩ = some (.int .u64 (Sp.stRow key l i).tx))) := Lib.hid ⟨hi1.v.cell 0, hi1.v.cell 1, hi1.v.cell 2, hi1.i.rows i hil 2 (by omega)⟩
  refine ⟨_, rfl, fun _ => hS1.out, ?_⟩
  simp only [List.setIfInBounds_toArray, List.set_cons_zero, List.set_cons_succ]
  cases hs : Sp.sees own next xs (Sp.stRow key l i).tx with
  | false =>
    have HS := Lib.hid hs
    clear hs hbv1 hi1 hir
    refine R_tk 10 89 hS1.out ?_
    refine R_tk 11 90 hS1.out ?_
    simp only [List.setIfInBounds_toArray, List.set_cons_zero, List.set_cons_succ]
    refine R_done (by kernel_rfl) ?_ _
    rename_i K9 hK9
    refine hK9 _ _ ?_
    clear hK9 hS HRS hS1
    go_wp2_with fail
    go_roundw
    case rel => exact ⟨i, by omega, by go_num, fun m h1 h2 => by
      by_cases e : m = i
      · rw [e]; exact HS.out
      · exact HUN.out m (by omega) h2, hb1⟩
    case measure => simp [intOf]
  | true =>
  have HS := Lib.hid hs
  clear hs hbv1 hi1 hir
  refine R_tk 10 89 hS1.out ?_
  refine R_tk 11 90 hS1.out ?_
  simp only [List.setIfInBounds_toArray, List.set_cons_zero, List.set_cons_succ]
  refine R_done (by kernel_rfl) ?_ _
  rename_i K9 hK9
  refine hK9 _ _ ?_
  clear hK9 hS HRS hS1
  obtain ⟨n, hn⟩ : ∃ n, n = wh % 6 := ⟨_, rfl⟩
  have hn6 : n < 6 := by rw [hn]; exact Nat.mod_lt _ (by omega)
  have hnI : (wh : Int) % 6 = (n : Int) := by rw [hn]; omega
  have wrh : IntKind.i64.wrap (wh : Int) = wh := by rw [IntKind.wrap_i64]; omega
  have wri : IntKind.i64.wrap ((i : Int) + 1) = ((i + 1 : Nat) : Int) := by rw [IntKind.wrap_i64]; omega
  have HUN' : Hid (∀ m, i + 1 ≤ m → m ≤ k → Sp.sees own next xs (Sp.stRow key l m).tx = false) := HUN
  replace HI := Lib.hid (HI.out.kept ((Kept.of_below hb1 HP.out.lt).mono (fun b hb => hb)))
  replace G15 := Lib.hid (G15.out.below hb1 G15.out.lt)
  have hz4 := HBW.out.size
  replace HBW := Lib.hid (HBW.out.trans (hb1.mono hz4))
  have hz34 := HST3.out.size
  replace HST3 := Lib.hid (HST3.out.trans (hb1.mono hz34))
  have HGL := Lib.hid (show g15 < v1.heap.size from G15.out.lt)
  clear HUN hb1 hz4 hz34 hbr HP HK0 hn hj h0
  go_upto_region 15 with fail
  rw [hnI]
  clear hnI wrh
  go_wp2_with fail
  (try rw [wri])
  clear wri
  go_loopw [20] (fun v wr => ∃ j : Nat, i + 1 ≤ j ∧ j ≤ k + 1 ∧ v = .int .i64 (j : Nat) ∧ (∀ m, i + 1 ≤ m → m < j → m / 2 ≠ n) ∧ v1 = wr) (fun v _ => k + 1 - (intOf v).toNat)
  case atStart => exact ⟨i + 1, Nat.le_refl _, by omega, by first | rfl | go_num, fun m h1 h2 => by omega, rfl⟩
  case round =>
  obtain ⟨j, hij, hj, rfl, hne, hw⟩ := hrel
  subst hw
  have HNE := Lib.hid hne
  clear hne
  by_cases hlt : j ≤ k
  · have dl : decide ((j : Int) ≤ (k : Int)) = true := by rw [decide_eq_true_eq]; omega
    have wr1 : IntKind.i64.wrap ((j : Int) + 1) = ((j + 1 : Nat) : Int) := by rw [IntKind.wrap_i64]; omega
    by_cases he : j / 2 = n
    · have de : decide ((j : Int) / 2 = (n : Int)) = true := by rw [decide_eq_true_eq]; omega
      have de2 : (j : Int) / 2 = (n : Int) := by omega
      go_wp2_with fail
      refine (HW.out _).mono ?_
      rintro e w8 ⟨rfl, hb8⟩
      go_wp2_with fail
      go_ret
      have hz4 := HBW.out.size
      exact ⟨rfl, HBW.out.trans (hb8.mono hz4)⟩
    · have de : decide ((j : Int) / 2 = (n : Int)) = false := by rw [decide_eq_false_iff_not]; omega
      have de2 : ¬ (j : Int) / 2 = (n : Int) := by omega
      go_wp2_with fail
      go_roundw
      case rel => exact ⟨j + 1, by omega, by omega, by go_num, fun m h1 h2 => by
        by_cases e : m = j
        · rw [e]; exact he
        · exact HNE.out m h1 (by omega), by first | rfl | trivial⟩
      case measure => simp [intOf]; omega
  obtain rfl : j = k + 1 := by omega
  clear hij hj hlt
  have dl : decide (((k + 1 : Nat) : Int) ≤ (k : Int)) = false := by rw [decide_eq_false_iff_not]; omega
  have hne : ∀ m, i + 1 ≤ m → m ≤ k → m / 2 ≠ n := fun m a b => HNE.out m a (by omega)
  have hsto1 := HSTO.out.keep' HST3.out.size (fun b hb => HST3.out.block b hb)
  obtain ⟨cur, hbp1, hfit, hbpl, hpgs1, hrw1⟩ := sto_free hsto1 hn6
  have hrw2 := hrw1 gv cv h1 rfl
  have hbpw : w.heap.size ≤ bp := by have := HB1.out; omega
  have hb5 := below_setRow HBW.out hbpw (partRow cur (n * 6) (frCs n))
  have hbp5 := (hbp1.setRow (partRow cur (n * 6) (frCs n))).lt
  have hg5 := G15.out.keep (heap_setRow_other v1 bp g15 (partRow cur (n * 6) (frCs n)) (G15.out.ne_ hbp1 (by decide)))
  have hv5 := HI.out.v.keep (heap_setRow_other v1 bp gV (partRow cur (n * 6) (frCs n)) (HI.out.v.ne_ hbp1 (by decide)))
  have hvl5 := Reads.below HVW.out hb5
  have hgv5 : gv < (v1.setRow bp (partRow cur (n * 6) (frCs n))).heap.size := by
    have := hrw2 0 (by omega) 0 (by omega)
    exact World.block_lt_of_cell? _ _ (this.trans rfl)
  have hok2 := frPg_ok HOK.out hn6
  have hsz5 := hb5.size
  rw [← HPE.out] at hpgs1
  have hnI : ((n : Int)).toNat = n := Int.toNat_natCast n
  have wrn : IntKind.i64.wrap ((n : Int) + 1) = ((n + 1 : Nat) : Int) := by rw [IntKind.wrap_i64]; omega
  have wrm : IntKind.u32.wrap (((n + 1 : Nat) : Nat) : Int) = ((n + 1 : Nat) : Int) := by rw [IntKind.wrap_u32]; omega
  clear hsto1 hrw1 HSTO HST3 HNE dl
  go_upto_region 21 with (refine wpList_store_part rfl _ _ _ rfl bp (n * 6) (frCs n).toArray rfl rfl _ _ hbp1 page_size6 (by show n * 6 + 6 ≤ cur.size; omega) (by simp [Value.oneCell']) ?_)
  simp only [Act.put]
  generalize hw5 : World.setRow v1 bp _ = w5 at hb5 hbp5 hg5 hv5 hvl5 hgv5 hrw2 hpgs1 hsz5 ⊢
  have HLD2 := Lib.hid (law_laid (Sp.frPg pg n) hok2 bp 0 cp w5 hbp5 hpgs1)
  clear hw5 hbp1 hfit hbpl hbp5 hpgs1 hok2 wrn wrm hnI G15 HI HBW HVW HOK
  go_wp2_with fail
  refine HLD2.out.mono ?_
  rintro e w6 ⟨gP2, gr2, gd2, gl2, gp2, rfl, hPl2, hb6, hL2⟩
  have hgVl := hv5.lt
  have HI2 := Lib.hid (show LawV (fun b => b < w5.heap.size ∨ b = gP2) w6 gP2 gd2 gl2 gp2 gr2 gv l.length (Sp.stRow key l) gV own next VA xs vcap from
    ⟨⟨hPl2, fun i hi j hj => (World.cell?_of_block (a := ⟨gv, i * 7 + j, none⟩) (hb6.block gv hgv5)).trans (hrw2 i hi j hj), .inr rfl, .inl hgv5⟩, hv5.below hb6 hgVl, (Reads.keep hvl5 hb6.size (fun b hb => hb6.block b (Nat.lt_of_lt_of_le hb hsz5))).mono (fun b hb => .inl (Nat.lt_of_lt_of_le hb hsz5)), .inl hgVl⟩)
  have HP2 := Lib.hid (show LzAt (Sp.frPg pg n) (fun b => b < w5.heap.size ∨ b = gP2) w6 gd2 gl2 gp2 from ⟨[], hL2, by simp⟩)
  have HBW6 := Lib.hid (hb5.trans (hb6.mono hsz5))
  have HK6 := Lib.hid (show ∀ b, b < w.heap.size → (fun b => b < w5.heap.size ∨ b = gP2) b from fun b hb => .inl (Nat.lt_of_lt_of_le hb hsz5))
  have HNE := Lib.hid hne
  have HSE2 := Lib.hid fun (K : Foot) (W : World) (hp : LzAt (Sp.frPg pg n) K W gd2 gl2 gp2) (hv : U64s K W VA xs) => past_see hp (Sp.stRow key l) k (by omega) own next VA vcap xs (by omega) hv (fun m hm hns => by
    have hmi : i + 1 ≤ m := by
      rcases Nat.lt_or_ge i m with h | h
      · exact h
      · exact absurd (hns i h hik) (by rw [HS.out]; simp)
    have := HNE.out m hmi hm
    exact sto_back (key := key) (l := l) HKEY.out h10 (pg := Sp.frPg pg n) (by omega) (by rw [frPg_ne (by omega), HPE.out]) gd2 gl2 gp2)
  have G15 := Lib.hid (show Blk w6 g15 _ _ ∧ g15 < w5.heap.size from ⟨hg5.below hb6 hg5.lt, hg5.lt⟩)
  clear HLD2 hPl2 hb6 hL2 hgVl hb5 hg5 hv5 hvl5 hgv5 hrw2 hsz5 hne HKEY HPE HBK
  go_upto_region 24 with fail
  go_cut [22, 23, 24] (fun va vb ve wx => CallAt (Sp.frPg pg n) (fun b => b < w5.heap.size ∨ b = gP2) w6 gd2 gl2 gp2 (Sp.orZ (Sp.seeAt (Sp.stRow key l) (Sp.sees own next xs) k)) va wx ∧ vb = .bool (Sp.seeAt (Sp.stRow key l) (Sp.sees own next xs) k).isSome ∧ ve = .int .i64 0)
  case first =>
    go_wp2_with fail
    have hS0 := Lib.hid (LawV.s HI2.out hkl)
    refine R_begin (fun (W : World) => W.cell? ⟨gP2, 2, none⟩ = some (ptr gp2) ∧ W.cell? ⟨gv, k * 7, none⟩ = some (str (Sp.stRow key l k).key) ∧ W.cell? ⟨gv, k * 7 + 1, none⟩ = some (.bool (Sp.stRow key l k).mark) ∧ W.cell? ⟨gv, k * 7 + 2, none⟩ = some (.int .u64 (Sp.stRow key l k).tx) ∧ W.cell? ⟨gv, k * 7 + 3, none⟩ = some (.int .u32 (Sp.stRow key l k).page) ∧ W.cell? ⟨gv, k * 7 + 4, none⟩ = some (.int .u16 (Sp.stRow key l k).slot) ∧ W.cell? ⟨gv, k * 7 + 5, none⟩ = some (str (Sp.stRow key l k).value) ∧ W.cell? ⟨gv, k * 7 + 6, none⟩ = some (.int .i64 (Sp.stRow key l k).pad) ∧ W.cell? ⟨gV, 0, none⟩ = some (.int .u64 own) ∧ W.cell? ⟨gV, 1, none⟩ = some (.int .u64 next) ∧ W.cell? ⟨gV, 2, none⟩ = some (.slice VA xs.length vcap)) (fun _ => false) rfl ?_
    refine R_tk 0 135 hS0.out ?_
    refine R_tk 1 136 hS0.out ?_
    refine R_tk 2 137 hS0.out ?_
    refine R_tk 3 138 hS0.out ?_
    refine R_tk 4 139 hS0.out ?_
    refine R_tk 5 140 hS0.out ?_
    refine R_tk 6 141 hS0.out ?_
    refine R_tk 7 142 hS0.out ?_
    refine R_tk 8 143 hS0.out ?_
    simp only [List.setIfInBounds_toArray, List.set_cons_zero, List.set_cons_succ]
    refine R_all (rs := [9, 14]) (by kernel_rfl) (by simp) (fun i hi => ?_)
    simp only [List.mem_cons, List.not_mem_nil, or_false] at hi
    rcases hi with rfl | rfl
    · skip
      have hc := HSE2.out (fun b => b < w5.heap.size ∨ b = gP2) _ HP2.out.drew (HI2.out.ls)
      refine op_call 144 (w' := w6.drew) rfl rfl (by rfl) ?_ hc ?_
      · go_simp
      rintro e v1 ⟨rfl, hk1, hp1⟩
      have hi1 := HI2.out.kept (Kept.undrew hk1)
      have hS1 := Lib.hid (LawV.s hi1 hkl)
      refine ⟨_, rfl, fun _ => hS1.out, ?_⟩
      simp only [List.setIfInBounds_toArray, List.set_cons_zero, List.set_cons_succ]
      clear hc
      refine R_tk 10 134 hS1.out ?_
      refine R_tk 11 145 hS1.out ?_
      refine R_tk 12 146 hS1.out ?_
      refine R_tk 13 147 hS1.out ?_
      simp only [List.setIfInBounds_toArray, List.set_cons_zero, List.set_cons_succ]
      have hi2 := hi1.kept (Kept.of_below ((Below.refl v1.heap.size v1).alloc (Nat.le_refl _) (.cells rwZ 37)) hp1.lt)
      have hS2 := Lib.hid (LawV.s hi2 hkl)
      refine R_run 14 22 (v := ptr v1.heap.size) (w' := v1.alloc (.cells rwZ 37)) rfl rfl (by rfl) (by kernel_rfl) ?_ (fun _ => hS2.out) ?_
      · first | (go_simp; done) | (go_simp; rfl)
      simp only [List.setIfInBounds_toArray, List.set_cons_zero, List.set_cons_succ]
      have hn := Blk.new v1 37 rwZ
      have hca := callAt_1 (Kept.undrew hk1) hp1 (Sp.orZ (Sp.seeAt (Sp.stRow key l) (Sp.sees own next xs) k))
      have hS3 := Lib.hid (show (fun (W : World) => W.cell? ⟨gP2, 2, none⟩ = some (ptr gp2) ∧ W.cell? ⟨gv, k * 7, none⟩ = some (str (Sp.stRow key l k).key) ∧ W.cell? ⟨gv, k * 7 + 1, none⟩ = some (.bool (Sp.stRow key l k).mark) ∧ W.cell? ⟨gv, k * 7 + 2, none⟩ = some (.int .u64 (Sp.stRow key l k).tx) ∧ W.cell? ⟨gv, k * 7 + 3, none⟩ = some (.int .u32 (Sp.stRow key l k).page) ∧ W.cell? ⟨gv, k * 7 + 4, none⟩ = some (.int .u16 (Sp.stRow key l k).slot) ∧ W.cell? ⟨gv, k * 7 + 5, none⟩ = some (str (Sp.stRow key l k).value) ∧ W.cell? ⟨gv, k * 7 + 6, none⟩ = some (.int .i64 (Sp.stRow key l k).pad) ∧ W.cell? ⟨gV, 0, none⟩ = some (.int .u64 own) ∧ W.cell? ⟨gV, 1, none⟩ = some (.int .u64 next) ∧ W.cell? ⟨gV, 2, none⟩ = some (.slice VA xs.length vcap)) _ from LawV.s (HI2.out.kept hca.choose_spec.2.2.2.1) hkl)
      (try simp only [List.setIfInBounds_toArray, List.set_cons_zero, List.set_cons_succ])
      refine R_store 15 (n := .skip) (w' := (v1.alloc (.cells rwZ 37)).setRow v1.heap.size (Sp.orZ (Sp.seeAt (Sp.stRow key l) (Sp.sees own next xs) k))) rfl rfl (by rfl) (by kernel_rfl) (run_op_store _ _ _ _ _ rfl rfl rfl (row_store7 hn (orZ_size _) (orZ_one _))) (.inl rfl) (fun _ => hS3.out) ?_
      refine R_tk 16 23 hS3.out ?_
      refine R_tk 17 24 hS3.out ?_
      simp only [List.setIfInBounds_toArray, List.set_cons_zero, List.set_cons_succ]
      refine R_done (by kernel_rfl) ?_ _
      rename_i K9 hK9
      refine hK9 _ _ ?_
      clear hK9
      go_meet
      case rel => exact ⟨hca, rfl, rfl⟩
    · skip
      obtain ⟨hp1, hk1, hn1⟩ := callAt_0 HP2.out
      have hi1 := HI2.out.kept hk1
      have hS1 := Lib.hid (LawV.s hi1 hkl)
      refine op_run 22 (v := ptr w6.heap.size) (w' := w6.drew.alloc (.cells rwZ 37)) rfl rfl (by rfl) ?_ ⟨fun _ => hS1.out, ?_⟩
      · first | (go_simp; done) | (go_simp; rfl)
      simp only [List.setIfInBounds_toArray, List.set_cons_zero, List.set_cons_succ]
      have hc := HSE2.out (fun b => (fun b => b < w5.heap.size ∨ b = gP2) b ∨ b = w6.heap.size) _ hp1 (((HI2.out.ls).keep hk1.size (fun b hb => hk1.block b hb)).mono (fun b hb => .inl hb))
      refine R_call 9 144 (w' := w6.drew.alloc (.cells rwZ 37)) rfl rfl (by rfl) (by kernel_rfl) ?_ hc ?_
      · go_simp
      rintro e v2 ⟨rfl, hk2, hp2⟩
      have hi2 := hi1.kept (hk2.mono (fun b hb => .inl hb))
      have hS2 := Lib.hid (LawV.s hi2 hkl)
      refine ⟨_, rfl, fun _ => hS2.out, ?_⟩
      simp only [List.setIfInBounds_toArray, List.set_cons_zero, List.set_cons_succ]
      clear hc
      refine R_tk 10 134 hS2.out ?_
      refine R_tk 11 145 hS2.out ?_
      refine R_tk 12 146 hS2.out ?_
      refine R_tk 13 147 hS2.out ?_
      have hca := callAt_2 HP2.out hk2 hp2 (Sp.orZ (Sp.seeAt (Sp.stRow key l) (Sp.sees own next xs) k))
      have hS3 := Lib.hid (show (fun (W : World) => W.cell? ⟨gP2, 2, none⟩ = some (ptr gp2) ∧ W.cell? ⟨gv, k * 7, none⟩ = some (str (Sp.stRow key l k).key) ∧ W.cell? ⟨gv, k * 7 + 1, none⟩ = some (.bool (Sp.stRow key l k).mark) ∧ W.cell? ⟨gv, k * 7 + 2, none⟩ = some (.int .u64 (Sp.stRow key l k).tx) ∧ W.cell? ⟨gv, k * 7 + 3, none⟩ = some (.int .u32 (Sp.stRow key l k).page) ∧ W.cell? ⟨gv, k * 7 + 4, none⟩ = some (.int .u16 (Sp.stRow key l k).slot) ∧ W.cell? ⟨gv, k * 7 + 5, none⟩ = some (str (Sp.stRow key l k).value) ∧ W.cell? ⟨gv, k * 7 + 6, none⟩ = some (.int .i64 (Sp.stRow key l k).pad) ∧ W.cell? ⟨gV, 0, none⟩ = some (.int .u64 own) ∧ W.cell? ⟨gV, 1, none⟩ = some (.int .u64 next) ∧ W.cell? ⟨gV, 2, none⟩ = some (.slice VA xs.length vcap)) _ from LawV.s (HI2.out.kept hca.choose_spec.2.2.2.1) hkl)
      (try simp only [List.setIfInBounds_toArray, List.set_cons_zero, List.set_cons_succ])
      refine R_store 15 (n := .skip) (w' := v2.setRow w6.heap.size (Sp.orZ (Sp.seeAt (Sp.stRow key l) (Sp.sees own next xs) k))) rfl rfl (by rfl) (by kernel_rfl) (run_op_store _ _ _ _ _ rfl rfl rfl (row_store7 (hn1.kept hk2 (.inr rfl)) (orZ_size _) (orZ_one _))) (.inl rfl) (fun _ => hS3.out) ?_
      refine R_tk 16 23 hS3.out ?_
      refine R_tk 17 24 hS3.out ?_
      simp only [List.setIfInBounds_toArray, List.set_cons_zero, List.set_cons_succ]
      refine R_done (by kernel_rfl) ?_ _
      rename_i K9 hK9
      refine hK9 _ _ ?_
      clear hK9
      go_meet
      case rel => exact ⟨hca, rfl, rfl⟩
  case rest =>
  obtain ⟨⟨g22, rfl, h22, hp24, hk24, hge24⟩, rfl, rfl⟩ := hcut
  obtain ⟨w7, rfl⟩ : ∃ x : World, x = wc := ⟨_, rfl⟩
  have h15 := G15.out.1.kept hk24 (.inl G15.out.2)
  have HBW7 := Lib.hid (HBW6.out.trans (hk24.below (fun b hb => HK6.out b hb)))
  obtain ⟨o, ho⟩ : ∃ o, o = (Sp.seeAt (Sp.stRow key l) (Sp.sees own next xs) k) := ⟨_, rfl⟩
  rw [← ho] at h15 h22 ⊢
  clear ho hp24 hk24 hge24 HSE2 HI2 HP2 HBW6 HK6 HNE G15 HS HUN'
  cases o with
  | none =>
    replace h15 : Blk w7 g15 37 rwZ := h15
    replace h22 : Blk w7 g22 37 rwZ := h22
    have a0 := h15.cell 0
    have a1 := h15.cell 1
    have a2 := h15.cell 2
    have a3 := h15.cell 3
    have a4 := h15.cell 4
    have a5 := h15.cell 5
    have a6 := h15.cell 6
    have b0 := h22.cell 0
    have b1 := h22.cell 1
    have b2 := h22.cell 2
    have b3 := h22.cell 3
    have b4 := h22.cell 4
    have b5 := h22.cell 5
    have b6 := h22.cell 6
    simp only [List.getElem?_toArray, List.getElem?_cons_succ, List.getElem?_cons_zero] at a0 a1 a2 a3 a4 a5 a6 b0 b1 b2 b3 b4 b5 b6
    rw [show (none : Option Sp.Rw).isSome = false from rfl]
    go_wp2_with fail
    refine (HW.out _).mono ?_
    rintro e w8 ⟨rfl, hb8⟩
    go_wp2_with fail
    go_ret
    have hz4 := HBW7.out.size
    exact ⟨rfl, HBW7.out.trans (hb8.mono hz4)⟩
  | some r =>
    obtain ⟨a0, a1, a2, a3, a4, a5, a6⟩ := vrow_cells (r := r) h15
    obtain ⟨b0, b1, b2, b3, b4, b5, b6⟩ := vrow_cells (r := r) h22
    rw [show (some r).isSome = true from rfl]
    go_wp2_with fail
    refine (HW.out _).mono ?_
    rintro e w8 ⟨rfl, hb8⟩
    go_wp2_with fail
    go_ret
    have hz4 := HBW7.out.size
    exact ⟨rfl, HBW7.out.trans (hb8.mono hz4)⟩
end Go.Proofs.YtphkggcdfkcidaaGreat

/- PastBlind answers true for every key, every list of changes, every version, every view and every page: the row of the law, proved for every input, with no condition. -/
namespace Go.Proofs.YtphkggcdfkcidaaGreat
open Go.ChangeShapes Go.WideShapes Go.ChangeAt Go.RowKit Go.Deep

theorem Tryz.ownB : ownKnob Tryz.prog.godebug = none := by kernel_rfl
theorem Tryz.laidOutBl : laidOutB Tryz.prog = true := by kernel_rfl

set_option maxRecDepth 100000 in
set_option maxHeartbeats 2000000 in
theorem blind_lifted (os : Os) (started : os.Started) (H : Type) (enc : TypeId × Value → H) :
    ReturnsInHanded {} Tryz.checked os 5 .any (Rows.pastBlindSpec.pre6 enc Tryz.prog Tryz.f5 Rows.pastBlindRow.domain false) (Rows.pastBlindSpec.post enc Tryz.prog Tryz.f5 false true false false) := by
  refine returnsInHanded_of_change_sized (C := Tryz.checked) Tryz.ownB started (by kernel_rfl) Tryz.func5
    (ChangeSpec.witness6 (enc := enc) (C := Tryz.checked) false ⟨#[], #[.string ⟨#[]⟩, .slice none 0 0, .int .u8 0, .agg #[.int .u64 0, .int .u64 0, .slice none 0 0], .int .u8 0], []⟩ 8 (by kernel_rfl) (by kernel_rfl) (by kernel_rfl) (by kernel_rfl)) ?_
  intro W base args ds gs before hval0 hW _ hsz0 _
  have hval : ∀ (j : Nat) t v, Tryz.f5.params[j]? = some t → args[j]? = some v → Value.okWide Tryz.prog W .any base t v := hval0
  have hsz : (DataW.weightsEach Tryz.prog (Tryz.f5.params.toList ++ Rows.pastBlindSpec.plain.varTypes Tryz.prog) (ds ++ gs)).all (· ≤ reachBytes) = true := hsz0
  have hW' := hW
  obtain ⟨p, q, hA0, hV, rfl, hfz, hnd⟩ := hW
  have hA : DataW.TrodAll enc Tryz.prog W 0 (fun _ => true) true Tryz.f5.params.toList args.toList ds p := hA0
  rw [Tryz.params5] at hA hval hsz
  obtain ⟨v0, v1, v2, v3, v4, d0, d1, d2, d3, d4, p0, p1, p2, p3, p4, rfl, rfl, rfl, h0, h1, h2, h3, h4⟩ := trodAll_five hA
  obtain ⟨rfl, rfl⟩ := trodVars_none hV
  obtain ⟨key, rfl, rfl, rfl, hks⟩ := Go.ChangeMaps.open_string Tryz.underlying9 (hval 0 9 v0 rfl rfl) h0
  obtain ⟨A, n1, c1, rfl⟩ := okWide_slice Tryz.underlying22 (hval 1 22 v1 rfl rfl)
  obtain ⟨b0, rfl, rfl, rfl, wb⟩ := open_int Tryz.underlying5 (hval 2 5 v2 rfl rfl) h2
  obtain ⟨c0, rfl, rfl, rfl, wc⟩ := open_int Tryz.underlying5 (hval 4 5 v4 rfl rfl) h4
  obtain ⟨cs3, rfl, _⟩ := okWide_struct Tryz.underlying59 (hval 3 59 v3 rfl rfl)
  obtain ⟨n1', h1'⟩ := h1
  obtain ⟨n3', h3'⟩ := h3
  have hkz := small_string (small_arg hsz (j := 0) rfl rfl)
  obtain ⟨A, c, l, hcs, hR, hll, hl⟩ := steps_opened h1' (small_arg hsz (j := 1) rfl rfl)
  obtain ⟨rfl, rfl, rfl⟩ : _ ∧ _ ∧ _ := by simpa using hcs
  obtain ⟨own, next, VA, vc, xs, hcs3, _, _, hU, hxl, _⟩ := view_opened h3' (small_arg hsz (j := 3) rfl rfl)
  obtain ⟨l3⟩ := cs3
  obtain rfl : l3 = _ := hcs3
  obtain ⟨fr, rfl, hfr⟩ := u8_nat wb
  obtain ⟨wh, rfl, hwh⟩ := u8_nat wc
  clear hA0 hval0
  have fin : Calls Tryz.prog 5 #[str key.data.toList, .slice A l.length c1, .int .u8 fr, viewV own next VA xs.length vc, .int .u8 wh] W fun e w' => e = .returned (.bool true) ∧ Below W.heap.size W w' := by
    by_cases hin : hzB l = false ∧ 1 ≤ l.length ∧ 1 ≤ key.data.toList.length ∧ key.data.toList.length ≤ 48 ∧ xs.length ≤ 60
    · obtain ⟨hz, g1, g2, g3, g4⟩ := hin
      exact law_blind_in key.data.toList ⟨g2, g3⟩ l g1 hz (fun x hx => (hl x hx).1) fr wh own next c1 vc hfr hwh A VA xs g4 W hR hU
    · exact law_blind_out key.data.toList l fr wh own next c1 vc A VA xs (by omega) (fun x hx => by have := (hl x hx).2; omega) (by omega) (by omega) _ W hR hin
  rw [show str key.data.toList = .string key by simp [str]] at fin
  refine fin.mono fun e W' ⟨he, hb⟩ => ?_
  subst he
  exact ⟨_, rfl, law_post (TB := 4) Tryz.laidOutBl (by rw [Tryz.params5]; intro t ht; simp at ht; rcases ht with rfl | rfl | rfl | rfl | rfl <;> exact ⟨by kernel_rfl, of_decide_eq_true (by kernel_rfl)⟩) Tryz.underlying4 rfl rfl hW' rfl hb⟩

theorem blind_holds : Rows.PastBlindSaid :=
  OpenClaim.holds_of_wide 5 Tryz.f5 rfl rfl rfl rfl rfl rfl rfl ⟨rfl, rfl, rfl, rfl, rfl⟩ rfl rfl rfl rfl rfl (by kernel_rfl) Tryz.func5 (by kernel_rfl)
    (of_decide_eq_true (by kernel_rfl)) (by unfold Func.isWrapper; rw [if_neg (of_decide_eq_false (by kernel_rfl))]; exact ⟨rfl, rfl⟩)
    (fun os started H enc _ => blind_lifted os started H enc)
end Go.Proofs.YtphkggcdfkcidaaGreat
